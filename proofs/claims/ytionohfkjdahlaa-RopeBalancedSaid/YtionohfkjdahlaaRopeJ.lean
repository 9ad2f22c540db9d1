/- Mod and RopeBalanced, in the abstract machine. -/
import Derived.Test.YtionohfkjdahlaaRopeQ
set_option linter.all false
set_option maxRecDepth 100000
namespace RopeF
open Go Go.Abs Go.Proofs

theorem d5_7' (x : Ans) : drawOK C 5 (regOps Try.f5 7) [.reader, .silent, .silent, .silent, .silent, .writer] x = x := drawOK_ok (by kernel_rfl)
theorem d5_9' (x : Ans) : drawOK C 5 (regOps Try.f5 9) [.reader, .silent, .silent, .silent, .silent, .reader, .silent, .silent, .silent, .silent, .silent, .silent, .silent, .silent, .alloc, .alloc, .writer, .writer, .silent] x = x := drawOK_ok (by kernel_rfl)

theorem Mod_run (a : Int) (b : Nat) (hb : 0 < b) (hb2 : b < 2000000000) : ∃ m : Nat, m < b ∧ AC C 16 [I a, I b] (I m) := by
  have h1 := Int.tmod_lt_of_pos a (show (0 : Int) < b by omega)
  have h2 : -(b : Int) < a.tmod b := by
    have h := Int.natAbs_tmod a b
    have h' := Nat.mod_lt a.natAbs (show 0 < (b : Int).natAbs by omega)
    omega
  have e1 : aBin Try.prog .rem 3 (I a) (I b) = some (I (a.tmod b)) := by
    have hb0 : ¬ ((b : Int) = 0) := by omega
    rw [bin_int]
    simp only [intBin, if_neg hb0]
  by_cases c : a.tmod b < 0
  · refine ⟨(a.tmod b + b).toNat, by omega, .intro en16 (by simp [noRefL_cons, noRefL_nil, noRef_int]) (by rfl) ⟨0, fun n hn => ⟨[], ?_⟩⟩⟩
    have w : IntKind.i64.wrap (a.tmod b + b) = a.tmod b + b := by rw [wrap64] <;> omega
    have e2 : (((a.tmod b + b).toNat : Nat) : Int) = a.tmod b + b := by omega
    rw [F16_eq, F16]
    simp -implicitDefEqProofs only [oh_some, mp_some, sto_some, br_true, br_false, gd_true, gd_false, wA_tt, wA_tup, wA_ft, wA_tf, wA_ff, enc_strip, lp_strip, rp_strip, encR_strip, enc_check, enc_addr, aNilCheck_box, aNilCheck_ref, aAddr_box, aAddr_ref, aLoad_one, List.getElem?_cons_succ, List.getElem?_cons_zero, Option.map_some, bin_add, bin_sub, bin_lss, bin_leq, bin_gtr, bin_geq, bin_eql, bin_neq, str_eql, aMax_int, aMin_int, aUn_not, aPick_true, aPick_false, strip_int, strip_bool, strip_str, strip_nilp, strip_nils, strip_box, strip_ref, strip_agg, strip_tup, strip_undef, aBox_f, solid_agg, cells_agg, kLoad_box, kGd_true, kGd_false, kCall_ok, gt_iff_lt, ge_iff_le, Int.ofNat_lt, Int.ofNat_le, decide_true, decide_false, Nat.zero_add, Bool.not_true, Bool.not_false, aExtract_tup, fin1_some, resL_nil, resL_some, enc_noRef, encR_noRef, noRefL_cons, noRefL_nil, noRef_int, noRef_str, noRef_bool, Bool.and_self, ite_true, e1, c, w, e2, F16_J0]
    simp [upds_at, upd_at]
  · refine ⟨(a.tmod b).toNat, by omega, .intro en16 (by simp [noRefL_cons, noRefL_nil, noRef_int]) (by rfl) ⟨0, fun n hn => ⟨[], ?_⟩⟩⟩
    have e2 : (((a.tmod b).toNat : Nat) : Int) = a.tmod b := by omega
    rw [F16_eq, F16]
    simp -implicitDefEqProofs only [oh_some, mp_some, sto_some, br_true, br_false, gd_true, gd_false, wA_tt, wA_tup, wA_ft, wA_tf, wA_ff, enc_strip, lp_strip, rp_strip, encR_strip, enc_check, enc_addr, aNilCheck_box, aNilCheck_ref, aAddr_box, aAddr_ref, aLoad_one, List.getElem?_cons_succ, List.getElem?_cons_zero, Option.map_some, bin_add, bin_sub, bin_lss, bin_leq, bin_gtr, bin_geq, bin_eql, bin_neq, str_eql, aMax_int, aMin_int, aUn_not, aPick_true, aPick_false, strip_int, strip_bool, strip_str, strip_nilp, strip_nils, strip_box, strip_ref, strip_agg, strip_tup, strip_undef, aBox_f, solid_agg, cells_agg, kLoad_box, kGd_true, kGd_false, kCall_ok, gt_iff_lt, ge_iff_le, Int.ofNat_lt, Int.ofNat_le, decide_true, decide_false, Nat.zero_add, Bool.not_true, Bool.not_false, aExtract_tup, fin1_some, resL_nil, resL_some, enc_noRef, encR_noRef, noRefL_cons, noRefL_nil, noRef_int, noRef_str, noRef_bool, Bool.and_self, ite_true, e1, c, e2, F16_J0]
    simp [upds_at, upd_at]

abbrev ints (zs : List Int) : List AV := zs.map fun z => I z
/-- A slice of integers, as it is handed on. -/
def IsI (v : AV) (zs : List Int) : Prop := v = .sl 3 1 (ints zs) .sh ∨ (zs = [] ∧ v = .nils)
theorem IsI.strip {v : AV} {xs : List Int} (h : IsI v xs) : v.strip = v := by rcases h with rfl | ⟨_, rfl⟩ <;> rfl
theorem ints_noRef (xs : List Int) : noRefL (ints xs) = true := by induction xs with
  | nil => rfl
  | cons x xs ih => show noRefL (I x :: ints xs) = true; rw [noRefL_cons, ih]; rfl
theorem IsI.noRef {v : AV} {xs : List Int} (h : IsI v xs) : v.noRef = true := by
  rcases h with rfl | ⟨_, rfl⟩
  · simp [AV.noRef, ints_noRef]
  · rfl
theorem under39 : Try.prog.underlying 39 = some (.slice 3) := by kernel_rfl
theorem sz3 : szOf Try.prog 3 = some 1 := by kernel_rfl
theorem IsI.len {v : AV} {xs : List Int} (h : IsI v xs) : aLen Try.prog 39 v = some (I xs.length) := by
  rcases h with rfl | ⟨rfl, rfl⟩
  · simp [aLen, under39]
  · simp [aLen, under39]
theorem idx39 {xs : List Int} {i : Nat} {x : Int} {f : Flag} (h : xs[i]? = some x) : aIndexAddr Try.prog 39 (.sl 3 1 (ints xs) f) (I i) = some (.box [I x] 0) := by
  simp [aIndexAddr, under39, sz3, h, AV.cells]

theorem storeX (c0 y : TypeId × List AV) (a c : AV) (l : Heap) : aStore 1 (c0 :: (l ++ [(27, [a])] ++ [y])) (.ref (l.length + 1) 0) (.agg [c]) = some (c0 :: (l ++ [(27, [c.strip])] ++ [y])) := by
  simp [aStore, AV.solid, AV.cells, setL, stCells]
theorem storeY (c0 x : TypeId × List AV) (a c : AV) (l : Heap) : aStore 1 (c0 :: (l ++ [x] ++ [(27, [a])])) (.ref (l.length + 1 + 1) 0) (.agg [c]) = some (c0 :: (l ++ [x] ++ [(27, [c.strip])])) := by
  have h : (c0 :: (l ++ [x] ++ [(27, [a])]))[l.length + 1 + 1]? = some (27, [a]) := by simp
  have h2 : (c0 :: (l ++ [x] ++ [(27, [a])])).set (l.length + 1 + 1) (27, [c.strip]) = c0 :: (l ++ [x] ++ [(27, [c.strip])]) := by simp
  simp only [aStore, AV.solid, AV.cells, h, stCells, List.map_cons, List.map_nil, List.length_cons, List.length_nil]
  simp [setL]
theorem loadX (c0 y : TypeId × List AV) (a : AV) (l : Heap) : aLoad false true 1 (.ref (l.length + 1) 0) (c0 :: (l ++ [(27, [a])] ++ [y])) = some (.agg [a], c0 :: (l ++ [(27, [a])] ++ [y])) := by
  simp [aLoad, aLoadR, aLoadC]
theorem loadY (c0 x : TypeId × List AV) (a : AV) (l : Heap) : aLoad false true 1 (.ref (l.length + 1 + 1) 0) (c0 :: (l ++ [x] ++ [(27, [a])])) = some (.agg [a], c0 :: (l ++ [x] ++ [(27, [a])])) := by
  simp [aLoad, aLoadR, aLoadC]
theorem allocL (c0 : TypeId × List AV) (l : Heap) : aAlloc Try.prog 27 (c0 :: l) = some (.ref (l.length + 1) 0, c0 :: (l ++ [(27, [.nilp])])) := by rw [alloc27]; simp

theorem bal_join (r : R) (w : r.WF) (hm : r.mass < 1000000000) (i : Nat) (hi : i < 1000) : ∃ N, ∀ n, N ≤ n → ∀ n' k0 e l, e 5 = .ref 0 0 → e 19 = I i →
    ∃ e', F5_J1 (den C n) n' k0 e ((27, [encR r]) :: l) = k0 e' ((27, [encR r]) :: l) ∧ e' 19 = I (i + 1 : Nat) ∧ e' 1 = e 1 ∧ e' 5 = e 5 ∧ e' 17 = e 17 ∧ e' 18 = e 18 := by
  obtain ⟨N, q⟩ := AC.at (isBalanced_run r w hm)
  refine ⟨N, fun n hn n' k0 e l h5 h19 => ?_⟩
  have q := q n hn
  have e2 := wadd1 (a := i) (by omega)
  rw [F5_J1]
  simp -implicitDefEqProofs only [oh_some, mp_some, sto_some, br_true, br_false, gd_true, gd_false, wA_tt, wA_tup, wA_ft, wA_tf, wA_ff, enc_strip, lp_strip, rp_strip, encR_strip, enc_check, enc_addr, aNilCheck_box, aNilCheck_ref, aAddr_box, aAddr_ref, aLoad_one, List.getElem?_cons_succ, List.getElem?_cons_zero, Option.map_some, bin_add, bin_sub, bin_lss, bin_leq, bin_gtr, bin_geq, bin_eql, bin_neq, str_eql, aMax_int, aMin_int, aUn_not, aPick_true, aPick_false, strip_int, strip_bool, strip_str, strip_nilp, strip_nils, strip_box, strip_ref, strip_agg, strip_tup, strip_undef, aBox_f, solid_agg, cells_agg, kLoad_box, kGd_true, kGd_false, kCall_ok, gt_iff_lt, ge_iff_le, Int.ofNat_lt, Int.ofNat_le, decide_true, decide_false, Nat.zero_add, Bool.not_true, Bool.not_false, aExtract_tup, fin1_some, resL_nil, resL_some, enc_noRef, encR_noRef, noRefL_cons, noRefL_nil, noRef_int, noRef_str, noRef_bool, Bool.and_self, ite_true, h5, h19, q, loadC, e2, rop]
  exact ⟨_, rfl, by simp [upds_at, upd_at], by simp [upds_at, upd_at], by simp [upds_at, upd_at, h5], by simp [upds_at, upd_at], by simp [upds_at, upd_at]⟩

theorem bal_end (ps : List (List UInt8)) (i : Nat) (hi : ¬ i < ps.length) : ∃ N, ∀ n, N ≤ n → ∀ n' k0 e s, e 19 = I i → e 18 = I ps.length → F5_L0 (den C n) n' k0 e s = some (.bool true, s) := by
  obtain ⟨N, q⟩ := AC.at ex_run
  refine ⟨N, fun n hn n' k0 e s h19 h18 => ?_⟩
  have q := q n hn
  rw [F5_L0]
  simp -implicitDefEqProofs only [oh_some, mp_some, sto_some, br_true, br_false, gd_true, gd_false, wA_tt, wA_tup, wA_ft, wA_tf, wA_ff, enc_strip, lp_strip, rp_strip, encR_strip, enc_check, enc_addr, aNilCheck_box, aNilCheck_ref, aAddr_box, aAddr_ref, aLoad_one, List.getElem?_cons_succ, List.getElem?_cons_zero, Option.map_some, bin_add, bin_sub, bin_lss, bin_leq, bin_gtr, bin_geq, bin_eql, bin_neq, str_eql, aMax_int, aMin_int, aUn_not, aPick_true, aPick_false, strip_int, strip_bool, strip_str, strip_nilp, strip_nils, strip_box, strip_ref, strip_agg, strip_tup, strip_undef, aBox_f, solid_agg, cells_agg, kLoad_box, kGd_true, kGd_false, kCall_ok, gt_iff_lt, ge_iff_le, Int.ofNat_lt, Int.ofNat_le, decide_true, decide_false, Nat.zero_add, Bool.not_true, Bool.not_false, aExtract_tup, fin1_some, resL_nil, resL_some, enc_noRef, encR_noRef, noRefL_cons, noRefL_nil, noRef_int, noRef_str, noRef_bool, Bool.and_self, ite_true, h19, h18, hi, q]

set_option maxHeartbeats 2000000 in
/-- A round. -/
theorem bal_round (ps : List (List UInt8)) (hp : ps.length ≤ 20) (v : AV) (zs : List Int) (hv : IsI v zs) (i : Nat) (hlt : i < ps.length) (r : R) (w : r.WF) (hr : r.str.length ≤ 100 * i) :
    ∃ r' : R, r'.WF ∧ r'.str.length ≤ 100 * (i + 1) ∧ ∃ N, ∀ n, N ≤ n → ∀ n' k0 e l f, e 19 = I i → e 18 = I ps.length → e 17 = .sl 9 1 (strs ps) f → e 1 = v → e 5 = .ref 0 0 →
      ∃ e' l', F5_L0 (den C n) n' k0 e ((27, [encR r]) :: l) = k0 e' ((27, [encR r']) :: l') ∧ e' 19 = I (i + 1 : Nat) ∧ e' 1 = v ∧ e' 5 = .ref 0 0 ∧ e' 17 = .sl 9 1 (strs ps) f ∧ e' 18 = I ps.length := by
  have e0 : ps[i]? = some ps[i] := List.getElem?_eq_getElem hlt
  have hl : (ps[i].take 100).length ≤ 100 := by simp; omega
  generalize hxe : ps[i].take 100 = x at hl
  obtain ⟨wx, sx⟩ := R.from_ok none x trivial
  replace sx : (R.from none x).str = x := by rw [sx]; rfl
  have mx := WF_mass wx
  rw [sx] at mx
  have mr := WF_mass w
  obtain ⟨wc, sc⟩ := R.concat_ok w wx
  have lc : (r.concat (R.from none x)).str.length ≤ 100 * (i + 1) := by rw [sc, sx, List.length_append]; omega
  have mc := WF_mass wc
  obtain ⟨N1, q1⟩ := AC.at (short_run ps[i] 100)
  rw [hxe] at q1
  obtain ⟨N2, q2⟩ := AC.at (New_run x (by omega))
  obtain ⟨N3, q3⟩ := AC.at (Concat_run r (R.from none x) (by omega))
  generalize hc : r.concat (R.from none x) = c at *
  have l := hv.len
  have st := hv.strip
  have e1 := fun f => idx22 (f := f) e0
  by_cases hz : i < zs.length
  · have e2 : zs[i]? = some zs[i] := List.getElem?_eq_getElem hz
    obtain ⟨m, hm, hmod⟩ := Mod_run zs[i] (c.str.length + 1) (by omega) (by omega)
    have hm' : ¬ ((m : Int) < 0 ∨ (c.str.length : Int) < m) := by omega
    have hs := Split_run c m (by omega)
    rw [if_neg hm', Int.toNat_natCast] at hs
    obtain ⟨wa, wb, sa, sb⟩ := R.split_ok c m wc
    have ma := WF_mass wa
    have mb := WF_mass wb
    have hab : (c.split m).1.str.length + (c.split m).2.str.length = c.str.length := by rw [← List.length_append, sa, sb, List.take_append_drop]
    obtain ⟨wd, sd⟩ := R.concat_ok wb wa
    have ld : ((c.split m).2.concat (c.split m).1).str.length ≤ 100 * (i + 1) := by rw [sd, List.length_append]; omega
    have md := WF_mass wd
    obtain ⟨N4, q4⟩ := AC.at (len_run c)
    obtain ⟨N5, q5⟩ := AC.at hmod
    obtain ⟨N6, q6⟩ := AC.at hs
    obtain ⟨N7, q7⟩ := AC.at (isBalanced_run _ wa (by omega))
    obtain ⟨N8, q8⟩ := AC.at (isBalanced_run _ wb (by omega))
    obtain ⟨N9, q9⟩ := AC.at (Concat_run (c.split m).2 (c.split m).1 (by omega))
    obtain ⟨N10, q10⟩ := bal_join _ wd (by omega) i (by omega)
    generalize hA : (c.split m).1 = A at *
    generalize hB : (c.split m).2 = B at *
    generalize hd : B.concat A = d at *
    refine ⟨d, wd, ld, max N1 (max N2 (max N3 (max N4 (max N5 (max N6 (max N7 (max N8 (max N9 N10)))))))), fun n hn n' k0 e l' f h19 h18 h17 h1 h5 => ?_⟩
    have h1v := h1
    have fin : ∀ E s', E 5 = .ref 0 0 → E 19 = I i → E 1 = v → E 17 = .sl 9 1 (strs ps) f → E 18 = I ps.length → ∃ e' l'', F5_J1 (den C n) n' k0 E ((27, [encR d]) :: s') = k0 e' ((27, [encR d]) :: l'') ∧ e' 19 = I (i + 1 : Nat) ∧ e' 1 = v ∧ e' 5 = .ref 0 0 ∧ e' 17 = .sl 9 1 (strs ps) f ∧ e' 18 = I ps.length := by
      intro E s' g5 g19 g1 g17 g18
      obtain ⟨e', k1, k2, k3, k4, k5, k6⟩ := q10 n (by omega) n' k0 E s' g5 g19
      exact ⟨e', s', k1, k2, k3.trans g1, k4.trans g5, k5.trans g17, k6.trans g18⟩
    replace h1 : e 1 = .sl 3 1 (ints zs) .sh := by
      rcases hv with h | ⟨h, _⟩
      · rw [h1, h]
      · subst h; simp at hz
    have l : aLen Try.prog 39 (.sl 3 1 (ints zs) .sh) = some (I zs.length) := (show IsI _ zs from .inl rfl).len
    have e3 := idx39 (f := .sh) e2
    have q1 : ∀ s, aCall Try.prog (den C n) 8 [.str ps[i], .int .i64 100] s = _ := q1 n (by omega)
    have q2 := q2 n (by omega)
    have q3 := q3 n (by omega)
    have q4 := q4 n (by omega)
    have q5 := q5 n (by omega)
    have q6 := q6 n (by omega)
    have q7 := q7 n (by omega)
    have q8 := q8 n (by omega)
    have q9 := q9 n (by omega)
    have z : ((0 : Int) != 0) = false := rfl
    have e4 := wadd1 (a := c.str.length) (by omega)
    rw [F5_L0]
    simp -implicitDefEqProofs only [oh_some, mp_some, sto_some, br_true, br_false, gd_true, gd_false, wA_tt, wA_tup, wA_ft, wA_tf, wA_ff, enc_strip, lp_strip, rp_strip, encR_strip, enc_check, enc_addr, aNilCheck_box, aNilCheck_ref, aAddr_box, aAddr_ref, aLoad_one, List.getElem?_cons_succ, List.getElem?_cons_zero, Option.map_some, bin_add, bin_sub, bin_lss, bin_leq, bin_gtr, bin_geq, bin_eql, bin_neq, str_eql, aMax_int, aMin_int, aUn_not, aPick_true, aPick_false, strip_int, strip_bool, strip_str, strip_nilp, strip_nils, strip_box, strip_ref, strip_agg, strip_tup, strip_undef, aBox_f, solid_agg, cells_agg, kLoad_box, kGd_true, kGd_false, kCall_ok, gt_iff_lt, ge_iff_le, Int.ofNat_lt, Int.ofNat_le, decide_true, decide_false, Nat.zero_add, Bool.not_true, Bool.not_false, aExtract_tup, fin1_some, resL_nil, resL_some, enc_noRef, encR_noRef, noRefL_cons, noRefL_nil, noRef_int, noRef_str, noRef_bool, Bool.and_self, ite_true, h19, h18, h17, h1, h5, hlt, hz, e1, e3, e4, l, q1, q2, q3, q4, q5, q6, q7, q8, q9, z, loadC, storeC, allocL, List.length_append, List.length_cons, List.length_nil, storeX, storeY, loadX, loadY, kLoad_ref, noRef_agg, noRef_nilp, d5_7', d5_9', rop, strip_sh]
    exact fin _ _ (by simp [upds_at, upd_at, h5]) (by simp [upds_at, upd_at, h19]) (by simp [upds_at, upd_at, h1v]) (by simp [upds_at, upd_at, h17]) (by simp [upds_at, upd_at, h18])
  · obtain ⟨N10, q10⟩ := bal_join _ wc (by omega) i (by omega)
    refine ⟨c, wc, lc, max N1 (max N2 (max N3 N10)), fun n hn n' k0 e l' f h19 h18 h17 h1 h5 => ?_⟩
    have q1 : ∀ s, aCall Try.prog (den C n) 8 [.str ps[i], .int .i64 100] s = _ := q1 n (by omega)
    have q2 := q2 n (by omega)
    have fin : ∀ E s', E 5 = .ref 0 0 → E 19 = I i → E 1 = v → E 17 = .sl 9 1 (strs ps) f → E 18 = I ps.length → ∃ e' l'', F5_J1 (den C n) n' k0 E ((27, [encR c]) :: s') = k0 e' ((27, [encR c]) :: l'') ∧ e' 19 = I (i + 1 : Nat) ∧ e' 1 = v ∧ e' 5 = .ref 0 0 ∧ e' 17 = .sl 9 1 (strs ps) f ∧ e' 18 = I ps.length := by
      intro E s' g5 g19 g1 g17 g18
      obtain ⟨e', k1, k2, k3, k4, k5, k6⟩ := q10 n (by omega) n' k0 E s' g5 g19
      exact ⟨e', s', k1, k2, k3.trans g1, k4.trans g5, k5.trans g17, k6.trans g18⟩
    have q3 := q3 n (by omega)
    rw [F5_L0]
    simp -implicitDefEqProofs only [oh_some, mp_some, sto_some, br_true, br_false, gd_true, gd_false, wA_tt, wA_tup, wA_ft, wA_tf, wA_ff, enc_strip, lp_strip, rp_strip, encR_strip, enc_check, enc_addr, aNilCheck_box, aNilCheck_ref, aAddr_box, aAddr_ref, aLoad_one, List.getElem?_cons_succ, List.getElem?_cons_zero, Option.map_some, bin_add, bin_sub, bin_lss, bin_leq, bin_gtr, bin_geq, bin_eql, bin_neq, str_eql, aMax_int, aMin_int, aUn_not, aPick_true, aPick_false, strip_int, strip_bool, strip_str, strip_nilp, strip_nils, strip_box, strip_ref, strip_agg, strip_tup, strip_undef, aBox_f, solid_agg, cells_agg, kLoad_box, kGd_true, kGd_false, kCall_ok, gt_iff_lt, ge_iff_le, Int.ofNat_lt, Int.ofNat_le, decide_true, decide_false, Nat.zero_add, Bool.not_true, Bool.not_false, aExtract_tup, fin1_some, resL_nil, resL_some, enc_noRef, encR_noRef, noRefL_cons, noRefL_nil, noRef_int, noRef_str, noRef_bool, Bool.and_self, ite_true, h19, h18, h17, h1, h5, hlt, hz, e1, l, st, q1, q2, q3, loadC, storeC, kLoad_ref, noRef_agg, noRef_nilp, d5_7', rop]
    exact fin _ _ (by simp [upds_at, upd_at, h5]) (by simp [upds_at, upd_at, h19]) (by simp [upds_at, upd_at, h1]) (by simp [upds_at, upd_at, h17]) (by simp [upds_at, upd_at, h18])

theorem bal_rounds (ps : List (List UInt8)) (hp : ps.length ≤ 20) (v : AV) (zs : List Int) (hv : IsI v zs) : ∀ (k i : Nat), ps.length - i = k → i ≤ ps.length → ∀ (r : R), r.WF → r.str.length ≤ 100 * i →
    ∃ N, ∀ n, N ≤ n → ∀ m, k < m → ∀ n' e l f, e 19 = I i → e 18 = I ps.length → e 17 = .sl 9 1 (strs ps) f → e 1 = v → e 5 = .ref 0 0 → ∃ s', aLoop (F5_L0 (den C n) n') m e ((27, [encR r]) :: l) = some (.bool true, s') := by
  intro k
  induction k with
  | zero =>
    intro i hk hi r w hr
    obtain ⟨N, q⟩ := bal_end ps i (by omega)
    refine ⟨N, fun n hn m hm n' e l f h19 h18 h17 h1 h5 => ?_⟩
    obtain ⟨m, rfl⟩ : ∃ j, m = j + 1 := ⟨m - 1, by omega⟩
    rw [aLoop]
    exact ⟨_, q n hn n' _ e _ h19 h18⟩
  | succ k ih =>
    intro i hk hi r w hr
    obtain ⟨r', w', hr', N1, q1⟩ := bal_round ps hp v zs hv i (by omega) r w hr
    obtain ⟨N2, q2⟩ := ih (i + 1) (by omega) (by omega) r' w' hr'
    refine ⟨max N1 N2, fun n hn m hm n' e l f h19 h18 h17 h1 h5 => ?_⟩
    obtain ⟨m, rfl⟩ : ∃ j, m = j + 1 := ⟨m - 1, by omega⟩
    rw [aLoop]
    obtain ⟨e', l', k1, k2, k3, k4, k5, k6⟩ := q1 n (by omega) n' (aLoop (F5_L0 (den C n) n') m) e l f h19 h18 h17 h1 h5
    rw [k1]
    exact q2 n (by omega) m (by omega) n' e' l' f k2 k6 k5 k3 k4

theorem RopeBalanced_run (v : AV) (ps : List (List UInt8)) (hs : IsS v ps) (u : AV) (zs : List Int) (hu : IsI u zs) : AC C 5 [v, u] (.bool true) := by
  refine .intro en5 (by simp [noRefL_cons, noRefL_nil, hs.noRef, hu.noRef]) (by rfl) ?_
  obtain ⟨N1, q1⟩ := AC.at ex_run
  obtain ⟨N2, q2⟩ := bal_rounds (ps.take 20) (by simp; omega) u zs hu _ 0 rfl (by omega) none trivial (by simp [R.str])
  obtain ⟨N3, q3⟩ := bal_end [] 0 (by simp)
  refine ⟨max N1 (max N2 (max N3 21)), fun n hn => ?_⟩
  have q1 := q1 n (by omega)
  have q2 := q2 n (by omega) n (by simp; omega) n
  have l := hs.len
  have st := hs.strip
  have e1 : (if (20 : Int) < (ps.length : Int) then (20 : Int) else (ps.length : Int)) = ((min ps.length 20 : Nat) : Int) := by split <;> omega
  rcases hs with rfl | ⟨rfl, rfl⟩
  · have e2 := take22 (xs := ps) (i := min ps.length 20) (f := .sh) (by omega)
    have e3 : ps.take (min ps.length 20) = ps.take 20 := by
      rw [Nat.min_def]; split
      · rw [List.take_of_length_le (Nat.le_refl _), List.take_of_length_le (by assumption)]
      · rfl
    have e4 : aLen Try.prog 22 (.sl 9 1 (strs (ps.take 20)) .sh) = some (I (ps.take 20).length) := (show IsS (.sl 9 1 (strs (ps.take 20)) .sh) (ps.take 20) from .inl rfl).len
    rw [e3] at e2
    rw [F5_eq, F5]
    simp -implicitDefEqProofs only [oh_some, mp_some, sto_some, br_true, br_false, gd_true, gd_false, wA_tt, wA_tup, wA_ft, wA_tf, wA_ff, enc_strip, lp_strip, rp_strip, encR_strip, enc_check, enc_addr, aNilCheck_box, aNilCheck_ref, aAddr_box, aAddr_ref, aLoad_one, List.getElem?_cons_succ, List.getElem?_cons_zero, Option.map_some, bin_add, bin_sub, bin_lss, bin_leq, bin_gtr, bin_geq, bin_eql, bin_neq, str_eql, aMax_int, aMin_int, aUn_not, aPick_true, aPick_false, strip_int, strip_bool, strip_str, strip_nilp, strip_nils, strip_box, strip_ref, strip_agg, strip_tup, strip_undef, aBox_f, solid_agg, cells_agg, kLoad_box, kGd_true, kGd_false, kCall_ok, gt_iff_lt, ge_iff_le, Int.ofNat_lt, Int.ofNat_le, decide_true, decide_false, Nat.zero_add, Bool.not_true, Bool.not_false, aExtract_tup, fin1_some, resL_nil, resL_some, enc_noRef, encR_noRef, noRefL_cons, noRefL_nil, noRef_int, noRef_str, noRef_bool, Bool.and_self, ite_true, q1, l, strip_sh, e1, e2, e4, alloc27, List.length_nil, List.nil_append]
    exact q2 _ [] .sh (by simp [upds_at, upd_at]) (by simp [upds_at, upd_at]) (by simp [upds_at, upd_at]) (by simp [upds_at, upd_at, argEnv]) (by simp [upds_at, upd_at])
  · obtain ⟨j, rfl⟩ : ∃ j, n = j + 1 := ⟨n - 1, by omega⟩
    have e2 : aSl Try.prog 22 .nils none (some (I (0 : Nat))) none = some .nils := by kernel_rfl
    have e4 : aLen Try.prog 22 .nils = some (I (0 : Nat)) := by kernel_rfl
    simp only [List.length_nil, Nat.zero_min] at e1
    rw [F5_eq, F5]
    simp -implicitDefEqProofs only [oh_some, mp_some, sto_some, br_true, br_false, gd_true, gd_false, wA_tt, wA_tup, wA_ft, wA_tf, wA_ff, enc_strip, lp_strip, rp_strip, encR_strip, enc_check, enc_addr, aNilCheck_box, aNilCheck_ref, aAddr_box, aAddr_ref, aLoad_one, List.getElem?_cons_succ, List.getElem?_cons_zero, Option.map_some, bin_add, bin_sub, bin_lss, bin_leq, bin_gtr, bin_geq, bin_eql, bin_neq, str_eql, aMax_int, aMin_int, aUn_not, aPick_true, aPick_false, strip_int, strip_bool, strip_str, strip_nilp, strip_nils, strip_box, strip_ref, strip_agg, strip_tup, strip_undef, aBox_f, solid_agg, cells_agg, kLoad_box, kGd_true, kGd_false, kCall_ok, gt_iff_lt, ge_iff_le, Int.ofNat_lt, Int.ofNat_le, decide_true, decide_false, Nat.zero_add, Bool.not_true, Bool.not_false, aExtract_tup, fin1_some, resL_nil, resL_some, enc_noRef, encR_noRef, noRefL_cons, noRefL_nil, noRef_int, noRef_str, noRef_bool, Bool.and_self, ite_true, q1, e4, e1, e2, alloc27, List.length_nil, List.nil_append]
    rw [aLoop]
    exact ⟨_, q3 (j + 1) (by omega) (j + 1) _ _ _ (by simp [upds_at, upd_at]) (by simp [upds_at, upd_at])⟩
end RopeF

