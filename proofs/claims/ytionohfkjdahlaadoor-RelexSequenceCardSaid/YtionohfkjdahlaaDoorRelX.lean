/- RelexIdentity, RelexSequence, in the abstract machine. -/
import Derived.Test.YtionohfkjdahlaaDoorRelW
import Derived.Test.YtionohfkjdahlaaDoorLexG
set_option linter.all false
set_option maxRecDepth 100000
namespace LexF
open Go Go.Abs Go.Proofs

theorem wsub {x y : Nat} (h : y ≤ x) (hx : x < 2000000000) : IntKind.i64.wrap ((x : Int) - (y : Int)) = ((x - y : Nat) : Int) := by rw [wrap64] <;> omega
theorem build48 (a b : Int) (t : List UInt8) : aBuild Tryd.prog 48 [(0, I a), (1, I b), (2, .str t)] = some (.agg [I a, I b, .str t]) := by kernel_rfl

theorem Identity_run (s0 : List UInt8) (x y : Int) : AC C 10 [.str s0, I x, I y] (.bool true) := by
  refine .intro en10 rfl rfl ?_
  have hl : (s0.take 300).length ≤ 300 := by simp; omega
  obtain ⟨N1, q1⟩ := AC.at ex_run
  obtain ⟨N2, q2⟩ := AC.at (short_run s0 300)
  generalize s0.take 300 = src at *
  obtain ⟨N3, q3⟩ := AC.at (tok_run src)
  unfold tokR at q3
  rw [if_neg (by omega)] at q3
  obtain ⟨a, ha, hma⟩ := Mod_run x (src.length + 1) (by omega) (by omega)
  obtain ⟨N4, q4⟩ := AC.at hma
  obtain ⟨d, hd, hmd⟩ := Mod_run y (src.length - a + 1) (by omega) (by omega)
  obtain ⟨N5, q5⟩ := AC.at hmd
  have hv := accV_strip (tokz src)
  have ht := tokz_length src
  have hnext : nextOf src ((src.drop a).take (a + d - a)) a (a + d) = src := by
    unfold nextOf
    rw [Nat.add_sub_cancel_left, List.append_assoc, ← List.drop_drop, List.take_append_drop, List.take_append_drop]
  obtain ⟨w, r, h1, h2, h3, h4⟩ := update_run (src := src) (t := (src.drop a).take (a + d - a)) (a := a) (b := a + d) (by omega) (by omega) (by omega) (by rw [hnext]; omega) _ hv
  rw [hnext] at h1 h3
  obtain ⟨N6, q6⟩ := AC.at h4
  have e1 := subBothN (s := src) (i := a) (j := a + d) (by omega) (by omega)
  obtain ⟨N7, q7⟩ := AC.at (same_run _ _ (tokz src) h1 hv (by omega))
  have st1 := h1.strip
  have st2 := hv.strip
  generalize (accV (tokz src)).strip = v at *
  generalize hw : AV.strip w = w' at *
  generalize (src.drop a).take (a + d - a) = tx at *
  refine ⟨max N1 (max N2 (max N3 (max N4 (max N5 (max N6 N7))))), fun n hn => ⟨[], ?_⟩⟩
  simp only [Nat.max_le] at hn
  have q1 := q1 n (by omega)
  have q2 : ∀ s, aCall Tryd.prog (den C n) 12 [.str s0, .int .i64 300] s = _ := q2 n (by omega)
  have q3 := q3 n (by omega)
  have q4 := q4 n (by omega)
  have q5 := q5 n (by omega)
  have q6 := q6 n (by omega)
  have q7 := q7 n (by omega)
  have w1 := wadd1 (a := src.length) (by omega)
  have w2 := wsub (x := src.length) (y := a) (by omega) (by omega)
  have w3 := wadd1 (a := src.length - a) (by omega)
  have w4 := wadd (a := a) (b := d) (by omega)
  have z0 : ((0 : Int) == 0) = true := rfl
  have b1 := build48 a (a + d : Nat) tx
  rw [F10_eq, F10]
  simp -implicitDefEqProofs only [oh_some, mp_some, sto_some, br_true, br_false, gd_true, gd_false, wA_tt, wA_tup, wA_ft, wA_tf, wA_ff, aNilCheck_box, aNilCheck_ref, aAddr_box, aAddr_ref, aLoad_one, List.getElem?_cons_succ, List.getElem?_cons_zero, Option.map_some, bin_add, bin_sub, bin_lss, bin_leq, bin_gtr, bin_geq, bin_eql, bin_neq, str_eql, aMax_int, aMin_int, aUn_not, aPick_true, aPick_false, strip_int, strip_bool, strip_str, strip_nilp, strip_nils, strip_box, strip_ref, strip_agg, strip_tup, strip_undef, aBox_f, solid_agg, cells_agg, kLoad_box, kGd_true, kGd_false, kCall_ok, gt_iff_lt, ge_iff_le, Int.ofNat_lt, Int.ofNat_le, decide_true, decide_false, Nat.zero_add, Bool.not_true, Bool.not_false, aExtract_tup, fin1_some, resL_nil, resL_some, noRefL_cons, noRefL_nil, noRef_int, noRef_str, noRef_bool, noRef_nilp, noRef_agg, strip_fn, kLoad_ref, Bool.and_self, ite_true, q1, q2, q3, q4, q5, q6, q7, w1, w2, w3, w4, z0, len9, e1, b1, st1, st2, hw]

theorem splice_run (src t : List UInt8) (a b : Nat) (hab : a ≤ b) (hb : b ≤ src.length) (hl : src.length + t.length < 1000000) : AC C 25 [.str src, .agg [I a, I b, .str t]] (.str (nextOf src t a b)) := by
  refine .intro en25 (by simp [noRefL_cons, noRefL_nil, noRef_str, noRef_agg, noRef_int]) rfl ⟨0, fun n hn => ⟨[], ?_⟩⟩
  have e1 := subTake (s := src) (i := a) (by omega)
  have e2 := subDrop (s := src) (i := b) hb
  have e3 : aBin Tryd.prog .add 9 (.str (src.take a)) (.str t) = some (.str (src.take a ++ t)) := str_add _ _ (by rw [List.length_take]; omega)
  have e4 : aBin Tryd.prog .add 9 (.str (src.take a ++ t)) (.str (src.drop b)) = some (.str (nextOf src t a b)) := str_add _ _ (by rw [List.length_append, List.length_take, List.length_drop]; omega)
  rw [F25_eq, F25]
  simp -implicitDefEqProofs only [oh_some, mp_some, sto_some, br_true, br_false, gd_true, gd_false, wA_tt, wA_tup, wA_ft, wA_tf, wA_ff, aNilCheck_box, aNilCheck_ref, aAddr_box, aAddr_ref, aLoad_one, List.getElem?_cons_succ, List.getElem?_cons_zero, Option.map_some, bin_add, bin_sub, bin_lss, bin_leq, bin_gtr, bin_geq, bin_eql, bin_neq, str_eql, aMax_int, aMin_int, aUn_not, aPick_true, aPick_false, strip_int, strip_bool, strip_str, strip_nilp, strip_nils, strip_box, strip_ref, strip_agg, strip_tup, strip_undef, aBox_f, solid_agg, cells_agg, kLoad_box, kGd_true, kGd_false, kCall_ok, gt_iff_lt, ge_iff_le, Int.ofNat_lt, Int.ofNat_le, decide_true, decide_false, Nat.zero_add, Bool.not_true, Bool.not_false, aExtract_tup, fin1_some, resL_nil, resL_some, noRefL_cons, noRefL_nil, noRef_int, noRef_str, noRef_bool, noRef_nilp, noRef_agg, strip_fn, kLoad_ref, Bool.and_self, ite_true, e1, e2, e3, e4, d25_1]

theorem d9_11' (x : Ans) : drawOK C 9 (regOps Tryd.f9 11) [.silent, .reader, .silent, .reader, .silent, .silent, .silent, .reader, .silent, .silent, .silent, .silent, .silent, .writer] x = x := drawOK_ok (by kernel_rfl)
theorem alloc48 (s : Heap) : aAlloc Tryd.prog 48 s = some (.ref s.length 0, s ++ [(48, [I 0, I 0, .str []])]) := by kernel_rfl
theorem store48 (s : Heap) (a b c x y z : AV) (hx : x.strip = x) (hy : y.strip = y) (hz : z.strip = z) : aStore 3 (s ++ [(48, [a, b, c])]) (.ref s.length 0) (.agg [x, y, z]) = some (s ++ [(48, [x, y, z])]) := by
  simp [aStore, AV.solid, AV.cells, setL, stCells, hx, hy, hz]
theorem load48 (s : Heap) (x y z : AV) (k : Nat) : aLoad false false 1 (.ref s.length k) (s ++ [(48, [x, y, z])]) = [x, y, z][k]?.map fun r => (r.strip, s ++ [(48, [x, y, z])]) := by
  simp [aLoad, aLoadR, aLoadC_one]
  cases [x, y, z][k]? <;> rfl
theorem load48a (s : Heap) (x y z : AV) : aLoad false true 3 (.ref s.length 0) (s ++ [(48, [x, y, z])]) = some (.agg [x, y, z], s ++ [(48, [x, y, z])]) := by
  simp [aLoad, aLoadR, aLoadC]
theorem st48_0 (s : Heap) (x y z : AV) (v : Int) : aStore 1 (s ++ [(48, [x, y, z])]) (.ref s.length 0) (I v) = some (s ++ [(48, [I v, y, z])]) := by
  simp [aStore, AV.solid, AV.cells, setL, stCells, AV.strip]
theorem st48_1 (s : Heap) (x y z : AV) (v : Int) : aStore 1 (s ++ [(48, [x, y, z])]) (.ref s.length 1) (I v) = some (s ++ [(48, [x, I v, z])]) := by
  simp [aStore, AV.solid, AV.cells, setL, stCells, AV.strip]
theorem st48_2 (s : Heap) (x y z : AV) (v : List UInt8) : aStore 1 (s ++ [(48, [x, y, z])]) (.ref s.length 2) (.str v) = some (s ++ [(48, [x, y, .str v])]) := by
  simp [aStore, AV.solid, AV.cells, setL, stCells, AV.strip]
theorem load3' (x y z : AV) (s : Heap) : aLoad false true 3 (.box [x, y, z] 0) s = some (.agg [x, y, z], s) := aLoad_agg _ _ _ _ _ (by simp)

theorem takeE {v : AV} {xs : List EdF.Ed} (h : EdF.IsE v xs) {i : Nat} (hi : i ≤ xs.length) : ∃ u, aSl Tryd.prog 46 v none (some (I i)) none = some u ∧ EdF.IsE u (xs.take i) := by
  rcases h with rfl | ⟨rfl, rfl⟩
  · exact ⟨.sl 48 3 (EdF.eds (xs.take i)) .sh, by simp [aSl, EdF.under44, EdF.sz65, aSlice, aBound, hi, List.map_take], .inl rfl⟩
  · have : i = 0 := by simpa using hi
    subst this
    exact ⟨.nils, by simp [aSl, EdF.under44], .inr ⟨rfl, rfl⟩⟩
theorem atE {v : AV} {xs : List EdF.Ed} (h : EdF.IsE v xs) {i : Nat} {x : EdF.Ed} (hx : xs[i]? = some x) : aIndexAddr Tryd.prog 46 v (I i) = some (.box [I x.a, I x.b, .str x.t] 0) := by
  rcases h with rfl | ⟨rfl, rfl⟩
  · exact EdF.idx44 hx
  · simp at hx

theorem seq_loop (u : AV) (xs : List EdF.Ed) (hu : EdF.IsE u xs) (hx : xs.length ≤ 6) : ∀ (k i : Nat) (src : List UInt8) (v : AV), xs.length - i = k → i ≤ xs.length → src.length ≤ 200 + 40 * i → IsT v (tokz src) →
    ∃ N, ∀ n, N ≤ n → ∀ m, k < m → ∀ n' e s, e 0 = .str src → e 5 = v → e 28 = u → e 29 = I xs.length → e 30 = I i → ∃ s', aLoop (F9_L0 (den C n) n') m e s = some (.bool true, s') := by
  intro k
  induction k with
  | zero =>
    intro i src v hk hi hl hv
    have ht := tokz_length src
    obtain ⟨N1, q1⟩ := AC.at ex_run
    obtain ⟨N2, q2⟩ := AC.at (tok_run src)
    unfold tokR at q2
    rw [if_neg (by omega)] at q2
    have hva := accV_strip (tokz src)
    obtain ⟨N3, q3⟩ := AC.at (same_run v _ (tokz src) hv hva (by omega))
    have st1 := hv.strip
    have st2 := hva.strip
    generalize (accV (tokz src)).strip = va at *
    refine ⟨max N1 (max N2 N3), fun n hn m hm n' e s h0 h5 h28 h29 h30 => ⟨s, ?_⟩⟩
    simp only [Nat.max_le] at hn
    obtain ⟨m, rfl⟩ : ∃ j, m = j + 1 := ⟨m - 1, by omega⟩
    have q1 := q1 n (by omega)
    have q2 := q2 n (by omega)
    have q3 := q3 n (by omega)
    have c : ¬ i < xs.length := by omega
    have z0 : ((0 : Int) == 0) = true := rfl
    rw [aLoop, F9_L0]
    simp -implicitDefEqProofs only [oh_some, mp_some, sto_some, br_true, br_false, gd_true, gd_false, wA_tt, wA_tup, wA_ft, wA_tf, wA_ff, aNilCheck_box, aNilCheck_ref, aAddr_box, aAddr_ref, aLoad_one, List.getElem?_cons_succ, List.getElem?_cons_zero, Option.map_some, bin_add, bin_sub, bin_lss, bin_leq, bin_gtr, bin_geq, bin_eql, bin_neq, str_eql, aMax_int, aMin_int, aUn_not, aPick_true, aPick_false, strip_int, strip_bool, strip_str, strip_nilp, strip_nils, strip_box, strip_ref, strip_agg, strip_tup, strip_undef, aBox_f, solid_agg, cells_agg, kLoad_box, kGd_true, kGd_false, kCall_ok, gt_iff_lt, ge_iff_le, Int.ofNat_lt, Int.ofNat_le, decide_true, decide_false, Nat.zero_add, Bool.not_true, Bool.not_false, aExtract_tup, fin1_some, resL_nil, resL_some, noRefL_cons, noRefL_nil, noRef_int, noRef_str, noRef_bool, noRef_nilp, noRef_agg, strip_fn, kLoad_ref, Bool.and_self, ite_true, h0, h5, h28, h29, h30, c, q1, q2, q3, z0, st1, st2]
  | succ k ih =>
    intro i src v hk hi hl hv
    have c : i < xs.length := by omega
    have e0 := atE hu (List.getElem?_eq_getElem c)
    generalize xs[i] = x at *
    have ht := tokz_length src
    obtain ⟨a, ha, hma⟩ := Mod_run x.a (src.length + 1) (by omega) (by omega)
    obtain ⟨N1, q1⟩ := AC.at hma
    obtain ⟨d, hd, hmd⟩ := Mod_run x.b (src.length - a + 1) (by omega) (by omega)
    obtain ⟨N2, q2⟩ := AC.at hmd
    obtain ⟨N3, q3⟩ := AC.at (short_run x.t 40)
    have htl : (x.t.take 40).length ≤ 40 := by simp; omega
    generalize x.t.take 40 = t at *
    have hnl := next_len (src := src) (t := t) (a := a) (b := a + d) (by omega) (by omega)
    obtain ⟨w, r, h1, h2, h3, h4⟩ := update_run (src := src) (t := t) (a := a) (b := a + d) (by omega) (by omega) (by omega) (by omega) v hv
    obtain ⟨N4, q4⟩ := AC.at h4
    obtain ⟨N5, q5⟩ := AC.at (splice_run src t a (a + d) (by omega) (by omega) (by omega))
    have st1 := hv.strip
    have st2 := h1.strip
    have l1 := hv.len
    have l2 := h1.len
    generalize hw : AV.strip w = w' at *
    obtain ⟨N6, q6⟩ := ih (i + 1) (nextOf src t a (a + d)) w' (by omega) (by omega) (by omega) h1
    refine ⟨max N1 (max N2 (max N3 (max N4 (max N5 N6)))), fun n hn m hm n' e s h0 h5 h28 h29 h30 => ?_⟩
    simp only [Nat.max_le] at hn
    obtain ⟨m, rfl⟩ : ∃ j, m = j + 1 := ⟨m - 1, by omega⟩
    have q1 := q1 n (by omega)
    have q2 := q2 n (by omega)
    have q3 : ∀ s, aCall Tryd.prog (den C n) 12 [.str x.t, .int .i64 40] s = _ := q3 n (by omega)
    have q4 := q4 n (by omega)
    have q5 := q5 n (by omega)
    have w0 := wadd1 (a := i) (by omega)
    have w1 := wadd1 (a := src.length) (by omega)
    have w2 := wsub (x := src.length) (y := a) (by omega) (by omega)
    have w3 := wadd1 (a := src.length - a) (by omega)
    have w4 := wadd (a := a) (b := d) (by omega)
    have z0 : ((0 : Int) != 0) = false := rfl
    have z1 : ¬ (r : Int) < 0 := by omega
    have z2 : ¬ (tokz src).length < r := by omega
    have z3 : ¬ (tokz (nextOf src t a (a + d))).length < r := by omega
    have sx := strip_int .i64 x.a
    rw [aLoop, F9_L0]
    simp -implicitDefEqProofs only [oh_some, mp_some, sto_some, br_true, br_false, gd_true, gd_false, wA_tt, wA_tup, wA_ft, wA_tf, wA_ff, aNilCheck_box, aNilCheck_ref, aAddr_box, aAddr_ref, aLoad_one, List.getElem?_cons_succ, List.getElem?_cons_zero, Option.map_some, bin_add, bin_sub, bin_lss, bin_leq, bin_gtr, bin_geq, bin_eql, bin_neq, str_eql, aMax_int, aMin_int, aUn_not, aPick_true, aPick_false, strip_int, strip_bool, strip_str, strip_nilp, strip_nils, strip_box, strip_ref, strip_agg, strip_tup, strip_undef, aBox_f, solid_agg, cells_agg, kLoad_box, kGd_true, kGd_false, kCall_ok, gt_iff_lt, ge_iff_le, Int.ofNat_lt, Int.ofNat_le, decide_true, decide_false, Nat.zero_add, Bool.not_true, Bool.not_false, aExtract_tup, fin1_some, resL_nil, resL_some, noRefL_cons, noRefL_nil, noRef_int, noRef_str, noRef_bool, noRef_nilp, noRef_agg, strip_fn, kLoad_ref, Bool.and_self, ite_true, h0, h5, h28, h29, h30, c, e0, load3', alloc48, store48, load48, load48a, st48_0, st48_1, st48_2, len9, w0, w1, w2, w3, w4, q1, q2, q3, q4, q5, z0, z1, z2, z3, st1, st2, l1, l2, hw, kLoad_ref, d9_11']
    exact q6 n (by omega) m (by omega) n' _ _ (by simp [upds_at, upd_at]) (by simp [upds_at, upd_at]) (by simp [upds_at, upd_at, h28]) (by simp [upds_at, upd_at, h29]) (by simp [upds_at, upd_at])

theorem Sequence_run (s0 : List UInt8) (v : AV) (xs : List EdF.Ed) (hv : EdF.IsE v xs) : AC C 9 [.str s0, v] (.bool true) := by
  refine .intro en9 (by simp [noRefL_cons, noRefL_nil, noRef_str, hv.noRef]) rfl ?_
  have hl : (s0.take 200).length ≤ 200 := by simp; omega
  obtain ⟨N1, q1⟩ := AC.at ex_run
  obtain ⟨N2, q2⟩ := AC.at (short_run s0 200)
  generalize s0.take 200 = src at *
  obtain ⟨N3, q3⟩ := AC.at (tok_run src)
  unfold tokR at q3
  rw [if_neg (by omega)] at q3
  have hva := accV_strip (tokz src)
  obtain ⟨u, hu1, hu2⟩ := takeE hv (i := min xs.length 6) (by omega)
  have hle : (xs.take (min xs.length 6)).length ≤ 6 := by simp; omega
  obtain ⟨N4, q4⟩ := seq_loop u _ hu2 hle _ 0 src _ rfl (by omega) (by omega) hva
  have st1 := hv.strip
  have st2 := hva.strip
  have st3 := hu2.strip
  have l1 := hv.len
  have l2 := hu2.len
  have e1 : (if (6 : Int) < (xs.length : Int) then (6 : Int) else (xs.length : Int)) = ((min xs.length 6 : Nat) : Int) := by split <;> omega
  generalize (accV (tokz src)).strip = va at *
  generalize xs.take (min xs.length 6) = ys at *
  refine ⟨max N1 (max N2 (max N3 (max N4 8))), fun n hn => ?_⟩
  simp only [Nat.max_le] at hn
  have q1 := q1 n (by omega)
  have q2 : ∀ s, aCall Tryd.prog (den C n) 12 [.str s0, .int .i64 200] s = _ := q2 n (by omega)
  have q3 := q3 n (by omega)
  have z0 : ((0 : Int) != 0) = false := rfl
  rw [F9_eq, F9]
  simp -implicitDefEqProofs only [oh_some, mp_some, sto_some, br_true, br_false, gd_true, gd_false, wA_tt, wA_tup, wA_ft, wA_tf, wA_ff, aNilCheck_box, aNilCheck_ref, aAddr_box, aAddr_ref, aLoad_one, List.getElem?_cons_succ, List.getElem?_cons_zero, Option.map_some, bin_add, bin_sub, bin_lss, bin_leq, bin_gtr, bin_geq, bin_eql, bin_neq, str_eql, aMax_int, aMin_int, aUn_not, aPick_true, aPick_false, strip_int, strip_bool, strip_str, strip_nilp, strip_nils, strip_box, strip_ref, strip_agg, strip_tup, strip_undef, aBox_f, solid_agg, cells_agg, kLoad_box, kGd_true, kGd_false, kCall_ok, gt_iff_lt, ge_iff_le, Int.ofNat_lt, Int.ofNat_le, decide_true, decide_false, Nat.zero_add, Bool.not_true, Bool.not_false, aExtract_tup, fin1_some, resL_nil, resL_some, noRefL_cons, noRefL_nil, noRef_int, noRef_str, noRef_bool, noRef_nilp, noRef_agg, strip_fn, kLoad_ref, Bool.and_self, ite_true, q1, q2, q3, z0, st1, st2, st3, l1, l2, e1, hu1]
  exact q4 n (by omega) n (by omega) n _ _ (by simp [upds_at, upd_at]) (by simp [upds_at, upd_at]) (by simp [upds_at, upd_at]) (by simp [upds_at, upd_at]) (by simp [upds_at, upd_at])
end LexF

