/- The position package, in the abstract machine. -/
import Derived.Test.YtionohfkjdahlaaDoorPosF
import Derived.Test.YtionohfkjdahlaaDoorPosT
set_option linter.all false
set_option maxRecDepth 100000
namespace PosF
open Go Go.Abs Go.Proofs

abbrev I (n : Int) : AV := .int .i64 n
theorem AC.at {g : FuncId} {args : List AV} {v : AV} (h : AC C g args v) : ∃ N, ∀ n, N ≤ n → ∀ s, aCall Tryd.prog (den C n) g args s = some (v, s) := h
theorem wadd1 {a : Nat} (h : a < 2000000000) : IntKind.i64.wrap ((a : Int) + 1) = ((a + 1 : Nat) : Int) := by rw [wrap64] <;> omega
theorem wadd {a b : Nat} (h : a + b < 2000000000) : IntKind.i64.wrap ((a : Int) + (b : Int)) = ((a + b : Nat) : Int) := by rw [wrap64] <;> omega
theorem under9 : Tryd.prog.underlying 9 = some .string := by kernel_rfl
theorem len9 (s : List UInt8) : aLen Tryd.prog 9 (.str s) = some (I s.length) := by
  simp [aLen, under9]
theorem subTake {s : List UInt8} {i : Int} (h0 : 0 ≤ i) (h1 : i ≤ s.length) : aSl Tryd.prog 9 (.str s) none (some (I i)) none = some (.str (s.take i.toNat)) := by
  simp [aSl, under9, aSubstr, aBound, h0, h1]
theorem subDrop {s : List UInt8} {i : Int} (h0 : 0 ≤ i) (h1 : i ≤ s.length) : aSl Tryd.prog 9 (.str s) (some (I i)) none none = some (.str (s.drop i.toNat)) := by
  simp [aSl, under9, aSubstr, aBound, h0, h1]
theorem idx9 {s : List UInt8} {i : Nat} {x : UInt8} (h : s[i]? = some x) : aIndex Tryd.prog 9 (.str s) (I i) = some (.int .u8 x.toNat) := by
  simp [aIndex, under9, h]
theorem minNat (a b : Nat) : (if (b : Int) < (a : Int) then (b : Int) else (a : Int)) = ((min a b : Nat) : Int) := by split <;> omega
theorem callV (D : Den) (g : FuncId) (a : AV) (s : Heap) : aCallV Tryd.prog D (.fn g [] []) [a] s = aCall Tryd.prog D g [a.strip] s := rfl
theorem kcallV (g : FuncId) (a : AV) (h : a.strip.noRef = true) : kCallV (.fn g [] []) [a] = .silent := by
  simp [kCallV, noRefL_cons, noRefL_nil, h]

theorem short_run (s : List UInt8) (k : Nat) : AC C 12 [.str s, I k] (.str (s.take k)) := by
  refine .intro en12 (by simp [noRefL_cons, noRefL_nil, noRef_str, noRef_int]) (by rfl) ⟨0, fun n hn => ⟨[], ?_⟩⟩
  have e1 := subTake (s := s) (i := ((min s.length k : Nat) : Int)) (by omega) (by omega)
  rw [Int.toNat_natCast] at e1
  have e2 : s.take (min s.length k) = s.take k := by
    rw [Nat.min_def]; split
    · rw [List.take_of_length_le (Nat.le_refl _), List.take_of_length_le (by assumption)]
    · rfl
  have e : (if k < s.length then (k : Int) else (s.length : Int)) = ((min s.length k : Nat) : Int) := by split <;> omega
  rw [F12_eq, F12]
  simp -implicitDefEqProofs only [oh_some, mp_some, sto_some, br_true, br_false, gd_true, gd_false, wA_tt, wA_tup, wA_ft, wA_tf, wA_ff, aNilCheck_box, aNilCheck_ref, aAddr_box, aAddr_ref, aLoad_one, List.getElem?_cons_succ, List.getElem?_cons_zero, Option.map_some, bin_add, bin_sub, bin_lss, bin_leq, bin_gtr, bin_geq, bin_eql, bin_neq, str_eql, aMax_int, aMin_int, aUn_not, aPick_true, aPick_false, strip_int, strip_bool, strip_str, strip_nilp, strip_nils, strip_box, strip_ref, strip_agg, strip_tup, strip_undef, aBox_f, solid_agg, cells_agg, kLoad_box, kGd_true, kGd_false, kCall_ok, gt_iff_lt, ge_iff_le, Int.ofNat_lt, Int.ofNat_le, decide_true, decide_false, Nat.zero_add, Bool.not_true, Bool.not_false, aExtract_tup, fin1_some, resL_nil, resL_some, noRefL_cons, noRefL_nil, noRef_int, noRef_str, noRef_bool, noRef_nilp, noRef_agg, strip_fn, kLoad_ref, Bool.and_self, ite_true, len9, e, e1, e2]

theorem count_run (a : List UInt8) : AC C 37 [.str a, .str [10]] (I (Lib.countByte a 10)) :=
  .intro (by kernel_rfl) rfl rfl ⟨0, fun n _ => ⟨[], by rw [den_ext (e := eCount) (by rfl)]; rfl⟩⟩
theorem last_run (a : List UInt8) (h : a.length < 1000000000) : AC C 38 [.str a, .int .u8 10] (I (lastNL a)) :=
  .intro (by kernel_rfl) rfl rfl ⟨0, fun n _ => ⟨[], by rw [den_ext (e := eLast) (by rfl)]; simp [eLast, h, lastNL]⟩⟩
theorem dec_run (a : List UInt8) : AC C 39 [.str a] (.tup [.int .i32 (dec a).1, I (dec a).2]) :=
  .intro (by kernel_rfl) rfl rfl ⟨0, fun n _ => ⟨[], by rw [den_ext (e := eDecode) (by rfl)]; rfl⟩⟩

/-- Which function measures a code point. -/
def wf (u : Bool) : FuncId := if u then 27 else 29
theorem wid_run (u : Bool) (r : Nat) : AC C (wf u) [.int .i32 r] (I (wid u r)) := by
  cases u with
  | true =>
    refine .intro en27 rfl rfl ⟨0, fun n hn => ⟨[], ?_⟩⟩
    show den C (n + 1) 27 _ _ = _
    rw [F27_eq, F27]
    by_cases h : 65535 < r
    · have h' : ((65535 : Int) < (r : Int)) := by omega
      simp -implicitDefEqProofs only [oh_some, mp_some, sto_some, br_true, br_false, gd_true, gd_false, wA_tt, wA_tup, wA_ft, wA_tf, wA_ff, aNilCheck_box, aNilCheck_ref, aAddr_box, aAddr_ref, aLoad_one, List.getElem?_cons_succ, List.getElem?_cons_zero, Option.map_some, bin_add, bin_sub, bin_lss, bin_leq, bin_gtr, bin_geq, bin_eql, bin_neq, str_eql, aMax_int, aMin_int, aUn_not, aPick_true, aPick_false, strip_int, strip_bool, strip_str, strip_nilp, strip_nils, strip_box, strip_ref, strip_agg, strip_tup, strip_undef, aBox_f, solid_agg, cells_agg, kLoad_box, kGd_true, kGd_false, kCall_ok, gt_iff_lt, ge_iff_le, Int.ofNat_lt, Int.ofNat_le, decide_true, decide_false, Nat.zero_add, Bool.not_true, Bool.not_false, aExtract_tup, fin1_some, resL_nil, resL_some, noRefL_cons, noRefL_nil, noRef_int, noRef_str, noRef_bool, noRef_nilp, noRef_agg, strip_fn, kLoad_ref, Bool.and_self, ite_true, h', wid, h, true_and, ite_true]
      rfl
    · have h' : ¬ ((65535 : Int) < (r : Int)) := by omega
      simp -implicitDefEqProofs only [oh_some, mp_some, sto_some, br_true, br_false, gd_true, gd_false, wA_tt, wA_tup, wA_ft, wA_tf, wA_ff, aNilCheck_box, aNilCheck_ref, aAddr_box, aAddr_ref, aLoad_one, List.getElem?_cons_succ, List.getElem?_cons_zero, Option.map_some, bin_add, bin_sub, bin_lss, bin_leq, bin_gtr, bin_geq, bin_eql, bin_neq, str_eql, aMax_int, aMin_int, aUn_not, aPick_true, aPick_false, strip_int, strip_bool, strip_str, strip_nilp, strip_nils, strip_box, strip_ref, strip_agg, strip_tup, strip_undef, aBox_f, solid_agg, cells_agg, kLoad_box, kGd_true, kGd_false, kCall_ok, gt_iff_lt, ge_iff_le, Int.ofNat_lt, Int.ofNat_le, decide_true, decide_false, Nat.zero_add, Bool.not_true, Bool.not_false, aExtract_tup, fin1_some, resL_nil, resL_some, noRefL_cons, noRefL_nil, noRef_int, noRef_str, noRef_bool, noRef_nilp, noRef_agg, strip_fn, kLoad_ref, Bool.and_self, ite_true, h', wid, h, and_false, ite_false]
      rfl
  | false =>
    refine .intro en29 rfl rfl ⟨0, fun n hn => ⟨[], ?_⟩⟩
    show den C (n + 1) 29 _ _ = _
    rw [F29_eq, F29]
    simp -implicitDefEqProofs only [oh_some, mp_some, sto_some, br_true, br_false, gd_true, gd_false, wA_tt, wA_tup, wA_ft, wA_tf, wA_ff, aNilCheck_box, aNilCheck_ref, aAddr_box, aAddr_ref, aLoad_one, List.getElem?_cons_succ, List.getElem?_cons_zero, Option.map_some, bin_add, bin_sub, bin_lss, bin_leq, bin_gtr, bin_geq, bin_eql, bin_neq, str_eql, aMax_int, aMin_int, aUn_not, aPick_true, aPick_false, strip_int, strip_bool, strip_str, strip_nilp, strip_nils, strip_box, strip_ref, strip_agg, strip_tup, strip_undef, aBox_f, solid_agg, cells_agg, kLoad_box, kGd_true, kGd_false, kCall_ok, gt_iff_lt, ge_iff_le, Int.ofNat_lt, Int.ofNat_le, decide_true, decide_false, Nat.zero_add, Bool.not_true, Bool.not_false, aExtract_tup, fin1_some, resL_nil, resL_some, noRefL_cons, noRefL_nil, noRef_int, noRef_str, noRef_bool, noRef_nilp, noRef_agg, strip_fn, kLoad_ref, Bool.and_self, ite_true, wid, Bool.false_eq_true, false_and, ite_false]
    rfl

abbrev ints (zs : List Nat) : List AV := zs.map fun (z : Nat) => I z
theorem under30 : Tryd.prog.underlying 30 = some (.slice 3) := by kernel_rfl
theorem sz3 : szOf Tryd.prog 3 = some 1 := by kernel_rfl
theorem idx30 {xs : List Nat} {i x : Nat} {f : Flag} (h : xs[i]? = some x) : aIndexAddr Tryd.prog 30 (.sl 3 1 (ints xs) f) (I i) = some (.box [I x] 0) := by
  simp [aIndexAddr, under30, sz3, h, AV.cells]
theorem len30 (xs : List Nat) (f : Flag) : aLen Tryd.prog 30 (.sl 3 1 (ints xs) f) = some (I xs.length) := by
  simp [aLen, under30]
theorem info3' : ((Tryd.prog.info? 3).map fun i => (i.size, i.bytes, i.zero.map fun z => z.cells.size)) = some (1, 8, some 1) := by kernel_rfl
theorem info3 : ∃ i, Tryd.prog.info? 3 = some i ∧ i.size = 1 ∧ i.bytes = 8 ∧ ∃ z, i.zero = some z ∧ z.cells.size = 1 := by
  have h := info3'
  rw [Option.map_eq_some_iff] at h
  obtain ⟨i, h1, h2⟩ := h
  simp only [Prod.mk.injEq, Option.map_eq_some_iff] at h2
  exact ⟨i, h1, h2.1, h2.2.1, h2.2.2⟩
theorem app30 (xs : List Nat) (x : Nat) (f : Flag) (h : xs.length < 1000000000) (hx : xs ≠ []) : aAppend Tryd.prog 30 30 (.sl 3 1 (ints xs) .own) (.sl 3 1 [I x] f) = some (.sl 3 1 (ints (xs ++ [x])) .own) := by
  obtain ⟨i, h1, h2, h3, z, h4, h5⟩ := info3
  unfold aAppend
  rw [under30]
  simp only [h1, h2, srcOf, if_true, h4, h5, ne_eq, not_true, if_false, h3]
  simp only [ints, List.length_map, List.length_cons, List.length_nil, List.map_append, List.map_cons, List.map_nil] at *
  rw [if_pos ⟨trivial, trivial, by omega, by omega⟩]
theorem bs30 (x : Nat) : ∃ f, aBuildSlice Tryd.prog 30 1 [(0, I x)] = some (.sl 3 1 [I x] f) := ⟨.own, by kernel_rfl⟩
theorem bs30z : aBuildSlice Tryd.prog 30 1 [(0, I 0)] = some (.sl 3 1 (ints [0]) .own) := by kernel_rfl
theorem strip_ints (xs : List Nat) : (AV.sl 3 1 (ints xs) .own).strip = .sl 3 1 (ints xs) .sh := rfl
theorem ints_noRef (xs : List Nat) : noRefL (ints xs) = true := by induction xs with
  | nil => rfl
  | cons x xs ih => show noRefL (I x :: ints xs) = true; rw [noRefL_cons, ih]; rfl

theorem lines_loop (src : List UInt8) (hs : src.length < 100000000) : ∀ (k i : Nat) (acc : List Nat), src.length - i = k → i ≤ src.length → acc ≠ [] → acc.length ≤ i + 1 →
    ∀ D m, k < m → ∀ n' e s, e 8 = I i → e 7 = I src.length → e 3 = .sl 3 1 (ints acc) .own → e 0 = .str src → aLoop (F14_L0 D n') m e s = some (.sl 3 1 (ints (acc ++ lsFrom (src.drop i) i)) .sh, s) := by
  intro k
  induction k with
  | zero =>
    intro i acc hk hi ha hl D m hm n' e s h8 h7 h3 h0
    obtain ⟨m, rfl⟩ : ∃ j, m = j + 1 := ⟨m - 1, by omega⟩
    have c : ¬ i < src.length := by omega
    rw [aLoop, F14_L0, List.drop_of_length_le (by omega), lsFrom, List.append_nil]
    simp -implicitDefEqProofs only [oh_some, mp_some, sto_some, br_true, br_false, gd_true, gd_false, wA_tt, wA_tup, wA_ft, wA_tf, wA_ff, aNilCheck_box, aNilCheck_ref, aAddr_box, aAddr_ref, aLoad_one, List.getElem?_cons_succ, List.getElem?_cons_zero, Option.map_some, bin_add, bin_sub, bin_lss, bin_leq, bin_gtr, bin_geq, bin_eql, bin_neq, str_eql, aMax_int, aMin_int, aUn_not, aPick_true, aPick_false, strip_int, strip_bool, strip_str, strip_nilp, strip_nils, strip_box, strip_ref, strip_agg, strip_tup, strip_undef, aBox_f, solid_agg, cells_agg, kLoad_box, kGd_true, kGd_false, kCall_ok, gt_iff_lt, ge_iff_le, Int.ofNat_lt, Int.ofNat_le, decide_true, decide_false, Nat.zero_add, Bool.not_true, Bool.not_false, aExtract_tup, fin1_some, resL_nil, resL_some, noRefL_cons, noRefL_nil, noRef_int, noRef_str, noRef_bool, noRef_nilp, noRef_agg, strip_fn, kLoad_ref, Bool.and_self, ite_true, h8, h7, h3, h0, c, strip_ints, strip_sh]
  | succ k ih =>
    intro i acc hk hi ha hl D m hm n' e s h8 h7 h3 h0
    obtain ⟨m, rfl⟩ : ∃ j, m = j + 1 := ⟨m - 1, by omega⟩
    have hlt : i < src.length := by omega
    have e0 : src[i]? = some src[i] := List.getElem?_eq_getElem hlt
    have e1 := idx9 e0
    have e2 := wadd1 (a := i) (by omega)
    rw [aLoop, F14_L0, List.drop_eq_getElem_cons hlt, lsFrom]
    by_cases c : src[i] = 10
    · have c' : ((src[i].toNat : Int) == 10) = true := by rw [c]; rfl
      obtain ⟨f, e3⟩ := bs30 (i + 1)
      have e4 := app30 acc (i + 1) f (by omega) ha
      rw [if_pos c, ← List.singleton_append, ← List.append_assoc]
      simp -implicitDefEqProofs only [oh_some, mp_some, sto_some, br_true, br_false, gd_true, gd_false, wA_tt, wA_tup, wA_ft, wA_tf, wA_ff, aNilCheck_box, aNilCheck_ref, aAddr_box, aAddr_ref, aLoad_one, List.getElem?_cons_succ, List.getElem?_cons_zero, Option.map_some, bin_add, bin_sub, bin_lss, bin_leq, bin_gtr, bin_geq, bin_eql, bin_neq, str_eql, aMax_int, aMin_int, aUn_not, aPick_true, aPick_false, strip_int, strip_bool, strip_str, strip_nilp, strip_nils, strip_box, strip_ref, strip_agg, strip_tup, strip_undef, aBox_f, solid_agg, cells_agg, kLoad_box, kGd_true, kGd_false, kCall_ok, gt_iff_lt, ge_iff_le, Int.ofNat_lt, Int.ofNat_le, decide_true, decide_false, Nat.zero_add, Bool.not_true, Bool.not_false, aExtract_tup, fin1_some, resL_nil, resL_some, noRefL_cons, noRefL_nil, noRef_int, noRef_str, noRef_bool, noRef_nilp, noRef_agg, strip_fn, kLoad_ref, Bool.and_self, ite_true, h8, h7, h3, h0, hlt, e1, e2, e3, e4, c', F14_J1, upds_at, upds_nil, upd_at, Nat.reduceEqDiff, if_false, if_true]
      exact ih (i + 1) (acc ++ [i + 1]) (by omega) (by omega) (by simp) (by simp; omega) D m (by omega) n' _ s (by simp [upd_at]) (by simp [upd_at, h7]) (by simp [upd_at]) (by simp [upd_at, h0])
    · have c' : ((src[i].toNat : Int) == 10) = false := by
        refine beq_eq_false_iff_ne.2 fun h => c ?_
        apply UInt8.toNat_inj.1
        have : (10 : UInt8).toNat = 10 := rfl
        omega
      rw [if_neg c]
      simp -implicitDefEqProofs only [oh_some, mp_some, sto_some, br_true, br_false, gd_true, gd_false, wA_tt, wA_tup, wA_ft, wA_tf, wA_ff, aNilCheck_box, aNilCheck_ref, aAddr_box, aAddr_ref, aLoad_one, List.getElem?_cons_succ, List.getElem?_cons_zero, Option.map_some, bin_add, bin_sub, bin_lss, bin_leq, bin_gtr, bin_geq, bin_eql, bin_neq, str_eql, aMax_int, aMin_int, aUn_not, aPick_true, aPick_false, strip_int, strip_bool, strip_str, strip_nilp, strip_nils, strip_box, strip_ref, strip_agg, strip_tup, strip_undef, aBox_f, solid_agg, cells_agg, kLoad_box, kGd_true, kGd_false, kCall_ok, gt_iff_lt, ge_iff_le, Int.ofNat_lt, Int.ofNat_le, decide_true, decide_false, Nat.zero_add, Bool.not_true, Bool.not_false, aExtract_tup, fin1_some, resL_nil, resL_some, noRefL_cons, noRefL_nil, noRef_int, noRef_str, noRef_bool, noRef_nilp, noRef_agg, strip_fn, kLoad_ref, Bool.and_self, ite_true, h8, h7, h3, h0, hlt, e1, e2, c', F14_J1, upds_at, upds_nil, upd_at, Nat.reduceEqDiff, if_false, if_true]
      exact ih (i + 1) acc (by omega) (by omega) ha (by omega) D m (by omega) n' _ s (by simp [upd_at]) (by simp [upd_at, h7]) (by simp [upd_at, h3]) (by simp [upd_at, h0])

theorem lines_run (src : List UInt8) (hs : src.length < 100000000) : AC C 14 [.str src] (.sl 3 1 (ints (starts src)) .sh) := by
  refine .intro en14 rfl (by simp [noRef_sl, ints_noRef]) ⟨src.length + 1, fun n hn => ⟨[], ?_⟩⟩
  have q := lines_loop src hs src.length 0 [0] (by omega) (by omega) (by simp) (by simp) (den C n) n (by omega) n
  rw [F14_eq, F14]
  simp -implicitDefEqProofs only [oh_some, mp_some, sto_some, br_true, br_false, gd_true, gd_false, wA_tt, wA_tup, wA_ft, wA_tf, wA_ff, aNilCheck_box, aNilCheck_ref, aAddr_box, aAddr_ref, aLoad_one, List.getElem?_cons_succ, List.getElem?_cons_zero, Option.map_some, bin_add, bin_sub, bin_lss, bin_leq, bin_gtr, bin_geq, bin_eql, bin_neq, str_eql, aMax_int, aMin_int, aUn_not, aPick_true, aPick_false, strip_int, strip_bool, strip_str, strip_nilp, strip_nils, strip_box, strip_ref, strip_agg, strip_tup, strip_undef, aBox_f, solid_agg, cells_agg, kLoad_box, kGd_true, kGd_false, kCall_ok, gt_iff_lt, ge_iff_le, Int.ofNat_lt, Int.ofNat_le, decide_true, decide_false, Nat.zero_add, Bool.not_true, Bool.not_false, aExtract_tup, fin1_some, resL_nil, resL_some, noRefL_cons, noRefL_nil, noRef_int, noRef_str, noRef_bool, noRef_nilp, noRef_agg, strip_fn, kLoad_ref, Bool.and_self, ite_true, bs30z, len9]
  exact q _ _ (by simp [upds_at, upd_at]) (by simp [upds_at, upd_at]) (by simp [upds_at, upd_at]) (by simp [upds_at, upd_at, argEnv])

/-! ### From an offset to a position -/

theorem alloc25 (s : Heap) : aAlloc Tryd.prog 25 s = some (.ref s.length 0, s ++ [(25, [I 0, I 0])]) := by kernel_rfl
theorem build25z : aBuild Tryd.prog 25 [] = some (.agg [I 0, I 0]) := by kernel_rfl
theorem build25 (a : Int) : aBuild Tryd.prog 25 [(0, I a)] = some (.agg [I a, I 0]) := by kernel_rfl
theorem build25' (a b : Int) : aBuild Tryd.prog 25 [(0, I a), (1, I b)] = some (.agg [I a, I b]) := by kernel_rfl
theorem store2' (a b c d : AV) (l : Heap) : aStore 2 ((25, [a, b]) :: l) (.ref 0 0) (.agg [c, d]) = some ((25, [c.strip, d.strip]) :: l) := by
  simp [aStore, AV.solid, AV.cells, setL, stCells]
theorem store2b (x : TypeId × List AV) (a b c d : AV) : aStore 2 [x, (25, [a, b])] (.ref 1 0) (.agg [c, d]) = some [x, (25, [c.strip, d.strip])] := by
  simp [aStore, AV.solid, AV.cells, setL, stCells]
theorem store1b (x : TypeId × List AV) (a b : AV) (c : Int) : aStore 1 [x, (25, [a, b])] (.ref 1 1) (I c) = some [x, (25, [a, I c])] := by
  simp [aStore, AV.solid, AV.cells, setL, stCells, AV.strip]
theorem load2a (a b : AV) (l : Heap) : aLoad false true 2 (.ref 0 0) ((25, [a, b]) :: l) = some (.agg [a, b], (25, [a, b]) :: l) := by
  simp [aLoad, aLoadR, aLoadC]
theorem load2b (x : TypeId × List AV) (a b : AV) : aLoad false true 2 (.ref 1 0) [x, (25, [a, b])] = some (.agg [a, b], [x, (25, [a, b])]) := by
  simp [aLoad, aLoadR, aLoadC]
theorem load1b (x : TypeId × List AV) (a : AV) (b : Int) : aLoad false false 1 (.ref 1 1) [x, (25, [a, I b])] = some (I b, [x, (25, [a, I b])]) := by
  simp [aLoad, aLoadR, aLoadC]
theorem d26_8' (x : Ans) : drawOK C 26 (regOps Tryd.f26 8) [.silent, .reader, .silent, .silent, .silent, .silent, .silent, .writer] x = x := drawOK_ok (by kernel_rfl)

def posV (x : Nat × Nat × Nat) : AV := .tup [.agg [I x.1, I x.2.1], I x.2.2]

theorem pos_loop (u : Bool) (src : List UInt8) (hs : src.length < 1000) (off : Nat) (ho : off ≤ src.length) (ln : Nat) : ∀ (k i c : Nat), off - i ≤ k → i ≤ off + 4 → c ≤ 2 * i →
    ∃ N, ∀ n, N ≤ n → ∀ m, k < m → ∀ n' e, e 9 = I i → e 1 = I off → e 0 = .str src → e 2 = .fn (wf u) [] [] → e 8 = .ref 1 0 → e 6 = .ref 0 0 →
    ∃ s', aLoop (F26_L0 (den C n) n') m e [(25, [I 0, I 0]), (25, [I ln, I c])] = some (posV (if off < (go u src off k i c).1 then (0, 0, 3) else (ln, (go u src off k i c).2, 0)), s') := by
  intro k
  induction k with
  | zero =>
    intro i c hk hi hc
    refine ⟨0, fun n hn m hm n' e h9 h1 h0 h2 h8 h6 => ?_⟩
    obtain ⟨m, rfl⟩ : ∃ j, m = j + 1 := ⟨m - 1, by omega⟩
    have c1 : ¬ i < off := by omega
    rw [aLoop, F26_L0, go]
    by_cases c2 : off < i
    · rw [if_pos c2]
      refine ⟨[(25, [I 0, I 0]), (25, [I ln, I c])], ?_⟩
      simp -implicitDefEqProofs only [oh_some, mp_some, sto_some, br_true, br_false, gd_true, gd_false, wA_tt, wA_tup, wA_ft, wA_tf, wA_ff, aNilCheck_box, aNilCheck_ref, aAddr_box, aAddr_ref, aLoad_one, List.getElem?_cons_succ, List.getElem?_cons_zero, Option.map_some, bin_add, bin_sub, bin_lss, bin_leq, bin_gtr, bin_geq, bin_eql, bin_neq, str_eql, aMax_int, aMin_int, aUn_not, aPick_true, aPick_false, strip_int, strip_bool, strip_str, strip_nilp, strip_nils, strip_box, strip_ref, strip_agg, strip_tup, strip_undef, aBox_f, solid_agg, cells_agg, kLoad_box, kGd_true, kGd_false, kCall_ok, gt_iff_lt, ge_iff_le, Int.ofNat_lt, Int.ofNat_le, decide_true, decide_false, Nat.zero_add, Bool.not_true, Bool.not_false, aExtract_tup, fin1_some, resL_nil, resL_some, noRefL_cons, noRefL_nil, noRef_int, noRef_str, noRef_bool, noRef_nilp, noRef_agg, strip_fn, kLoad_ref, Bool.and_self, ite_true, h9, h1, h0, h2, h8, h6, c1, c2, build25z, store2', load2a, posV, Int.natCast_zero]
      rfl
    · rw [if_neg c2]
      refine ⟨[(25, [I ln, I c]), (25, [I ln, I c])], ?_⟩
      simp -implicitDefEqProofs only [oh_some, mp_some, sto_some, br_true, br_false, gd_true, gd_false, wA_tt, wA_tup, wA_ft, wA_tf, wA_ff, aNilCheck_box, aNilCheck_ref, aAddr_box, aAddr_ref, aLoad_one, List.getElem?_cons_succ, List.getElem?_cons_zero, Option.map_some, bin_add, bin_sub, bin_lss, bin_leq, bin_gtr, bin_geq, bin_eql, bin_neq, str_eql, aMax_int, aMin_int, aUn_not, aPick_true, aPick_false, strip_int, strip_bool, strip_str, strip_nilp, strip_nils, strip_box, strip_ref, strip_agg, strip_tup, strip_undef, aBox_f, solid_agg, cells_agg, kLoad_box, kGd_true, kGd_false, kCall_ok, gt_iff_lt, ge_iff_le, Int.ofNat_lt, Int.ofNat_le, decide_true, decide_false, Nat.zero_add, Bool.not_true, Bool.not_false, aExtract_tup, fin1_some, resL_nil, resL_some, noRefL_cons, noRefL_nil, noRef_int, noRef_str, noRef_bool, noRef_nilp, noRef_agg, strip_fn, kLoad_ref, Bool.and_self, ite_true, h9, h1, h0, h2, h8, h6, c1, c2, load2b, store2', load2a, posV, Int.natCast_zero]
  | succ k ih =>
    intro i c hk hi hc
    by_cases c1 : i < off
    · have hb := dec_bounds (src.drop i) (drop_ne (by omega))
      have hw := wid_bounds u (dec (src.drop i)).1
      obtain ⟨N1, q1⟩ := AC.at (dec_run (src.drop i))
      obtain ⟨N2, q2⟩ := AC.at (wid_run u (dec (src.drop i)).1)
      rw [go, if_pos c1]
      generalize (dec (src.drop i)).1 = r at *
      generalize (dec (src.drop i)).2 = z at *
      obtain ⟨N3, q3⟩ := ih (i + z) (c + wid u r) (by omega) (by omega) (by omega)
      refine ⟨max N1 (max N2 N3), fun n hn m hm n' e h9 h1 h0 h2 h8 h6 => ?_⟩
      obtain ⟨m, rfl⟩ : ∃ j, m = j + 1 := ⟨m - 1, by omega⟩
      have q1 := q1 n (by omega)
      have q2 := q2 n (by omega)
      have e1 := subDrop (s := src) (i := (i : Int)) (by omega) (by omega)
      rw [Int.toNat_natCast] at e1
      have e2 := wadd (a := i) (b := z) (by omega)
      have e3 := wadd (a := c) (b := wid u r) (by omega)
      rw [aLoop, F26_L0]
      simp -implicitDefEqProofs only [oh_some, mp_some, sto_some, br_true, br_false, gd_true, gd_false, wA_tt, wA_tup, wA_ft, wA_tf, wA_ff, aNilCheck_box, aNilCheck_ref, aAddr_box, aAddr_ref, aLoad_one, List.getElem?_cons_succ, List.getElem?_cons_zero, Option.map_some, bin_add, bin_sub, bin_lss, bin_leq, bin_gtr, bin_geq, bin_eql, bin_neq, str_eql, aMax_int, aMin_int, aUn_not, aPick_true, aPick_false, strip_int, strip_bool, strip_str, strip_nilp, strip_nils, strip_box, strip_ref, strip_agg, strip_tup, strip_undef, aBox_f, solid_agg, cells_agg, kLoad_box, kGd_true, kGd_false, kCall_ok, gt_iff_lt, ge_iff_le, Int.ofNat_lt, Int.ofNat_le, decide_true, decide_false, Nat.zero_add, Bool.not_true, Bool.not_false, aExtract_tup, fin1_some, resL_nil, resL_some, noRefL_cons, noRefL_nil, noRef_int, noRef_str, noRef_bool, noRef_nilp, noRef_agg, strip_fn, kLoad_ref, Bool.and_self, ite_true, h9, h1, h0, h2, h8, h6, c1, e1, q1, q2, e2, e3, callV, kcallV, load1b, store1b, d26_8']
      exact q3 n (by omega) m (by omega) n' _ (by simp [upds_at, upd_at]) (by simp [upds_at, upd_at, h1]) (by simp [upds_at, upd_at, h0]) (by simp [upds_at, upd_at, h2]) (by simp [upds_at, upd_at, h8]) (by simp [upds_at, upd_at, h6])
    · refine ⟨0, fun n hn m hm n' e h9 h1 h0 h2 h8 h6 => ?_⟩
      obtain ⟨m, rfl⟩ : ∃ j, m = j + 1 := ⟨m - 1, by omega⟩
      rw [aLoop, F26_L0, go, if_neg c1]
      by_cases c2 : off < i
      · rw [if_pos c2]
        refine ⟨[(25, [I 0, I 0]), (25, [I ln, I c])], ?_⟩
        simp -implicitDefEqProofs only [oh_some, mp_some, sto_some, br_true, br_false, gd_true, gd_false, wA_tt, wA_tup, wA_ft, wA_tf, wA_ff, aNilCheck_box, aNilCheck_ref, aAddr_box, aAddr_ref, aLoad_one, List.getElem?_cons_succ, List.getElem?_cons_zero, Option.map_some, bin_add, bin_sub, bin_lss, bin_leq, bin_gtr, bin_geq, bin_eql, bin_neq, str_eql, aMax_int, aMin_int, aUn_not, aPick_true, aPick_false, strip_int, strip_bool, strip_str, strip_nilp, strip_nils, strip_box, strip_ref, strip_agg, strip_tup, strip_undef, aBox_f, solid_agg, cells_agg, kLoad_box, kGd_true, kGd_false, kCall_ok, gt_iff_lt, ge_iff_le, Int.ofNat_lt, Int.ofNat_le, decide_true, decide_false, Nat.zero_add, Bool.not_true, Bool.not_false, aExtract_tup, fin1_some, resL_nil, resL_some, noRefL_cons, noRefL_nil, noRef_int, noRef_str, noRef_bool, noRef_nilp, noRef_agg, strip_fn, kLoad_ref, Bool.and_self, ite_true, h9, h1, h0, h2, h8, h6, c1, c2, build25z, store2', load2a, posV, Int.natCast_zero]
        rfl
      · rw [if_neg c2]
        refine ⟨[(25, [I ln, I c]), (25, [I ln, I c])], ?_⟩
        simp -implicitDefEqProofs only [oh_some, mp_some, sto_some, br_true, br_false, gd_true, gd_false, wA_tt, wA_tup, wA_ft, wA_tf, wA_ff, aNilCheck_box, aNilCheck_ref, aAddr_box, aAddr_ref, aLoad_one, List.getElem?_cons_succ, List.getElem?_cons_zero, Option.map_some, bin_add, bin_sub, bin_lss, bin_leq, bin_gtr, bin_geq, bin_eql, bin_neq, str_eql, aMax_int, aMin_int, aUn_not, aPick_true, aPick_false, strip_int, strip_bool, strip_str, strip_nilp, strip_nils, strip_box, strip_ref, strip_agg, strip_tup, strip_undef, aBox_f, solid_agg, cells_agg, kLoad_box, kGd_true, kGd_false, kCall_ok, gt_iff_lt, ge_iff_le, Int.ofNat_lt, Int.ofNat_le, decide_true, decide_false, Nat.zero_add, Bool.not_true, Bool.not_false, aExtract_tup, fin1_some, resL_nil, resL_some, noRefL_cons, noRefL_nil, noRef_int, noRef_str, noRef_bool, noRef_nilp, noRef_agg, strip_fn, kLoad_ref, Bool.and_self, ite_true, h9, h1, h0, h2, h8, h6, c1, c2, load2b, store2', load2a, posV, Int.natCast_zero]

theorem posV_noRef (x : Nat × Nat × Nat) : (posV x).noRef = true := by simp [posV, noRef_tup, noRefL_cons, noRefL_nil, noRef_agg, noRef_int]

theorem toPos_run (u : Bool) (src : List UInt8) (hs : src.length < 1000) (off : Int) : AC C 26 [.str src, I off, .fn (wf u) [] []] (posV (toPos u src off)) := by
  refine .intro en26 (by simp [noRefL_cons, noRefL_nil, noRef_str, noRef_int, AV.noRef]) (posV_noRef _) ?_
  unfold toPos
  by_cases c1 : off < 0
  · rw [if_pos (.inl c1)]
    refine ⟨0, fun n hn => ⟨[(25, [I 0, I 0])], ?_⟩⟩
    rw [F26_eq, F26]
    simp -implicitDefEqProofs only [oh_some, mp_some, sto_some, br_true, br_false, gd_true, gd_false, wA_tt, wA_tup, wA_ft, wA_tf, wA_ff, aNilCheck_box, aNilCheck_ref, aAddr_box, aAddr_ref, aLoad_one, List.getElem?_cons_succ, List.getElem?_cons_zero, Option.map_some, bin_add, bin_sub, bin_lss, bin_leq, bin_gtr, bin_geq, bin_eql, bin_neq, str_eql, aMax_int, aMin_int, aUn_not, aPick_true, aPick_false, strip_int, strip_bool, strip_str, strip_nilp, strip_nils, strip_box, strip_ref, strip_agg, strip_tup, strip_undef, aBox_f, solid_agg, cells_agg, kLoad_box, kGd_true, kGd_false, kCall_ok, gt_iff_lt, ge_iff_le, Int.ofNat_lt, Int.ofNat_le, decide_true, decide_false, Nat.zero_add, Bool.not_true, Bool.not_false, aExtract_tup, fin1_some, resL_nil, resL_some, noRefL_cons, noRefL_nil, noRef_int, noRef_str, noRef_bool, noRef_nilp, noRef_agg, strip_fn, kLoad_ref, Bool.and_self, ite_true, c1, alloc25, List.length_nil, List.nil_append, build25z, store2', load2a, posV, Int.natCast_zero]
    rfl
  · by_cases c2 : (src.length : Int) < off
    · rw [if_pos (.inr c2)]
      refine ⟨0, fun n hn => ⟨[(25, [I 0, I 0])], ?_⟩⟩
      rw [F26_eq, F26]
      simp -implicitDefEqProofs only [oh_some, mp_some, sto_some, br_true, br_false, gd_true, gd_false, wA_tt, wA_tup, wA_ft, wA_tf, wA_ff, aNilCheck_box, aNilCheck_ref, aAddr_box, aAddr_ref, aLoad_one, List.getElem?_cons_succ, List.getElem?_cons_zero, Option.map_some, bin_add, bin_sub, bin_lss, bin_leq, bin_gtr, bin_geq, bin_eql, bin_neq, str_eql, aMax_int, aMin_int, aUn_not, aPick_true, aPick_false, strip_int, strip_bool, strip_str, strip_nilp, strip_nils, strip_box, strip_ref, strip_agg, strip_tup, strip_undef, aBox_f, solid_agg, cells_agg, kLoad_box, kGd_true, kGd_false, kCall_ok, gt_iff_lt, ge_iff_le, Int.ofNat_lt, Int.ofNat_le, decide_true, decide_false, Nat.zero_add, Bool.not_true, Bool.not_false, aExtract_tup, fin1_some, resL_nil, resL_some, noRefL_cons, noRefL_nil, noRef_int, noRef_str, noRef_bool, noRef_nilp, noRef_agg, strip_fn, kLoad_ref, Bool.and_self, ite_true, c1, c2, len9, alloc25, List.length_nil, List.nil_append, build25z, store2', load2a, posV, Int.natCast_zero]
      rfl
    · rw [if_neg (by omega)]
      obtain ⟨o, rfl⟩ : ∃ o : Nat, off = o := ⟨off.toNat, by omega⟩
      simp only [Int.toNat_natCast]
      have hst := start_le src o
      have e1 := subTake (s := src) (i := (o : Int)) (by omega) (by omega)
      rw [Int.toNat_natCast] at e1
      obtain ⟨N1, q1⟩ := AC.at (count_run (src.take o))
      obtain ⟨N2, q2⟩ := AC.at (last_run (src.take o) (by simp; omega))
      obtain ⟨N3, q3⟩ := pos_loop u src hs o (by omega) (line src o) o (start src o) 0 (by omega) (by omega) (by omega)
      refine ⟨max N1 (max N2 (max N3 (o + 1))), fun n hn => ?_⟩
      have q1 := q1 n (by omega)
      have q2 := q2 n (by omega)
      have hl : -1 ≤ lastNL (src.take o) := by rcases lastNL_spec (src.take o) with ⟨h, _⟩ | ⟨i, h, _⟩ <;> omega
      have hl2 : lastNL (src.take o) + 1 = (start src o : Int) := by unfold start; omega
      have e2 : IntKind.i64.wrap (lastNL (src.take o) + 1) = (start src o : Int) := by rw [hl2, wrap64] <;> omega
      rw [F26_eq, F26]
      simp -implicitDefEqProofs only [oh_some, mp_some, sto_some, br_true, br_false, gd_true, gd_false, wA_tt, wA_tup, wA_ft, wA_tf, wA_ff, aNilCheck_box, aNilCheck_ref, aAddr_box, aAddr_ref, aLoad_one, List.getElem?_cons_succ, List.getElem?_cons_zero, Option.map_some, bin_add, bin_sub, bin_lss, bin_leq, bin_gtr, bin_geq, bin_eql, bin_neq, str_eql, aMax_int, aMin_int, aUn_not, aPick_true, aPick_false, strip_int, strip_bool, strip_str, strip_nilp, strip_nils, strip_box, strip_ref, strip_agg, strip_tup, strip_undef, aBox_f, solid_agg, cells_agg, kLoad_box, kGd_true, kGd_false, kCall_ok, gt_iff_lt, ge_iff_le, Int.ofNat_lt, Int.ofNat_le, decide_true, decide_false, Nat.zero_add, Bool.not_true, Bool.not_false, aExtract_tup, fin1_some, resL_nil, resL_some, noRefL_cons, noRefL_nil, noRef_int, noRef_str, noRef_bool, noRef_nilp, noRef_agg, strip_fn, kLoad_ref, Bool.and_self, ite_true, c1, c2, len9, alloc25, List.length_nil, List.nil_append, List.length_cons, List.cons_append, e1, q1, q2, e2, build25, store2b]
      exact q3 n (by omega) n (by omega) n _ (by simp [upds_at, upd_at]) (by simp [upds_at, upd_at, argEnv]) (by simp [upds_at, upd_at, argEnv]) (by simp [upds_at, upd_at, argEnv]) (by simp [upds_at, upd_at]) (by simp [upds_at, upd_at])

theorem UPos_run (src : List UInt8) (hs : src.length < 1000) (off : Int) : AC C 13 [.str src, I off] (posV (toPos true src off)) := by
  refine .intro en13 (by simp [noRefL_cons, noRefL_nil, noRef_str, noRef_int]) (posV_noRef _) ?_
  obtain ⟨N, q⟩ := AC.at (toPos_run true src hs off)
  refine ⟨N, fun n hn => ⟨[(25, [I (toPos true src off).1, I (toPos true src off).2.1])], ?_⟩⟩
  have q : ∀ s, aCall Tryd.prog (den C n) 26 [.str src, .int .i64 off, .fn 27 [] []] s = _ := q n hn
  rw [F13_eq, F13]
  simp -implicitDefEqProofs only [oh_some, mp_some, sto_some, br_true, br_false, gd_true, gd_false, wA_tt, wA_tup, wA_ft, wA_tf, wA_ff, aNilCheck_box, aNilCheck_ref, aAddr_box, aAddr_ref, aLoad_one, List.getElem?_cons_succ, List.getElem?_cons_zero, Option.map_some, bin_add, bin_sub, bin_lss, bin_leq, bin_gtr, bin_geq, bin_eql, bin_neq, str_eql, aMax_int, aMin_int, aUn_not, aPick_true, aPick_false, strip_int, strip_bool, strip_str, strip_nilp, strip_nils, strip_box, strip_ref, strip_agg, strip_tup, strip_undef, aBox_f, solid_agg, cells_agg, kLoad_box, kGd_true, kGd_false, kCall_ok, gt_iff_lt, ge_iff_le, Int.ofNat_lt, Int.ofNat_le, decide_true, decide_false, Nat.zero_add, Bool.not_true, Bool.not_false, aExtract_tup, fin1_some, resL_nil, resL_some, noRefL_cons, noRefL_nil, noRef_int, noRef_str, noRef_bool, noRef_nilp, noRef_agg, strip_fn, kLoad_ref, Bool.and_self, ite_true, q, alloc25, List.length_nil, List.nil_append, posV, store2', load2a]
theorem RPos_run (src : List UInt8) (hs : src.length < 1000) (off : Int) : AC C 16 [.str src, I off] (posV (toPos false src off)) := by
  refine .intro en16 (by simp [noRefL_cons, noRefL_nil, noRef_str, noRef_int]) (posV_noRef _) ?_
  obtain ⟨N, q⟩ := AC.at (toPos_run false src hs off)
  refine ⟨N, fun n hn => ⟨[(25, [I (toPos false src off).1, I (toPos false src off).2.1])], ?_⟩⟩
  have q : ∀ s, aCall Tryd.prog (den C n) 26 [.str src, .int .i64 off, .fn 29 [] []] s = _ := q n hn
  rw [F16_eq, F16]
  simp -implicitDefEqProofs only [oh_some, mp_some, sto_some, br_true, br_false, gd_true, gd_false, wA_tt, wA_tup, wA_ft, wA_tf, wA_ff, aNilCheck_box, aNilCheck_ref, aAddr_box, aAddr_ref, aLoad_one, List.getElem?_cons_succ, List.getElem?_cons_zero, Option.map_some, bin_add, bin_sub, bin_lss, bin_leq, bin_gtr, bin_geq, bin_eql, bin_neq, str_eql, aMax_int, aMin_int, aUn_not, aPick_true, aPick_false, strip_int, strip_bool, strip_str, strip_nilp, strip_nils, strip_box, strip_ref, strip_agg, strip_tup, strip_undef, aBox_f, solid_agg, cells_agg, kLoad_box, kGd_true, kGd_false, kCall_ok, gt_iff_lt, ge_iff_le, Int.ofNat_lt, Int.ofNat_le, decide_true, decide_false, Nat.zero_add, Bool.not_true, Bool.not_false, aExtract_tup, fin1_some, resL_nil, resL_some, noRefL_cons, noRefL_nil, noRef_int, noRef_str, noRef_bool, noRef_nilp, noRef_agg, strip_fn, kLoad_ref, Bool.and_self, ite_true, q, alloc25, List.length_nil, List.nil_append, posV, store2', load2a]
end PosF

