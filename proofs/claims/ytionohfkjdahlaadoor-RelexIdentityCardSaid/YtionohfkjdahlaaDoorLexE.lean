/- Tokens, in the abstract machine. -/
import Derived.Test.YtionohfkjdahlaaDoorLexB
set_option linter.all false
set_option maxRecDepth 100000
namespace LexF
open Go Go.Abs Go.Proofs

abbrev tokV (t : Tok) : AV := .agg [I t.1, .str t.2]
abbrev tv (ts : List Tok) : List AV := ts.map tokV
def accV (ts : List Tok) : AV := match ts with
  | [] => .nils
  | t :: r => .sl 39 2 (tv (t :: r)) .own
/-- A slice of tokens, as it is handed on. -/
def IsT (v : AV) (ts : List Tok) : Prop := v = .sl 39 2 (tv ts) .sh ∨ (ts = [] ∧ v = .nils)
theorem accV_strip (ts : List Tok) : IsT (accV ts).strip ts := by
  cases ts with
  | nil => exact .inr ⟨rfl, rfl⟩
  | cons t r => exact .inl rfl
theorem IsT.strip {v : AV} {ts : List Tok} (h : IsT v ts) : v.strip = v := by rcases h with rfl | ⟨_, rfl⟩ <;> rfl
theorem tv_noRef (ts : List Tok) : noRefL (tv ts) = true := by induction ts with
  | nil => rfl
  | cons t r ih => show noRefL (tokV t :: tv r) = true; rw [noRefL_cons, ih]; rfl
theorem IsT.noRef {v : AV} {ts : List Tok} (h : IsT v ts) : v.noRef = true := by
  rcases h with rfl | ⟨_, rfl⟩
  · simp [AV.noRef, tv_noRef]
  · rfl
theorem accV_noRef (ts : List Tok) : (accV ts).noRef = true := by
  cases ts with
  | nil => rfl
  | cons t r => simp only [accV, noRef_sl, tv_noRef]
theorem under35 : Tryd.prog.underlying 35 = some (.slice 39) := by kernel_rfl
theorem sz39 : szOf Tryd.prog 39 = some 2 := by kernel_rfl
theorem IsT.len {v : AV} {ts : List Tok} (h : IsT v ts) : aLen Tryd.prog 35 v = some (I ts.length) := by
  rcases h with rfl | ⟨rfl, rfl⟩
  · simp [aLen, under35]
  · simp [aLen, under35]
theorem idx35 {ts : List Tok} {i : Nat} {t : Tok} {f : Flag} (h : ts[i]? = some t) : aIndexAddr Tryd.prog 35 (.sl 39 2 (tv ts) f) (I i) = some (.box [I t.1, .str t.2] 0) := by
  simp [aIndexAddr, under35, sz39, h, AV.cells]
theorem IsT.at {v : AV} {ts : List Tok} (h : IsT v ts) {i : Nat} {t : Tok} (ht : ts[i]? = some t) : aIndexAddr Tryd.prog 35 v (I i) = some (.box [I t.1, .str t.2] 0) := by
  rcases h with rfl | ⟨rfl, rfl⟩
  · exact idx35 ht
  · simp at ht
theorem IsT.drop {v : AV} {ts : List Tok} (h : IsT v ts) {i : Nat} (hi : i ≤ ts.length) : ∃ u, aSl Tryd.prog 35 v (some (I i)) none none = some u ∧ IsT u (ts.drop i) := by
  rcases h with rfl | ⟨rfl, rfl⟩
  · exact ⟨.sl 39 2 (tv (ts.drop i)) .sh, by simp [aSl, under35, sz39, aSlice, aBound, hi, List.map_drop], .inl rfl⟩
  · have : i = 0 := by simpa using hi
    subst this
    exact ⟨.nils, by simp [aSl, under35], .inr ⟨rfl, rfl⟩⟩
theorem info39' : ((Tryd.prog.info? 39).map fun i => (i.size, i.bytes, i.zero.map fun z => z.cells.size)) = some (2, 24, some 2) := by kernel_rfl
theorem info39 : ∃ i, Tryd.prog.info? 39 = some i ∧ i.size = 2 ∧ i.bytes = 24 ∧ ∃ z, i.zero = some z ∧ z.cells.size = 2 := by
  have h := info39'
  rw [Option.map_eq_some_iff] at h
  obtain ⟨i, h1, h2⟩ := h
  simp only [Prod.mk.injEq, Option.map_eq_some_iff] at h2
  exact ⟨i, h1, h2.1, h2.2.1, h2.2.2⟩
theorem app35 (ts : List Tok) (ys : List Tok) (f : Flag) (h : ts.length + ys.length < 1000000) : aAppend Tryd.prog 35 35 (accV ts) (.sl 39 2 (tv ys) f) = some (accV (ts ++ ys)) := by
  obtain ⟨i, h1, h2, h3, z, h4, h5⟩ := info39
  unfold aAppend
  rw [under35]
  simp only [h1, h2, srcOf, if_true, h4, h5, ne_eq, not_true, if_false, h3]
  cases ts with
  | nil =>
    simp only [accV, List.nil_append, tv, List.length_map]
    rw [if_pos (by simp at h; omega)]
    cases ys <;> rfl
  | cons b r =>
    simp only [accV, tv, List.length_map, List.length_cons, List.map_cons, List.cons_append, List.map_append] at *
    rw [if_pos ⟨trivial, trivial, by omega, by omega⟩]
theorem app35n (ts : List Tok) (h : ts.length < 1000000) : aAppend Tryd.prog 35 35 (accV ts) .nils = some (accV ts) := by
  obtain ⟨i, h1, h2, h3, z, h4, h5⟩ := info39
  unfold aAppend
  rw [under35]
  simp only [h1, h2, srcOf, h4, h5, ne_eq, not_true, if_false, h3]
  cases ts with
  | nil => simp only [accV]; rw [if_pos (by simp)]
  | cons b r =>
    simp only [accV, tv, List.length_map, List.length_cons, List.length_nil, List.map_cons, List.append_nil] at *
    rw [if_pos ⟨trivial, trivial, by omega, by omega⟩]
theorem app35a (ts ys : List Tok) (h : ts.length + ys.length < 1000000) : aAppend Tryd.prog 35 35 (accV ts) (accV ys) = some (accV (ts ++ ys)) := by
  cases ys with
  | nil => rw [List.append_nil]; exact app35n ts (by simp at h; omega)
  | cons y r => exact app35 ts (y :: r) .own h
theorem bs35 (k : Int) (t : List UInt8) : ∃ f, aBuildSlice Tryd.prog 35 1 [(0, .agg [I k, .str t])] = some (.sl 39 2 [.agg [I k, .str t]] f) := ⟨.own, by kernel_rfl⟩
theorem bs35b (k k' : Int) (t t' : List UInt8) : aBuildSlice Tryd.prog 35 2 [(0, .agg [I k, .str t]), (1, .agg [I k', .str t'])] = some (.sl 39 2 [.agg [I k, .str t], .agg [I k', .str t']] .own) := by kernel_rfl
theorem build39 (k : Int) (t : List UInt8) : aBuild Tryd.prog 39 [(0, I k), (1, .str t)] = some (.agg [I k, .str t]) := by kernel_rfl
theorem alloc39 (s : Heap) : aAlloc Tryd.prog 39 s = some (.ref s.length 0, s ++ [(39, [I 0, .str []])]) := by kernel_rfl
theorem store39 (s : Heap) (a b : AV) (t : Tok) : aStore 2 (s ++ [(39, [a, b])]) (.ref s.length 0) (tokV t) = some (s ++ [(39, [I t.1, .str t.2])]) := by
  simp [aStore, AV.solid, AV.cells, setL, stCells]
theorem load39 (s : Heap) (x y : AV) (k : Nat) : aLoad false false 1 (.ref s.length k) (s ++ [(39, [x, y])]) = [x, y][k]?.map fun r => (r.strip, s ++ [(39, [x, y])]) := by
  simp [aLoad, aLoadR, aLoadC_one]
  cases [x, y][k]? <;> rfl
theorem load39a (s : Heap) (x y : AV) : aLoad false true 2 (.ref s.length 0) (s ++ [(39, [x, y])]) = some (.agg [x, y], s ++ [(39, [x, y])]) := by
  simp [aLoad, aLoadR, aLoadC]
theorem load2' (x y : AV) (s : Heap) : aLoad false true 2 (.box [x, y] 0) s = some (.agg [x, y], s) := aLoad_agg _ _ _ _ _ (by simp)
theorem eq39 (k : Int) (t : List UInt8) : aBin Tryd.prog .neq 39 (.agg [I k, .str t]) (.agg [I k, .str t]) = some (.bool false) := by
  have h : aBin Tryd.prog .neq 39 (.agg [I k, .str t]) (.agg [I k, .str t]) = some (.bool !((k == k) && ((t == t) && true))) := by kernel_rfl
  rw [h]; simp

/-! ### Tokenize -/
theorem tok_loop : ∀ (k : Nat) (l : List UInt8) (acc : List Tok), l.length ≤ k → l.length < 10000 → acc.length + l.length < 100000 →
    ∃ N, ∀ n, N ≤ n → ∀ m, k < m → ∀ n' e s, e 0 = .str l → e 4 = accV acc → aLoop (F19_L0 (den C n) n') m e s = some (.tup [(accV (acc ++ tokz l)).strip, I 0], s) := by
  intro k
  induction k with
  | zero =>
    intro l acc hk hl ha
    have : l = [] := List.length_eq_zero_iff.1 (by omega)
    subst this
    refine ⟨0, fun n hn m hm n' e s h0 h4 => ?_⟩
    obtain ⟨m, rfl⟩ : ∃ j, m = j + 1 := ⟨m - 1, by omega⟩
    have st := (accV_strip acc).strip
    have z : ¬ (0 : Int) < (([] : List UInt8).length : Int) := by simp
    rw [aLoop, F19_L0, tokz_nil, List.append_nil]
    simp -implicitDefEqProofs only [oh_some, mp_some, sto_some, br_true, br_false, gd_true, gd_false, wA_tt, wA_tup, wA_ft, wA_tf, wA_ff, aNilCheck_box, aNilCheck_ref, aAddr_box, aAddr_ref, aLoad_one, List.getElem?_cons_succ, List.getElem?_cons_zero, Option.map_some, bin_add, bin_sub, bin_lss, bin_leq, bin_gtr, bin_geq, bin_eql, bin_neq, str_eql, aMax_int, aMin_int, aUn_not, aPick_true, aPick_false, strip_int, strip_bool, strip_str, strip_nilp, strip_nils, strip_box, strip_ref, strip_agg, strip_tup, strip_undef, aBox_f, solid_agg, cells_agg, kLoad_box, kGd_true, kGd_false, kCall_ok, gt_iff_lt, ge_iff_le, Int.ofNat_lt, Int.ofNat_le, decide_true, decide_false, Nat.zero_add, Bool.not_true, Bool.not_false, aExtract_tup, fin1_some, resL_nil, resL_some, noRefL_cons, noRefL_nil, noRef_int, noRef_str, noRef_bool, noRef_nilp, noRef_agg, strip_fn, kLoad_ref, Bool.and_self, ite_true, h0, h4, len9, z, st]
  | succ k ih =>
    intro l acc hk hl ha
    by_cases h : l = []
    · subst h
      refine ⟨0, fun n hn m hm n' e s h0 h4 => ?_⟩
      obtain ⟨m, rfl⟩ : ∃ j, m = j + 1 := ⟨m - 1, by omega⟩
      have st := (accV_strip acc).strip
      have z : ¬ (0 : Int) < (([] : List UInt8).length : Int) := by simp
      rw [aLoop, F19_L0, tokz_nil, List.append_nil]
      simp -implicitDefEqProofs only [oh_some, mp_some, sto_some, br_true, br_false, gd_true, gd_false, wA_tt, wA_tup, wA_ft, wA_tf, wA_ff, aNilCheck_box, aNilCheck_ref, aAddr_box, aAddr_ref, aLoad_one, List.getElem?_cons_succ, List.getElem?_cons_zero, Option.map_some, bin_add, bin_sub, bin_lss, bin_leq, bin_gtr, bin_geq, bin_eql, bin_neq, str_eql, aMax_int, aMin_int, aUn_not, aPick_true, aPick_false, strip_int, strip_bool, strip_str, strip_nilp, strip_nils, strip_box, strip_ref, strip_agg, strip_tup, strip_undef, aBox_f, solid_agg, cells_agg, kLoad_box, kGd_true, kGd_false, kCall_ok, gt_iff_lt, ge_iff_le, Int.ofNat_lt, Int.ofNat_le, decide_true, decide_false, Nat.zero_add, Bool.not_true, Bool.not_false, aExtract_tup, fin1_some, resL_nil, resL_some, noRefL_cons, noRefL_nil, noRef_int, noRef_str, noRef_bool, noRef_nilp, noRef_agg, strip_fn, kLoad_ref, Bool.and_self, ite_true, h0, h4, len9, z, st]
    · obtain ⟨c, r, rfl⟩ : ∃ c r, l = c :: r := by cases l with
        | nil => exact absurd rfl h
        | cons c r => exact ⟨c, r, rfl⟩
      obtain ⟨N1, q1⟩ := AC.at (first_run c r (by omega))
      have hb := first_bounds (c :: r) h
      rw [tokz_cons h]
      have e1 := subTake (s := c :: r) (i := (first (c :: r)).1) hb.2
      have e2 := subDrop (s := c :: r) (i := (first (c :: r)).1) hb.2
      have hpos : (0 : Int) < ((c :: r).length : Int) := by rw [List.length_cons]; omega
      unfold firstV at q1
      generalize (first (c :: r)).1 = z at *
      generalize (first (c :: r)).2 = y at *
      obtain ⟨f, e3⟩ := bs35 y ((c :: r).take z)
      have e4 := app35 acc [(y, (c :: r).take z)] f (by simp at ha ⊢; omega)
      have hdl : ((c :: r).drop z).length = (c :: r).length - z := List.length_drop
      generalize (c :: r).take z = tk at *
      generalize (c :: r).drop z = dr at *
      obtain ⟨N2, q2⟩ := ih dr (acc ++ [(y, tk)]) (by omega) (by omega) (by simp only [List.length_append, List.length_cons, List.length_nil] at *; omega)
      rw [List.append_assoc] at q2
      refine ⟨max N1 N2, fun n hn m hm n' e s h0 h4 => ?_⟩
      obtain ⟨m, rfl⟩ : ∃ j, m = j + 1 := ⟨m - 1, by omega⟩
      have q1 := q1 n (by omega)
      have e4 : aAppend Tryd.prog 35 35 (accV acc) (.sl 39 2 [.agg [I y, .str tk]] f) = _ := e4
      rw [aLoop, F19_L0]
      simp -implicitDefEqProofs only [oh_some, mp_some, sto_some, br_true, br_false, gd_true, gd_false, wA_tt, wA_tup, wA_ft, wA_tf, wA_ff, aNilCheck_box, aNilCheck_ref, aAddr_box, aAddr_ref, aLoad_one, List.getElem?_cons_succ, List.getElem?_cons_zero, Option.map_some, bin_add, bin_sub, bin_lss, bin_leq, bin_gtr, bin_geq, bin_eql, bin_neq, str_eql, aMax_int, aMin_int, aUn_not, aPick_true, aPick_false, strip_int, strip_bool, strip_str, strip_nilp, strip_nils, strip_box, strip_ref, strip_agg, strip_tup, strip_undef, aBox_f, solid_agg, cells_agg, kLoad_box, kGd_true, kGd_false, kCall_ok, gt_iff_lt, ge_iff_le, Int.ofNat_lt, Int.ofNat_le, decide_true, decide_false, Nat.zero_add, Bool.not_true, Bool.not_false, aExtract_tup, fin1_some, resL_nil, resL_some, noRefL_cons, noRefL_nil, noRef_int, noRef_str, noRef_bool, noRef_nilp, noRef_agg, strip_fn, kLoad_ref, Bool.and_self, ite_true, h0, h4, len9, hpos, q1, e1, e2, build39, e3, e4]
      exact q2 n (by omega) m (by omega) n' _ s (by simp [upds_at, upd_at]) (by simp [upds_at, upd_at])

def tokR (l : List UInt8) : AV := if 2000 < l.length then .tup [.nils, I 2] else .tup [(accV (tokz l)).strip, I 0]
theorem tok_run (l : List UInt8) : AC C 19 [.str l] (tokR l) := by
  refine .intro en19 rfl ?_ ?_
  · unfold tokR; split
    · rfl
    · simp only [noRef_tup, noRefL_cons, noRefL_nil, noRef_int, (accV_strip (tokz l)).noRef, Bool.and_self]
  unfold tokR
  by_cases h : 2000 < l.length
  · rw [if_pos h]
    have h' : (2000 : Int) < (l.length : Int) := by omega
    refine ⟨0, fun n hn => ⟨[], ?_⟩⟩
    rw [F19_eq, F19]
    simp -implicitDefEqProofs only [oh_some, mp_some, sto_some, br_true, br_false, gd_true, gd_false, wA_tt, wA_tup, wA_ft, wA_tf, wA_ff, aNilCheck_box, aNilCheck_ref, aAddr_box, aAddr_ref, aLoad_one, List.getElem?_cons_succ, List.getElem?_cons_zero, Option.map_some, bin_add, bin_sub, bin_lss, bin_leq, bin_gtr, bin_geq, bin_eql, bin_neq, str_eql, aMax_int, aMin_int, aUn_not, aPick_true, aPick_false, strip_int, strip_bool, strip_str, strip_nilp, strip_nils, strip_box, strip_ref, strip_agg, strip_tup, strip_undef, aBox_f, solid_agg, cells_agg, kLoad_box, kGd_true, kGd_false, kCall_ok, gt_iff_lt, ge_iff_le, Int.ofNat_lt, Int.ofNat_le, decide_true, decide_false, Nat.zero_add, Bool.not_true, Bool.not_false, aExtract_tup, fin1_some, resL_nil, resL_some, noRefL_cons, noRefL_nil, noRef_int, noRef_str, noRef_bool, noRef_nilp, noRef_agg, strip_fn, kLoad_ref, Bool.and_self, ite_true, len9, h']
  · rw [if_neg h]
    have h' : ¬ (2000 : Int) < (l.length : Int) := by omega
    obtain ⟨N, q⟩ := tok_loop l.length l [] (Nat.le_refl _) (by omega) (by simp; omega)
    refine ⟨max N (l.length + 1), fun n hn => ⟨[], ?_⟩⟩
    rw [F19_eq, F19]
    simp -implicitDefEqProofs only [oh_some, mp_some, sto_some, br_true, br_false, gd_true, gd_false, wA_tt, wA_tup, wA_ft, wA_tf, wA_ff, aNilCheck_box, aNilCheck_ref, aAddr_box, aAddr_ref, aLoad_one, List.getElem?_cons_succ, List.getElem?_cons_zero, Option.map_some, bin_add, bin_sub, bin_lss, bin_leq, bin_gtr, bin_geq, bin_eql, bin_neq, str_eql, aMax_int, aMin_int, aUn_not, aPick_true, aPick_false, strip_int, strip_bool, strip_str, strip_nilp, strip_nils, strip_box, strip_ref, strip_agg, strip_tup, strip_undef, aBox_f, solid_agg, cells_agg, kLoad_box, kGd_true, kGd_false, kCall_ok, gt_iff_lt, ge_iff_le, Int.ofNat_lt, Int.ofNat_le, decide_true, decide_false, Nat.zero_add, Bool.not_true, Bool.not_false, aExtract_tup, fin1_some, resL_nil, resL_some, noRefL_cons, noRefL_nil, noRef_int, noRef_str, noRef_bool, noRef_nilp, noRef_agg, strip_fn, kLoad_ref, Bool.and_self, ite_true, len9, h']
    exact q n (by omega) n (by omega) n _ _ (by simp [upds_at, upd_at, argEnv]) (by simp [upds_at, upd_at, accV])

/-! ### source, EqualLists, significant -/
theorem src_loop (v : AV) (ts : List Tok) (hv : IsT v ts) (ht : ts.length < 100000) (hs : (srcOfT ts).length < 1000000) : ∀ (k i : Nat) (acc : List UInt8), ts.length - i = k → i ≤ ts.length → acc.length + (srcOfT (ts.drop i)).length < 1000000 → ∀ D m, k < m → ∀ n' e s, e 6 = v → e 7 = I ts.length → e 8 = I i → e 3 = .str acc →
    ∃ s', aLoop (F20_L0 D n') m e s = some (.str (acc ++ srcOfT (ts.drop i)), s') := by
  intro k
  induction k with
  | zero =>
    intro i acc hk hi ha D m hm n' e s h6 h7 h8 h3
    obtain ⟨m, rfl⟩ : ∃ j, m = j + 1 := ⟨m - 1, by omega⟩
    have c : ¬ i < ts.length := by omega
    refine ⟨s, ?_⟩
    rw [aLoop, F20_L0, List.drop_of_length_le (by omega)]
    simp -implicitDefEqProofs only [oh_some, mp_some, sto_some, br_true, br_false, gd_true, gd_false, wA_tt, wA_tup, wA_ft, wA_tf, wA_ff, aNilCheck_box, aNilCheck_ref, aAddr_box, aAddr_ref, aLoad_one, List.getElem?_cons_succ, List.getElem?_cons_zero, Option.map_some, bin_add, bin_sub, bin_lss, bin_leq, bin_gtr, bin_geq, bin_eql, bin_neq, str_eql, aMax_int, aMin_int, aUn_not, aPick_true, aPick_false, strip_int, strip_bool, strip_str, strip_nilp, strip_nils, strip_box, strip_ref, strip_agg, strip_tup, strip_undef, aBox_f, solid_agg, cells_agg, kLoad_box, kGd_true, kGd_false, kCall_ok, gt_iff_lt, ge_iff_le, Int.ofNat_lt, Int.ofNat_le, decide_true, decide_false, Nat.zero_add, Bool.not_true, Bool.not_false, aExtract_tup, fin1_some, resL_nil, resL_some, noRefL_cons, noRefL_nil, noRef_int, noRef_str, noRef_bool, noRef_nilp, noRef_agg, strip_fn, kLoad_ref, Bool.and_self, ite_true, h6, h7, h8, h3, c, srcOfT, List.map_nil, List.flatten_nil, List.append_nil]
  | succ k ih =>
    intro i acc hk hi ha D m hm n' e s h6 h7 h8 h3
    obtain ⟨m, rfl⟩ : ∃ j, m = j + 1 := ⟨m - 1, by omega⟩
    have c : i < ts.length := by omega
    have e1 := hv.at (List.getElem?_eq_getElem c)
    have e2 := wadd1 (a := i) (by omega)
    rw [List.drop_eq_getElem_cons c] at ha ⊢
    have hsp : srcOfT (ts[i] :: ts.drop (i + 1)) = ts[i].2 ++ srcOfT (ts.drop (i + 1)) := rfl
    rw [hsp, List.length_append] at ha
    rw [hsp, ← List.append_assoc]
    have e3 : aBin Tryd.prog .add 9 (.str acc) (.str ts[i].2) = some (.str (acc ++ ts[i].2)) := str_add _ _ (by omega)
    generalize ts[i] = t at *
    rw [aLoop, F20_L0]
    simp -implicitDefEqProofs only [oh_some, mp_some, sto_some, br_true, br_false, gd_true, gd_false, wA_tt, wA_tup, wA_ft, wA_tf, wA_ff, aNilCheck_box, aNilCheck_ref, aAddr_box, aAddr_ref, aLoad_one, List.getElem?_cons_succ, List.getElem?_cons_zero, Option.map_some, bin_add, bin_sub, bin_lss, bin_leq, bin_gtr, bin_geq, bin_eql, bin_neq, str_eql, aMax_int, aMin_int, aUn_not, aPick_true, aPick_false, strip_int, strip_bool, strip_str, strip_nilp, strip_nils, strip_box, strip_ref, strip_agg, strip_tup, strip_undef, aBox_f, solid_agg, cells_agg, kLoad_box, kGd_true, kGd_false, kCall_ok, gt_iff_lt, ge_iff_le, Int.ofNat_lt, Int.ofNat_le, decide_true, decide_false, Nat.zero_add, Bool.not_true, Bool.not_false, aExtract_tup, fin1_some, resL_nil, resL_some, noRefL_cons, noRefL_nil, noRef_int, noRef_str, noRef_bool, noRef_nilp, noRef_agg, strip_fn, kLoad_ref, Bool.and_self, ite_true, h6, h7, h8, h3, c, e1, e2, e3, load2', alloc39, store39, load39]
    exact ih (i + 1) (acc ++ t.2) (by omega) (by omega) (by simp; omega) D m (by omega) n' _ _ (by simp [upds_at, upd_at, h6]) (by simp [upds_at, upd_at, h7]) (by simp [upds_at, upd_at]) (by simp [upds_at, upd_at])

theorem src_run (v : AV) (ts : List Tok) (hv : IsT v ts) (ht : ts.length < 100000) (hs : (srcOfT ts).length < 1000000) : AC C 20 [v] (.str (srcOfT ts)) := by
  refine .intro en20 (by simp [noRefL_cons, noRefL_nil, hv.noRef]) rfl ⟨ts.length + 1, fun n hn => ?_⟩
  have st := hv.strip
  have l := hv.len
  rw [F20_eq, F20]
  simp -implicitDefEqProofs only [oh_some, mp_some, sto_some, br_true, br_false, gd_true, gd_false, wA_tt, wA_tup, wA_ft, wA_tf, wA_ff, aNilCheck_box, aNilCheck_ref, aAddr_box, aAddr_ref, aLoad_one, List.getElem?_cons_succ, List.getElem?_cons_zero, Option.map_some, bin_add, bin_sub, bin_lss, bin_leq, bin_gtr, bin_geq, bin_eql, bin_neq, str_eql, aMax_int, aMin_int, aUn_not, aPick_true, aPick_false, strip_int, strip_bool, strip_str, strip_nilp, strip_nils, strip_box, strip_ref, strip_agg, strip_tup, strip_undef, aBox_f, solid_agg, cells_agg, kLoad_box, kGd_true, kGd_false, kCall_ok, gt_iff_lt, ge_iff_le, Int.ofNat_lt, Int.ofNat_le, decide_true, decide_false, Nat.zero_add, Bool.not_true, Bool.not_false, aExtract_tup, fin1_some, resL_nil, resL_some, noRefL_cons, noRefL_nil, noRef_int, noRef_str, noRef_bool, noRef_nilp, noRef_agg, strip_fn, kLoad_ref, Bool.and_self, ite_true, st, l]
  exact src_loop v ts hv ht hs _ 0 [] rfl (by omega) (by simpa using hs) (den C n) n (by omega) n _ _ (by simp [upds_at, upd_at]) (by simp [upds_at, upd_at]) (by simp [upds_at, upd_at]) (by simp [upds_at, upd_at])

theorem same_loop (v u : AV) (ts : List Tok) (hv : IsT v ts) (hu : IsT u ts) (ht : ts.length < 100000) : ∀ (k i : Nat), ts.length - i = k → i ≤ ts.length → ∀ D m, k < m → ∀ n' e s, e 0 = v → e 1 = u → e 12 = I ts.length → e 13 = I i →
    aLoop (F22_L0 D n') m e s = some (.bool true, s) := by
  intro k
  induction k with
  | zero =>
    intro i hk hi D m hm n' e s h0 h1 h12 h13
    obtain ⟨m, rfl⟩ : ∃ j, m = j + 1 := ⟨m - 1, by omega⟩
    have c : ¬ i < ts.length := by omega
    rw [aLoop, F22_L0]
    simp -implicitDefEqProofs only [oh_some, mp_some, sto_some, br_true, br_false, gd_true, gd_false, wA_tt, wA_tup, wA_ft, wA_tf, wA_ff, aNilCheck_box, aNilCheck_ref, aAddr_box, aAddr_ref, aLoad_one, List.getElem?_cons_succ, List.getElem?_cons_zero, Option.map_some, bin_add, bin_sub, bin_lss, bin_leq, bin_gtr, bin_geq, bin_eql, bin_neq, str_eql, aMax_int, aMin_int, aUn_not, aPick_true, aPick_false, strip_int, strip_bool, strip_str, strip_nilp, strip_nils, strip_box, strip_ref, strip_agg, strip_tup, strip_undef, aBox_f, solid_agg, cells_agg, kLoad_box, kGd_true, kGd_false, kCall_ok, gt_iff_lt, ge_iff_le, Int.ofNat_lt, Int.ofNat_le, decide_true, decide_false, Nat.zero_add, Bool.not_true, Bool.not_false, aExtract_tup, fin1_some, resL_nil, resL_some, noRefL_cons, noRefL_nil, noRef_int, noRef_str, noRef_bool, noRef_nilp, noRef_agg, strip_fn, kLoad_ref, Bool.and_self, ite_true, h0, h1, h12, h13, c]
  | succ k ih =>
    intro i hk hi D m hm n' e s h0 h1 h12 h13
    obtain ⟨m, rfl⟩ : ∃ j, m = j + 1 := ⟨m - 1, by omega⟩
    have c : i < ts.length := by omega
    have e1 := hv.at (List.getElem?_eq_getElem c)
    have e1' := hu.at (List.getElem?_eq_getElem c)
    have e2 := wadd1 (a := i) (by omega)
    have st := hv.strip
    have st' := hu.strip
    rw [aLoop, F22_L0]
    simp -implicitDefEqProofs only [oh_some, mp_some, sto_some, br_true, br_false, gd_true, gd_false, wA_tt, wA_tup, wA_ft, wA_tf, wA_ff, aNilCheck_box, aNilCheck_ref, aAddr_box, aAddr_ref, aLoad_one, List.getElem?_cons_succ, List.getElem?_cons_zero, Option.map_some, bin_add, bin_sub, bin_lss, bin_leq, bin_gtr, bin_geq, bin_eql, bin_neq, str_eql, aMax_int, aMin_int, aUn_not, aPick_true, aPick_false, strip_int, strip_bool, strip_str, strip_nilp, strip_nils, strip_box, strip_ref, strip_agg, strip_tup, strip_undef, aBox_f, solid_agg, cells_agg, kLoad_box, kGd_true, kGd_false, kCall_ok, gt_iff_lt, ge_iff_le, Int.ofNat_lt, Int.ofNat_le, decide_true, decide_false, Nat.zero_add, Bool.not_true, Bool.not_false, aExtract_tup, fin1_some, resL_nil, resL_some, noRefL_cons, noRefL_nil, noRef_int, noRef_str, noRef_bool, noRef_nilp, noRef_agg, strip_fn, kLoad_ref, Bool.and_self, ite_true, h0, h1, h12, h13, c, st, st', e1, e1', e2, load2', eq39, d22_6]
    exact ih (i + 1) (by omega) (by omega) D m (by omega) n' _ s (by simp [upds_at, upd_at, h0]) (by simp [upds_at, upd_at, h1]) (by simp [upds_at, upd_at, h12]) (by simp [upds_at, upd_at])

theorem same_run (v u : AV) (ts : List Tok) (hv : IsT v ts) (hu : IsT u ts) (ht : ts.length < 100000) : AC C 22 [v, u] (.bool true) := by
  refine .intro en22 (by simp [noRefL_cons, noRefL_nil, hv.noRef, hu.noRef]) rfl ⟨ts.length + 1, fun n hn => ⟨[], ?_⟩⟩
  have st := hv.strip
  have l := hv.len
  have st' := hu.strip
  have l' := hu.len
  have z : ((ts.length : Int) != (ts.length : Int)) = false := by simp
  rw [F22_eq, F22]
  simp -implicitDefEqProofs only [oh_some, mp_some, sto_some, br_true, br_false, gd_true, gd_false, wA_tt, wA_tup, wA_ft, wA_tf, wA_ff, aNilCheck_box, aNilCheck_ref, aAddr_box, aAddr_ref, aLoad_one, List.getElem?_cons_succ, List.getElem?_cons_zero, Option.map_some, bin_add, bin_sub, bin_lss, bin_leq, bin_gtr, bin_geq, bin_eql, bin_neq, str_eql, aMax_int, aMin_int, aUn_not, aPick_true, aPick_false, strip_int, strip_bool, strip_str, strip_nilp, strip_nils, strip_box, strip_ref, strip_agg, strip_tup, strip_undef, aBox_f, solid_agg, cells_agg, kLoad_box, kGd_true, kGd_false, kCall_ok, gt_iff_lt, ge_iff_le, Int.ofNat_lt, Int.ofNat_le, decide_true, decide_false, Nat.zero_add, Bool.not_true, Bool.not_false, aExtract_tup, fin1_some, resL_nil, resL_some, noRefL_cons, noRefL_nil, noRef_int, noRef_str, noRef_bool, noRef_nilp, noRef_agg, strip_fn, kLoad_ref, Bool.and_self, ite_true, st, st', l, l', z]
  exact same_loop v u ts hv hu ht _ 0 rfl (by omega) (den C n) n (by omega) n _ _ (by simp [upds_at, upd_at, argEnv]) (by simp [upds_at, upd_at, argEnv]) (by simp [upds_at, upd_at]) (by simp [upds_at, upd_at])

theorem sig_loop (v : AV) (ts : List Tok) (hv : IsT v ts) (ht : ts.length < 100000) : ∀ (k i : Nat) (acc : List Tok), ts.length - i = k → i ≤ ts.length → acc.length ≤ i → ∀ D m, k < m → ∀ n' e s, e 6 = v → e 7 = I ts.length → e 8 = I i → e 3 = accV acc →
    ∃ s', aLoop (F23_L0 D n') m e s = some (accV (acc ++ sig (ts.drop i)), s') := by
  intro k
  induction k with
  | zero =>
    intro i acc hk hi ha D m hm n' e s h6 h7 h8 h3
    obtain ⟨m, rfl⟩ : ∃ j, m = j + 1 := ⟨m - 1, by omega⟩
    have c : ¬ i < ts.length := by omega
    refine ⟨s, ?_⟩
    rw [aLoop, F23_L0, List.drop_of_length_le (by omega)]
    simp -implicitDefEqProofs only [oh_some, mp_some, sto_some, br_true, br_false, gd_true, gd_false, wA_tt, wA_tup, wA_ft, wA_tf, wA_ff, aNilCheck_box, aNilCheck_ref, aAddr_box, aAddr_ref, aLoad_one, List.getElem?_cons_succ, List.getElem?_cons_zero, Option.map_some, bin_add, bin_sub, bin_lss, bin_leq, bin_gtr, bin_geq, bin_eql, bin_neq, str_eql, aMax_int, aMin_int, aUn_not, aPick_true, aPick_false, strip_int, strip_bool, strip_str, strip_nilp, strip_nils, strip_box, strip_ref, strip_agg, strip_tup, strip_undef, aBox_f, solid_agg, cells_agg, kLoad_box, kGd_true, kGd_false, kCall_ok, gt_iff_lt, ge_iff_le, Int.ofNat_lt, Int.ofNat_le, decide_true, decide_false, Nat.zero_add, Bool.not_true, Bool.not_false, aExtract_tup, fin1_some, resL_nil, resL_some, noRefL_cons, noRefL_nil, noRef_int, noRef_str, noRef_bool, noRef_nilp, noRef_agg, strip_fn, kLoad_ref, Bool.and_self, ite_true, h6, h7, h8, h3, c, sig, List.filter_nil, List.append_nil]
  | succ k ih =>
    intro i acc hk hi ha D m hm n' e s h6 h7 h8 h3
    obtain ⟨m, rfl⟩ : ∃ j, m = j + 1 := ⟨m - 1, by omega⟩
    have c : i < ts.length := by omega
    have e1 := hv.at (List.getElem?_eq_getElem c)
    have e2 := wadd1 (a := i) (by omega)
    rw [List.drop_eq_getElem_cons c]
    generalize ts[i] = t at *
    have hsig : sig (t :: ts.drop (i + 1)) = if (t.1 != 101) = true then t :: sig (ts.drop (i + 1)) else sig (ts.drop (i + 1)) := by
      unfold sig
      rw [List.filter_cons]
    have hb : ((t.1 : Int) != 101) = (t.1 != 101) := by
      by_cases h : t.1 = 101
      · rw [h]; rfl
      · have h1 : (t.1 != 101) = true := by simpa using h
        have h2 : ((t.1 : Int) != 101) = true := by simp; omega
        rw [h1, h2]
    rw [hsig, aLoop, F23_L0]
    cases hc : (t.1 != 101) with
    | true =>
      rw [hc] at hb
      obtain ⟨f, e3⟩ := bs35 t.1 t.2
      have e4 : aAppend Tryd.prog 35 35 (accV acc) (.sl 39 2 [.agg [I t.1, .str t.2]] f) = _ := app35 acc [t] f (by simp; omega)
      rw [if_pos rfl, ← List.singleton_append, ← List.append_assoc]
      simp -implicitDefEqProofs only [oh_some, mp_some, sto_some, br_true, br_false, gd_true, gd_false, wA_tt, wA_tup, wA_ft, wA_tf, wA_ff, aNilCheck_box, aNilCheck_ref, aAddr_box, aAddr_ref, aLoad_one, List.getElem?_cons_succ, List.getElem?_cons_zero, Option.map_some, bin_add, bin_sub, bin_lss, bin_leq, bin_gtr, bin_geq, bin_eql, bin_neq, str_eql, aMax_int, aMin_int, aUn_not, aPick_true, aPick_false, strip_int, strip_bool, strip_str, strip_nilp, strip_nils, strip_box, strip_ref, strip_agg, strip_tup, strip_undef, aBox_f, solid_agg, cells_agg, kLoad_box, kGd_true, kGd_false, kCall_ok, gt_iff_lt, ge_iff_le, Int.ofNat_lt, Int.ofNat_le, decide_true, decide_false, Nat.zero_add, Bool.not_true, Bool.not_false, aExtract_tup, fin1_some, resL_nil, resL_some, noRefL_cons, noRefL_nil, noRef_int, noRef_str, noRef_bool, noRef_nilp, noRef_agg, strip_fn, kLoad_ref, Bool.and_self, ite_true, h6, h7, h8, h3, c, e1, e2, e3, e4, hb, load2', alloc39, store39, load39, load39a, F23_J1, upds_at, upds_nil, upd_at, Nat.reduceEqDiff, if_false, if_true]
      exact ih (i + 1) (acc ++ [t]) (by omega) (by omega) (by simp; omega) D m (by omega) n' _ _ (by simp [upd_at, h6]) (by simp [upd_at, h7]) (by simp [upd_at]) (by simp [upd_at])
    | false =>
      rw [hc] at hb
      rw [if_neg (by simp)]
      simp -implicitDefEqProofs only [oh_some, mp_some, sto_some, br_true, br_false, gd_true, gd_false, wA_tt, wA_tup, wA_ft, wA_tf, wA_ff, aNilCheck_box, aNilCheck_ref, aAddr_box, aAddr_ref, aLoad_one, List.getElem?_cons_succ, List.getElem?_cons_zero, Option.map_some, bin_add, bin_sub, bin_lss, bin_leq, bin_gtr, bin_geq, bin_eql, bin_neq, str_eql, aMax_int, aMin_int, aUn_not, aPick_true, aPick_false, strip_int, strip_bool, strip_str, strip_nilp, strip_nils, strip_box, strip_ref, strip_agg, strip_tup, strip_undef, aBox_f, solid_agg, cells_agg, kLoad_box, kGd_true, kGd_false, kCall_ok, gt_iff_lt, ge_iff_le, Int.ofNat_lt, Int.ofNat_le, decide_true, decide_false, Nat.zero_add, Bool.not_true, Bool.not_false, aExtract_tup, fin1_some, resL_nil, resL_some, noRefL_cons, noRefL_nil, noRef_int, noRef_str, noRef_bool, noRef_nilp, noRef_agg, strip_fn, kLoad_ref, Bool.and_self, ite_true, h6, h7, h8, h3, c, e1, e2, hb, load2', alloc39, store39, load39, F23_J1, upds_at, upds_nil, upd_at, Nat.reduceEqDiff, if_false, if_true]
      exact ih (i + 1) acc (by omega) (by omega) (by omega) D m (by omega) n' _ _ (by simp [upd_at, h6]) (by simp [upd_at, h7]) (by simp [upd_at]) (by simp [upd_at, h3])

theorem sig_run (v : AV) (ts : List Tok) (hv : IsT v ts) (ht : ts.length < 100000) : AC C 23 [v] (accV (sig ts)) := by
  refine .intro en23 (by simp [noRefL_cons, noRefL_nil, hv.noRef]) (accV_noRef _) ⟨ts.length + 1, fun n hn => ?_⟩
  have st := hv.strip
  have l := hv.len
  rw [F23_eq, F23]
  simp -implicitDefEqProofs only [oh_some, mp_some, sto_some, br_true, br_false, gd_true, gd_false, wA_tt, wA_tup, wA_ft, wA_tf, wA_ff, aNilCheck_box, aNilCheck_ref, aAddr_box, aAddr_ref, aLoad_one, List.getElem?_cons_succ, List.getElem?_cons_zero, Option.map_some, bin_add, bin_sub, bin_lss, bin_leq, bin_gtr, bin_geq, bin_eql, bin_neq, str_eql, aMax_int, aMin_int, aUn_not, aPick_true, aPick_false, strip_int, strip_bool, strip_str, strip_nilp, strip_nils, strip_box, strip_ref, strip_agg, strip_tup, strip_undef, aBox_f, solid_agg, cells_agg, kLoad_box, kGd_true, kGd_false, kCall_ok, gt_iff_lt, ge_iff_le, Int.ofNat_lt, Int.ofNat_le, decide_true, decide_false, Nat.zero_add, Bool.not_true, Bool.not_false, aExtract_tup, fin1_some, resL_nil, resL_some, noRefL_cons, noRefL_nil, noRef_int, noRef_str, noRef_bool, noRef_nilp, noRef_agg, strip_fn, kLoad_ref, Bool.and_self, ite_true, st, l]
  exact sig_loop v ts hv ht _ 0 [] rfl (by omega) (by simp) (den C n) n (by omega) n _ _ (by simp [upds_at, upd_at]) (by simp [upds_at, upd_at]) (by simp [upds_at, upd_at]) (by simp [upds_at, upd_at, accV])
end LexF

