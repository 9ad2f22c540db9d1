/- Ropes of parts, in the abstract machine. -/
import Derived.Test.YtionohfkjdahlaaRopeW
set_option linter.all false
set_option maxRecDepth 100000
namespace RopeF
open Go Go.Abs Go.Proofs

theorem ex_den (n : Nat) : (den C (n + 20) 7 [] []).map (·.1) = some (.bool true) := by kernel_rfl
theorem ex_run : AC C 7 [] (.bool true) := by
  refine .intro en7 (by rfl) (by rfl) ⟨19, fun n hn => ?_⟩
  obtain ⟨n, rfl⟩ : ∃ m, n = m + 19 := ⟨n - 19, by omega⟩
  have h := ex_den n
  rw [Option.map_eq_some_iff] at h
  obtain ⟨⟨v, s⟩, h1, h2⟩ := h
  cases h2
  exact ⟨s, h1⟩

theorem WF_mass {r : R} (w : r.WF) : r.mass ≤ 2 * r.str.length := by
  cases r with
  | none => simp [R.mass]
  | some t => have := T.WF.lv_le w; simp only [R.mass, R.str, T.mass]; omega

abbrev strs (xs : List (List UInt8)) : List AV := xs.map .str
/-- A slice of strings, as it is handed on. -/
def IsS (v : AV) (xs : List (List UInt8)) : Prop := v = .sl 9 1 (strs xs) .sh ∨ (xs = [] ∧ v = .nils)
theorem IsS.strip {v : AV} {xs : List (List UInt8)} (h : IsS v xs) : v.strip = v := by rcases h with rfl | ⟨_, rfl⟩ <;> rfl
theorem strs_noRef (xs : List (List UInt8)) : noRefL (strs xs) = true := by induction xs with
  | nil => rfl
  | cons x xs ih => show noRefL (.str x :: strs xs) = true; rw [noRefL_cons, ih]; rfl
theorem IsS.noRef {v : AV} {xs : List (List UInt8)} (h : IsS v xs) : v.noRef = true := by
  rcases h with rfl | ⟨_, rfl⟩
  · simp [AV.noRef, strs_noRef]
  · rfl

theorem under22 : Try.prog.underlying 22 = some (.slice 9) := by kernel_rfl
theorem sz9 : szOf Try.prog 9 = some 1 := by kernel_rfl
theorem IsS.len {v : AV} {xs : List (List UInt8)} (h : IsS v xs) : aLen Try.prog 22 v = some (I xs.length) := by
  rcases h with rfl | ⟨rfl, rfl⟩
  · simp [aLen, under22]
  · simp [aLen, under22]
theorem idx22 {xs : List (List UInt8)} {i : Nat} {x : List UInt8} {f : Flag} (h : xs[i]? = some x) : aIndexAddr Try.prog 22 (.sl 9 1 (strs xs) f) (I i) = some (.box [.str x] 0) := by
  simp [aIndexAddr, under22, sz9, h, AV.cells]
theorem take22 {xs : List (List UInt8)} {i : Nat} {f : Flag} (h : i ≤ xs.length) : aSl Try.prog 22 (.sl 9 1 (strs xs) f) none (some (I i)) none = some (.sl 9 1 (strs (xs.take i)) .sh) := by
  simp [aSl, under22, sz9, aSlice, aBound, h, List.map_take]
theorem drop22 {xs : List (List UInt8)} {i : Nat} {f : Flag} (h : i ≤ xs.length) : aSl Try.prog 22 (.sl 9 1 (strs xs) f) (some (I i)) none none = some (.sl 9 1 (strs (xs.drop i)) .sh) := by
  simp [aSl, under22, sz9, aSlice, aBound, h, List.map_drop]

theorem d9_8' (x : Ans) : drawOK C 9 (regOps Try.f9 8) [.reader, .silent, .silent, .silent, .writer] x = x := drawOK_ok (by kernel_rfl)

theorem from_loop (xs : List (List UInt8)) (hx : xs.flatten.length < 200000000) (hl : xs.length < 200000000) : ∀ (k i : Nat) (r : R), xs.length - i = k → i ≤ xs.length → r.WF → r.str = (xs.take i).flatten →
    ∃ r' : R, r'.WF ∧ r'.str = xs.flatten ∧ ∃ N, ∀ n, N ≤ n → ∀ m, k < m → ∀ n' e v, IsS v xs → e 29 = I i → e 28 = I xs.length → e 27 = v → e 6 = .ref 1 0 → e 4 = .ref 0 0 →
      aLoop (F9_L0 (den C n) n') m e [(27, [.nilp]), (27, [encR r])] = some (rop r', [(27, [encR r']), (27, [encR r'])]) := by
  intro k
  induction k with
  | zero =>
    intro i r hk hi w hr
    refine ⟨r, w, by rw [hr, List.take_of_length_le (by omega)], 0, fun n _ m hm n' e v hv h29 h28 h27 h6 h4 => ?_⟩
    obtain ⟨m, rfl⟩ : ∃ j, m = j + 1 := ⟨m - 1, by omega⟩
    have c : ¬ i < xs.length := by omega
    rw [aLoop, F9_L0]
    simp -implicitDefEqProofs only [oh_some, mp_some, sto_some, br_true, br_false, gd_true, gd_false, wA_tt, wA_ft, wA_tf, wA_ff, enc_strip, lp_strip, rp_strip, encR_strip, enc_check, enc_addr, aNilCheck_box, aNilCheck_ref, aAddr_box, aAddr_ref, aLoad_one, List.getElem?_cons_succ, List.getElem?_cons_zero, Option.map_some, bin_add, bin_sub, bin_lss, bin_leq, bin_gtr, bin_geq, bin_eql, bin_neq, str_eql, aMax_int, aMin_int, aUn_not, aPick_true, aPick_false, strip_int, strip_bool, strip_str, strip_nilp, strip_nils, strip_box, strip_ref, strip_agg, strip_tup, strip_undef, aBox_f, solid_agg, cells_agg, kLoad_box, kGd_true, kGd_false, kCall_ok, gt_iff_lt, ge_iff_le, Int.ofNat_lt, Int.ofNat_le, decide_true, decide_false, Nat.zero_add, Bool.not_true, Bool.not_false, aExtract_tup, fin1_some, resL_nil, resL_some, enc_noRef, encR_noRef, noRefL_cons, noRefL_nil, noRef_int, noRef_str, noRef_bool, Bool.and_self, ite_true, h29, h28, h27, h6, h4, c, load2b, store2a, load2a]
  | succ k ih =>
    intro i r hk hi w hr
    have hlt : i < xs.length := by omega
    have e0 : xs[i]? = some xs[i] := List.getElem?_eq_getElem hlt
    obtain ⟨w1, s1⟩ := R.from_ok none xs[i] trivial
    obtain ⟨w2, s2⟩ := R.concat_ok w w1
    have hs : (R.concat r (R.from none xs[i])).str = (xs.take (i + 1)).flatten := by
      rw [s2, s1, hr, ← List.take_append_getElem hlt, List.flatten_append]
      simp only [R.str, List.nil_append, List.flatten_cons, List.flatten_nil, List.append_nil]
    have hle : (xs.take (i + 1)).flatten.length ≤ xs.flatten.length := by
      have : xs.flatten = (xs.take (i + 1)).flatten ++ (xs.drop (i + 1)).flatten := by rw [← List.flatten_append, List.take_append_drop]
      rw [this]; simp
    rw [← hs, s2, List.length_append] at hle
    have m1 := WF_mass w
    have m2 := WF_mass w1
    have s1' : (R.from none xs[i]).str.length = xs[i].length := by rw [s1]; simp [R.str]
    obtain ⟨N1, q1⟩ := AC.at (New_run xs[i] (by omega))
    obtain ⟨N2, q2⟩ := AC.at (Concat_run r (R.from none xs[i]) (by omega))
    obtain ⟨r', w', s', N3, q3⟩ := ih (i + 1) _ (by omega) (by omega) w2 hs
    refine ⟨r', w', s', max N1 (max N2 N3), fun n hn m hm n' e v hv h29 h28 h27 h6 h4 => ?_⟩
    obtain ⟨m, rfl⟩ : ∃ j, m = j + 1 := ⟨m - 1, by omega⟩
    have q1 := q1 n (by omega)
    have q2 := q2 n (by omega)
    have hv' : v = .sl 9 1 (strs xs) .sh := by
      rcases hv with h | ⟨h, _⟩
      · exact h
      · subst h; simp at hlt
    subst hv'
    have e1 := idx22 (f := .sh) e0
    have e2 := wadd1 (a := i) (by omega)
    rw [aLoop, F9_L0]
    simp -implicitDefEqProofs only [oh_some, mp_some, sto_some, br_true, br_false, gd_true, gd_false, wA_tt, wA_ft, wA_tf, wA_ff, enc_strip, lp_strip, rp_strip, encR_strip, enc_check, enc_addr, aNilCheck_box, aNilCheck_ref, aAddr_box, aAddr_ref, aLoad_one, List.getElem?_cons_succ, List.getElem?_cons_zero, Option.map_some, bin_add, bin_sub, bin_lss, bin_leq, bin_gtr, bin_geq, bin_eql, bin_neq, str_eql, aMax_int, aMin_int, aUn_not, aPick_true, aPick_false, strip_int, strip_bool, strip_str, strip_nilp, strip_nils, strip_box, strip_ref, strip_agg, strip_tup, strip_undef, aBox_f, solid_agg, cells_agg, kLoad_box, kGd_true, kGd_false, kCall_ok, gt_iff_lt, ge_iff_le, Int.ofNat_lt, Int.ofNat_le, decide_true, decide_false, Nat.zero_add, Bool.not_true, Bool.not_false, aExtract_tup, fin1_some, resL_nil, resL_some, enc_noRef, encR_noRef, noRefL_cons, noRefL_nil, noRef_int, noRef_str, noRef_bool, Bool.and_self, ite_true, h29, h28, h27, h6, h4, hlt, e1, e2, load2b, q1, q2, store2b, d9_8', kLoad_ref, noRef_agg, rop]
    exact q3 n (by omega) m (by omega) n' _ _ (.inl rfl) (by simp [upds_at, upd_at]) (by simp [upds_at, upd_at, h28]) (by simp [upds_at, upd_at, h27]) (by simp [upds_at, upd_at, h6]) (by simp [upds_at, upd_at, h4])
end RopeF

