/- Rope.Apply, in the abstract machine. -/
import Derived.Test.YtionohfkjdahlaaRopeA
set_option linter.all false
set_option maxRecDepth 100000
namespace RopeF
open Go Go.Abs Go.Proofs

theorem d19_11' (x : Ans) : drawOK C 19 (regOps Try.f19 11) [.silent, .silent, .silent, .silent, .reader, .silent, .silent, .silent, .silent] x = x := drawOK_ok (by kernel_rfl)
theorem d19_12' (x : Ans) : drawOK C 19 (regOps Try.f19 12) [.silent, .silent, .reader, .silent, .silent] x = x := drawOK_ok (by kernel_rfl)
theorem load3 (x y z : AV) (s : Heap) : aLoad false true 3 (.box [x, y, z] 0) s = some (.agg [x, y, z], s) := aLoad_agg _ _ _ _ _ (by simp)
theorem field27 (r : R) : aField Try.prog 27 0 (rop r) = some (encR r) := by
  have h : ∀ a, aField Try.prog 27 0 (.agg [a]) = some a.strip := by intro a; kernel_rfl
  rw [rop, h, encR_strip]
theorem storeC (a b : AV) (l : Heap) : aStore 1 ((27, [a]) :: l) (.ref 0 0) (.agg [b]) = some ((27, [b.strip]) :: l) := by
  simp [aStore, AV.solid, AV.cells, setL, stCells]
theorem loadC (a : AV) (l : Heap) : aLoad false true 1 (.ref 0 0) ((27, [a]) :: l) = some (.agg [a], (27, [a]) :: l) := by
  simp [aLoad, aLoadR, aLoadC]

set_option maxHeartbeats 1000000 in
theorem rope_loop (src : List UInt8) (hs : src.length ≤ 2000) (xs : List Ed) (hl : xs.length ≤ 50) : ∀ (k i : Nat) (p n : Int) (o : Nat) (r q : R), xs.length - i = k → i ≤ xs.length → valid src.length p n (xs.drop i) = 0 → (o : Int) ≤ p + 1 → o ≤ src.length → (r.str.length : Int) = n - (src.length - o) → r.WF → q.WF → q.str = src.drop o →
    ∃ r' : R, r'.WF ∧ r'.str = r.str ++ applyS src o (xs.drop i) ∧ r'.str.length ≤ 2000 ∧ ∃ N, ∀ f, N ≤ f → ∀ m, k < m → ∀ n' e s, (∃ l, s = (27, [.nilp]) :: l) → e 26 = I i → e 25 = I xs.length → IsE (e 24) xs → e 7 = encR r → e 8 = encR q → e 9 = I o → e 4 = .ref 0 0 → ∃ s', aLoop (F19_L0 (den C f) n') m e s = some (.tup [rop r', I 0], s') := by
  intro k
  induction k with
  | zero =>
    intro i p n o r q hk hi hv hp ho hr wr wq hq
    have hroom := valid_room hv hp ho
    have mr := WF_mass wr
    have mq := WF_mass wq
    have lq : q.str.length = src.length - o := by rw [hq]; simp
    obtain ⟨w, sc⟩ := R.concat_ok wr wq
    obtain ⟨N, q1⟩ := AC.at (concat_run r q (by omega))
    have hz : valid src.length p n (xs.drop i) = if 2000 < n then 2 else 0 := by rw [List.drop_of_length_le (by omega), valid]
    rw [hv] at hz
    refine ⟨r.concat q, w, by rw [sc, hq, show xs.drop i = [] from List.drop_of_length_le (by omega), applyS], by rw [sc, List.length_append]; split at hz <;> omega, N, fun f hf m hm n' e s ⟨l, hs⟩ h26 h25 h24 h7 h8 h9 h4 => ?_⟩
    subst hs
    obtain ⟨m, rfl⟩ : ∃ j, m = j + 1 := ⟨m - 1, by omega⟩
    have c : ¬ i < xs.length := by omega
    have q1 := q1 f (by omega)
    rw [aLoop, F19_L0]
    refine ⟨(27, [encR (r.concat q)]) :: l, ?_⟩
    simp -implicitDefEqProofs only [oh_some, mp_some, sto_some, br_true, br_false, gd_true, gd_false, wA_tt, wA_tup, wA_ft, wA_tf, wA_ff, enc_strip, lp_strip, rp_strip, encR_strip, enc_check, enc_addr, aNilCheck_box, aNilCheck_ref, aAddr_box, aAddr_ref, aLoad_one, List.getElem?_cons_succ, List.getElem?_cons_zero, Option.map_some, bin_add, bin_sub, bin_lss, bin_leq, bin_gtr, bin_geq, bin_eql, bin_neq, str_eql, aMax_int, aMin_int, aUn_not, aPick_true, aPick_false, strip_int, strip_bool, strip_str, strip_nilp, strip_nils, strip_box, strip_ref, strip_agg, strip_tup, strip_undef, aBox_f, solid_agg, cells_agg, kLoad_box, kGd_true, kGd_false, kCall_ok, gt_iff_lt, ge_iff_le, Int.ofNat_lt, Int.ofNat_le, decide_true, decide_false, Nat.zero_add, Bool.not_true, Bool.not_false, aExtract_tup, fin1_some, resL_nil, resL_some, enc_noRef, encR_noRef, noRefL_cons, noRefL_nil, noRef_int, noRef_str, noRef_bool, Bool.and_self, ite_true, h26, h25, h7, h8, h9, h4, c, q1, build27, storeC, loadC]
  | succ k ih =>
    intro i p n o r q hk hi hv hp ho hr wr wq hq
    have hlt : i < xs.length := by omega
    have e0 : xs[i]? = some xs[i] := List.getElem?_eq_getElem hlt
    rw [List.drop_eq_getElem_cons hlt] at hv ⊢
    obtain ⟨k1, k2, k3, k4⟩ := valid_cons hv
    have hroom := valid_room (o := xs[i].b.toNat) k4 (by omega) (by omega)
    have lq : q.str.length = src.length - o := by rw [hq]; simp
    have mq := WF_mass wq
    obtain ⟨wa, wb, sa, sb⟩ := R.split_ok q (xs[i].a - o).toNat wq
    have mb := WF_mass wb
    have ma := WF_mass wa
    obtain ⟨_, wd, _, sd⟩ := R.split_ok (q.split (xs[i].a - o).toNat).2 (xs[i].b - xs[i].a).toNat wb
    rw [hq, List.drop_drop] at sb
    rw [sb, List.drop_drop, show o + (xs[i].a - o).toNat + (xs[i].b - xs[i].a).toNat = xs[i].b.toNat by omega] at sd
    have sa' : (q.split (xs[i].a - o).toNat).1.str = (src.take xs[i].a.toNat).drop o := by
      rw [sa, hq, List.drop_take, show (xs[i].a - o).toNat = xs[i].a.toNat - o by omega]
    have la : (q.split (xs[i].a - o).toNat).1.str.length = xs[i].a.toNat - o := by rw [sa']; simp; omega
    have lb : (q.split (xs[i].a - o).toNat).2.str.length = src.length - xs[i].a.toNat := by rw [sb]; simp; omega
    obtain ⟨wf, sf⟩ := R.from_ok none xs[i].t trivial
    have mf := WF_mass wf
    have mr := WF_mass wr
    obtain ⟨wc, sc⟩ := R.concat_ok wr wa
    have mc := WF_mass wc
    rw [sc, List.length_append, la] at mc
    obtain ⟨we, se⟩ := R.concat_ok wc wf
    replace sf : (R.from none xs[i].t).str = xs[i].t := by rw [sf]; rfl
    rw [sf] at mf
    rw [sc, sf, sa', List.append_assoc] at se
    have lt : r.str.length + (xs[i].a.toNat - o) + xs[i].t.length ≤ 2000 := by omega
    obtain ⟨r', w', s', l', N0, q0⟩ := ih (i + 1) xs[i].b _ xs[i].b.toNat ((r.concat (q.split (xs[i].a - o).toNat).1).concat (R.from none xs[i].t)) ((q.split (xs[i].a - o).toNat).2.split (xs[i].b - xs[i].a).toNat).2 (by omega) (by omega) k4 (by omega) (by omega) (by rw [se, ← sa', List.length_append, List.length_append, la]; omega) we wd sd
    obtain ⟨N1, q1⟩ := AC.at (split_run q (xs[i].a - o).toNat (by omega) (by omega))
    obtain ⟨N2, q2⟩ := AC.at (split_run (q.split (xs[i].a - o).toNat).2 (xs[i].b - xs[i].a).toNat (by omega) (by omega))
    obtain ⟨N3, q3⟩ := AC.at (concat_run r (q.split (xs[i].a - o).toNat).1 (by omega))
    obtain ⟨N4, q4⟩ := AC.at (New_run xs[i].t (by omega))
    obtain ⟨N5, q5⟩ := AC.at (concat_run (r.concat (q.split (xs[i].a - o).toNat).1) (R.from none xs[i].t) (by omega))
    rw [show ((((xs[i].a - o).toNat : Nat) : Int)) = xs[i].a - o by omega] at q1
    rw [show ((((xs[i].b - xs[i].a).toNat : Nat) : Int)) = xs[i].b - xs[i].a by omega] at q2
    refine ⟨r', w', by rw [s', se, applyS]; simp only [List.append_assoc], l', max N0 (max N1 (max N2 (max N3 (max N4 N5)))), fun f hf m hm n' e s ⟨l, hs⟩ h26 h25 h24 h7 h8 h9 h4 => ?_⟩
    obtain ⟨m, rfl⟩ : ∃ j, m = j + 1 := ⟨m - 1, by omega⟩
    replace h24 : e 24 = .sl 65 3 (eds xs) .sh := by
      rcases h24 with h | ⟨h, _⟩
      · exact h
      · subst h; simp at hlt
    have q1 := q1 f (by omega)
    have q2 := q2 f (by omega)
    have q3 := q3 f (by omega)
    have q4 := q4 f (by omega)
    have q5 := q5 f (by omega)
    have e1 := idx44 (f := .sh) e0
    have e2 := wadd1 (a := i) (by omega)
    have e3 : IntKind.i64.wrap (xs[i].a - (o : Int)) = xs[i].a - o := by rw [wrap64] <;> omega
    have e4 : IntKind.i64.wrap (xs[i].b - xs[i].a) = xs[i].b - xs[i].a := by rw [wrap64] <;> omega
    have e5 : ((xs[i].b.toNat : Nat) : Int) = xs[i].b := by omega
    clear s' se sc sa' sa sb sd wa wb wd wc we ma mb mc la lb lq hq
    generalize (q.split (xs[i].a - o).toNat).1 = A at *
    generalize (q.split (xs[i].a - o).toNat).2 = B at *
    generalize (B.split (xs[i].b - xs[i].a).toNat).1 = D1 at *
    generalize (B.split (xs[i].b - xs[i].a).toNat).2 = D2 at *
    generalize r.concat A = E at *
    generalize R.from none xs[i].t = G at *
    generalize E.concat G = H at *
    rw [aLoop, F19_L0]
    simp -implicitDefEqProofs only [oh_some, mp_some, sto_some, br_true, br_false, gd_true, gd_false, wA_tt, wA_tup, wA_ft, wA_tf, wA_ff, enc_strip, lp_strip, rp_strip, encR_strip, enc_check, enc_addr, aNilCheck_box, aNilCheck_ref, aAddr_box, aAddr_ref, aLoad_one, List.getElem?_cons_succ, List.getElem?_cons_zero, Option.map_some, bin_add, bin_sub, bin_lss, bin_leq, bin_gtr, bin_geq, bin_eql, bin_neq, str_eql, aMax_int, aMin_int, aUn_not, aPick_true, aPick_false, strip_int, strip_bool, strip_str, strip_nilp, strip_nils, strip_box, strip_ref, strip_agg, strip_tup, strip_undef, aBox_f, solid_agg, cells_agg, kLoad_box, kGd_true, kGd_false, kCall_ok, gt_iff_lt, ge_iff_le, Int.ofNat_lt, Int.ofNat_le, decide_true, decide_false, Nat.zero_add, Bool.not_true, Bool.not_false, aExtract_tup, fin1_some, resL_nil, resL_some, enc_noRef, encR_noRef, noRefL_cons, noRefL_nil, noRef_int, noRef_str, noRef_bool, Bool.and_self, ite_true, h26, h25, h24, h7, h8, h9, hlt, e1, e2, e3, e4, q1, q2, q3, q4, q5, load3, alloc65, store65, load65, field27, kLoad_ref, d19_11', d19_12']
    exact q0 f (by omega) m (by omega) n' _ _ ⟨l ++ [(65, [I xs[i].a, I xs[i].b, .str xs[i].t])], by rw [hs, List.cons_append]⟩ (by simp [upds_at, upd_at]) (by simp [upds_at, upd_at, h25]) (.inl (by simp [upds_at, upd_at, h24])) (by simp [upds_at, upd_at]) (by simp [upds_at, upd_at]) (by simp [upds_at, upd_at, e5]) (by simp [upds_at, upd_at, h4])

/-- Rope.Apply. -/
theorem Apply_run (r : R) (w : r.WF) (hr : r.str.length ≤ 2000) (v : AV) (xs : List Ed) (h : IsE v xs) (ht : ∀ x ∈ xs, x.t.length ≤ 140737488355328) :
    if validate r.str xs = 0 then ∃ r' : R, r'.WF ∧ r'.str = applyS r.str 0 xs ∧ r'.str.length ≤ 2000 ∧ AC C 19 [rop r, v] (.tup [rop r', I 0]) else AC C 19 [rop r, v] (.tup [rop none, I (validate r.str xs)]) := by
  have l := h.len
  have st := h.strip
  have mr := WF_mass w
  obtain ⟨N1, q1⟩ := AC.at (validate_run r.str v xs h ht)
  obtain ⟨N2, q2⟩ := AC.at (String_run r (by omega))
  by_cases c : validate r.str xs = 0
  · rw [if_pos c]
    have c' := c
    unfold validate at c'
    split at c'
    · cases c'
    · obtain ⟨r', w', s', l', N3, q3⟩ := rope_loop r.str (by omega) xs (by omega) xs.length 0 (-1) r.str.length 0 none r (by omega) (by omega) c' (by omega) (by omega) (by simp [R.str]) trivial w (by simp)
      refine ⟨r', w', by rw [s']; rfl, l', ?_⟩
      refine .intro en19 (by simp [noRefL_cons, noRefL_nil, noRef_agg, h.noRef]) (by simp [noRef_tup, noRefL_cons, noRefL_nil, noRef_agg, noRef_int]) ?_
      refine ⟨max 52 (max N1 (max N2 N3)), fun n hn => ?_⟩
      have q1 := q1 n (by omega)
      have q2 := q2 n (by omega)
      have q3 := q3 n (by omega) n (by omega) n
      have z : ((0 : Int) != 0) = false := rfl
      rw [c] at q1
      rw [F19_eq, F19]
      simp -implicitDefEqProofs only [oh_some, mp_some, sto_some, br_true, br_false, gd_true, gd_false, wA_tt, wA_tup, wA_ft, wA_tf, wA_ff, enc_strip, lp_strip, rp_strip, encR_strip, enc_check, enc_addr, aNilCheck_box, aNilCheck_ref, aAddr_box, aAddr_ref, aLoad_one, List.getElem?_cons_succ, List.getElem?_cons_zero, Option.map_some, bin_add, bin_sub, bin_lss, bin_leq, bin_gtr, bin_geq, bin_eql, bin_neq, str_eql, aMax_int, aMin_int, aUn_not, aPick_true, aPick_false, strip_int, strip_bool, strip_str, strip_nilp, strip_nils, strip_box, strip_ref, strip_agg, strip_tup, strip_undef, aBox_f, solid_agg, cells_agg, kLoad_box, kGd_true, kGd_false, kCall_ok, gt_iff_lt, ge_iff_le, Int.ofNat_lt, Int.ofNat_le, decide_true, decide_false, Nat.zero_add, Bool.not_true, Bool.not_false, aExtract_tup, fin1_some, resL_nil, resL_some, enc_noRef, encR_noRef, noRefL_cons, noRefL_nil, noRef_int, noRef_str, noRef_bool, Bool.and_self, ite_true, st, l, q1, q2, z, alloc27, List.length_nil, List.nil_append, rop, aLoad_agg, List.drop_zero, List.take_succ_cons, List.take_zero, Nat.le_refl, List.length_cons]
      exact q3 _ _ ⟨[], rfl⟩ (by simp [upds_at, upd_at]) (by simp [upds_at, upd_at]) (by simpa [upds_at, upd_at] using h) (by simp [upds_at, upd_at, encR]) (by simp [upds_at, upd_at]) (by simp [upds_at, upd_at]) (by simp [upds_at, upd_at])
  · rw [if_neg c]
    refine .intro en19 (by simp [noRefL_cons, noRefL_nil, noRef_agg, h.noRef]) (by simp [noRef_tup, noRefL_cons, noRefL_nil, noRef_agg, noRef_int]) ?_
    refine ⟨max N1 N2, fun n hn => ⟨[(27, [.nilp])], ?_⟩⟩
    have q1 := q1 n (by omega)
    have q2 := q2 n (by omega)
    have z : (validate r.str xs != 0) = true := by simp [c]
    rw [F19_eq, F19]
    simp -implicitDefEqProofs only [oh_some, mp_some, sto_some, br_true, br_false, gd_true, gd_false, wA_tt, wA_tup, wA_ft, wA_tf, wA_ff, enc_strip, lp_strip, rp_strip, encR_strip, enc_check, enc_addr, aNilCheck_box, aNilCheck_ref, aAddr_box, aAddr_ref, aLoad_one, List.getElem?_cons_succ, List.getElem?_cons_zero, Option.map_some, bin_add, bin_sub, bin_lss, bin_leq, bin_gtr, bin_geq, bin_eql, bin_neq, str_eql, aMax_int, aMin_int, aUn_not, aPick_true, aPick_false, strip_int, strip_bool, strip_str, strip_nilp, strip_nils, strip_box, strip_ref, strip_agg, strip_tup, strip_undef, aBox_f, solid_agg, cells_agg, kLoad_box, kGd_true, kGd_false, kCall_ok, gt_iff_lt, ge_iff_le, Int.ofNat_lt, Int.ofNat_le, decide_true, decide_false, Nat.zero_add, Bool.not_true, Bool.not_false, aExtract_tup, fin1_some, resL_nil, resL_some, enc_noRef, encR_noRef, noRefL_cons, noRefL_nil, noRef_int, noRef_str, noRef_bool, Bool.and_self, ite_true, st, l, q1, q2, z, alloc27, List.length_nil, List.nil_append, rop, aLoad_agg, List.drop_zero, List.take_succ_cons, List.take_zero, Nat.le_refl, List.length_cons, build27z, storeC, loadC, encR_none]
end RopeF

