/- textedit.Apply, in the abstract machine. -/
import Derived.Test.YtionohfkjdahlaaRopeE
set_option linter.all false
set_option maxRecDepth 100000
namespace RopeF
open Go Go.Abs Go.Proofs

theorem d18_9' (x : Ans) : drawOK C 18 (regOps Try.f18 9) [.silent, .silent, .silent, .reader, .silent, .silent, .reader, .silent, .writer] x = x := drawOK_ok (by kernel_rfl)

/-- What the edits come to, from this offset on. -/
def applyS (src : List UInt8) : Nat → List Ed → List UInt8
  | o, [] => src.drop o
  | o, x :: xs => (src.take x.a.toNat).drop o ++ x.t ++ applyS src x.b.toNat xs

theorem valid_cons {len : Nat} {p n : Int} {x : Ed} {xs : List Ed} (h : valid len p n (x :: xs) = 0) : p < x.a ∧ x.a ≤ x.b ∧ x.b ≤ len ∧ valid len x.b (n + (x.t.length - (x.b - x.a))) xs = 0 := by
  unfold valid at h
  split at h
  · cases h
  · exact ⟨by omega, by omega, by omega, h⟩

/-- What is made never grows beyond what may come out. -/
theorem valid_room {len : Nat} : ∀ {xs : List Ed} {p n : Int} {o : Nat}, valid len p n xs = 0 → (o : Int) ≤ p + 1 → o ≤ len → n - ((len : Int) - o) ≤ 2000
  | [], p, n, o, h, h1, h2 => by
    unfold valid at h
    split at h
    · cases h
    · omega
  | x :: xs, p, n, o, h, h1, h2 => by
    obtain ⟨k1, k2, k3, k4⟩ := valid_cons h
    have := valid_room (o := x.b.toNat) k4 (by omega) (by omega)
    omega

theorem subBoth {s : List UInt8} {i j : Int} (h0 : 0 ≤ i) (h1 : i ≤ j) (h2 : j ≤ s.length) : aSl Try.prog 9 (.str s) (some (I i)) (some (I j)) none = some (.str ((s.take j.toNat).drop i.toNat)) := by
  have h : Try.prog.underlying 9 = some .string := by kernel_rfl
  have h3 : 0 ≤ j := by omega
  have h4 : i ≤ max j 0 := by omega
  simp [aSl, h, aSubstr, aBound, h0, h2, h3, h4]

theorem noRef_ref (i o : Nat) : (AV.ref i o).noRef = false := by simp [AV.noRef]
theorem load65s (s : Heap) (w : TypeId × List AV) (id : Nat) (x y z : AV) (k : Nat) : aLoad false false 1 (.ref s.length k) (s.set id w ++ [(65, [x, y, z])]) = [x, y, z][k]?.map fun r => (r.strip, s.set id w ++ [(65, [x, y, z])]) := by
  have := load65 (s.set id w) x y z k
  rwa [List.length_set] at this
theorem Bld.app {s : Heap} {id : Nat} {bs : List UInt8} (h : Bld s id bs) (l : Heap) : Bld (s ++ l) id bs := by
  obtain ⟨a, h, q⟩ := h
  exact ⟨a, by rw [List.getElem?_append_left (List.getElem?_eq_some_iff.1 h).1, h], q⟩
theorem Bld.lt {s : Heap} {id : Nat} {bs : List UInt8} (h : Bld s id bs) : id < s.length := by
  obtain ⟨a, h, _⟩ := h
  exact (List.getElem?_eq_some_iff.1 h).1

theorem apply_loop (src : List UInt8) (hs : src.length ≤ 2000) (xs : List Ed) (hl : xs.length ≤ 50) : ∀ (k i : Nat) (p n : Int) (o : Nat) (acc : List UInt8), xs.length - i = k → i ≤ xs.length → valid src.length p n (xs.drop i) = 0 → (o : Int) ≤ p + 1 → o ≤ src.length → (acc.length : Int) = n - (src.length - o) →
    ∃ N, ∀ f, N ≤ f → ∀ m, k < m → ∀ n' e s, Bld s 0 acc → e 19 = I i → e 18 = I xs.length → IsE (e 17) xs → e 8 = I o → e 7 = .ref 0 0 → e 0 = .str src → ∃ s', aLoop (F18_L0 (den C f) n') m e s = some (.tup [.str (acc ++ applyS src o (xs.drop i)), I 0], s') := by
  intro k
  induction k with
  | zero =>
    intro i p n o acc hk hi hv hp ho ha
    have hr := valid_room hv hp ho
    obtain ⟨N, q⟩ := write_run (src.drop o)
    refine ⟨N + 1, fun f hf m hm n' e s hb h19 h18 h17 h8 h7 h0 => ?_⟩
    obtain ⟨m, rfl⟩ : ∃ j, m = j + 1 := ⟨m - 1, by omega⟩
    obtain ⟨f, rfl⟩ : ∃ j, f = j + 1 := ⟨f - 1, by omega⟩
    have c : ¬ i < xs.length := by omega
    have q := q (f + 1) (by omega) s 0 acc hb (by simp; omega)
    obtain ⟨s', q2⟩ := bString_run (hb.set (acc ++ src.drop o)) (by simp; omega)
    have q2 := q2 f
    have e1 := subDrop (s := src) (i := (o : Int)) (by omega) (by omega)
    rw [Int.toNat_natCast] at e1
    rw [aLoop, F18_L0, List.drop_of_length_le (by omega), applyS]
    refine ⟨s', ?_⟩
    simp -implicitDefEqProofs only [oh_some, mp_some, sto_some, br_true, br_false, gd_true, gd_false, wA_tt, wA_tup, wA_ft, wA_tf, wA_ff, enc_strip, lp_strip, rp_strip, encR_strip, enc_check, enc_addr, aNilCheck_box, aNilCheck_ref, aAddr_box, aAddr_ref, aLoad_one, List.getElem?_cons_succ, List.getElem?_cons_zero, Option.map_some, bin_add, bin_sub, bin_lss, bin_leq, bin_gtr, bin_geq, bin_eql, bin_neq, str_eql, aMax_int, aMin_int, aUn_not, aPick_true, aPick_false, strip_int, strip_bool, strip_str, strip_nilp, strip_nils, strip_box, strip_ref, strip_agg, strip_tup, strip_undef, aBox_f, solid_agg, cells_agg, kLoad_box, kGd_true, kGd_false, kCall_ok, gt_iff_lt, ge_iff_le, Int.ofNat_lt, Int.ofNat_le, decide_true, decide_false, Nat.zero_add, Bool.not_true, Bool.not_false, aExtract_tup, fin1_some, resL_nil, resL_some, enc_noRef, encR_noRef, noRefL_cons, noRefL_nil, noRef_int, noRef_str, noRef_bool, Bool.and_self, ite_true, h19, h18, h8, h7, h0, c, q, q2, e1]
  | succ k ih =>
    intro i p n o acc hk hi hv hp ho ha
    have hlt : i < xs.length := by omega
    have e0 : xs[i]? = some xs[i] := List.getElem?_eq_getElem hlt
    rw [List.drop_eq_getElem_cons hlt] at hv ⊢
    obtain ⟨k1, k2, k3, k4⟩ := valid_cons hv
    have hr := valid_room (o := xs[i].b.toNat) k4 (by omega) (by omega)
    have hlen : ((src.take xs[i].a.toNat).drop o).length = xs[i].a.toNat - o := by simp; omega
    obtain ⟨N1, q1⟩ := write_run ((src.take xs[i].a.toNat).drop o ++ xs[i].t)
    obtain ⟨N2, q2⟩ := ih (i + 1) xs[i].b _ xs[i].b.toNat (acc ++ ((src.take xs[i].a.toNat).drop o ++ xs[i].t)) (by omega) (by omega) k4 (by omega) (by omega) (by rw [List.length_append, List.length_append, hlen]; omega)
    rw [List.append_assoc acc] at q2
    refine ⟨max N1 N2, fun f hf m hm n' e s hb h19 h18 h17 h8 h7 h0 => ?_⟩
    obtain ⟨m, rfl⟩ : ∃ j, m = j + 1 := ⟨m - 1, by omega⟩
    replace h17 : e 17 = .sl 65 3 (eds xs) .sh := by
      rcases h17 with h | ⟨h, _⟩
      · exact h
      · subst h; simp at hlt
    have e1 := idx44 (f := .sh) e0
    have e2 := wadd1 (a := i) (by omega)
    have e3 := subBoth (s := src) (i := (o : Int)) (j := xs[i].a) (by omega) (by omega) (by omega)
    rw [Int.toNat_natCast] at e3
    have e4 : aBin Try.prog .add 9 (.str ((src.take xs[i].a.toNat).drop o)) (.str xs[i].t) = some (.str ((src.take xs[i].a.toNat).drop o ++ xs[i].t)) := str_add _ _ (by rw [hlen]; omega)
    have q1 := q1 f (by omega) (s ++ [(65, [I xs[i].a, I xs[i].b, .str xs[i].t])]) 0 acc (hb.app _) (by rw [List.length_append, hlen]; omega)
    rw [List.set_append_left _ _ hb.lt] at q1
    have e5 : ((xs[i].b.toNat : Nat) : Int) = xs[i].b := by omega
    rw [aLoop, F18_L0, applyS]
    simp -implicitDefEqProofs only [oh_some, mp_some, sto_some, br_true, br_false, gd_true, gd_false, wA_tt, wA_tup, wA_ft, wA_tf, wA_ff, enc_strip, lp_strip, rp_strip, encR_strip, enc_check, enc_addr, aNilCheck_box, aNilCheck_ref, aAddr_box, aAddr_ref, aLoad_one, List.getElem?_cons_succ, List.getElem?_cons_zero, Option.map_some, bin_add, bin_sub, bin_lss, bin_leq, bin_gtr, bin_geq, bin_eql, bin_neq, str_eql, aMax_int, aMin_int, aUn_not, aPick_true, aPick_false, strip_int, strip_bool, strip_str, strip_nilp, strip_nils, strip_box, strip_ref, strip_agg, strip_tup, strip_undef, aBox_f, solid_agg, cells_agg, kLoad_box, kGd_true, kGd_false, kCall_ok, gt_iff_lt, ge_iff_le, Int.ofNat_lt, Int.ofNat_le, decide_true, decide_false, Nat.zero_add, Bool.not_true, Bool.not_false, aExtract_tup, fin1_some, resL_nil, resL_some, enc_noRef, encR_noRef, noRefL_cons, noRefL_nil, noRef_int, noRef_str, noRef_bool, Bool.and_self, ite_true, h19, h18, h17, h8, h7, h0, hlt, e1, e2, e3, e4, q1, aLoad_agg, List.length_cons, List.length_nil, List.drop_zero, List.take_succ_cons, List.take_zero, Nat.le_refl, alloc65, store65, load65, load65s, kLoad_ref, noRef_ref, Bool.false_and, Bool.false_eq_true, if_false, d18_9']
    exact q2 f (by omega) m (by omega) n' _ _ ((hb.set _).app [(65, [I xs[i].a, I xs[i].b, .str xs[i].t])]) (by simp [upds_at, upd_at]) (by simp [upds_at, upd_at, h18]) (.inl (by simp [upds_at, upd_at, h17])) (by simp [upds_at, upd_at, e5]) (by simp [upds_at, upd_at, h7]) (by simp [upds_at, upd_at, h0])

/-- textedit.Apply. -/
theorem apply_run (src : List UInt8) (v : AV) (xs : List Ed) (h : IsE v xs) (ht : ∀ x ∈ xs, x.t.length ≤ 140737488355328) : AC C 18 [.str src, v] (if validate src xs = 0 then .tup [.str (applyS src 0 xs), I 0] else .tup [.str [], I (validate src xs)]) := by
  refine .intro en18 (by simp [noRefL_cons, noRefL_nil, noRef_str, h.noRef]) (by split <;> rfl) ?_
  have l := h.len
  have st := h.strip
  obtain ⟨N1, q1⟩ := AC.at (validate_run src v xs h ht)
  by_cases c : validate src xs = 0
  · rw [if_pos c]
    have c' := c
    unfold validate at c'
    split at c'
    · cases c'
    · obtain ⟨N2, q2⟩ := apply_loop src (by omega) xs (by omega) xs.length 0 (-1) src.length 0 [] (by omega) (by omega) c' (by omega) (by omega) (by simp)
      refine ⟨max 52 (max N1 N2), fun n hn => ?_⟩
      have q1 := q1 n (by omega)
      have hb : Bld [(53, [.nilp, .nils])] 0 [] := ⟨.nilp, rfl, .inl rfl⟩
      have q2 := q2 n (by omega) n (by omega) n
      have z : ((0 : Int) != 0) = false := rfl
      rw [c] at q1
      rw [F18_eq, F18]
      simp -implicitDefEqProofs only [oh_some, mp_some, sto_some, br_true, br_false, gd_true, gd_false, wA_tt, wA_tup, wA_ft, wA_tf, wA_ff, enc_strip, lp_strip, rp_strip, encR_strip, enc_check, enc_addr, aNilCheck_box, aNilCheck_ref, aAddr_box, aAddr_ref, aLoad_one, List.getElem?_cons_succ, List.getElem?_cons_zero, Option.map_some, bin_add, bin_sub, bin_lss, bin_leq, bin_gtr, bin_geq, bin_eql, bin_neq, str_eql, aMax_int, aMin_int, aUn_not, aPick_true, aPick_false, strip_int, strip_bool, strip_str, strip_nilp, strip_nils, strip_box, strip_ref, strip_agg, strip_tup, strip_undef, aBox_f, solid_agg, cells_agg, kLoad_box, kGd_true, kGd_false, kCall_ok, gt_iff_lt, ge_iff_le, Int.ofNat_lt, Int.ofNat_le, decide_true, decide_false, Nat.zero_add, Bool.not_true, Bool.not_false, aExtract_tup, fin1_some, resL_nil, resL_some, enc_noRef, encR_noRef, noRefL_cons, noRefL_nil, noRef_int, noRef_str, noRef_bool, Bool.and_self, ite_true, st, l, q1, z, alloc53, List.length_nil, List.nil_append]
      exact q2 _ _ hb (by simp [upds_at, upd_at]) (by simp [upds_at, upd_at]) (by simpa [upds_at, upd_at] using h) (by simp [upds_at, upd_at]) (by simp [upds_at, upd_at]) (by simp [upds_at, upd_at, argEnv])
  · rw [if_neg c]
    refine ⟨N1, fun n hn => ⟨[], ?_⟩⟩
    have q1 := q1 n (by omega)
    have z : (validate src xs != 0) = true := by simp [c]
    rw [F18_eq, F18]
    simp -implicitDefEqProofs only [oh_some, mp_some, sto_some, br_true, br_false, gd_true, gd_false, wA_tt, wA_tup, wA_ft, wA_tf, wA_ff, enc_strip, lp_strip, rp_strip, encR_strip, enc_check, enc_addr, aNilCheck_box, aNilCheck_ref, aAddr_box, aAddr_ref, aLoad_one, List.getElem?_cons_succ, List.getElem?_cons_zero, Option.map_some, bin_add, bin_sub, bin_lss, bin_leq, bin_gtr, bin_geq, bin_eql, bin_neq, str_eql, aMax_int, aMin_int, aUn_not, aPick_true, aPick_false, strip_int, strip_bool, strip_str, strip_nilp, strip_nils, strip_box, strip_ref, strip_agg, strip_tup, strip_undef, aBox_f, solid_agg, cells_agg, kLoad_box, kGd_true, kGd_false, kCall_ok, gt_iff_lt, ge_iff_le, Int.ofNat_lt, Int.ofNat_le, decide_true, decide_false, Nat.zero_add, Bool.not_true, Bool.not_false, aExtract_tup, fin1_some, resL_nil, resL_some, enc_noRef, encR_noRef, noRefL_cons, noRefL_nil, noRef_int, noRef_str, noRef_bool, Bool.and_self, ite_true, st, l, q1, z]
end RopeF

