/- relex.Update: the call. -/
import Derived.Test.YtionohfkjdahlaaDoorRelV
set_option linter.all false
set_option maxRecDepth 100000
namespace LexF
open Go Go.Abs Go.Proofs

theorem offOf_cons (t : Tok) (r : List Tok) (k : Nat) : offOf (t :: r) (k + 1) = t.2.length + offOf r k := by simp [offOf, srcOfT]
theorem keep_iff (a : Nat) : ∀ (ts : List Tok) (o i : Nat), i ≤ keep a o ts → (i < keep a o ts ↔ i < ts.length ∧ o + offOf ts (i + 1) < a)
  | [], o, i, h => by simp [keep] at h ⊢
  | t :: r, o, i, h => by
    simp only [keep] at h ⊢
    rw [offOf_cons]
    split at h
    · rename_i hlt
      rw [if_pos hlt]
      cases i with
      | zero => simp [offOf, srcOfT]; omega
      | succ i =>
        have := keep_iff a r (o + t.2.length) i (by omega)
        simp only [List.length_cons]
        rw [Nat.add_lt_add_iff_right, this, Nat.add_lt_add_iff_right, Nat.add_assoc]
    · rename_i hlt
      have : i = 0 := by omega
      subst this
      rw [if_neg hlt]
      simp [offOf, srcOfT]; omega

theorem IsT.take {v : AV} {ts : List Tok} (h : IsT v ts) {i : Nat} (hi : i ≤ ts.length) : ∃ u, aSl Tryd.prog 35 v none (some (I i)) none = some u ∧ IsT u (ts.take i) := by
  rcases h with rfl | ⟨rfl, rfl⟩
  · exact ⟨.sl 39 2 (tv (ts.take i)) .sh, by simp [aSl, under35, sz39, aSlice, aBound, hi, List.map_take], .inl rfl⟩
  · have : i = 0 := by simpa using hi
    subst this
    exact ⟨.nils, by simp [aSl, under35], .inr ⟨rfl, rfl⟩⟩

section
variable {src t : List UInt8} {a b : Nat}
theorem update1 (hs : src.length ≤ 2000) (hab : a ≤ b) (hb : b ≤ src.length) (hn : (nextOf src t a b).length ≤ 2000) (v ew : AV) (hv : IsT v (tokz src)) (he : IsN ew (ends 0 (tokz src))) (tx : AV) (htx : tx.strip = tx) :
    ∃ w r, IsT (AV.strip w) (tokz (nextOf src t a b)) ∧ w.noRef = true ∧ r ≤ (tokz src).length ∧ r ≤ (tokz (nextOf src t a b)).length ∧ ∃ N, ∀ n, N ≤ n → ∀ (k i : Nat), keep a 0 (tokz src) - i = k → i ≤ keep a 0 (tokz src) → ∀ m, k < m → ∀ n', (nextOf src t a b).length < n' → ∀ e s, e 14 = I i → e 15 = I (offOf (tokz src) i) → e 9 = .str (nextOf src t a b) → e 0 = .str src → e 13 = ew → e 5 = .box [I a, I b, tx] 0 → e 11 = v →
      aLoop (F24_L0 (den C n) n') m e s = some (.tup [w, I r, I 0], s) := by
  have hold := tokz_length src
  have hK := keep_le a (tokz src) 0
  have hnl := next_len (t := t) hab hb
  obtain ⟨kt1, kt2⟩ := keep_tokz (t ++ src.drop b) a _ src 0 (Nat.le_refl _) (by omega) (by omega) (keep a 0 (tokz src)) (Nat.le_refl _)
  rw [Nat.sub_zero] at kt1
  have hne : src.take a ++ (t ++ src.drop b) = nextOf src t a b := by unfold nextOf; rw [List.append_assoc]
  rw [hne] at kt1
  rw [Nat.zero_add] at kt2
  obtain ⟨u, hu1, hu2⟩ := hv.take hK
  obtain ⟨y, hy1, hy2⟩ := clone_run u _ hu2 (by rw [List.length_take]; omega)
  have hoff : offOf (tokz src) (keep a 0 (tokz src)) ≤ (nextOf src t a b).length := by omega
  obtain ⟨w, r, h1, h2, h3, h4, N1, q1⟩ := update2 hs hab hb hn v ew hv he (keep a 0 (tokz src)) hK kt2 tx (nextOf src t a b).length _ _ y (by omega) hoff kt1 (by rw [List.length_take]; omega) hy1
  obtain ⟨N2, q2⟩ := AC.at hy2
  have ste := he.strip
  have stv := hv.strip
  have stu := hu2.strip
  have hl := hv.len
  refine ⟨w, r, h1, h2, h3, h4, max N1 N2, fun n hn' => ?_⟩
  simp only [Nat.max_le] at hn'
  have q1 := q1 n (by omega)
  have q2 := q2 n (by omega)
  have w1 : IntKind.i64.wrap (((nextOf src t a b).length : Int) - (src.length : Int)) = ((nextOf src t a b).length : Int) - (src.length : Int) := by rw [wrap64] <;> omega
  intro k
  induction k with
  | zero =>
    intro i hk hi m hm n' hnn e s h14 h15 h9 h0 h13 h5 h11
    have hi' : i = keep a 0 (tokz src) := by omega
    obtain ⟨m, rfl⟩ : ∃ j, m = j + 1 := ⟨m - 1, by omega⟩
    have iff := keep_iff a (tokz src) 0 i hi
    rw [hi'] at h14 h15 iff
    rw [aLoop, F24_L0]
    by_cases c : keep a 0 (tokz src) < (tokz src).length
    · have c2 : ¬ offOf (tokz src) (keep a 0 (tokz src) + 1) < a := by
        intro hlt
        have := iff.2 ⟨c, by omega⟩
        omega
      have hat := ends_at (tokz src) 0 _ c
      rw [Nat.zero_add] at hat
      have e1 := he.at hat
      have e1 : aIndexAddr Tryd.prog 30 ew (I (keep a 0 (tokz src))) = some (.box [I (offOf (tokz src) (keep a 0 (tokz src) + 1))] 0) := e1
      simp -implicitDefEqProofs only [oh_some, mp_some, sto_some, br_true, br_false, gd_true, gd_false, wA_tt, wA_tup, wA_ft, wA_tf, wA_ff, aNilCheck_box, aNilCheck_ref, aAddr_box, aAddr_ref, aLoad_one, List.getElem?_cons_succ, List.getElem?_cons_zero, Option.map_some, bin_add, bin_sub, bin_lss, bin_leq, bin_gtr, bin_geq, bin_eql, bin_neq, str_eql, aMax_int, aMin_int, aUn_not, aPick_true, aPick_false, strip_int, strip_bool, strip_str, strip_nilp, strip_nils, strip_box, strip_ref, strip_agg, strip_tup, strip_undef, aBox_f, solid_agg, cells_agg, kLoad_box, kGd_true, kGd_false, kCall_ok, gt_iff_lt, ge_iff_le, Int.ofNat_lt, Int.ofNat_le, decide_true, decide_false, Nat.zero_add, Bool.not_true, Bool.not_false, aExtract_tup, fin1_some, resL_nil, resL_some, noRefL_cons, noRefL_nil, noRef_int, noRef_str, noRef_bool, noRef_nilp, noRef_agg, strip_fn, kLoad_ref, Bool.and_self, ite_true, h14, h15, h9, h0, h13, h5, h11, c, c2, e1, hl, ste, stv, stu, len9, hu1, q2, w1, d24_13]
      exact q1 n' (by omega) n' _ s (by simp [upds_at, upd_at, h15]) (by simp [upds_at, upd_at, h9]) (by simp [upds_at, upd_at, h13]) (by simp [upds_at, upd_at]) (by simp [upds_at, upd_at, h5]) (by simp [upds_at, upd_at]) (by simp [upds_at, upd_at, h11]) (by simp [upds_at, upd_at, h14])
    · simp -implicitDefEqProofs only [oh_some, mp_some, sto_some, br_true, br_false, gd_true, gd_false, wA_tt, wA_tup, wA_ft, wA_tf, wA_ff, aNilCheck_box, aNilCheck_ref, aAddr_box, aAddr_ref, aLoad_one, List.getElem?_cons_succ, List.getElem?_cons_zero, Option.map_some, bin_add, bin_sub, bin_lss, bin_leq, bin_gtr, bin_geq, bin_eql, bin_neq, str_eql, aMax_int, aMin_int, aUn_not, aPick_true, aPick_false, strip_int, strip_bool, strip_str, strip_nilp, strip_nils, strip_box, strip_ref, strip_agg, strip_tup, strip_undef, aBox_f, solid_agg, cells_agg, kLoad_box, kGd_true, kGd_false, kCall_ok, gt_iff_lt, ge_iff_le, Int.ofNat_lt, Int.ofNat_le, decide_true, decide_false, Nat.zero_add, Bool.not_true, Bool.not_false, aExtract_tup, fin1_some, resL_nil, resL_some, noRefL_cons, noRefL_nil, noRef_int, noRef_str, noRef_bool, noRef_nilp, noRef_agg, strip_fn, kLoad_ref, Bool.and_self, ite_true, h14, h15, h9, h0, h13, h5, h11, c, hl, ste, stv, stu, len9, hu1, q2, w1, d24_13]
      exact q1 n' (by omega) n' _ s (by simp [upds_at, upd_at, h15]) (by simp [upds_at, upd_at, h9]) (by simp [upds_at, upd_at, h13]) (by simp [upds_at, upd_at]) (by simp [upds_at, upd_at, h5]) (by simp [upds_at, upd_at]) (by simp [upds_at, upd_at, h11]) (by simp [upds_at, upd_at, h14])
  | succ k ih =>
    intro i hk hi m hm n' hnn e s h14 h15 h9 h0 h13 h5 h11
    obtain ⟨m, rfl⟩ : ∃ j, m = j + 1 := ⟨m - 1, by omega⟩
    obtain ⟨c, c2⟩ := (keep_iff a (tokz src) 0 i hi).1 (by omega)
    rw [Nat.zero_add] at c2
    have hat := ends_at (tokz src) 0 _ c
    rw [Nat.zero_add] at hat
    have e1 : aIndexAddr Tryd.prog 30 ew (I i) = some (.box [I (offOf (tokz src) (i + 1))] 0) := he.at hat
    have e2 := wadd1 (a := i) (by omega)
    rw [aLoop, F24_L0]
    simp -implicitDefEqProofs only [oh_some, mp_some, sto_some, br_true, br_false, gd_true, gd_false, wA_tt, wA_tup, wA_ft, wA_tf, wA_ff, aNilCheck_box, aNilCheck_ref, aAddr_box, aAddr_ref, aLoad_one, List.getElem?_cons_succ, List.getElem?_cons_zero, Option.map_some, bin_add, bin_sub, bin_lss, bin_leq, bin_gtr, bin_geq, bin_eql, bin_neq, str_eql, aMax_int, aMin_int, aUn_not, aPick_true, aPick_false, strip_int, strip_bool, strip_str, strip_nilp, strip_nils, strip_box, strip_ref, strip_agg, strip_tup, strip_undef, aBox_f, solid_agg, cells_agg, kLoad_box, kGd_true, kGd_false, kCall_ok, gt_iff_lt, ge_iff_le, Int.ofNat_lt, Int.ofNat_le, decide_true, decide_false, Nat.zero_add, Bool.not_true, Bool.not_false, aExtract_tup, fin1_some, resL_nil, resL_some, noRefL_cons, noRefL_nil, noRef_int, noRef_str, noRef_bool, noRef_nilp, noRef_agg, strip_fn, kLoad_ref, Bool.and_self, ite_true, h14, h15, h9, h0, h13, h5, h11, c, c2, e1, e2, hl, ste, stv, d24_13]
    exact ih (i + 1) (by omega) (by omega) m (by omega) n' hnn _ s (by simp [upds_at, upd_at]) (by simp [upds_at, upd_at]) (by simp [upds_at, upd_at, h9]) (by simp [upds_at, upd_at, h0]) (by simp [upds_at, upd_at, h13]) (by simp [upds_at, upd_at, h5]) (by simp [upds_at, upd_at, h11])

theorem update_run (hs : src.length ≤ 2000) (hab : a ≤ b) (hb : b ≤ src.length) (hn : (nextOf src t a b).length ≤ 2000) (v : AV) (hv : IsT v (tokz src)) :
    ∃ w r, IsT (AV.strip w) (tokz (nextOf src t a b)) ∧ r ≤ (tokz src).length ∧ r ≤ (tokz (nextOf src t a b)).length ∧ AC C 24 [.str src, v, .agg [I a, I b, .str t]] (.tup [w, I r, I 0]) := by
  have hold := tokz_length src
  have hnl := next_len (t := t) hab hb
  have hsrc := tokz_src _ src (Nat.le_refl _)
  have hva := accV_strip (tokz src)
  have hends := ends_run _ (tokz src) hva (by omega) (by rw [hsrc]; omega)
  obtain ⟨w, r, h1, h2, h3, h4, N1, q1⟩ := update1 (t := t) hs hab hb hn _ _ hva (accI_strip (ends 0 (tokz src))) (.str t) rfl
  refine ⟨w, r, h1, h3, h4, .intro en24 (by simp [noRefL_cons, noRefL_nil, noRef_str, hv.noRef, noRef_agg, noRef_int]) (by simp [noRef_tup, noRefL_cons, noRefL_nil, h2, noRef_int]) ?_⟩
  have hap := EdF.apply_run src (.sl 48 3 (EdF.eds [⟨a, b, t⟩]) .sh) [⟨a, b, t⟩] (.inl rfl) (by intro x hx; simp at hx; subst hx; simp; omega)
  have hval : EdF.validate src [⟨a, b, t⟩] = 0 := by
    unfold EdF.validate
    rw [if_neg (by simp; omega)]
    unfold EdF.valid
    simp only
    rw [if_neg (by omega)]
    unfold EdF.valid
    rw [if_neg (by omega)]
  have hS : EdF.applyS src 0 [⟨a, b, t⟩] = nextOf src t a b := by
    simp [EdF.applyS, nextOf]
  rw [if_pos hval, hS] at hap
  obtain ⟨N2, q2⟩ := AC.at hap
  obtain ⟨N3, q3⟩ := AC.at (tok_run src)
  unfold tokR at q3
  rw [if_neg (by omega)] at q3
  obtain ⟨N4, q4⟩ := AC.at (equal_run _ v (tokz src) hva hv (by omega))
  obtain ⟨N5, q5⟩ := AC.at hends
  have st1 := hva.strip
  have st2 := hv.strip
  have st3 := (accI_strip (ends 0 (tokz src))).strip
  generalize (accV (tokz src)).strip = va at *
  generalize (accI (ends 0 (tokz src))).strip = ia at *
  have bs : aBuildSlice Tryd.prog 46 1 [(0, .agg [I a, I b, .str t])] = some (.sl 48 3 [.agg [I a, I b, .str t]] .own) := by kernel_rfl
  refine ⟨max N1 (max N2 (max N3 (max N4 (max N5 5000)))), fun n hn' => ⟨[], ?_⟩⟩
  simp only [Nat.max_le] at hn'
  have q1 := q1 n (by omega) _ 0 rfl (by omega) n (by have := keep_le a (tokz src) 0; omega) n (by omega)
  have q2 : ∀ s, aCall Tryd.prog (den C n) 32 [.str src, .sl 48 3 [.agg [I a, I b, .str t]] .sh] s = _ := q2 n (by omega)
  have q3 := q3 n (by omega)
  have q4 := q4 n (by omega)
  have q5 := q5 n (by omega)
  have c1 : ¬ (2000 : Int) < (src.length : Int) := by omega
  have c2 : ¬ (2000 : Int) < ((nextOf src t a b).length : Int) := by omega
  have z0 : ((0 : Int) != 0) = false := rfl
  rw [F24_eq, F24]
  simp -implicitDefEqProofs only [oh_some, mp_some, sto_some, br_true, br_false, gd_true, gd_false, wA_tt, wA_tup, wA_ft, wA_tf, wA_ff, aNilCheck_box, aNilCheck_ref, aAddr_box, aAddr_ref, aLoad_one, List.getElem?_cons_succ, List.getElem?_cons_zero, Option.map_some, bin_add, bin_sub, bin_lss, bin_leq, bin_gtr, bin_geq, bin_eql, bin_neq, str_eql, aMax_int, aMin_int, aUn_not, aPick_true, aPick_false, strip_int, strip_bool, strip_str, strip_nilp, strip_nils, strip_box, strip_ref, strip_agg, strip_tup, strip_undef, aBox_f, solid_agg, cells_agg, kLoad_box, kGd_true, kGd_false, kCall_ok, gt_iff_lt, ge_iff_le, Int.ofNat_lt, Int.ofNat_le, decide_true, decide_false, Nat.zero_add, Bool.not_true, Bool.not_false, aExtract_tup, fin1_some, resL_nil, resL_some, noRefL_cons, noRefL_nil, noRef_int, noRef_str, noRef_bool, noRef_nilp, noRef_agg, strip_fn, kLoad_ref, Bool.and_self, ite_true, len9, c1, c2, z0, aLoad_agg, List.length_cons, List.length_nil, List.drop_zero, List.take_succ_cons, List.take_zero, Nat.le_refl, bs, strip_own, strip_sh, q2, q3, q4, q5, st1, st2, st3]
  exact q1 _ _ (by simp [upds_at, upd_at]) (by simp [upds_at, upd_at, offOf, srcOfT]) (by simp [upds_at, upd_at]) (by simp [upds_at, upd_at, argEnv]) (by simp [upds_at, upd_at]) (by simp [upds_at, upd_at]) (by simp [upds_at, upd_at])
end
end LexF

