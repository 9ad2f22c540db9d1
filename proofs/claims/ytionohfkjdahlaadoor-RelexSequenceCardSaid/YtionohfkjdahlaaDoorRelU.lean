/- relex.Update, in the abstract machine. -/
import Derived.Test.YtionohfkjdahlaaDoorRelE
import Derived.Test.YtionohfkjdahlaaDoorRelT
set_option linter.all false
set_option maxRecDepth 100000
namespace LexF
open Go Go.Abs Go.Proofs

/-! ### Slices of integers -/
abbrev ints (zs : List Nat) : List AV := zs.map fun (z : Nat) => I z
def IsN (v : AV) (zs : List Nat) : Prop := v = .sl 3 1 (ints zs) .sh ∨ (zs = [] ∧ v = .nils)
def accI (zs : List Nat) : AV := match zs with
  | [] => .nils
  | z :: r => .sl 3 1 (ints (z :: r)) .own
theorem accI_strip (zs : List Nat) : IsN (accI zs).strip zs := by
  cases zs with
  | nil => exact .inr ⟨rfl, rfl⟩
  | cons t r => exact .inl rfl
theorem IsN.strip {v : AV} {zs : List Nat} (h : IsN v zs) : v.strip = v := by rcases h with rfl | ⟨_, rfl⟩ <;> rfl
theorem ints_noRef (xs : List Nat) : noRefL (ints xs) = true := by induction xs with
  | nil => rfl
  | cons x xs ih => show noRefL (I x :: ints xs) = true; rw [noRefL_cons, ih]; rfl
theorem IsN.noRef {v : AV} {zs : List Nat} (h : IsN v zs) : v.noRef = true := by
  rcases h with rfl | ⟨_, rfl⟩
  · simp [AV.noRef, ints_noRef]
  · rfl
theorem under30 : Tryd.prog.underlying 30 = some (.slice 3) := by kernel_rfl
theorem sz3 : szOf Tryd.prog 3 = some 1 := by kernel_rfl
theorem IsN.at {v : AV} {zs : List Nat} (h : IsN v zs) {i x : Nat} (hx : zs[i]? = some x) : aIndexAddr Tryd.prog 30 v (I i) = some (.box [I x] 0) := by
  rcases h with rfl | ⟨rfl, rfl⟩
  · simp [aIndexAddr, under30, sz3, hx, AV.cells]
  · simp at hx
theorem info3' : ((Tryd.prog.info? 3).map fun i => (i.size, i.bytes, i.zero.map fun z => z.cells.size)) = some (1, 8, some 1) := by kernel_rfl
theorem info3 : ∃ i, Tryd.prog.info? 3 = some i ∧ i.size = 1 ∧ i.bytes = 8 ∧ ∃ z, i.zero = some z ∧ z.cells.size = 1 := by
  have h := info3'
  rw [Option.map_eq_some_iff] at h
  obtain ⟨i, h1, h2⟩ := h
  simp only [Prod.mk.injEq, Option.map_eq_some_iff] at h2
  exact ⟨i, h1, h2.1, h2.2.1, h2.2.2⟩
theorem app30 (xs : List Nat) (x : Nat) (f : Flag) (h : xs.length < 1000000) : aAppend Tryd.prog 30 30 (accI xs) (.sl 3 1 [I x] f) = some (accI (xs ++ [x])) := by
  obtain ⟨i, h1, h2, h3, z, h4, h5⟩ := info3
  unfold aAppend
  rw [under30]
  simp only [h1, h2, srcOf, if_true, h4, h5, ne_eq, not_true, if_false, h3]
  cases xs with
  | nil =>
    simp only [accI, List.nil_append, List.length_cons, List.length_nil, List.map_cons, List.map_nil]
    rw [if_pos (by omega)]
  | cons b r =>
    simp only [accI, ints, List.length_map, List.length_cons, List.length_nil, List.map_cons, List.cons_append, List.map_append, List.map_nil] at *
    rw [if_pos ⟨trivial, trivial, by omega, by omega⟩]
theorem bs30 (x : Nat) : ∃ f, aBuildSlice Tryd.prog 30 1 [(0, I x)] = some (.sl 3 1 [I x] f) := ⟨.own, by kernel_rfl⟩

/-! ### ends -/
theorem ends_loop (v : AV) (ts : List Tok) (hv : IsT v ts) (ht : ts.length < 100000) (hs : (srcOfT ts).length < 1000000) : ∀ (k i o : Nat) (acc : List Nat), ts.length - i = k → i ≤ ts.length → acc.length ≤ i → o + (srcOfT (ts.drop i)).length < 1000000 → ∀ D m, k < m → ∀ n' e s, e 7 = v → e 8 = I ts.length → e 9 = I i → e 3 = accI acc → e 4 = I o →
    ∃ s', aLoop (F34_L0 D n') m e s = some ((accI (acc ++ ends o (ts.drop i))).strip, s') := by
  intro k
  induction k with
  | zero =>
    intro i o acc hk hi ha ho D m hm n' e s h7 h8 h9 h3 h4
    obtain ⟨m, rfl⟩ : ∃ j, m = j + 1 := ⟨m - 1, by omega⟩
    have c : ¬ i < ts.length := by omega
    refine ⟨s, ?_⟩
    rw [aLoop, F34_L0, List.drop_of_length_le (by omega), ends, List.append_nil]
    simp -implicitDefEqProofs only [oh_some, mp_some, sto_some, br_true, br_false, gd_true, gd_false, wA_tt, wA_tup, wA_ft, wA_tf, wA_ff, aNilCheck_box, aNilCheck_ref, aAddr_box, aAddr_ref, aLoad_one, List.getElem?_cons_succ, List.getElem?_cons_zero, Option.map_some, bin_add, bin_sub, bin_lss, bin_leq, bin_gtr, bin_geq, bin_eql, bin_neq, str_eql, aMax_int, aMin_int, aUn_not, aPick_true, aPick_false, strip_int, strip_bool, strip_str, strip_nilp, strip_nils, strip_box, strip_ref, strip_agg, strip_tup, strip_undef, aBox_f, solid_agg, cells_agg, kLoad_box, kGd_true, kGd_false, kCall_ok, gt_iff_lt, ge_iff_le, Int.ofNat_lt, Int.ofNat_le, decide_true, decide_false, Nat.zero_add, Bool.not_true, Bool.not_false, aExtract_tup, fin1_some, resL_nil, resL_some, noRefL_cons, noRefL_nil, noRef_int, noRef_str, noRef_bool, noRef_nilp, noRef_agg, strip_fn, kLoad_ref, Bool.and_self, ite_true, h7, h8, h9, h3, h4, c]
  | succ k ih =>
    intro i o acc hk hi ha ho D m hm n' e s h7 h8 h9 h3 h4
    obtain ⟨m, rfl⟩ : ∃ j, m = j + 1 := ⟨m - 1, by omega⟩
    have c : i < ts.length := by omega
    have e1 := hv.at (List.getElem?_eq_getElem c)
    have e2 := wadd1 (a := i) (by omega)
    rw [List.drop_eq_getElem_cons c] at ho ⊢
    have hsp : srcOfT (ts[i] :: ts.drop (i + 1)) = ts[i].2 ++ srcOfT (ts.drop (i + 1)) := rfl
    rw [hsp, List.length_append] at ho
    have e3 := wadd (a := o) (b := ts[i].2.length) (by omega)
    obtain ⟨f, e4⟩ := bs30 (o + ts[i].2.length)
    have e5 := app30 acc (o + ts[i].2.length) f (by omega)
    rw [ends, ← List.singleton_append, ← List.append_assoc]
    generalize ts[i] = t at *
    rw [aLoop, F34_L0]
    simp -implicitDefEqProofs only [oh_some, mp_some, sto_some, br_true, br_false, gd_true, gd_false, wA_tt, wA_tup, wA_ft, wA_tf, wA_ff, aNilCheck_box, aNilCheck_ref, aAddr_box, aAddr_ref, aLoad_one, List.getElem?_cons_succ, List.getElem?_cons_zero, Option.map_some, bin_add, bin_sub, bin_lss, bin_leq, bin_gtr, bin_geq, bin_eql, bin_neq, str_eql, aMax_int, aMin_int, aUn_not, aPick_true, aPick_false, strip_int, strip_bool, strip_str, strip_nilp, strip_nils, strip_box, strip_ref, strip_agg, strip_tup, strip_undef, aBox_f, solid_agg, cells_agg, kLoad_box, kGd_true, kGd_false, kCall_ok, gt_iff_lt, ge_iff_le, Int.ofNat_lt, Int.ofNat_le, decide_true, decide_false, Nat.zero_add, Bool.not_true, Bool.not_false, aExtract_tup, fin1_some, resL_nil, resL_some, noRefL_cons, noRefL_nil, noRef_int, noRef_str, noRef_bool, noRef_nilp, noRef_agg, strip_fn, kLoad_ref, Bool.and_self, ite_true, h7, h8, h9, h3, h4, c, e1, e2, e3, e4, e5, len9, load2', alloc39, store39, load39]
    exact ih (i + 1) _ (acc ++ [o + t.2.length]) (by omega) (by omega) (by simp; omega) (by omega) D m (by omega) n' _ _ (by simp [upds_at, upd_at, h7]) (by simp [upds_at, upd_at, h8]) (by simp [upds_at, upd_at]) (by simp [upds_at, upd_at]) (by simp [upds_at, upd_at])

theorem ends_run (v : AV) (ts : List Tok) (hv : IsT v ts) (ht : ts.length < 100000) (hs : (srcOfT ts).length < 1000000) : AC C 34 [v] (accI (ends 0 ts)).strip := by
  refine .intro en34 (by simp [noRefL_cons, noRefL_nil, hv.noRef]) (accI_strip _).noRef ⟨ts.length + 1, fun n hn => ?_⟩
  have st := hv.strip
  have l := hv.len
  rw [F34_eq, F34]
  simp -implicitDefEqProofs only [oh_some, mp_some, sto_some, br_true, br_false, gd_true, gd_false, wA_tt, wA_tup, wA_ft, wA_tf, wA_ff, aNilCheck_box, aNilCheck_ref, aAddr_box, aAddr_ref, aLoad_one, List.getElem?_cons_succ, List.getElem?_cons_zero, Option.map_some, bin_add, bin_sub, bin_lss, bin_leq, bin_gtr, bin_geq, bin_eql, bin_neq, str_eql, aMax_int, aMin_int, aUn_not, aPick_true, aPick_false, strip_int, strip_bool, strip_str, strip_nilp, strip_nils, strip_box, strip_ref, strip_agg, strip_tup, strip_undef, aBox_f, solid_agg, cells_agg, kLoad_box, kGd_true, kGd_false, kCall_ok, gt_iff_lt, ge_iff_le, Int.ofNat_lt, Int.ofNat_le, decide_true, decide_false, Nat.zero_add, Bool.not_true, Bool.not_false, aExtract_tup, fin1_some, resL_nil, resL_some, noRefL_cons, noRefL_nil, noRef_int, noRef_str, noRef_bool, noRef_nilp, noRef_agg, strip_fn, kLoad_ref, Bool.and_self, ite_true, st, l]
  exact ends_loop v ts hv ht hs _ 0 0 [] rfl (by omega) (by simp) (by simpa using hs) (den C n) n (by omega) n _ _ (by simp [upds_at, upd_at]) (by simp [upds_at, upd_at]) (by simp [upds_at, upd_at]) (by simp [upds_at, upd_at, accI]) (by simp [upds_at, upd_at])

/-! ### resume -/
theorem asInts_ints : ∀ zs : List Nat, asInts (ints zs) = some (zs.map fun (z : Nat) => (z : Int))
  | [] => rfl
  | z :: zs => by
    have := asInts_ints zs
    simp only [ints, List.map_cons, asInts] at this ⊢
    rw [this]; rfl
theorem bin_run (v : AV) (es : List Nat) (hv : IsN v es) (hs : es.Pairwise (· < ·)) (hl : es.length < 1000000) (q : Int) :
    AC C 55 [v, I q] (.tup [I (if q < 0 then 0 else es.countP (· < q.toNat) : Nat), .bool (decide (q.toNat ∈ es ∧ 0 ≤ q))]) := by
  refine .intro (by kernel_rfl) (by simp [noRefL_cons, noRefL_nil, hv.noRef, noRef_int]) rfl ⟨0, fun n _ => ⟨[], ?_⟩⟩
  rw [den_ext (e := eBin) (by rfl)]
  rcases hv with rfl | ⟨rfl, rfl⟩
  · have hc : (es.map fun (z : Nat) => (z : Int)).Pairwise (· ≤ ·) ∧ (es.map fun (z : Nat) => (z : Int)).length < 1000000 := by
      refine ⟨List.pairwise_map.2 (hs.imp fun h => by omega), by simpa using hl⟩
    have h1 : (es.map fun (z : Nat) => (z : Int)).countP (· < q) = if q < 0 then 0 else es.countP (· < q.toNat) := by
      rw [List.countP_map]
      split
      · rw [List.countP_eq_zero]; intro x hx; simp; omega
      · apply List.countP_congr
        intro x hx; simp <;> try omega
    have h2 : (es.map fun (z : Nat) => (z : Int)).contains q = decide (q.toNat ∈ es ∧ 0 ≤ q) := by
      by_cases h : q.toNat ∈ es ∧ 0 ≤ q
      · rw [decide_eq_true h, List.contains_iff_mem, List.mem_map]
        exact ⟨q.toNat, h.1, by omega⟩
      · rw [decide_eq_false h]
        cases hx : (es.map fun (z : Nat) => (z : Int)).contains q with
        | false => rfl
        | true =>
          rw [List.contains_iff_mem, List.mem_map] at hx
          obtain ⟨x, hx1, rfl⟩ := hx
          exact absurd ⟨by simpa using hx1, by omega⟩ h
    simp only [eBin, asInts_ints]
    rw [if_pos hc, h1, h2]
  · have h2 : decide (q.toNat ∈ ([] : List Nat) ∧ 0 ≤ q) = false := by simp
    rw [h2]
    simp only [eBin, List.countP_nil, ite_self]
    rfl

theorem resume_run (v : AV) (es : List Nat) (hv : IsN v es) (hs : es.Pairwise (· < ·)) (hl : es.length < 1000000) (q : Int) : AC C 36 [v, I q] (I (resume es q)) := by
  refine .intro en36 (by simp [noRefL_cons, noRefL_nil, hv.noRef, noRef_int]) rfl ?_
  obtain ⟨N, h⟩ := AC.at (bin_run v es hv hs hl q)
  have st := hv.strip
  refine ⟨N, fun n hn => ⟨[], ?_⟩⟩
  have h := h n hn
  rw [F36_eq, F36]
  unfold resume
  by_cases c : q = 0
  · have z : (q == 0) = true := by simp [c]
    rw [if_pos c]
    simp -implicitDefEqProofs only [oh_some, mp_some, sto_some, br_true, br_false, gd_true, gd_false, wA_tt, wA_tup, wA_ft, wA_tf, wA_ff, aNilCheck_box, aNilCheck_ref, aAddr_box, aAddr_ref, aLoad_one, List.getElem?_cons_succ, List.getElem?_cons_zero, Option.map_some, bin_add, bin_sub, bin_lss, bin_leq, bin_gtr, bin_geq, bin_eql, bin_neq, str_eql, aMax_int, aMin_int, aUn_not, aPick_true, aPick_false, strip_int, strip_bool, strip_str, strip_nilp, strip_nils, strip_box, strip_ref, strip_agg, strip_tup, strip_undef, aBox_f, solid_agg, cells_agg, kLoad_box, kGd_true, kGd_false, kCall_ok, gt_iff_lt, ge_iff_le, Int.ofNat_lt, Int.ofNat_le, decide_true, decide_false, Nat.zero_add, Bool.not_true, Bool.not_false, aExtract_tup, fin1_some, resL_nil, resL_some, noRefL_cons, noRefL_nil, noRef_int, noRef_str, noRef_bool, noRef_nilp, noRef_agg, strip_fn, kLoad_ref, Bool.and_self, ite_true, z]
  · have z : (q == 0) = false := by simp [c]
    rw [if_neg c]
    by_cases c2 : q.toNat ∈ es ∧ 0 ≤ q
    · rw [decide_eq_true c2, if_neg (by omega)] at h
      rw [if_pos c2]
      have hcl := List.countP_le_length (p := fun x => decide (x < q.toNat)) (l := es)
      have e2 : IntKind.i64.wrap (((es.countP (· < q.toNat) : Nat) : Int) + 1) = ((es.countP (· < q.toNat) : Nat) : Int) + 1 := by rw [wrap64] <;> omega
      simp -implicitDefEqProofs only [oh_some, mp_some, sto_some, br_true, br_false, gd_true, gd_false, wA_tt, wA_tup, wA_ft, wA_tf, wA_ff, aNilCheck_box, aNilCheck_ref, aAddr_box, aAddr_ref, aLoad_one, List.getElem?_cons_succ, List.getElem?_cons_zero, Option.map_some, bin_add, bin_sub, bin_lss, bin_leq, bin_gtr, bin_geq, bin_eql, bin_neq, str_eql, aMax_int, aMin_int, aUn_not, aPick_true, aPick_false, strip_int, strip_bool, strip_str, strip_nilp, strip_nils, strip_box, strip_ref, strip_agg, strip_tup, strip_undef, aBox_f, solid_agg, cells_agg, kLoad_box, kGd_true, kGd_false, kCall_ok, gt_iff_lt, ge_iff_le, Int.ofNat_lt, Int.ofNat_le, decide_true, decide_false, Nat.zero_add, Bool.not_true, Bool.not_false, aExtract_tup, fin1_some, resL_nil, resL_some, noRefL_cons, noRefL_nil, noRef_int, noRef_str, noRef_bool, noRef_nilp, noRef_agg, strip_fn, kLoad_ref, Bool.and_self, ite_true, z, st, h, e2]
    · rw [decide_eq_false c2] at h
      rw [if_neg c2]
      simp -implicitDefEqProofs only [oh_some, mp_some, sto_some, br_true, br_false, gd_true, gd_false, wA_tt, wA_tup, wA_ft, wA_tf, wA_ff, aNilCheck_box, aNilCheck_ref, aAddr_box, aAddr_ref, aLoad_one, List.getElem?_cons_succ, List.getElem?_cons_zero, Option.map_some, bin_add, bin_sub, bin_lss, bin_leq, bin_gtr, bin_geq, bin_eql, bin_neq, str_eql, aMax_int, aMin_int, aUn_not, aPick_true, aPick_false, strip_int, strip_bool, strip_str, strip_nilp, strip_nils, strip_box, strip_ref, strip_agg, strip_tup, strip_undef, aBox_f, solid_agg, cells_agg, kLoad_box, kGd_true, kGd_false, kCall_ok, gt_iff_lt, ge_iff_le, Int.ofNat_lt, Int.ofNat_le, decide_true, decide_false, Nat.zero_add, Bool.not_true, Bool.not_false, aExtract_tup, fin1_some, resL_nil, resL_some, noRefL_cons, noRefL_nil, noRef_int, noRef_str, noRef_bool, noRef_nilp, noRef_agg, strip_fn, kLoad_ref, Bool.and_self, ite_true, z, st, h]

/-! ### Equal, Clone -/
theorem equal_loop (v u : AV) (ts : List Tok) (hv : IsT v ts) (hu : IsT u ts) (ht : ts.length < 100000) : ∀ (k i : Nat), ts.length - i = k → i ≤ ts.length → ∀ D m, k < m → ∀ n' e s, e 0 = v → e 1 = u → e 12 = I ts.length → e 13 = I i →
    aLoop (F33_L0 D n') m e s = some (.bool true, s) := by
  intro k
  induction k with
  | zero =>
    intro i hk hi D m hm n' e s h0 h1 h12 h13
    obtain ⟨m, rfl⟩ : ∃ j, m = j + 1 := ⟨m - 1, by omega⟩
    have c : ¬ i < ts.length := by omega
    rw [aLoop, F33_L0]
    simp -implicitDefEqProofs only [oh_some, mp_some, sto_some, br_true, br_false, gd_true, gd_false, wA_tt, wA_tup, wA_ft, wA_tf, wA_ff, aNilCheck_box, aNilCheck_ref, aAddr_box, aAddr_ref, aLoad_one, List.getElem?_cons_succ, List.getElem?_cons_zero, Option.map_some, bin_add, bin_sub, bin_lss, bin_leq, bin_gtr, bin_geq, bin_eql, bin_neq, str_eql, aMax_int, aMin_int, aUn_not, aPick_true, aPick_false, strip_int, strip_bool, strip_str, strip_nilp, strip_nils, strip_box, strip_ref, strip_agg, strip_tup, strip_undef, aBox_f, solid_agg, cells_agg, kLoad_box, kGd_true, kGd_false, kCall_ok, gt_iff_lt, ge_iff_le, Int.ofNat_lt, Int.ofNat_le, decide_true, decide_false, Nat.zero_add, Bool.not_true, Bool.not_false, aExtract_tup, fin1_some, resL_nil, resL_some, noRefL_cons, noRefL_nil, noRef_int, noRef_str, noRef_bool, noRef_nilp, noRef_agg, strip_fn, kLoad_ref, Bool.and_self, ite_true, h0, h1, h12, h13, c]
  | succ k ih =>
    intro i hk hi D m hm n' e s h0 h1 h12 h13
    obtain ⟨m, rfl⟩ : ∃ j, m = j + 1 := ⟨m - 1, by omega⟩
    have c : i < ts.length := by omega
    have e1 := hv.at (List.getElem?_eq_getElem c)
    have e1' := hu.at (List.getElem?_eq_getElem c)
    have e2 := wadd1 (a := i) (by omega)
    have st := hv.strip
    have st' := hu.strip
    rw [aLoop, F33_L0]
    simp -implicitDefEqProofs only [oh_some, mp_some, sto_some, br_true, br_false, gd_true, gd_false, wA_tt, wA_tup, wA_ft, wA_tf, wA_ff, aNilCheck_box, aNilCheck_ref, aAddr_box, aAddr_ref, aLoad_one, List.getElem?_cons_succ, List.getElem?_cons_zero, Option.map_some, bin_add, bin_sub, bin_lss, bin_leq, bin_gtr, bin_geq, bin_eql, bin_neq, str_eql, aMax_int, aMin_int, aUn_not, aPick_true, aPick_false, strip_int, strip_bool, strip_str, strip_nilp, strip_nils, strip_box, strip_ref, strip_agg, strip_tup, strip_undef, aBox_f, solid_agg, cells_agg, kLoad_box, kGd_true, kGd_false, kCall_ok, gt_iff_lt, ge_iff_le, Int.ofNat_lt, Int.ofNat_le, decide_true, decide_false, Nat.zero_add, Bool.not_true, Bool.not_false, aExtract_tup, fin1_some, resL_nil, resL_some, noRefL_cons, noRefL_nil, noRef_int, noRef_str, noRef_bool, noRef_nilp, noRef_agg, strip_fn, kLoad_ref, Bool.and_self, ite_true, h0, h1, h12, h13, c, st, st', e1, e1', e2, load2', eq39, d33_6]
    exact ih (i + 1) (by omega) (by omega) D m (by omega) n' _ s (by simp [upds_at, upd_at, h0]) (by simp [upds_at, upd_at, h1]) (by simp [upds_at, upd_at, h12]) (by simp [upds_at, upd_at])
theorem equal_run (v u : AV) (ts : List Tok) (hv : IsT v ts) (hu : IsT u ts) (ht : ts.length < 100000) : AC C 33 [v, u] (.bool true) := by
  refine .intro en33 (by simp [noRefL_cons, noRefL_nil, hv.noRef, hu.noRef]) rfl ⟨ts.length + 1, fun n hn => ⟨[], ?_⟩⟩
  have st := hv.strip
  have l := hv.len
  have st' := hu.strip
  have l' := hu.len
  have z : ((ts.length : Int) != (ts.length : Int)) = false := by simp
  rw [F33_eq, F33]
  simp -implicitDefEqProofs only [oh_some, mp_some, sto_some, br_true, br_false, gd_true, gd_false, wA_tt, wA_tup, wA_ft, wA_tf, wA_ff, aNilCheck_box, aNilCheck_ref, aAddr_box, aAddr_ref, aLoad_one, List.getElem?_cons_succ, List.getElem?_cons_zero, Option.map_some, bin_add, bin_sub, bin_lss, bin_leq, bin_gtr, bin_geq, bin_eql, bin_neq, str_eql, aMax_int, aMin_int, aUn_not, aPick_true, aPick_false, strip_int, strip_bool, strip_str, strip_nilp, strip_nils, strip_box, strip_ref, strip_agg, strip_tup, strip_undef, aBox_f, solid_agg, cells_agg, kLoad_box, kGd_true, kGd_false, kCall_ok, gt_iff_lt, ge_iff_le, Int.ofNat_lt, Int.ofNat_le, decide_true, decide_false, Nat.zero_add, Bool.not_true, Bool.not_false, aExtract_tup, fin1_some, resL_nil, resL_some, noRefL_cons, noRefL_nil, noRef_int, noRef_str, noRef_bool, noRef_nilp, noRef_agg, strip_fn, kLoad_ref, Bool.and_self, ite_true, st, st', l, l', z]
  exact equal_loop v u ts hv hu ht _ 0 rfl (by omega) (den C n) n (by omega) n _ _ (by simp [upds_at, upd_at, argEnv]) (by simp [upds_at, upd_at, argEnv]) (by simp [upds_at, upd_at]) (by simp [upds_at, upd_at])

/-- A slice of tokens of one's own. -/
def IsO (v : AV) (ts : List Tok) : Prop := v = .sl 39 2 (tv ts) .own ∨ (ts = [] ∧ v = .nils)
theorem IsO.strip {v : AV} {ts : List Tok} (h : IsO v ts) : IsT v.strip ts := by
  rcases h with rfl | ⟨rfl, rfl⟩
  · exact .inl rfl
  · exact .inr ⟨rfl, rfl⟩
theorem IsO.noRef {v : AV} {ts : List Tok} (h : IsO v ts) : v.noRef = true := by
  rcases h with rfl | ⟨_, rfl⟩
  · simp only [noRef_sl, tv_noRef]
  · rfl
theorem IsO.app {v u : AV} {ts ys : List Tok} (h : IsO v ts) (hu : u = .sl 39 2 (tv ys) .sh ∨ u = .sl 39 2 (tv ys) .own ∨ (ys = [] ∧ u = .nils)) (hl : ts.length + ys.length < 1000000) : ∃ w, aAppend Tryd.prog 35 35 v u = some w ∧ IsO w (ts ++ ys) := by
  obtain ⟨i, h1, h2, h3, z, h4, h5⟩ := info39
  have key : srcOf 2 u = some (tv ys) := by rcases hu with rfl | rfl | ⟨rfl, rfl⟩ <;> rfl
  unfold aAppend
  rw [under35]
  simp only [h1, h2, key, if_true, h4, h5, ne_eq, not_true, if_false, h3]
  rcases h with rfl | ⟨rfl, rfl⟩
  · refine ⟨.sl 39 2 (tv (ts ++ ys)) .own, ?_, .inl rfl⟩
    simp only [tv, List.length_map, List.map_append]
    rw [if_pos ⟨trivial, trivial, by omega, by omega⟩]
  · simp only [List.length_nil, Nat.zero_add] at hl
    simp only [tv, List.length_map, List.nil_append]
    rw [if_pos (by omega)]
    cases ys with
    | nil => exact ⟨_, rfl, .inr ⟨rfl, rfl⟩⟩
    | cons y r => exact ⟨_, rfl, .inl rfl⟩
theorem nil35 (xs : List AV) (f : Flag) : aBin Tryd.prog .eql 35 (.sl 39 2 xs f) .nils = some (.bool false) := by kernel_rfl
theorem nil35' : aBin Tryd.prog .eql 35 .nils .nils = some (.bool true) := by kernel_rfl
theorem bs35z : aBuildSlice Tryd.prog 35 0 [] = some (.sl 39 2 [] .own) := by kernel_rfl
theorem clone_run (v : AV) (ts : List Tok) (hv : IsT v ts) (hl : ts.length < 100000) : ∃ u, IsO u ts ∧ AC C 35 [v] u := by
  rcases hv with rfl | ⟨rfl, rfl⟩
  · obtain ⟨w, hw, ho⟩ := (show IsO (.sl 39 2 [] .own) [] from .inl rfl).app (u := .sl 39 2 (tv ts) .sh) (ys := ts) (.inl rfl) (by simp; omega)
    rw [List.nil_append] at ho
    refine ⟨w, ho, .intro en35 (by simp [noRefL_cons, noRefL_nil, noRef_sl, tv_noRef]) ho.noRef ⟨0, fun n hn => ⟨[], ?_⟩⟩⟩
    rw [F35_eq, F35]
    simp -implicitDefEqProofs only [oh_some, mp_some, sto_some, br_true, br_false, gd_true, gd_false, wA_tt, wA_tup, wA_ft, wA_tf, wA_ff, aNilCheck_box, aNilCheck_ref, aAddr_box, aAddr_ref, aLoad_one, List.getElem?_cons_succ, List.getElem?_cons_zero, Option.map_some, bin_add, bin_sub, bin_lss, bin_leq, bin_gtr, bin_geq, bin_eql, bin_neq, str_eql, aMax_int, aMin_int, aUn_not, aPick_true, aPick_false, strip_int, strip_bool, strip_str, strip_nilp, strip_nils, strip_box, strip_ref, strip_agg, strip_tup, strip_undef, aBox_f, solid_agg, cells_agg, kLoad_box, kGd_true, kGd_false, kCall_ok, gt_iff_lt, ge_iff_le, Int.ofNat_lt, Int.ofNat_le, decide_true, decide_false, Nat.zero_add, Bool.not_true, Bool.not_false, aExtract_tup, fin1_some, resL_nil, resL_some, noRefL_cons, noRefL_nil, noRef_int, noRef_str, noRef_bool, noRef_nilp, noRef_agg, strip_fn, kLoad_ref, Bool.and_self, ite_true, strip_sh, nil35, bs35z, hw]
  · refine ⟨.nils, .inr ⟨rfl, rfl⟩, .intro en35 rfl rfl ⟨0, fun n hn => ⟨[], ?_⟩⟩⟩
    rw [F35_eq, F35]
    simp -implicitDefEqProofs only [oh_some, mp_some, sto_some, br_true, br_false, gd_true, gd_false, wA_tt, wA_tup, wA_ft, wA_tf, wA_ff, aNilCheck_box, aNilCheck_ref, aAddr_box, aAddr_ref, aLoad_one, List.getElem?_cons_succ, List.getElem?_cons_zero, Option.map_some, bin_add, bin_sub, bin_lss, bin_leq, bin_gtr, bin_geq, bin_eql, bin_neq, str_eql, aMax_int, aMin_int, aUn_not, aPick_true, aPick_false, strip_int, strip_bool, strip_str, strip_nilp, strip_nils, strip_box, strip_ref, strip_agg, strip_tup, strip_undef, aBox_f, solid_agg, cells_agg, kLoad_box, kGd_true, kGd_false, kCall_ok, gt_iff_lt, ge_iff_le, Int.ofNat_lt, Int.ofNat_le, decide_true, decide_false, Nat.zero_add, Bool.not_true, Bool.not_false, aExtract_tup, fin1_some, resL_nil, resL_some, noRefL_cons, noRefL_nil, noRef_int, noRef_str, noRef_bool, noRef_nilp, noRef_agg, strip_fn, kLoad_ref, Bool.and_self, ite_true, nil35']
end LexF

