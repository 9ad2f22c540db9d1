/- Writing into a strings.Builder, in the abstract machine. -/
import Derived.Test.YtionohfkjdahlaaRopeM
set_option linter.all false
namespace RopeF
open Go Go.Abs Go.Proofs

def bytesV (bs : List UInt8) : List AV := bs.map fun b => .int .u8 b.toNat
def bufV (bs : List UInt8) : AV := match bs with
  | [] => .nils
  | b :: r => .sl 5 1 (bytesV (b :: r)) .own

/-- The builder at this place holds these bytes. -/
def Bld (s : Heap) (id : Nat) (bs : List UInt8) : Prop := ∃ a, s[id]? = some (53, [a, bufV bs]) ∧ (a = .nilp ∨ a = .ref id 0)

theorem bCheck_ok {s : Heap} {id : Nat} {a b : AV} (h : s[id]? = some (53, [a, b])) (ha : a = .nilp ∨ a = .ref id 0) : bCheck 53 [.ref id 0] s = some (.tup [], s.set id (53, [.ref id 0, b])) := by
  rcases ha with rfl | rfl
  · simp [bCheck, h]
  · simp only [bCheck, h, if_true]
    congr 2
    apply List.ext_getElem?
    intro i
    by_cases e : id = i
    · subst e
      rw [h, List.getElem?_set_self (List.getElem?_eq_some_iff.1 h).1]
    · rw [List.getElem?_set_ne e]

theorem under51 : Try.prog.underlying 51 = some (.slice 5) := by kernel_rfl
theorem under9 : Try.prog.underlying 9 = some .string := by kernel_rfl
theorem info5' : ((Try.prog.info? 5).map fun i => (i.size, i.bytes, i.zero.map fun z => z.cells.size)) = some (1, 1, some 1) := by kernel_rfl
theorem info5 : ∃ i, Try.prog.info? 5 = some i ∧ i.size = 1 ∧ i.bytes = 1 ∧ ∃ z, i.zero = some z ∧ z.cells.size = 1 := by
  have h := info5'
  rw [Option.map_eq_some_iff] at h
  obtain ⟨i, h1, h2⟩ := h
  simp only [Prod.mk.injEq, Option.map_eq_some_iff] at h2
  exact ⟨i, h1, h2.1, h2.2.1, h2.2.2⟩

theorem app_ok (bs x : List UInt8) (h : bs.length + x.length < 1000000000) : aAppend Try.prog 51 9 (bufV bs) (.str x) = some (bufV (bs ++ x)) := by
  obtain ⟨i, h1, h2, h3, z, h4, h5⟩ := info5
  unfold aAppend
  rw [under51, under9]
  simp only [h1, h2, srcOf, if_true, h4, h5, ne_eq, not_true, if_false, h3, Nat.mul_one]
  cases bs with
  | nil =>
    simp only [bufV, List.nil_append]
    cases x with
    | nil => simp
    | cons a r =>
      simp only [List.length_map, List.length_cons, List.map_cons, bytesV] at *
      rw [if_pos (by omega)]
  | cons b r =>
    simp only [bufV, bytesV, List.length_map, List.length_cons, List.map_cons, List.cons_append, List.map_append] at *
    rw [if_pos ⟨trivial, trivial, by omega, by omega⟩]

theorem bufV_solid (bs : List UInt8) : (bufV bs).solid = true ∧ (bufV bs).cells.length = 1 ∧ stCells (bufV bs) = [bufV bs] := by cases bs <;> exact ⟨rfl, rfl, rfl⟩

theorem write_run (x : List UInt8) : ∃ N, ∀ n, N ≤ n → ∀ s id bs, Bld s id bs → bs.length + x.length < 1000000000 →
    aCall Try.prog (den C n) 27 [.ref id 0, .str x] s = some (.tup [I x.length, .nili], s.set id (53, [.ref id 0, bufV (bs ++ x)])) := by
  refine ⟨2, fun n hn s id bs ⟨a, hs, ha⟩ hb => ?_⟩
  obtain ⟨n, rfl⟩ : ∃ m, n = m + 2 := ⟨n - 2, by omega⟩
  have hlt := (List.getElem?_eq_some_iff.1 hs).1
  have hc : enterable Try.prog 30 = true := by kernel_rfl
  have q1 : aCall Try.prog (den C (n + 1)) 30 [.ref id 0] s = some (.tup [], s.set id (53, [.ref id 0, bufV bs])) := by
    simp only [aCall, hc, if_true, noRefL, AV.noRef, Bool.false_and, Bool.false_eq_true, if_false]
    rw [den_ext (e := bCheck 53) (by rfl), bCheck_ok hs ha]
  have q2 : ∀ v, aLoad true false 1 (.ref id 1) (s.set id (53, [.ref id 0, v])) = some (v, s.set id (53, [.ref id 0, v.strip])) := fun v => by
    simp [aLoad, aLoadT, List.getElem?_set_self hlt, List.set_set]
  obtain ⟨k1, k2, k3⟩ := bufV_solid (bs ++ x)
  have q3 : ∀ v, aStore 1 (s.set id (53, [.ref id 0, v])) (.ref id 1) (bufV (bs ++ x)) = some (s.set id (53, [.ref id 0, bufV (bs ++ x)])) := fun v => by
    simp [aStore, k1, k2, k3, List.getElem?_set_self hlt, List.set_set, setL]
  have q4 := app_ok bs x hb
  rw [aCall, en27]
  simp only [if_true, noRefL, AV.noRef, Bool.false_and, Bool.false_eq_true, if_false]
  rw [F27_eq, F27]
  simp -implicitDefEqProofs only [oh_some, mp_some, sto_some, br_true, br_false, gd_true, gd_false, wA_tt, wA_ft, wA_tf, wA_ff, enc_strip, lp_strip, rp_strip, encR_strip, enc_check, enc_addr, aNilCheck_box, aNilCheck_ref, aAddr_box, aAddr_ref, aLoad_one, List.getElem?_cons_succ, List.getElem?_cons_zero, Option.map_some, bin_add, bin_sub, bin_lss, bin_leq, bin_gtr, bin_geq, bin_eql, bin_neq, str_eql, aMax_int, aMin_int, aUn_not, aPick_true, aPick_false, strip_int, strip_bool, strip_str, strip_nilp, strip_nils, strip_box, strip_ref, strip_agg, strip_tup, strip_undef, aBox_f, solid_agg, cells_agg, kLoad_box, kGd_true, kGd_false, kCall_ok, gt_iff_lt, ge_iff_le, Int.ofNat_lt, Int.ofNat_le, decide_true, decide_false, Nat.zero_add, Bool.not_true, Bool.not_false, aExtract_tup, fin1_some, resL_nil, resL_some, enc_noRef, encR_noRef, noRefL_cons, noRefL_nil, noRef_int, noRef_str, noRef_bool, Bool.and_self, ite_true, q1, q2, q3, q4, len9]

theorem Bld.set {s : Heap} {id : Nat} {bs : List UInt8} (h : Bld s id bs) (bs' : List UInt8) : Bld (s.set id (53, [.ref id 0, bufV bs'])) id bs' := by
  obtain ⟨a, h, _⟩ := h
  exact ⟨_, List.getElem?_set_self (List.getElem?_eq_some_iff.1 h).1, .inr rfl⟩

theorem tree_write (t : T) : ∃ N, ∀ n, N ≤ n → ∀ s id bs, Bld s id bs → bs.length + t.str.length < 1000000000 →
    aCall Try.prog (den C n) 20 [enc t, .ref id 0] s = some (.tup [], s.set id (53, [.ref id 0, bufV (bs ++ t.str)])) := by
  induction t with
  | leaf x =>
    obtain ⟨N, q⟩ := write_run x
    refine ⟨N + 1, fun n hn s id bs h hb => ?_⟩
    obtain ⟨n, rfl⟩ : ∃ m, n = m + 1 := ⟨n - 1, by omega⟩
    have q := q n (by omega) s id bs h hb
    have z1 : (((T.leaf x).h : Int) == 0) = true := by simp [T.h]
    rw [aCall, en20]
    simp only [if_true, noRefL, AV.noRef, Bool.and_false, Bool.false_and, Bool.false_eq_true, if_false]
    rw [F20_eq, F20]
    simp -implicitDefEqProofs only [oh_some, mp_some, sto_some, br_true, br_false, gd_true, gd_false, wA_tt, wA_ft, wA_tf, wA_ff, enc_strip, lp_strip, rp_strip, encR_strip, enc_check, enc_addr, aNilCheck_box, aNilCheck_ref, aAddr_box, aAddr_ref, aLoad_one, List.getElem?_cons_succ, List.getElem?_cons_zero, Option.map_some, bin_add, bin_sub, bin_lss, bin_leq, bin_gtr, bin_geq, bin_eql, bin_neq, str_eql, aMax_int, aMin_int, aUn_not, aPick_true, aPick_false, strip_int, strip_bool, strip_str, strip_nilp, strip_nils, strip_box, strip_ref, strip_agg, strip_tup, strip_undef, aBox_f, solid_agg, cells_agg, kLoad_box, kGd_true, kGd_false, kCall_ok, gt_iff_lt, ge_iff_le, Int.ofNat_lt, Int.ofNat_le, decide_true, decide_false, Nat.zero_add, Bool.not_true, Bool.not_false, aExtract_tup, fin1_some, resL_nil, resL_some, enc_noRef, encR_noRef, noRefL_cons, noRefL_nil, noRef_int, noRef_str, noRef_bool, Bool.and_self, ite_true, z1, tx, q, T.str]
  | node l r ihl ihr =>
    obtain ⟨N1, q1⟩ := ihl
    obtain ⟨N2, q2⟩ := ihr
    refine ⟨max N1 N2 + 1, fun n hn s id bs h hb => ?_⟩
    obtain ⟨n, rfl⟩ : ∃ m, n = m + 1 := ⟨n - 1, by omega⟩
    simp only [T.str, List.length_append] at hb
    have q1 := q1 n (by omega) s id bs h (by omega)
    have q2 := q2 n (by omega) _ id (bs ++ l.str) (h.set _) (by simp; omega)
    have z1 : (((T.node l r).h : Int) == 0) = false := by simp [T.h]; omega
    rw [aCall, en20]
    simp only [if_true, noRefL, AV.noRef, Bool.and_false, Bool.false_and, Bool.false_eq_true, if_false]
    rw [F20_eq, F20]
    simp -implicitDefEqProofs only [oh_some, mp_some, sto_some, br_true, br_false, gd_true, gd_false, wA_tt, wA_ft, wA_tf, wA_ff, enc_strip, lp_strip, rp_strip, encR_strip, enc_check, enc_addr, aNilCheck_box, aNilCheck_ref, aAddr_box, aAddr_ref, aLoad_one, List.getElem?_cons_succ, List.getElem?_cons_zero, Option.map_some, bin_add, bin_sub, bin_lss, bin_leq, bin_gtr, bin_geq, bin_eql, bin_neq, str_eql, aMax_int, aMin_int, aUn_not, aPick_true, aPick_false, strip_int, strip_bool, strip_str, strip_nilp, strip_nils, strip_box, strip_ref, strip_agg, strip_tup, strip_undef, aBox_f, solid_agg, cells_agg, kLoad_box, kGd_true, kGd_false, kCall_ok, gt_iff_lt, ge_iff_le, Int.ofNat_lt, Int.ofNat_le, decide_true, decide_false, Nat.zero_add, Bool.not_true, Bool.not_false, aExtract_tup, fin1_some, resL_nil, resL_some, enc_noRef, encR_noRef, noRefL_cons, noRefL_nil, noRef_int, noRef_str, noRef_bool, Bool.and_self, ite_true, z1, lp, rp, q1, q2, T.str, List.set_set, List.append_assoc]

theorem alloc53 (s : Heap) : aAlloc Try.prog 53 s = some (.ref s.length 0, s ++ [(53, [.nilp, .nils])]) := by kernel_rfl

theorem bString_ok {s : Heap} {id : Nat} {bs : List UInt8} (h : Bld s id bs) (hl : bs.length < 1000000000) : ∃ s', bString 5 [.ref id 0] s = some (.str bs, s') := by
  obtain ⟨a, h, _⟩ := h
  cases bs with
  | nil => exact ⟨s, by simp [bString, h, bufV]⟩
  | cons b r =>
    have := asBytes_bytes (b :: r)
    refine ⟨s.set id (53, [a, .sl 5 1 (bytesV (b :: r)) .sh]), ?_⟩
    simp only [bString, h, bufV, if_true]
    simp only [bytesV, this]
    rw [if_pos (by simp at hl; omega)]

theorem bString_run {s : Heap} {id : Nat} {bs : List UInt8} (h : Bld s id bs) (hl : bs.length < 1000000000) : ∃ s', ∀ n, aCall Try.prog (den C (n + 1)) 21 [.ref id 0] s = some (.str bs, s') := by
  obtain ⟨s', q⟩ := bString_ok h hl
  have hc : enterable Try.prog 21 = true := by kernel_rfl
  refine ⟨s', fun n => ?_⟩
  simp only [aCall, hc, if_true, noRefL, AV.noRef, Bool.false_and, Bool.false_eq_true, if_false]
  rw [den_ext (e := bString 5) (by rfl), q]

theorem String_run (r : R) (h : r.mass < 1000000000) : AC C 10 [rop r] (.str r.str) := by
  refine .intro (by kernel_rfl) (by simp [noRefL_cons, noRefL_nil, noRef_agg]) (by rfl) ?_
  cases r with
  | none =>
    have hb : Bld [(53, [.nilp, .nils])] 0 [] := ⟨.nilp, rfl, .inl rfl⟩
    obtain ⟨s', q1⟩ := bString_run hb (by simp)
    refine ⟨1, fun n hn => ⟨s', ?_⟩⟩
    obtain ⟨n, rfl⟩ : ∃ m, n = m + 1 := ⟨n - 1, by omega⟩
    have q1 := q1 n
    rw [F10_eq, F10]
    simp -implicitDefEqProofs only [oh_some, mp_some, sto_some, br_true, br_false, gd_true, gd_false, wA_tt, wA_ft, wA_tf, wA_ff, enc_strip, lp_strip, rp_strip, encR_strip, enc_check, enc_addr, aNilCheck_box, aNilCheck_ref, aAddr_box, aAddr_ref, aLoad_one, List.getElem?_cons_succ, List.getElem?_cons_zero, Option.map_some, bin_add, bin_sub, bin_lss, bin_leq, bin_gtr, bin_geq, bin_eql, bin_neq, str_eql, aMax_int, aMin_int, aUn_not, aPick_true, aPick_false, strip_int, strip_bool, strip_str, strip_nilp, strip_nils, strip_box, strip_ref, strip_agg, strip_tup, strip_undef, aBox_f, solid_agg, cells_agg, kLoad_box, kGd_true, kGd_false, kCall_ok, gt_iff_lt, ge_iff_le, Int.ofNat_lt, Int.ofNat_le, decide_true, decide_false, Nat.zero_add, Bool.not_true, Bool.not_false, aExtract_tup, fin1_some, resL_nil, resL_some, enc_noRef, encR_noRef, noRefL_cons, noRefL_nil, noRef_int, noRef_str, noRef_bool, Bool.and_self, ite_true, rop, encR_none, alloc53, List.length_nil, List.nil_append, nilNe, F10_J0, upds_at, upds_nil, upd_at, q1, R.str, Nat.reduceEqDiff, if_false, if_true]
  | some t =>
    have hb : Bld [(53, [.nilp, .nils])] 0 [] := ⟨.nilp, rfl, .inl rfl⟩
    obtain ⟨N, q⟩ := tree_write t
    obtain ⟨s', q1⟩ := bString_run (hb.set t.str) (by have := R.len_mass (some t); simp only [R.str] at this; omega)
    refine ⟨N + 1, fun n hn => ⟨s', ?_⟩⟩
    obtain ⟨n, rfl⟩ : ∃ m, n = m + 1 := ⟨n - 1, by omega⟩
    have q := q (n + 1) (by omega) _ _ _ hb (by have := R.len_mass (some t); simp only [R.str, List.length_nil] at *; omega)
    have q1 := q1 n
    rw [List.nil_append] at q
    simp only [List.set_cons_zero] at q q1
    rw [F10_eq, F10]
    simp -implicitDefEqProofs only [oh_some, mp_some, sto_some, br_true, br_false, gd_true, gd_false, wA_tt, wA_ft, wA_tf, wA_ff, enc_strip, lp_strip, rp_strip, encR_strip, enc_check, enc_addr, aNilCheck_box, aNilCheck_ref, aAddr_box, aAddr_ref, aLoad_one, List.getElem?_cons_succ, List.getElem?_cons_zero, Option.map_some, bin_add, bin_sub, bin_lss, bin_leq, bin_gtr, bin_geq, bin_eql, bin_neq, str_eql, aMax_int, aMin_int, aUn_not, aPick_true, aPick_false, strip_int, strip_bool, strip_str, strip_nilp, strip_nils, strip_box, strip_ref, strip_agg, strip_tup, strip_undef, aBox_f, solid_agg, cells_agg, kLoad_box, kGd_true, kGd_false, kCall_ok, gt_iff_lt, ge_iff_le, Int.ofNat_lt, Int.ofNat_le, decide_true, decide_false, Nat.zero_add, Bool.not_true, Bool.not_false, aExtract_tup, fin1_some, resL_nil, resL_some, enc_noRef, encR_noRef, noRefL_cons, noRefL_nil, noRef_int, noRef_str, noRef_bool, Bool.and_self, ite_true, rop, encR_some, alloc53, List.length_nil, List.nil_append, neNil, q, F10_J0]
    simp [upds_at, upds_nil, upd_at, q1, R.str]
end RopeF

