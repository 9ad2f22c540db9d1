/- Edits: Validate, Apply, strings.Builder, in the abstract machine (as for the ropes, with this program's numbers). -/
import Derived.Test.YtionohfkjdahlaaDoorLexE
set_option linter.all false
set_option maxRecDepth 100000
namespace EdF
open Go Go.Abs Go.Proofs LexF

theorem subDropI {s : List UInt8} {i : Int} (h0 : 0 ≤ i) (h1 : i ≤ s.length) : aSl Tryd.prog 9 (.str s) (some (I i)) none none = some (.str (s.drop i.toNat)) := by
  simp [aSl, under9, aSubstr, aBound, h0, h1]

def bytesV (bs : List UInt8) : List AV := bs.map fun b => .int .u8 b.toNat
def bufV (bs : List UInt8) : AV := match bs with
  | [] => .nils
  | b :: r => .sl 5 1 (bytesV (b :: r)) .own

/-- The builder at this place holds these bytes. -/
def Bld (s : Heap) (id : Nat) (bs : List UInt8) : Prop := ∃ a, s[id]? = some (75, [a, bufV bs]) ∧ (a = .nilp ∨ a = .ref id 0)

theorem bCheck_ok {s : Heap} {id : Nat} {a b : AV} (h : s[id]? = some (75, [a, b])) (ha : a = .nilp ∨ a = .ref id 0) : bCheck 75 [.ref id 0] s = some (.tup [], s.set id (75, [.ref id 0, b])) := by
  rcases ha with rfl | rfl
  · simp [bCheck, h]
  · simp only [bCheck, h, if_true]
    congr 2
    apply List.ext_getElem?
    intro i
    by_cases e : id = i
    · subst e
      rw [h, List.getElem?_set_self (List.getElem?_eq_some_iff.1 h).1]
    · rw [List.getElem?_set_ne e]

theorem under51 : Tryd.prog.underlying 73 = some (.slice 5) := by kernel_rfl
theorem info5' : ((Tryd.prog.info? 5).map fun i => (i.size, i.bytes, i.zero.map fun z => z.cells.size)) = some (1, 1, some 1) := by kernel_rfl
theorem info5 : ∃ i, Tryd.prog.info? 5 = some i ∧ i.size = 1 ∧ i.bytes = 1 ∧ ∃ z, i.zero = some z ∧ z.cells.size = 1 := by
  have h := info5'
  rw [Option.map_eq_some_iff] at h
  obtain ⟨i, h1, h2⟩ := h
  simp only [Prod.mk.injEq, Option.map_eq_some_iff] at h2
  exact ⟨i, h1, h2.1, h2.2.1, h2.2.2⟩

theorem app_ok (bs x : List UInt8) (h : bs.length + x.length < 1000000000) : aAppend Tryd.prog 73 9 (bufV bs) (.str x) = some (bufV (bs ++ x)) := by
  obtain ⟨i, h1, h2, h3, z, h4, h5⟩ := info5
  unfold aAppend
  rw [under51, under9]
  simp only [h1, h2, srcOf, if_true, h4, h5, ne_eq, not_true, if_false, h3, Nat.mul_one]
  cases bs with
  | nil =>
    simp only [bufV, List.nil_append]
    cases x with
    | nil => simp
    | cons a r =>
      simp only [List.length_map, List.length_cons, List.map_cons, bytesV] at *
      rw [if_pos (by omega)]
  | cons b r =>
    simp only [bufV, bytesV, List.length_map, List.length_cons, List.map_cons, List.cons_append, List.map_append] at *
    rw [if_pos ⟨trivial, trivial, by omega, by omega⟩]

theorem bufV_solid (bs : List UInt8) : (bufV bs).solid = true ∧ (bufV bs).cells.length = 1 ∧ stCells (bufV bs) = [bufV bs] := by cases bs <;> exact ⟨rfl, rfl, rfl⟩

theorem write_run (x : List UInt8) : ∃ N, ∀ n, N ≤ n → ∀ s id bs, Bld s id bs → bs.length + x.length < 1000000000 →
    aCall Tryd.prog (den C n) 53 [.ref id 0, .str x] s = some (.tup [I x.length, .nili], s.set id (75, [.ref id 0, bufV (bs ++ x)])) := by
  refine ⟨2, fun n hn s id bs ⟨a, hs, ha⟩ hb => ?_⟩
  obtain ⟨n, rfl⟩ : ∃ m, n = m + 2 := ⟨n - 2, by omega⟩
  have hlt := (List.getElem?_eq_some_iff.1 hs).1
  have hc : enterable Tryd.prog 66 = true := by kernel_rfl
  have q1 : aCall Tryd.prog (den C (n + 1)) 66 [.ref id 0] s = some (.tup [], s.set id (75, [.ref id 0, bufV bs])) := by
    simp only [aCall, hc, if_true, noRefL, AV.noRef, Bool.false_and, Bool.false_eq_true, if_false]
    rw [den_ext (e := bCheck 75) (by rfl), bCheck_ok hs ha]
  have q2 : ∀ v, aLoad true false 1 (.ref id 1) (s.set id (75, [.ref id 0, v])) = some (v, s.set id (75, [.ref id 0, v.strip])) := fun v => by
    simp [aLoad, aLoadT, List.getElem?_set_self hlt, List.set_set]
  obtain ⟨k1, k2, k3⟩ := bufV_solid (bs ++ x)
  have q3 : ∀ v, aStore 1 (s.set id (75, [.ref id 0, v])) (.ref id 1) (bufV (bs ++ x)) = some (s.set id (75, [.ref id 0, bufV (bs ++ x)])) := fun v => by
    simp [aStore, k1, k2, k3, List.getElem?_set_self hlt, List.set_set, setL]
  have q4 := app_ok bs x hb
  rw [aCall, en53]
  simp only [if_true, noRefL, AV.noRef, Bool.false_and, Bool.false_eq_true, if_false]
  rw [F53_eq, F53]
  simp -implicitDefEqProofs only [oh_some, mp_some, sto_some, br_true, br_false, gd_true, gd_false, wA_tt, wA_tup, wA_ft, wA_tf, wA_ff, aNilCheck_box, aNilCheck_ref, aAddr_box, aAddr_ref, aLoad_one, List.getElem?_cons_succ, List.getElem?_cons_zero, Option.map_some, bin_add, bin_sub, bin_lss, bin_leq, bin_gtr, bin_geq, bin_eql, bin_neq, str_eql, aMax_int, aMin_int, aUn_not, aPick_true, aPick_false, strip_int, strip_bool, strip_str, strip_nilp, strip_nils, strip_box, strip_ref, strip_agg, strip_tup, strip_undef, aBox_f, solid_agg, cells_agg, kLoad_box, kGd_true, kGd_false, kCall_ok, gt_iff_lt, ge_iff_le, Int.ofNat_lt, Int.ofNat_le, decide_true, decide_false, Nat.zero_add, Bool.not_true, Bool.not_false, aExtract_tup, fin1_some, resL_nil, resL_some, noRefL_cons, noRefL_nil, noRef_int, noRef_str, noRef_bool, noRef_nilp, noRef_agg, strip_fn, kLoad_ref, Bool.and_self, ite_true, q1, q2, q3, q4, len9]

theorem Bld.set {s : Heap} {id : Nat} {bs : List UInt8} (h : Bld s id bs) (bs' : List UInt8) : Bld (s.set id (75, [.ref id 0, bufV bs'])) id bs' := by
  obtain ⟨a, h, _⟩ := h
  exact ⟨_, List.getElem?_set_self (List.getElem?_eq_some_iff.1 h).1, .inr rfl⟩

theorem alloc53 (s : Heap) : aAlloc Tryd.prog 75 s = some (.ref s.length 0, s ++ [(75, [.nilp, .nils])]) := by kernel_rfl

theorem bString_ok {s : Heap} {id : Nat} {bs : List UInt8} (h : Bld s id bs) (hl : bs.length < 1000000000) : ∃ s', bString 5 [.ref id 0] s = some (.str bs, s') := by
  obtain ⟨a, h, _⟩ := h
  cases bs with
  | nil => exact ⟨s, by simp [bString, h, bufV]⟩
  | cons b r =>
    have := asBytes_bytes (b :: r)
    refine ⟨s.set id (75, [a, .sl 5 1 (bytesV (b :: r)) .sh]), ?_⟩
    simp only [bString, h, bufV, if_true]
    simp only [bytesV, this]
    rw [if_pos (by simp at hl; omega)]

theorem bString_run {s : Heap} {id : Nat} {bs : List UInt8} (h : Bld s id bs) (hl : bs.length < 1000000000) : ∃ s', ∀ n, aCall Tryd.prog (den C (n + 1)) 54 [.ref id 0] s = some (.str bs, s') := by
  obtain ⟨s', q⟩ := bString_ok h hl
  have hc : enterable Tryd.prog 54 = true := by kernel_rfl
  refine ⟨s', fun n => ?_⟩
  simp only [aCall, hc, if_true, noRefL, AV.noRef, Bool.false_and, Bool.false_eq_true, if_false]
  rw [den_ext (e := bString 5) (by rfl), q]

structure Ed where
  a : Int
  b : Int
  t : List UInt8
abbrev Ed.v (x : Ed) : AV := .agg [I x.a, I x.b, .str x.t]
abbrev eds (xs : List Ed) : List AV := xs.map Ed.v

theorem under44 : Tryd.prog.underlying 46 = some (.slice 48) := by kernel_rfl
theorem sz65 : szOf Tryd.prog 48 = some 3 := by kernel_rfl
theorem idx44 {xs : List Ed} {i : Nat} {x : Ed} {f : Flag} (h : xs[i]? = some x) : aIndexAddr Tryd.prog 46 (.sl 48 3 (eds xs) f) (I i) = some (.box [I x.a, I x.b, .str x.t] 0) := by
  simp [aIndexAddr, under44, sz65, h, AV.cells]
theorem alloc65 (s : Heap) : aAlloc Tryd.prog 48 s = some (.ref s.length 0, s ++ [(48, [I 0, I 0, .str []])]) := by kernel_rfl
theorem store65 (s : Heap) (a b c : AV) (x : Ed) : aStore 3 (s ++ [(48, [a, b, c])]) (.ref s.length 0) x.v = some (s ++ [(48, [I x.a, I x.b, .str x.t])]) := by
  simp [aStore, AV.solid, AV.cells, setL, stCells]
theorem load65 (s : Heap) (x y z : AV) (k : Nat) : aLoad false false 1 (.ref s.length k) (s ++ [(48, [x, y, z])]) = [x, y, z][k]?.map fun r => (r.strip, s ++ [(48, [x, y, z])]) := by
  simp [aLoad, aLoadR, aLoadC_one]
  cases [x, y, z][k]? <;> rfl

/-- A slice of edits, as it is handed on. -/
def IsE (v : AV) (xs : List Ed) : Prop := v = .sl 48 3 (eds xs) .sh ∨ (xs = [] ∧ v = .nils)
theorem IsE.strip {v : AV} {xs : List Ed} (h : IsE v xs) : v.strip = v := by rcases h with rfl | ⟨_, rfl⟩ <;> rfl
theorem eds_noRef (xs : List Ed) : noRefL (eds xs) = true := by induction xs with
  | nil => rfl
  | cons x xs ih => show noRefL (x.v :: eds xs) = true; rw [noRefL_cons, ih]; rfl
theorem IsE.noRef {v : AV} {xs : List Ed} (h : IsE v xs) : v.noRef = true := by
  rcases h with rfl | ⟨_, rfl⟩
  · simp [AV.noRef, eds_noRef]
  · rfl
theorem IsE.len {v : AV} {xs : List Ed} (h : IsE v xs) : aLen Tryd.prog 46 v = some (I xs.length) := by
  rcases h with rfl | ⟨rfl, rfl⟩
  · simp [aLen, under44]
  · simp [aLen, under44]

/-- Validate, behind its first test. -/
def valid (len : Nat) : Int → Int → List Ed → Int
  | _, n, [] => if 2000 < n then 2 else 0
  | p, n, x :: xs => if x.a ≤ p ∨ x.b < x.a ∨ (len : Int) < x.b then 3 else valid len x.b (n + (x.t.length - (x.b - x.a))) xs

theorem valid_loop (src : List UInt8) (hs : src.length ≤ 2000) (xs : List Ed) (hl : xs.length ≤ 50) (ht : ∀ x ∈ xs, x.t.length ≤ 140737488355328) : ∀ (k i : Nat) (p n : Int) (s : Heap), xs.length - i = k → i ≤ xs.length → -1 ≤ p → -(10000 * (i : Int)) ≤ n → n ≤ 2000 + (i : Int) * 140737488355328 →
    ∀ D m n' e, k < m → e 21 = I i → e 20 = I xs.length → IsE (e 19) xs → e 5 = I p → e 6 = I n → e 0 = .str src → ∃ s', aLoop (F52_L0 D n') m e s = some (I (valid src.length p n (xs.drop i)), s') := by
  intro k
  induction k with
  | zero =>
    intro i p n s hk hi hp h1 h2 D m n' e hm h21 h20 h19 h5 h6 h0
    obtain ⟨m, rfl⟩ : ∃ j, m = j + 1 := ⟨m - 1, by omega⟩
    have c : ¬ i < xs.length := by omega
    rw [aLoop, F52_L0, List.drop_of_length_le (by omega), valid]
    refine ⟨s, ?_⟩
    by_cases c2 : 2000 < n
    · rw [if_pos c2]
      simp -implicitDefEqProofs only [oh_some, mp_some, sto_some, br_true, br_false, gd_true, gd_false, wA_tt, wA_tup, wA_ft, wA_tf, wA_ff, aNilCheck_box, aNilCheck_ref, aAddr_box, aAddr_ref, aLoad_one, List.getElem?_cons_succ, List.getElem?_cons_zero, Option.map_some, bin_add, bin_sub, bin_lss, bin_leq, bin_gtr, bin_geq, bin_eql, bin_neq, str_eql, aMax_int, aMin_int, aUn_not, aPick_true, aPick_false, strip_int, strip_bool, strip_str, strip_nilp, strip_nils, strip_box, strip_ref, strip_agg, strip_tup, strip_undef, aBox_f, solid_agg, cells_agg, kLoad_box, kGd_true, kGd_false, kCall_ok, gt_iff_lt, ge_iff_le, Int.ofNat_lt, Int.ofNat_le, decide_true, decide_false, Nat.zero_add, Bool.not_true, Bool.not_false, aExtract_tup, fin1_some, resL_nil, resL_some, noRefL_cons, noRefL_nil, noRef_int, noRef_str, noRef_bool, noRef_nilp, noRef_agg, strip_fn, kLoad_ref, Bool.and_self, ite_true, h21, h20, h5, h6, h0, c, c2]
    · rw [if_neg c2]
      simp -implicitDefEqProofs only [oh_some, mp_some, sto_some, br_true, br_false, gd_true, gd_false, wA_tt, wA_tup, wA_ft, wA_tf, wA_ff, aNilCheck_box, aNilCheck_ref, aAddr_box, aAddr_ref, aLoad_one, List.getElem?_cons_succ, List.getElem?_cons_zero, Option.map_some, bin_add, bin_sub, bin_lss, bin_leq, bin_gtr, bin_geq, bin_eql, bin_neq, str_eql, aMax_int, aMin_int, aUn_not, aPick_true, aPick_false, strip_int, strip_bool, strip_str, strip_nilp, strip_nils, strip_box, strip_ref, strip_agg, strip_tup, strip_undef, aBox_f, solid_agg, cells_agg, kLoad_box, kGd_true, kGd_false, kCall_ok, gt_iff_lt, ge_iff_le, Int.ofNat_lt, Int.ofNat_le, decide_true, decide_false, Nat.zero_add, Bool.not_true, Bool.not_false, aExtract_tup, fin1_some, resL_nil, resL_some, noRefL_cons, noRefL_nil, noRef_int, noRef_str, noRef_bool, noRef_nilp, noRef_agg, strip_fn, kLoad_ref, Bool.and_self, ite_true, h21, h20, h5, h6, h0, c, c2]
  | succ k ih =>
    intro i p n s hk hi hp h1 h2 D m n' e hm h21 h20 h19 h5 h6 h0
    obtain ⟨m, rfl⟩ : ∃ j, m = j + 1 := ⟨m - 1, by omega⟩
    have hlt : i < xs.length := by omega
    have e0 : xs[i]? = some xs[i] := List.getElem?_eq_getElem hlt
    replace h19 : e 19 = .sl 48 3 (eds xs) .sh := by
      rcases h19 with h | ⟨h, _⟩
      · exact h
      · subst h; simp at hlt
    have e1 := idx44 (f := .sh) e0
    have e2 := wadd1 (a := i) (by omega)
    have htx := ht xs[i] (List.getElem_mem hlt)
    rw [aLoop, F52_L0, List.drop_eq_getElem_cons hlt, valid]
    by_cases c1 : xs[i].a ≤ p
    · rw [if_pos (.inl c1)]
      refine ⟨s ++ [(48, [I xs[i].a, I xs[i].b, .str xs[i].t])], ?_⟩
      simp -implicitDefEqProofs only [oh_some, mp_some, sto_some, br_true, br_false, gd_true, gd_false, wA_tt, wA_tup, wA_ft, wA_tf, wA_ff, aNilCheck_box, aNilCheck_ref, aAddr_box, aAddr_ref, aLoad_one, List.getElem?_cons_succ, List.getElem?_cons_zero, Option.map_some, bin_add, bin_sub, bin_lss, bin_leq, bin_gtr, bin_geq, bin_eql, bin_neq, str_eql, aMax_int, aMin_int, aUn_not, aPick_true, aPick_false, strip_int, strip_bool, strip_str, strip_nilp, strip_nils, strip_box, strip_ref, strip_agg, strip_tup, strip_undef, aBox_f, solid_agg, cells_agg, kLoad_box, kGd_true, kGd_false, kCall_ok, gt_iff_lt, ge_iff_le, Int.ofNat_lt, Int.ofNat_le, decide_true, decide_false, Nat.zero_add, Bool.not_true, Bool.not_false, aExtract_tup, fin1_some, resL_nil, resL_some, noRefL_cons, noRefL_nil, noRef_int, noRef_str, noRef_bool, noRef_nilp, noRef_agg, strip_fn, kLoad_ref, Bool.and_self, ite_true, h21, h20, h19, h5, h6, h0, hlt, e1, aLoad_agg, List.length_cons, List.length_nil, List.drop_zero, List.take_succ_cons, List.take_zero, Nat.le_refl, alloc65, store65, load65, c1]
    · by_cases c2 : xs[i].b < xs[i].a
      · rw [if_pos (.inr (.inl c2))]
        refine ⟨s ++ [(48, [I xs[i].a, I xs[i].b, .str xs[i].t])], ?_⟩
        simp -implicitDefEqProofs only [oh_some, mp_some, sto_some, br_true, br_false, gd_true, gd_false, wA_tt, wA_tup, wA_ft, wA_tf, wA_ff, aNilCheck_box, aNilCheck_ref, aAddr_box, aAddr_ref, aLoad_one, List.getElem?_cons_succ, List.getElem?_cons_zero, Option.map_some, bin_add, bin_sub, bin_lss, bin_leq, bin_gtr, bin_geq, bin_eql, bin_neq, str_eql, aMax_int, aMin_int, aUn_not, aPick_true, aPick_false, strip_int, strip_bool, strip_str, strip_nilp, strip_nils, strip_box, strip_ref, strip_agg, strip_tup, strip_undef, aBox_f, solid_agg, cells_agg, kLoad_box, kGd_true, kGd_false, kCall_ok, gt_iff_lt, ge_iff_le, Int.ofNat_lt, Int.ofNat_le, decide_true, decide_false, Nat.zero_add, Bool.not_true, Bool.not_false, aExtract_tup, fin1_some, resL_nil, resL_some, noRefL_cons, noRefL_nil, noRef_int, noRef_str, noRef_bool, noRef_nilp, noRef_agg, strip_fn, kLoad_ref, Bool.and_self, ite_true, h21, h20, h19, h5, h6, h0, hlt, e1, aLoad_agg, List.length_cons, List.length_nil, List.drop_zero, List.take_succ_cons, List.take_zero, Nat.le_refl, alloc65, store65, load65, c1, c2]
      · by_cases c3 : (src.length : Int) < xs[i].b
        · rw [if_pos (.inr (.inr c3))]
          refine ⟨s ++ [(48, [I xs[i].a, I xs[i].b, .str xs[i].t])], ?_⟩
          simp -implicitDefEqProofs only [oh_some, mp_some, sto_some, br_true, br_false, gd_true, gd_false, wA_tt, wA_tup, wA_ft, wA_tf, wA_ff, aNilCheck_box, aNilCheck_ref, aAddr_box, aAddr_ref, aLoad_one, List.getElem?_cons_succ, List.getElem?_cons_zero, Option.map_some, bin_add, bin_sub, bin_lss, bin_leq, bin_gtr, bin_geq, bin_eql, bin_neq, str_eql, aMax_int, aMin_int, aUn_not, aPick_true, aPick_false, strip_int, strip_bool, strip_str, strip_nilp, strip_nils, strip_box, strip_ref, strip_agg, strip_tup, strip_undef, aBox_f, solid_agg, cells_agg, kLoad_box, kGd_true, kGd_false, kCall_ok, gt_iff_lt, ge_iff_le, Int.ofNat_lt, Int.ofNat_le, decide_true, decide_false, Nat.zero_add, Bool.not_true, Bool.not_false, aExtract_tup, fin1_some, resL_nil, resL_some, noRefL_cons, noRefL_nil, noRef_int, noRef_str, noRef_bool, noRef_nilp, noRef_agg, strip_fn, kLoad_ref, Bool.and_self, ite_true, h21, h20, h19, h5, h6, h0, hlt, e1, aLoad_agg, List.length_cons, List.length_nil, List.drop_zero, List.take_succ_cons, List.take_zero, Nat.le_refl, alloc65, store65, load65, c1, c2, c3, len9]
        · rw [if_neg (by rintro (h | h | h); exact c1 h; exact c2 h; exact c3 h)]
          have w1 : IntKind.i64.wrap (xs[i].b - xs[i].a) = xs[i].b - xs[i].a := by rw [wrap64] <;> omega
          have w2 : IntKind.i64.wrap ((xs[i].t.length : Int) - (xs[i].b - xs[i].a)) = (xs[i].t.length : Int) - (xs[i].b - xs[i].a) := by rw [wrap64] <;> omega
          have w3 : IntKind.i64.wrap (n + ((xs[i].t.length : Int) - (xs[i].b - xs[i].a))) = n + ((xs[i].t.length : Int) - (xs[i].b - xs[i].a)) := by rw [wrap64] <;> omega
          simp -implicitDefEqProofs only [oh_some, mp_some, sto_some, br_true, br_false, gd_true, gd_false, wA_tt, wA_tup, wA_ft, wA_tf, wA_ff, aNilCheck_box, aNilCheck_ref, aAddr_box, aAddr_ref, aLoad_one, List.getElem?_cons_succ, List.getElem?_cons_zero, Option.map_some, bin_add, bin_sub, bin_lss, bin_leq, bin_gtr, bin_geq, bin_eql, bin_neq, str_eql, aMax_int, aMin_int, aUn_not, aPick_true, aPick_false, strip_int, strip_bool, strip_str, strip_nilp, strip_nils, strip_box, strip_ref, strip_agg, strip_tup, strip_undef, aBox_f, solid_agg, cells_agg, kLoad_box, kGd_true, kGd_false, kCall_ok, gt_iff_lt, ge_iff_le, Int.ofNat_lt, Int.ofNat_le, decide_true, decide_false, Nat.zero_add, Bool.not_true, Bool.not_false, aExtract_tup, fin1_some, resL_nil, resL_some, noRefL_cons, noRefL_nil, noRef_int, noRef_str, noRef_bool, noRef_nilp, noRef_agg, strip_fn, kLoad_ref, Bool.and_self, ite_true, h21, h20, h19, h5, h6, h0, hlt, e1, e2, aLoad_agg, List.length_cons, List.length_nil, List.drop_zero, List.take_succ_cons, List.take_zero, Nat.le_refl, alloc65, store65, load65, c1, c2, c3, len9, w1, w2, w3]
          exact ih (i + 1) xs[i].b _ _ (by omega) (by omega) (by omega) (by omega) (by omega) D m n' _ (by omega) (by simp [upds_at, upd_at]) (by simp [upds_at, upd_at, h20]) (.inl (by simp [upds_at, upd_at, h19])) (by simp [upds_at, upd_at]) (by simp [upds_at, upd_at]) (by simp [upds_at, upd_at, h0])


def validate (src : List UInt8) (xs : List Ed) : Int := if 2000 < src.length ∨ 50 < xs.length then 2 else valid src.length (-1) src.length xs

theorem validate_run (src : List UInt8) (v : AV) (xs : List Ed) (h : IsE v xs) (ht : ∀ x ∈ xs, x.t.length ≤ 140737488355328) : AC C 52 [.str src, v] (I (validate src xs)) := by
  refine .intro en52 (by simp [noRefL_cons, noRefL_nil, noRef_str, h.noRef]) (by rfl) ?_
  have l := h.len
  have st := h.strip
  refine ⟨52, fun n hn => ?_⟩
  rw [F52_eq, F52]
  have e1 : ((2000 : Int) < (src.length : Int)) ↔ 2000 < src.length := by omega
  have e2 : ((50 : Int) < (xs.length : Int)) ↔ 50 < xs.length := by omega
  unfold validate
  by_cases c1 : 2000 < src.length
  · rw [if_pos (.inl c1)]
    refine ⟨[], ?_⟩
    simp -implicitDefEqProofs only [oh_some, mp_some, sto_some, br_true, br_false, gd_true, gd_false, wA_tt, wA_tup, wA_ft, wA_tf, wA_ff, aNilCheck_box, aNilCheck_ref, aAddr_box, aAddr_ref, aLoad_one, List.getElem?_cons_succ, List.getElem?_cons_zero, Option.map_some, bin_add, bin_sub, bin_lss, bin_leq, bin_gtr, bin_geq, bin_eql, bin_neq, str_eql, aMax_int, aMin_int, aUn_not, aPick_true, aPick_false, strip_int, strip_bool, strip_str, strip_nilp, strip_nils, strip_box, strip_ref, strip_agg, strip_tup, strip_undef, aBox_f, solid_agg, cells_agg, kLoad_box, kGd_true, kGd_false, kCall_ok, gt_iff_lt, ge_iff_le, Int.ofNat_lt, Int.ofNat_le, decide_true, decide_false, Nat.zero_add, Bool.not_true, Bool.not_false, aExtract_tup, fin1_some, resL_nil, resL_some, noRefL_cons, noRefL_nil, noRef_int, noRef_str, noRef_bool, noRef_nilp, noRef_agg, strip_fn, kLoad_ref, Bool.and_self, ite_true, st, l, len9, e1, c1]
  · by_cases c2 : 50 < xs.length
    · rw [if_pos (.inr c2)]
      refine ⟨[], ?_⟩
      simp -implicitDefEqProofs only [oh_some, mp_some, sto_some, br_true, br_false, gd_true, gd_false, wA_tt, wA_tup, wA_ft, wA_tf, wA_ff, aNilCheck_box, aNilCheck_ref, aAddr_box, aAddr_ref, aLoad_one, List.getElem?_cons_succ, List.getElem?_cons_zero, Option.map_some, bin_add, bin_sub, bin_lss, bin_leq, bin_gtr, bin_geq, bin_eql, bin_neq, str_eql, aMax_int, aMin_int, aUn_not, aPick_true, aPick_false, strip_int, strip_bool, strip_str, strip_nilp, strip_nils, strip_box, strip_ref, strip_agg, strip_tup, strip_undef, aBox_f, solid_agg, cells_agg, kLoad_box, kGd_true, kGd_false, kCall_ok, gt_iff_lt, ge_iff_le, Int.ofNat_lt, Int.ofNat_le, decide_true, decide_false, Nat.zero_add, Bool.not_true, Bool.not_false, aExtract_tup, fin1_some, resL_nil, resL_some, noRefL_cons, noRefL_nil, noRef_int, noRef_str, noRef_bool, noRef_nilp, noRef_agg, strip_fn, kLoad_ref, Bool.and_self, ite_true, st, l, len9, e1, e2, c1, c2]
    · rw [if_neg (by omega)]
      have q := valid_loop src (by omega) xs (by omega) ht xs.length 0 (-1) src.length [] (by omega) (by omega) (by omega) (by omega) (by omega) (den C n) n n
      simp -implicitDefEqProofs only [oh_some, mp_some, sto_some, br_true, br_false, gd_true, gd_false, wA_tt, wA_tup, wA_ft, wA_tf, wA_ff, aNilCheck_box, aNilCheck_ref, aAddr_box, aAddr_ref, aLoad_one, List.getElem?_cons_succ, List.getElem?_cons_zero, Option.map_some, bin_add, bin_sub, bin_lss, bin_leq, bin_gtr, bin_geq, bin_eql, bin_neq, str_eql, aMax_int, aMin_int, aUn_not, aPick_true, aPick_false, strip_int, strip_bool, strip_str, strip_nilp, strip_nils, strip_box, strip_ref, strip_agg, strip_tup, strip_undef, aBox_f, solid_agg, cells_agg, kLoad_box, kGd_true, kGd_false, kCall_ok, gt_iff_lt, ge_iff_le, Int.ofNat_lt, Int.ofNat_le, decide_true, decide_false, Nat.zero_add, Bool.not_true, Bool.not_false, aExtract_tup, fin1_some, resL_nil, resL_some, noRefL_cons, noRefL_nil, noRef_int, noRef_str, noRef_bool, noRef_nilp, noRef_agg, strip_fn, kLoad_ref, Bool.and_self, ite_true, st, l, len9, e1, e2, c1, c2]
      exact q _ (by omega) (by simp [upds_at, upd_at]) (by simp [upds_at, upd_at]) (by simpa [upds_at, upd_at] using h) (by simp [upds_at, upd_at]) (by simp [upds_at, upd_at]) (by simp [upds_at, upd_at, argEnv])
theorem d32_9' (x : Ans) : drawOK C 32 (regOps Tryd.f32 9) [.silent, .silent, .silent, .reader, .silent, .silent, .reader, .silent, .writer] x = x := drawOK_ok (by kernel_rfl)

/-- What the edits come to, from this offset on. -/
def applyS (src : List UInt8) : Nat → List Ed → List UInt8
  | o, [] => src.drop o
  | o, x :: xs => (src.take x.a.toNat).drop o ++ x.t ++ applyS src x.b.toNat xs

theorem valid_cons {len : Nat} {p n : Int} {x : Ed} {xs : List Ed} (h : valid len p n (x :: xs) = 0) : p < x.a ∧ x.a ≤ x.b ∧ x.b ≤ len ∧ valid len x.b (n + (x.t.length - (x.b - x.a))) xs = 0 := by
  unfold valid at h
  split at h
  · cases h
  · exact ⟨by omega, by omega, by omega, h⟩

/-- What is made never grows beyond what may come out. -/
theorem valid_room {len : Nat} : ∀ {xs : List Ed} {p n : Int} {o : Nat}, valid len p n xs = 0 → (o : Int) ≤ p + 1 → o ≤ len → n - ((len : Int) - o) ≤ 2000
  | [], p, n, o, h, h1, h2 => by
    unfold valid at h
    split at h
    · cases h
    · omega
  | x :: xs, p, n, o, h, h1, h2 => by
    obtain ⟨k1, k2, k3, k4⟩ := valid_cons h
    have := valid_room (o := x.b.toNat) k4 (by omega) (by omega)
    omega

theorem subBoth {s : List UInt8} {i j : Int} (h0 : 0 ≤ i) (h1 : i ≤ j) (h2 : j ≤ s.length) : aSl Tryd.prog 9 (.str s) (some (I i)) (some (I j)) none = some (.str ((s.take j.toNat).drop i.toNat)) := by
  have h : Tryd.prog.underlying 9 = some .string := by kernel_rfl
  have h3 : 0 ≤ j := by omega
  have h4 : i ≤ max j 0 := by omega
  simp [aSl, h, aSubstr, aBound, h0, h2, h3, h4]

theorem noRef_ref (i o : Nat) : (AV.ref i o).noRef = false := by simp [AV.noRef]
theorem load65s (s : Heap) (w : TypeId × List AV) (id : Nat) (x y z : AV) (k : Nat) : aLoad false false 1 (.ref s.length k) (s.set id w ++ [(48, [x, y, z])]) = [x, y, z][k]?.map fun r => (r.strip, s.set id w ++ [(48, [x, y, z])]) := by
  have := load65 (s.set id w) x y z k
  rwa [List.length_set] at this
theorem Bld.app {s : Heap} {id : Nat} {bs : List UInt8} (h : Bld s id bs) (l : Heap) : Bld (s ++ l) id bs := by
  obtain ⟨a, h, q⟩ := h
  exact ⟨a, by rw [List.getElem?_append_left (List.getElem?_eq_some_iff.1 h).1, h], q⟩
theorem Bld.lt {s : Heap} {id : Nat} {bs : List UInt8} (h : Bld s id bs) : id < s.length := by
  obtain ⟨a, h, _⟩ := h
  exact (List.getElem?_eq_some_iff.1 h).1

theorem apply_loop (src : List UInt8) (hs : src.length ≤ 2000) (xs : List Ed) (hl : xs.length ≤ 50) : ∀ (k i : Nat) (p n : Int) (o : Nat) (acc : List UInt8), xs.length - i = k → i ≤ xs.length → valid src.length p n (xs.drop i) = 0 → (o : Int) ≤ p + 1 → o ≤ src.length → (acc.length : Int) = n - (src.length - o) →
    ∃ N, ∀ f, N ≤ f → ∀ m, k < m → ∀ n' e s, Bld s 0 acc → e 19 = I i → e 18 = I xs.length → IsE (e 17) xs → e 8 = I o → e 7 = .ref 0 0 → e 0 = .str src → ∃ s', aLoop (F32_L0 (den C f) n') m e s = some (.tup [.str (acc ++ applyS src o (xs.drop i)), I 0], s') := by
  intro k
  induction k with
  | zero =>
    intro i p n o acc hk hi hv hp ho ha
    have hr := valid_room hv hp ho
    obtain ⟨N, q⟩ := write_run (src.drop o)
    refine ⟨N + 1, fun f hf m hm n' e s hb h19 h18 h17 h8 h7 h0 => ?_⟩
    obtain ⟨m, rfl⟩ : ∃ j, m = j + 1 := ⟨m - 1, by omega⟩
    obtain ⟨f, rfl⟩ : ∃ j, f = j + 1 := ⟨f - 1, by omega⟩
    have c : ¬ i < xs.length := by omega
    have q := q (f + 1) (by omega) s 0 acc hb (by simp; omega)
    obtain ⟨s', q2⟩ := bString_run (hb.set (acc ++ src.drop o)) (by simp; omega)
    have q2 := q2 f
    have e1 := subDropI (s := src) (i := (o : Int)) (by omega) (by omega)
    rw [Int.toNat_natCast] at e1
    rw [aLoop, F32_L0, List.drop_of_length_le (by omega), applyS]
    refine ⟨s', ?_⟩
    simp -implicitDefEqProofs only [oh_some, mp_some, sto_some, br_true, br_false, gd_true, gd_false, wA_tt, wA_tup, wA_ft, wA_tf, wA_ff, aNilCheck_box, aNilCheck_ref, aAddr_box, aAddr_ref, aLoad_one, List.getElem?_cons_succ, List.getElem?_cons_zero, Option.map_some, bin_add, bin_sub, bin_lss, bin_leq, bin_gtr, bin_geq, bin_eql, bin_neq, str_eql, aMax_int, aMin_int, aUn_not, aPick_true, aPick_false, strip_int, strip_bool, strip_str, strip_nilp, strip_nils, strip_box, strip_ref, strip_agg, strip_tup, strip_undef, aBox_f, solid_agg, cells_agg, kLoad_box, kGd_true, kGd_false, kCall_ok, gt_iff_lt, ge_iff_le, Int.ofNat_lt, Int.ofNat_le, decide_true, decide_false, Nat.zero_add, Bool.not_true, Bool.not_false, aExtract_tup, fin1_some, resL_nil, resL_some, noRefL_cons, noRefL_nil, noRef_int, noRef_str, noRef_bool, noRef_nilp, noRef_agg, strip_fn, kLoad_ref, Bool.and_self, ite_true, h19, h18, h8, h7, h0, c, q, q2, e1]
  | succ k ih =>
    intro i p n o acc hk hi hv hp ho ha
    have hlt : i < xs.length := by omega
    have e0 : xs[i]? = some xs[i] := List.getElem?_eq_getElem hlt
    rw [List.drop_eq_getElem_cons hlt] at hv ⊢
    obtain ⟨k1, k2, k3, k4⟩ := valid_cons hv
    have hr := valid_room (o := xs[i].b.toNat) k4 (by omega) (by omega)
    have hlen : ((src.take xs[i].a.toNat).drop o).length = xs[i].a.toNat - o := by simp; omega
    obtain ⟨N1, q1⟩ := write_run ((src.take xs[i].a.toNat).drop o ++ xs[i].t)
    obtain ⟨N2, q2⟩ := ih (i + 1) xs[i].b _ xs[i].b.toNat (acc ++ ((src.take xs[i].a.toNat).drop o ++ xs[i].t)) (by omega) (by omega) k4 (by omega) (by omega) (by rw [List.length_append, List.length_append, hlen]; omega)
    rw [List.append_assoc acc] at q2
    refine ⟨max N1 N2, fun f hf m hm n' e s hb h19 h18 h17 h8 h7 h0 => ?_⟩
    obtain ⟨m, rfl⟩ : ∃ j, m = j + 1 := ⟨m - 1, by omega⟩
    replace h17 : e 17 = .sl 48 3 (eds xs) .sh := by
      rcases h17 with h | ⟨h, _⟩
      · exact h
      · subst h; simp at hlt
    have e1 := idx44 (f := .sh) e0
    have e2 := wadd1 (a := i) (by omega)
    have e3 := subBoth (s := src) (i := (o : Int)) (j := xs[i].a) (by omega) (by omega) (by omega)
    rw [Int.toNat_natCast] at e3
    have e4 : aBin Tryd.prog .add 9 (.str ((src.take xs[i].a.toNat).drop o)) (.str xs[i].t) = some (.str ((src.take xs[i].a.toNat).drop o ++ xs[i].t)) := str_add _ _ (by rw [hlen]; omega)
    have q1 := q1 f (by omega) (s ++ [(48, [I xs[i].a, I xs[i].b, .str xs[i].t])]) 0 acc (hb.app _) (by rw [List.length_append, hlen]; omega)
    rw [List.set_append_left _ _ hb.lt] at q1
    have e5 : ((xs[i].b.toNat : Nat) : Int) = xs[i].b := by omega
    rw [aLoop, F32_L0, applyS]
    simp -implicitDefEqProofs only [oh_some, mp_some, sto_some, br_true, br_false, gd_true, gd_false, wA_tt, wA_tup, wA_ft, wA_tf, wA_ff, aNilCheck_box, aNilCheck_ref, aAddr_box, aAddr_ref, aLoad_one, List.getElem?_cons_succ, List.getElem?_cons_zero, Option.map_some, bin_add, bin_sub, bin_lss, bin_leq, bin_gtr, bin_geq, bin_eql, bin_neq, str_eql, aMax_int, aMin_int, aUn_not, aPick_true, aPick_false, strip_int, strip_bool, strip_str, strip_nilp, strip_nils, strip_box, strip_ref, strip_agg, strip_tup, strip_undef, aBox_f, solid_agg, cells_agg, kLoad_box, kGd_true, kGd_false, kCall_ok, gt_iff_lt, ge_iff_le, Int.ofNat_lt, Int.ofNat_le, decide_true, decide_false, Nat.zero_add, Bool.not_true, Bool.not_false, aExtract_tup, fin1_some, resL_nil, resL_some, noRefL_cons, noRefL_nil, noRef_int, noRef_str, noRef_bool, noRef_nilp, noRef_agg, strip_fn, kLoad_ref, Bool.and_self, ite_true, h19, h18, h17, h8, h7, h0, hlt, e1, e2, e3, e4, q1, aLoad_agg, List.length_cons, List.length_nil, List.drop_zero, List.take_succ_cons, List.take_zero, Nat.le_refl, alloc65, store65, load65, load65s, kLoad_ref, noRef_ref, Bool.false_and, Bool.false_eq_true, if_false, d32_9']
    exact q2 f (by omega) m (by omega) n' _ _ ((hb.set _).app [(48, [I xs[i].a, I xs[i].b, .str xs[i].t])]) (by simp [upds_at, upd_at]) (by simp [upds_at, upd_at, h18]) (.inl (by simp [upds_at, upd_at, h17])) (by simp [upds_at, upd_at, e5]) (by simp [upds_at, upd_at, h7]) (by simp [upds_at, upd_at, h0])

/-- textedit.Apply. -/
theorem apply_run (src : List UInt8) (v : AV) (xs : List Ed) (h : IsE v xs) (ht : ∀ x ∈ xs, x.t.length ≤ 140737488355328) : AC C 32 [.str src, v] (if validate src xs = 0 then .tup [.str (applyS src 0 xs), I 0] else .tup [.str [], I (validate src xs)]) := by
  refine .intro en32 (by simp [noRefL_cons, noRefL_nil, noRef_str, h.noRef]) (by split <;> rfl) ?_
  have l := h.len
  have st := h.strip
  obtain ⟨N1, q1⟩ := AC.at (validate_run src v xs h ht)
  by_cases c : validate src xs = 0
  · rw [if_pos c]
    have c' := c
    unfold validate at c'
    split at c'
    · cases c'
    · obtain ⟨N2, q2⟩ := apply_loop src (by omega) xs (by omega) xs.length 0 (-1) src.length 0 [] (by omega) (by omega) c' (by omega) (by omega) (by simp)
      refine ⟨max 52 (max N1 N2), fun n hn => ?_⟩
      have q1 := q1 n (by omega)
      have hb : Bld [(75, [.nilp, .nils])] 0 [] := ⟨.nilp, rfl, .inl rfl⟩
      have q2 := q2 n (by omega) n (by omega) n
      have z : ((0 : Int) != 0) = false := rfl
      rw [c] at q1
      rw [F32_eq, F32]
      simp -implicitDefEqProofs only [oh_some, mp_some, sto_some, br_true, br_false, gd_true, gd_false, wA_tt, wA_tup, wA_ft, wA_tf, wA_ff, aNilCheck_box, aNilCheck_ref, aAddr_box, aAddr_ref, aLoad_one, List.getElem?_cons_succ, List.getElem?_cons_zero, Option.map_some, bin_add, bin_sub, bin_lss, bin_leq, bin_gtr, bin_geq, bin_eql, bin_neq, str_eql, aMax_int, aMin_int, aUn_not, aPick_true, aPick_false, strip_int, strip_bool, strip_str, strip_nilp, strip_nils, strip_box, strip_ref, strip_agg, strip_tup, strip_undef, aBox_f, solid_agg, cells_agg, kLoad_box, kGd_true, kGd_false, kCall_ok, gt_iff_lt, ge_iff_le, Int.ofNat_lt, Int.ofNat_le, decide_true, decide_false, Nat.zero_add, Bool.not_true, Bool.not_false, aExtract_tup, fin1_some, resL_nil, resL_some, noRefL_cons, noRefL_nil, noRef_int, noRef_str, noRef_bool, noRef_nilp, noRef_agg, strip_fn, kLoad_ref, Bool.and_self, ite_true, st, l, q1, z, alloc53, List.length_nil, List.nil_append]
      exact q2 _ _ hb (by simp [upds_at, upd_at]) (by simp [upds_at, upd_at]) (by simpa [upds_at, upd_at] using h) (by simp [upds_at, upd_at]) (by simp [upds_at, upd_at]) (by simp [upds_at, upd_at, argEnv])
  · rw [if_neg c]
    refine ⟨N1, fun n hn => ⟨[], ?_⟩⟩
    have q1 := q1 n (by omega)
    have z : (validate src xs != 0) = true := by simp [c]
    rw [F32_eq, F32]
    simp -implicitDefEqProofs only [oh_some, mp_some, sto_some, br_true, br_false, gd_true, gd_false, wA_tt, wA_tup, wA_ft, wA_tf, wA_ff, aNilCheck_box, aNilCheck_ref, aAddr_box, aAddr_ref, aLoad_one, List.getElem?_cons_succ, List.getElem?_cons_zero, Option.map_some, bin_add, bin_sub, bin_lss, bin_leq, bin_gtr, bin_geq, bin_eql, bin_neq, str_eql, aMax_int, aMin_int, aUn_not, aPick_true, aPick_false, strip_int, strip_bool, strip_str, strip_nilp, strip_nils, strip_box, strip_ref, strip_agg, strip_tup, strip_undef, aBox_f, solid_agg, cells_agg, kLoad_box, kGd_true, kGd_false, kCall_ok, gt_iff_lt, ge_iff_le, Int.ofNat_lt, Int.ofNat_le, decide_true, decide_false, Nat.zero_add, Bool.not_true, Bool.not_false, aExtract_tup, fin1_some, resL_nil, resL_some, noRefL_cons, noRefL_nil, noRef_int, noRef_str, noRef_bool, noRef_nilp, noRef_agg, strip_fn, kLoad_ref, Bool.and_self, ite_true, st, l, q1, z]
end EdF

