/- The rope package's functions in the abstract machine: nodes. -/
import Derived.Test.YtionohfkjdahlaaRopeF
import Derived.Test.YtionohfkjdahlaaRopeT
set_option linter.all false
namespace RopeF
open Go Go.Abs Go.Proofs

abbrev I (n : Int) : AV := .int .i64 n

/-- A tree as the program has it. -/
def enc : T → AV
  | .leaf s => .box [.nilp, .nilp, .str s, I s.length, I 0, I 1] 0
  | .node l r => .box [enc l, enc r, .str [], I (l.str.length + r.str.length : Nat), I (max l.h r.h + 1 : Nat), I (l.lv + r.lv : Nat)] 0
def lp : T → AV
  | .leaf _ => .nilp
  | .node l _ => enc l
def rp : T → AV
  | .leaf _ => .nilp
  | .node _ r => enc r
def tx : T → List UInt8
  | .leaf s => s
  | .node _ _ => []
theorem enc_eq (t : T) : enc t = .box [lp t, rp t, .str (tx t), I t.str.length, I t.h, I t.lv] 0 := by
  cases t with
  | leaf s => rfl
  | node l r => simp [enc, lp, rp, tx, T.str, T.h, T.lv]

@[simp] theorem enc_strip (t : T) : (enc t).strip = enc t := by rw [enc_eq]; rfl
@[simp] theorem enc_noRef (t : T) : (enc t).noRef = true := by
  induction t with
  | leaf s => rfl
  | node l r ihl ihr => simp [enc, AV.noRef, noRefL, ihl, ihr]
@[simp] theorem lp_strip (t : T) : (lp t).strip = lp t := by cases t <;> simp [lp]
@[simp] theorem rp_strip (t : T) : (rp t).strip = rp t := by cases t <;> simp [rp]
@[simp] theorem enc_check (t : T) : aNilCheck (enc t) = some (enc t) := by rw [enc_eq]; rfl
@[simp] theorem enc_addr (k : Nat) (t : T) : aAddr k (enc t) = some (.box [lp t, rp t, .str (tx t), I t.str.length, I t.h, I t.lv] k) := by
  rw [enc_eq, aAddr_box, Nat.zero_add]

def encR : R → AV
  | none => .nilp
  | some t => enc t
@[simp] theorem encR_strip (r : R) : (encR r).strip = encR r := by cases r <;> simp [encR]
@[simp] theorem encR_noRef (r : R) : (encR r).noRef = true := by cases r <;> simp [encR]; rfl

theorem newLeaf_ok (s : List UInt8) : AC C 24 [.str s] (enc (.leaf s)) := by
  refine .intro (by kernel_rfl) (by rfl) (by simp) ⟨0, fun n _ => ⟨[], ?_⟩⟩
  rw [F24_eq]
  kernel_rfl

theorem build56 (l r : T) (a b c : Int) : aBuild Try.prog 56 [(0, enc l), (1, enc r), (3, I a), (4, I b), (5, I c)] = some (.agg [enc l, enc r, .str [], I a, I b, I c]) := by
  rw [enc_eq l, enc_eq r]; kernel_rfl

/-- How much there is of a tree; all that follows goes on within a bound. -/
def T.mass (t : T) : Nat := t.str.length + t.lv
theorem T.mass_node (l r : T) : (T.node l r).mass = l.mass + r.mass := by simp [T.mass, T.str, T.lv]; omega
theorem T.h_mass (t : T) : t.h < t.mass := by have := t.h_lt_lv; unfold T.mass; omega


theorem AC.at {g : FuncId} {args : List AV} {v : AV} (h : AC C g args v) : ∃ N, ∀ n, N ≤ n → ∀ s, aCall Try.prog (den C n) g args s = some (v, s) := h

theorem wadd {a b : Nat} (h : a + b < 2000000000) : IntKind.i64.wrap ((a : Int) + (b : Int)) = ((a + b : Nat) : Int) := by rw [wrap64] <;> omega
theorem wadd1 {a : Nat} (h : a < 2000000000) : IntKind.i64.wrap ((a : Int) + 1) = ((a + 1 : Nat) : Int) := by rw [wrap64] <;> omega

theorem newNode_ok (l r : T) (h : l.mass + r.mass < 1000000000) : AC C 29 [enc l, enc r] (enc (.node l r)) := by
  refine .intro (by kernel_rfl) (by simp [noRefL]) (by simp) ⟨0, fun n _ => ⟨[], ?_⟩⟩
  have := l.h_lt_lv
  have := r.h_lt_lv
  unfold T.mass at *
  rw [F29_eq]
  unfold F29
  have e1 : IntKind.i64.wrap ((l.str.length : Int) + r.str.length) = (l.str.length + r.str.length : Nat) := by rw [wrap64] <;> omega
  have e2 : IntKind.i64.wrap ((if l.h < r.h then (r.h : Int) else l.h) + 1) = (max l.h r.h + 1 : Nat) := by rw [wrap64] <;> split <;> omega
  have e3 : IntKind.i64.wrap ((l.lv : Int) + r.lv) = (l.lv + r.lv : Nat) := by rw [wrap64] <;> omega
  simp -implicitDefEqProofs only [oh_some, mp_some, sto_some, br_true, br_false, gd_true, gd_false, wA_tt, wA_ft, wA_tf, wA_ff, enc_strip, lp_strip, rp_strip, encR_strip, enc_check, enc_addr, aNilCheck_box, aNilCheck_ref, aAddr_box, aAddr_ref, aLoad_one, List.getElem?_cons_succ, List.getElem?_cons_zero, Option.map_some, bin_add, bin_sub, bin_lss, bin_leq, bin_gtr, bin_geq, bin_eql, bin_neq, str_eql, aMax_int, aMin_int, aUn_not, aPick_true, aPick_false, strip_int, strip_bool, strip_str, strip_nilp, strip_nils, strip_box, strip_ref, strip_agg, strip_tup, strip_undef, aBox_f, solid_agg, cells_agg, kLoad_box, kGd_true, kGd_false, kCall_ok, gt_iff_lt, ge_iff_le, Int.ofNat_lt, Int.ofNat_le, decide_true, decide_false, Nat.zero_add, Bool.not_true, Bool.not_false, aExtract_tup, fin1_some, resL_nil, resL_some, enc_noRef, encR_noRef, noRefL_cons, noRefL_nil, noRef_int, noRef_str, noRef_bool, Bool.and_self, ite_true, build56, e1, e2, e3, d29_1]
  simp only [enc]

theorem rebalance_run (l r : T) (h : l.mass + r.mass < 1000000000) : AC C 28 [enc l, enc r] (enc (l.rebalance r)) := by
  refine .intro (by kernel_rfl) (by simp [noRefL]) (by simp) ?_
  have hl := l.h_mass
  have hr := r.h_mass
  have e1 := wadd1 (a := l.h) (by omega)
  have e2 := wadd1 (a := r.h) (by omega)
  unfold T.rebalance
  by_cases c1 : r.h + 1 < l.h
  · obtain ⟨a, b, rfl⟩ := T.hpos (t := l) (by omega)
    rw [T.mass_node] at h
    by_cases c2 : b.h ≤ a.h
    · obtain ⟨N1, q1⟩ := AC.at (newNode_ok b r (by omega))
      obtain ⟨N2, q2⟩ := AC.at (newNode_ok a (.node b r) (by rw [T.mass_node]; omega))
      rw [if_pos (by exact ⟨c1, c2⟩)]
      refine ⟨max N1 N2, fun n hn => ⟨[], ?_⟩⟩
      have q1 := q1 n (by omega)
      have q2 := q2 n (by omega)
      rw [F28_eq]
      unfold F28
      simp -implicitDefEqProofs only [oh_some, mp_some, sto_some, br_true, br_false, gd_true, gd_false, wA_tt, wA_ft, wA_tf, wA_ff, enc_strip, lp_strip, rp_strip, encR_strip, enc_check, enc_addr, aNilCheck_box, aNilCheck_ref, aAddr_box, aAddr_ref, aLoad_one, List.getElem?_cons_succ, List.getElem?_cons_zero, Option.map_some, bin_add, bin_sub, bin_lss, bin_leq, bin_gtr, bin_geq, bin_eql, bin_neq, str_eql, aMax_int, aMin_int, aUn_not, aPick_true, aPick_false, strip_int, strip_bool, strip_str, strip_nilp, strip_nils, strip_box, strip_ref, strip_agg, strip_tup, strip_undef, aBox_f, solid_agg, cells_agg, kLoad_box, kGd_true, kGd_false, kCall_ok, gt_iff_lt, ge_iff_le, Int.ofNat_lt, Int.ofNat_le, decide_true, decide_false, Nat.zero_add, Bool.not_true, Bool.not_false, aExtract_tup, fin1_some, resL_nil, resL_some, enc_noRef, encR_noRef, noRefL_cons, noRefL_nil, noRef_int, noRef_str, noRef_bool, Bool.and_self, ite_true, lp, rp, e1, e2, c1, c2, q1, q2, d28_1, d28_2, T.left, T.right]
    · have : b.h > 0 := by omega
      obtain ⟨x, y, rfl⟩ := T.hpos this
      rw [T.mass_node] at h
      obtain ⟨N1, q1⟩ := AC.at (newNode_ok a x (by omega))
      obtain ⟨N2, q2⟩ := AC.at (newNode_ok y r (by omega))
      obtain ⟨N3, q3⟩ := AC.at (newNode_ok (.node a x) (.node y r) (by simp only [T.mass_node]; omega))
      rw [if_neg (by rintro ⟨_, h⟩; exact c2 h), if_pos c1]
      refine ⟨max N1 (max N2 N3), fun n hn => ⟨[], ?_⟩⟩
      have q1 := q1 n (by omega)
      have q2 := q2 n (by omega)
      have q3 := q3 n (by omega)
      rw [F28_eq]
      unfold F28
      simp -implicitDefEqProofs only [oh_some, mp_some, sto_some, br_true, br_false, gd_true, gd_false, wA_tt, wA_ft, wA_tf, wA_ff, enc_strip, lp_strip, rp_strip, encR_strip, enc_check, enc_addr, aNilCheck_box, aNilCheck_ref, aAddr_box, aAddr_ref, aLoad_one, List.getElem?_cons_succ, List.getElem?_cons_zero, Option.map_some, bin_add, bin_sub, bin_lss, bin_leq, bin_gtr, bin_geq, bin_eql, bin_neq, str_eql, aMax_int, aMin_int, aUn_not, aPick_true, aPick_false, strip_int, strip_bool, strip_str, strip_nilp, strip_nils, strip_box, strip_ref, strip_agg, strip_tup, strip_undef, aBox_f, solid_agg, cells_agg, kLoad_box, kGd_true, kGd_false, kCall_ok, gt_iff_lt, ge_iff_le, Int.ofNat_lt, Int.ofNat_le, decide_true, decide_false, Nat.zero_add, Bool.not_true, Bool.not_false, aExtract_tup, fin1_some, resL_nil, resL_some, enc_noRef, encR_noRef, noRefL_cons, noRefL_nil, noRef_int, noRef_str, noRef_bool, Bool.and_self, ite_true, lp, rp, e1, e2, c1, c2, q1, q2, q3, d28_1, d28_3, d28_4, T.left, T.right]
  · rw [if_neg (by omega), if_neg (by omega)]
    by_cases c3 : l.h + 1 < r.h
    · obtain ⟨a, b, rfl⟩ := T.hpos (t := r) (by omega)
      rw [T.mass_node] at h
      by_cases c2 : a.h ≤ b.h
      · obtain ⟨N1, q1⟩ := AC.at (newNode_ok l a (by omega))
        obtain ⟨N2, q2⟩ := AC.at (newNode_ok (.node l a) b (by rw [T.mass_node]; omega))
        rw [if_pos (by exact ⟨c3, c2⟩)]
        refine ⟨max N1 N2, fun n hn => ⟨[], ?_⟩⟩
        have q1 := q1 n (by omega)
        have q2 := q2 n (by omega)
        rw [F28_eq]
        unfold F28
        simp -implicitDefEqProofs only [oh_some, mp_some, sto_some, br_true, br_false, gd_true, gd_false, wA_tt, wA_ft, wA_tf, wA_ff, enc_strip, lp_strip, rp_strip, encR_strip, enc_check, enc_addr, aNilCheck_box, aNilCheck_ref, aAddr_box, aAddr_ref, aLoad_one, List.getElem?_cons_succ, List.getElem?_cons_zero, Option.map_some, bin_add, bin_sub, bin_lss, bin_leq, bin_gtr, bin_geq, bin_eql, bin_neq, str_eql, aMax_int, aMin_int, aUn_not, aPick_true, aPick_false, strip_int, strip_bool, strip_str, strip_nilp, strip_nils, strip_box, strip_ref, strip_agg, strip_tup, strip_undef, aBox_f, solid_agg, cells_agg, kLoad_box, kGd_true, kGd_false, kCall_ok, gt_iff_lt, ge_iff_le, Int.ofNat_lt, Int.ofNat_le, decide_true, decide_false, Nat.zero_add, Bool.not_true, Bool.not_false, aExtract_tup, fin1_some, resL_nil, resL_some, enc_noRef, encR_noRef, noRefL_cons, noRefL_nil, noRef_int, noRef_str, noRef_bool, Bool.and_self, ite_true, lp, rp, e1, e2, c1, c2, c3, q1, q2, d28_1, d28_3, d28_5, d28_6, T.left, T.right]
      · have : a.h > 0 := by omega
        obtain ⟨x, y, rfl⟩ := T.hpos this
        rw [T.mass_node] at h
        obtain ⟨N1, q1⟩ := AC.at (newNode_ok l x (by omega))
        obtain ⟨N2, q2⟩ := AC.at (newNode_ok y b (by omega))
        obtain ⟨N3, q3⟩ := AC.at (newNode_ok (.node l x) (.node y b) (by simp only [T.mass_node]; omega))
        rw [if_neg (by rintro ⟨_, h⟩; exact c2 h), if_pos c3]
        refine ⟨max N1 (max N2 N3), fun n hn => ⟨[], ?_⟩⟩
        have q1 := q1 n (by omega)
        have q2 := q2 n (by omega)
        have q3 := q3 n (by omega)
        rw [F28_eq]
        unfold F28
        simp -implicitDefEqProofs only [oh_some, mp_some, sto_some, br_true, br_false, gd_true, gd_false, wA_tt, wA_ft, wA_tf, wA_ff, enc_strip, lp_strip, rp_strip, encR_strip, enc_check, enc_addr, aNilCheck_box, aNilCheck_ref, aAddr_box, aAddr_ref, aLoad_one, List.getElem?_cons_succ, List.getElem?_cons_zero, Option.map_some, bin_add, bin_sub, bin_lss, bin_leq, bin_gtr, bin_geq, bin_eql, bin_neq, str_eql, aMax_int, aMin_int, aUn_not, aPick_true, aPick_false, strip_int, strip_bool, strip_str, strip_nilp, strip_nils, strip_box, strip_ref, strip_agg, strip_tup, strip_undef, aBox_f, solid_agg, cells_agg, kLoad_box, kGd_true, kGd_false, kCall_ok, gt_iff_lt, ge_iff_le, Int.ofNat_lt, Int.ofNat_le, decide_true, decide_false, Nat.zero_add, Bool.not_true, Bool.not_false, aExtract_tup, fin1_some, resL_nil, resL_some, enc_noRef, encR_noRef, noRefL_cons, noRefL_nil, noRef_int, noRef_str, noRef_bool, Bool.and_self, ite_true, lp, rp, e1, e2, c1, c2, c3, q1, q2, q3, d28_1, d28_3, d28_5, d28_7, d28_8, T.left, T.right]
    · rw [if_neg (by omega), if_neg (by omega)]
      obtain ⟨N1, q1⟩ := AC.at (newNode_ok l r (by omega))
      refine ⟨N1, fun n hn => ⟨[], ?_⟩⟩
      have q1 := q1 n (by omega)
      rw [F28_eq]
      unfold F28
      simp -implicitDefEqProofs only [oh_some, mp_some, sto_some, br_true, br_false, gd_true, gd_false, wA_tt, wA_ft, wA_tf, wA_ff, enc_strip, lp_strip, rp_strip, encR_strip, enc_check, enc_addr, aNilCheck_box, aNilCheck_ref, aAddr_box, aAddr_ref, aLoad_one, List.getElem?_cons_succ, List.getElem?_cons_zero, Option.map_some, bin_add, bin_sub, bin_lss, bin_leq, bin_gtr, bin_geq, bin_eql, bin_neq, str_eql, aMax_int, aMin_int, aUn_not, aPick_true, aPick_false, strip_int, strip_bool, strip_str, strip_nilp, strip_nils, strip_box, strip_ref, strip_agg, strip_tup, strip_undef, aBox_f, solid_agg, cells_agg, kLoad_box, kGd_true, kGd_false, kCall_ok, gt_iff_lt, ge_iff_le, Int.ofNat_lt, Int.ofNat_le, decide_true, decide_false, Nat.zero_add, Bool.not_true, Bool.not_false, aExtract_tup, fin1_some, resL_nil, resL_some, enc_noRef, encR_noRef, noRefL_cons, noRefL_nil, noRef_int, noRef_str, noRef_bool, Bool.and_self, ite_true, lp, rp, e1, e2, c1, c3, q1, d28_1, d28_3, d28_5, d28_7, T.left, T.right]
end RopeF

