/- LexerLines, in the abstract machine. -/
import Derived.Test.YtionohfkjdahlaaDoorLexG
import Derived.Test.YtionohfkjdahlaaDoorLexL
set_option linter.all false
set_option maxRecDepth 100000
namespace LexF
open Go Go.Abs Go.Proofs

theorem sig_length (ts : List Tok) : (sig ts).length ≤ ts.length := List.length_filter_le _ _

theorem Lines_run (a b : List UInt8) : AC C 8 [.str a, .str b] (.bool true) := by
  refine .intro en8 rfl rfl ?_
  have hla : (a.take 900).length ≤ 900 := by simp; omega
  have hlb : (b.take 900).length ≤ 900 := by simp; omega
  obtain ⟨N1, q1⟩ := AC.at ex_run
  obtain ⟨N2, q2⟩ := AC.at (short_run a 900)
  obtain ⟨N3, q3⟩ := AC.at (short_run b 900)
  generalize a.take 900 = x at *
  generalize b.take 900 = y at *
  have hlz : (x ++ 10 :: y).length ≤ 1801 := by rw [List.length_append, List.length_cons]; omega
  obtain ⟨N4, q4⟩ := AC.at (tok_run x)
  obtain ⟨N5, q5⟩ := AC.at (tok_run y)
  obtain ⟨N6, q6⟩ := AC.at (tok_run (x ++ 10 :: y))
  unfold tokR at q4 q5 q6
  rw [if_neg (by omega)] at q4 q5 q6
  have tx := tokz_length x
  have ty := tokz_length y
  have tz := tokz_length (x ++ 10 :: y)
  have vx := accV_strip (tokz x)
  have vy := accV_strip (tokz y)
  have vz := accV_strip (tokz (x ++ 10 :: y))
  obtain ⟨N7, q7⟩ := AC.at (sig_run _ _ vx (by omega))
  obtain ⟨N8, q8⟩ := AC.at (sig_run _ _ vy (by omega))
  obtain ⟨N9, q9⟩ := AC.at (sig_run _ _ vz (by omega))
  have sx := sig_length (tokz x)
  have sy := sig_length (tokz y)
  have sz := sig_length (tokz (x ++ 10 :: y))
  have e1 := app35a (sig (tokz x)) (sig (tokz y)) (by omega)
  have hs := sig_lines y x.length x (Nat.le_refl _)
  rw [← hs] at e1
  obtain ⟨N10, q10⟩ := AC.at (same_run _ _ _ (accV_strip (sig (tokz (x ++ 10 :: y)))) (accV_strip (sig (tokz (x ++ 10 :: y)))) (by omega))
  have e2 : aBin Tryd.prog .add 9 (.str x) (.str [10]) = some (.str (x ++ [10])) := str_add _ _ (by simp; omega)
  have e3 : aBin Tryd.prog .add 9 (.str (x ++ [10])) (.str y) = some (.str (x ++ 10 :: y)) := by
    rw [str_add _ _ (by simp; omega), List.append_assoc]; rfl
  have st1 := vx.strip
  have st2 := vy.strip
  have st3 := vz.strip
  have st4 := (accV_strip (sig (tokz (x ++ 10 :: y)))).strip
  generalize accV (sig (tokz (x ++ 10 :: y))) = w at *
  generalize accV (sig (tokz x)) = w1 at *
  generalize accV (sig (tokz y)) = w2 at *
  generalize (accV (tokz (x ++ 10 :: y))).strip = v at *
  generalize (accV (tokz x)).strip = v1 at *
  generalize (accV (tokz y)).strip = v2 at *
  refine ⟨max N1 (max N2 (max N3 (max N4 (max N5 (max N6 (max N7 (max N8 (max N9 N10)))))))), fun n hn => ⟨[], ?_⟩⟩
  simp only [Nat.max_le] at hn
  have q1 := q1 n (by omega)
  have q2 : ∀ s, aCall Tryd.prog (den C n) 12 [.str a, .int .i64 900] s = _ := q2 n (by omega)
  have q3 : ∀ s, aCall Tryd.prog (den C n) 12 [.str b, .int .i64 900] s = _ := q3 n (by omega)
  have q4 := q4 n (by omega)
  have q5 := q5 n (by omega)
  have q6 := q6 n (by omega)
  have q7 := q7 n (by omega)
  have q8 := q8 n (by omega)
  have q9 := q9 n (by omega)
  have q10 := q10 n (by omega)
  have z0 : ((0 : Int) == 0) = true := rfl
  rw [F8_eq, F8]
  simp -implicitDefEqProofs only [oh_some, mp_some, sto_some, br_true, br_false, gd_true, gd_false, wA_tt, wA_tup, wA_ft, wA_tf, wA_ff, aNilCheck_box, aNilCheck_ref, aAddr_box, aAddr_ref, aLoad_one, List.getElem?_cons_succ, List.getElem?_cons_zero, Option.map_some, bin_add, bin_sub, bin_lss, bin_leq, bin_gtr, bin_geq, bin_eql, bin_neq, str_eql, aMax_int, aMin_int, aUn_not, aPick_true, aPick_false, strip_int, strip_bool, strip_str, strip_nilp, strip_nils, strip_box, strip_ref, strip_agg, strip_tup, strip_undef, aBox_f, solid_agg, cells_agg, kLoad_box, kGd_true, kGd_false, kCall_ok, gt_iff_lt, ge_iff_le, Int.ofNat_lt, Int.ofNat_le, decide_true, decide_false, Nat.zero_add, Bool.not_true, Bool.not_false, aExtract_tup, fin1_some, resL_nil, resL_some, noRefL_cons, noRefL_nil, noRef_int, noRef_str, noRef_bool, noRef_nilp, noRef_agg, strip_fn, kLoad_ref, Bool.and_self, ite_true, q1, q2, q3, q4, q5, q6, q7, q8, q9, q10, e1, e2, e3, st1, st2, st3, st4, z0]
end LexF

