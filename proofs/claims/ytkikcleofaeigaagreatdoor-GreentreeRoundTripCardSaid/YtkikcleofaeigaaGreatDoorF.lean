/- ParL, ParS8, ParS9, ParT, ParT2, ParT3, ParU, ParV, ParV2, ParV3, ParV4, ParV5 -/
import Derived.Test.YtkikcleofaeigaaGreatDoorE
set_option linter.all false

section
set_option maxRecDepth 100000
namespace ParF
open Go Go.Abs Go.Proofs Pm
theorem peek_cell {ts : List Tok} {n : Nat} (hn : ts.length + 20 ≤ n) {P : Nat} {s : Heap} {rest : List Tok} {base : List Lv} {k : Nat} {cs : List Tree} {J : List Nat} (h : PR ts P s rest base k cs J) :
    ∃ sp s2 L, aCall Tryz.prog (den C n) 105 [.ref P 0] s = some (tokA (pk rest), sp) ∧ aStore 2 (sp ++ [(80, [I 0, .str []])]) (.ref sp.length 0) (tokA (pk rest)) = some s2 ∧ PR ts P s2 rest base k cs J ∧ Ex s s2 J J ∧
      s2[L]? = some (80, [I (pk rest).1, .str (pk rest).2]) ∧ L < s2.length ∧ L ∉ J ∧ L = sp.length := by
  have h' := h
  obtain ⟨pos, i, rfl, h⟩ := h
  obtain ⟨tk, st, r⟩ := h.rdy
  obtain ⟨t, e⟩ := peek_run r (n := n) (by omega)
  have sto : aStore 2 (s ++ t ++ [(80, [I 0, .str []])]) (.ref (s ++ t).length 0) (tokA (pk (ts.drop pos))) = some (s ++ t ++ [(80, [I (pk (ts.drop pos)).1, .str (pk (ts.drop pos)).2])]) := by
    rw [ParF.st (o := 0) (n := 2) (v := tokA (pk (ts.drop pos))) gapp_new (by decide) rfl rfl (by show 0 + 2 ≤ 2; omega), set_end]; rfl
  refine ⟨s ++ t, _, (s ++ t).length, e, sto, (h'.app t).app _, ((Ex.app s t J).trans (Ex.app _ _ J)), gapp_new, by rw [app_length]; omega, fun hm => ?_, rfl⟩
  have := h.lt _ hm
  rw [app_len] at this
  omega
theorem look_at {ts : List Tok} (xs : List Bytes) (hl : xs.length < 50) {n : Nat} (hn : ts.length + 130 ≤ n) {P : Nat} {s : Heap} {rest : List Tok} {base : List Lv} {k : Nat} {cs : List Tree} {J : List Nat} (h : PR ts P s rest base k cs J) :
    ∃ s1 P1 s2, aCall Tryz.prog (den C n) 107 [.ref P 0] s = some (.ref P1 0, s1) ∧ aCall Tryz.prog (den C n) 106 [.ref P1 0, strs xs] s1 = some (.bool (atT xs (pk (la rest))), s2) ∧ PR ts P s2 rest base k cs J ∧ Ex s s2 J J := by
  have h' := h
  obtain ⟨pos, i, rfl, h⟩ := h
  obtain ⟨tk, st, r⟩ := h.rdy
  obtain ⟨t, P1, pos1, tk1, st1, e1, r1, d1⟩ := look_run r (n := n) (by omega)
  obtain ⟨t2, e2⟩ := at_rd (ts := ts) xs hl n (by omega) P1 (s ++ t) pos1 tk1 st1 r1
  dsimp only at e2
  rw [d1] at e2
  exact ⟨_, P1, _, e1, e2, (h'.app t).app t2, (Ex.app s t J).trans (Ex.app _ _ J)⟩
theorem look_id {ts : List Tok} {n : Nat} (hn : ts.length + 130 ≤ n) {P : Nat} {s : Heap} {rest : List Tok} {base : List Lv} {k : Nat} {cs : List Tree} {J : List Nat} (h : PR ts P s rest base k cs J) :
    ∃ s1 P1 s2, aCall Tryz.prog (den C n) 107 [.ref P 0] s = some (.ref P1 0, s1) ∧ aCall Tryz.prog (den C n) 230 [.ref P1 0] s1 = some (.bool ((pk (la rest)).1 == 103), s2) ∧ PR ts P s2 rest base k cs J ∧ Ex s s2 J J := by
  have h' := h
  obtain ⟨pos, i, rfl, h⟩ := h
  obtain ⟨tk, st, r⟩ := h.rdy
  obtain ⟨t, P1, pos1, tk1, st1, e1, r1, d1⟩ := look_run r (n := n) (by omega)
  obtain ⟨t2, e2⟩ := ident_rd ts n (by omega) P1 (s ++ t) pos1 tk1 st1 r1
  dsimp only at e2
  rw [d1] at e2
  exact ⟨_, P1, _, e1, e2, (h'.app t).app t2, (Ex.app s t J).trans (Ex.app _ _ J)⟩
theorem look_post {ts : List Tok} {n : Nat} (hn : ts.length + 130 ≤ n) {P : Nat} {s : Heap} {rest : List Tok} {base : List Lv} {k : Nat} {cs : List Tree} {J : List Nat} (h : PR ts P s rest base k cs J) :
    ∃ s1 P1 s2 s3 P2 s4, aCall Tryz.prog (den C n) 107 [.ref P 0] s = some (.ref P1 0, s1) ∧ aCall Tryz.prog (den C n) 230 [.ref P1 0] s1 = some (.bool ((pk (la rest)).1 == 103), s2) ∧
      aCall Tryz.prog (den C n) 107 [.ref P1 0] s2 = some (.ref P2 0, s3) ∧ aCall Tryz.prog (den C n) 106 [.ref P2 0, strs [wLPar]] s3 = some (.bool (atT [wLPar] (pk (la (la rest)))), s4) ∧ PR ts P s4 rest base k cs J ∧ Ex s s4 J J := by
  have h' := h
  obtain ⟨pos, i, rfl, h⟩ := h
  obtain ⟨tk, st, r⟩ := h.rdy
  obtain ⟨t, P1, pos1, tk1, st1, e1, r1, d1⟩ := look_run r (n := n) (by omega)
  obtain ⟨t2, e2⟩ := ident_rd ts n (by omega) P1 (s ++ t) pos1 tk1 st1 r1
  obtain ⟨t3, P2, pos2, tk2, st2, e3, r2, d2⟩ := look_run (r1.app t2) (n := n) (by omega)
  obtain ⟨t4, e4⟩ := at_rd (ts := ts) [wLPar] (by decide) n (by omega) P2 (s ++ t ++ t2 ++ t3) pos2 tk2 st2 r2
  dsimp only at e2 e4
  rw [d1] at e2 d2
  rw [d2] at e4
  exact ⟨_, P1, _, _, P2, _, e1, e2, e3, e4, (((h'.app t).app t2).app t3).app t4, (((Ex.app s t J).trans (Ex.app _ _ J)).trans (Ex.app _ _ J)).trans (Ex.app _ _ J)⟩
theorem bops_run (l : Nat) (hl : l ≤ 4) : AN 1 286 [I l] (strs (binOps l)) := by
  refine .intro (N := 0) en286 rfl (by rw [noRef_sl, strs_noRef]) fun n _ => ⟨[], ?_⟩
  rw [F286_eq]
  match l with
  | 0 => rfl
  | 1 => rfl
  | 2 => rfl
  | 3 => rfl
  | 4 => rfl
  | n + 5 => omega
end ParF
end

section
set_option maxRecDepth 100000
set_option maxHeartbeats 2000000
namespace ParF
open Go Go.Abs Go.Proofs Pm
theorem s352 {ts : List Tok} {m : Nat} (H : ∀ k < m, AllS ts k) : Sim ts m (.seq .bump gIdent) vd (fnF 352 fun P => [.box [.ref P 0] 0]) := by
  intro n hn P s rest base k cs J b rest' cs' h hr hb
  obtain ⟨n, rfl⟩ : ∃ j, n = j + 1 := ⟨n - 1, by omega⟩
  obtain ⟨m1, b1, t1, c1, hm1, ha1, hr1, hz1⟩ := seq_inv hr
  obtain ⟨s2, J2, q2, p2, x2⟩ := (bump_sim ts m1) n (by omega) P s rest base k cs J b1 t1 c1 h ha1 (by omega)
  have e2 : aCall Tryz.prog (den C n) 113 [.ref P 0] s = some (.tup [], s2) := q2
  obtain ⟨s3, J3, q3, p3, x3⟩ := (ident_sim ts m1) n (by omega) P s2 t1 base k c1 J2 b rest' cs' p2 hr1 (by omega)
  have e3 : aCall Tryz.prog (den C n) 181 [.ref P 0] s2 = some (.tup [], s3) := q3
  refine ⟨s3, J3, ?_, p3, (x2.trans x3)⟩
  show aCall Tryz.prog (den C (n + 1)) 352 [.box [.ref P 0] 0] s = _
  rw [callR en352 (box1 ..), F352_eq, F352]
  simp -implicitDefEqProofs only [sL, bs1, bs2, bs3, strip_own, aBox_ref, aBox_str, aBox_bool, aBox_int, e2, e3]
theorem s353 {ts : List Tok} {m : Nat} (H : ∀ k < m, AllS ts k) : Sim ts m (.seq (gPath false) (gIf [wLPar] (gList wRPar (.call 5)))) vd (fnF 353 fun P => [.box [.ref P 0] 0]) := by
  intro n hn P s rest base k cs J b rest' cs' h hr hb
  obtain ⟨n, rfl⟩ : ∃ j, n = j + 1 := ⟨n - 1, by omega⟩
  obtain ⟨m1, b1, t1, c1, hm1, ha1, hr1, hz1⟩ := seq_inv hr
  obtain ⟨s2, J2, q2, p2, x2⟩ := (s239 (ts := ts) (m := m1) false (fun k hk => H k (by omega))) n (by omega) P s rest base k cs J b1 t1 c1 h ha1 (by omega)
  have e2 : aCall Tryz.prog (den C n) 239 [.ref P 0, .bool false] s = some (.tup [], s2) := q2
  obtain ⟨m3, hm3, ho3⟩ := ite_inv hr1
  rcases ho3 with ⟨hc3, hr3⟩ | ⟨hc3, hr3⟩
  · obtain ⟨m4, b4, t4, c4, hm4, ha4, hr4, hz4⟩ := seq_inv hr3
    obtain ⟨s4, J4, q4, p4, x4⟩ := acc_yes [wLPar] (by decide : 1 < 50) (n := n) (by omega) p2 hc3 ha4 (by omega)
    have e4 : aCall Tryz.prog (den C n) 112 [.ref P 0, .sl 9 1 [.str [40]] .sh] s2 = some (.bool true, s4) := q4
    obtain ⟨s5, J5, q5, p5, x5⟩ := (list_simD (ts := ts) (m := m4) wRPar (v := fun P => .fn 334 [.ref P 0] []) (fun _ => rfl) (fun k hk => (H k (by omega)).pa)) n (by omega) P s4 t4 base k c4 J4 b rest' cs' p4 hr4 (by omega)
    have e5 : aCall Tryz.prog (den C n) 228 [.ref P 0, .str [41], .fn 334 [.ref P 0] []] s4 = some (.tup [], s5) := q5
    refine ⟨s5, J5, ?_, p5, ((x2.trans x4).trans x5)⟩
    show aCall Tryz.prog (den C (n + 1)) 353 [.box [.ref P 0] 0] s = _
    rw [callR en353 (box1 ..), F353_eq, F353]
    simp -implicitDefEqProofs only [sL, bs1, bs2, bs3, strip_own, aBox_ref, aBox_str, aBox_bool, aBox_int, e2, e4, e5]
  · obtain ⟨s6, q6, p6, x6⟩ := acc_no [wLPar] (by decide : 1 < 50) (n := n) (by omega) p2 hc3
    have e6 : aCall Tryz.prog (den C n) 112 [.ref P 0, .sl 9 1 [.str [40]] .sh] s2 = some (.bool false, s6) := q6
    obtain ⟨hb7, rfl, rfl⟩ := ret_inv hr3
    refine ⟨s6, J2, ?_, p6, (x2.trans x6)⟩
    show aCall Tryz.prog (den C (n + 1)) 353 [.box [.ref P 0] 0] s = _
    rw [callR en353 (box1 ..), F353_eq, F353]
    simp -implicitDefEqProofs only [sL, bs1, bs2, bs3, strip_own, aBox_ref, aBox_str, aBox_bool, aBox_int, e2, e6]
theorem s334 {ts : List Tok} {m : Nat} (H : ∀ k < m, AllS ts k) : Sim ts m (gPattern) vd (fnF 334 fun P => [.ref P 0]) := by
  intro n hn P s rest base k cs J b rest' cs' h hr hb
  obtain ⟨n, rfl⟩ : ∃ j, n = j + 1 := ⟨n - 1, by omega⟩
  obtain ⟨sp, s1, L, qp, qs, p1, x1, hL1, hlt1, hnj, hLs⟩ := peek_cell (n := n) (by omega) h
  subst hLs
  obtain ⟨s2, q2, p2, x2⟩ := (at_rd (ts := ts) [wMut] (by decide : 1 < 50)).use (n := n) (by omega) p1
  have hL2 := (x2.fr sp.length hlt1 hnj).trans hL1
  have hlt2 := Nat.lt_of_lt_of_le hlt1 x2.len
  obtain ⟨m2, hm2, ho2⟩ := ite_inv hr
  rcases ho2 with ⟨hc2, hr2⟩ | ⟨hc2, hr2⟩
  · have e2 : aCall Tryz.prog (den C n) 106 [.ref P 0, .sl 9 1 [.str [109, 117, 116]] .sh] s1 = some (.bool true, s2) := by rw [← hc2]; exact q2
    obtain ⟨s3, J3, q3, p3, x3⟩ := (node_simD (ts := ts) (m := m2) (k := 44) (v := fun P => .fn 352 [] [.box [.ref P 0] 0]) (fun _ => rfl) (fun k hk => s352 (fun k hk => H k (by omega)))) n (by omega) P s2 rest base k cs J b rest' cs' p2 hr2 (by omega)
    have e3 : aCall Tryz.prog (den C n) 110 [.ref P 0, .int .i64 44, .fn 352 [] [.box [.ref P 0] 0]] s2 = some (.tup [], s3) := q3
    refine ⟨s3, J3, ?_, p3, ((x1.trans x2).trans x3)⟩
    show aCall Tryz.prog (den C (n + 1)) 334 [.ref P 0] s = _
    rw [callR en334 (ref1 ..), F334_eq, F334]
    simp -implicitDefEqProofs only [sL, bs1, bs2, bs3, strip_own, aBox_ref, aBox_str, aBox_bool, aBox_int, str_eql, qp, zero80, qs, e2, e3]
  · have e2 : aCall Tryz.prog (den C n) 106 [.ref P 0, .sl 9 1 [.str [109, 117, 116]] .sh] s1 = some (.bool false, s2) := by rw [← hc2]; exact q2
    obtain ⟨s4, q4, p4, x4⟩ := (ident_rd ts).use (n := n) (by omega) p2
    have hL4 := (x4.fr sp.length hlt2 hnj).trans hL2
    have hlt4 := Nat.lt_of_lt_of_le hlt2 x4.len
    have l4 : aLoad false false 1 (.ref sp.length 1) s4 = some (.str (pk rest).2, s4) := ld (o := 1) hL4 (by decide) rfl (by decide)
    obtain ⟨m4, hm4, ho4⟩ := ite_inv hr2
    cases hi4 : ev rId rest with
    | false =>
      have e4 : aCall Tryz.prog (den C n) 230 [.ref P 0] s2 = some (.bool false, s4) := by rw [← hi4]; exact q4
      have hj4 : ((pk rest).1 == 103) = false := hi4
      rcases ho4 with ⟨hc4, hr4⟩ | ⟨hc4, hr4⟩
      · have hd4 : ((pk rest).1 == 103 && (pk rest).2 == wUnder) = true := hc4
        rw [hj4, Bool.false_and] at hd4; cases hd4
      · skip
        obtain ⟨s5, q5, p5, x5⟩ := (ident_rd ts).use (n := n) (by omega) p4
        have hL5 := (x5.fr sp.length hlt4 hnj).trans hL4
        have hlt5 := Nat.lt_of_lt_of_le hlt4 x5.len
        obtain ⟨m5, hm5, ho5⟩ := ite_inv hr4
        cases hi5 : ((pk rest).1 == 103) with
        | false =>
          have e5 : aCall Tryz.prog (den C n) 230 [.ref P 0] s4 = some (.bool false, s5) := by rw [← hi5]; exact q5
          rcases ho5 with ⟨hc5, hr5⟩ | ⟨hc5, hr5⟩
          · have hd5 : (((pk rest).1 == 103) && !atT [wLPar, wColCol] (pk (la rest))) = true := hc5
            rw [hi5, Bool.false_and] at hd5; cases hd5
          · skip
            obtain ⟨s7, q7, p7, x7⟩ := (ident_rd ts).use (n := n) (by omega) p5
            have hL7 := (x7.fr sp.length hlt5 hnj).trans hL5
            have hlt7 := Nat.lt_of_lt_of_le hlt5 x7.len
            obtain ⟨m7, hm7, ho7⟩ := ite_inv hr5
            rcases ho7 with ⟨hc7, hr7⟩ | ⟨hc7, hr7⟩
            · have e7 : aCall Tryz.prog (den C n) 230 [.ref P 0] s5 = some (.bool true, s7) := by rw [← hc7]; exact q7
              obtain ⟨s8, J8, q8, p8, x8⟩ := (node_simD (ts := ts) (m := m7) (k := 45) (v := fun P => .fn 353 [] [.box [.ref P 0] 0]) (fun _ => rfl) (fun k hk => s353 (fun k hk => H k (by omega)))) n (by omega) P s7 rest base k cs J b rest' cs' p7 hr7 (by omega)
              have e8 : aCall Tryz.prog (den C n) 110 [.ref P 0, .int .i64 45, .fn 353 [] [.box [.ref P 0] 0]] s7 = some (.tup [], s8) := q8
              refine ⟨s8, J8, ?_, p8, (((((x1.trans x2).trans x4).trans x5).trans x7).trans x8)⟩
              show aCall Tryz.prog (den C (n + 1)) 334 [.ref P 0] s = _
              rw [callR en334 (ref1 ..), F334_eq, F334]
              simp -implicitDefEqProofs only [sL, bs1, bs2, bs3, strip_own, aBox_ref, aBox_str, aBox_bool, aBox_int, str_eql, qp, zero80, qs, e2, e4, e5, e7, e8]
            · have e7 : aCall Tryz.prog (den C n) 230 [.ref P 0] s5 = some (.bool false, s7) := by rw [← hc7]; exact q7
              have l9 : aLoad false false 1 (.ref sp.length 0) s7 = some (I (pk rest).1, s7) := ld (o := 0) hL7 (by decide) rfl (by decide)
              obtain ⟨m9, hm9, ho9⟩ := ite_inv hr7
              rcases ho9 with ⟨hc9, hr9⟩ | ⟨hc9, hr9⟩
              · have e9 : (((pk rest).1 : Int) == 105) = true := (kind_eq _ 105).trans hc9
                obtain ⟨s10, J10, q10, p10, x10⟩ := (node_simD (ts := ts) (m := m9) (k := 27) (v := fun P => .fn 113 [.ref P 0] []) (fun _ => rfl) (fun k hk => bump_sim ts k)) n (by omega) P s7 rest base k cs J b rest' cs' p7 hr9 (by omega)
                have e10 : aCall Tryz.prog (den C n) 110 [.ref P 0, .int .i64 27, .fn 113 [.ref P 0] []] s7 = some (.tup [], s10) := q10
                refine ⟨s10, J10, ?_, p10, (((((x1.trans x2).trans x4).trans x5).trans x7).trans x10)⟩
                show aCall Tryz.prog (den C (n + 1)) 334 [.ref P 0] s = _
                rw [callR en334 (ref1 ..), F334_eq, F334]
                simp -implicitDefEqProofs only [sL, bs1, bs2, bs3, strip_own, aBox_ref, aBox_str, aBox_bool, aBox_int, str_eql, qp, zero80, qs, e2, e4, e5, e7, l9, e9, e10]
              · have e9 : (((pk rest).1 : Int) == 105) = false := (kind_eq _ 105).trans hc9
                obtain ⟨s11, q11, p11, x11⟩ := (at_rd (ts := ts) [wTrue, wFalse] (by decide : 2 < 50)).use (n := n) (by omega) p7
                have hL11 := (x11.fr sp.length hlt7 hnj).trans hL7
                have hlt11 := Nat.lt_of_lt_of_le hlt7 x11.len
                obtain ⟨m11, hm11, ho11⟩ := ite_inv hr9
                rcases ho11 with ⟨hc11, hr11⟩ | ⟨hc11, hr11⟩
                · have e11 : aCall Tryz.prog (den C n) 106 [.ref P 0, .sl 9 1 [.str [116, 114, 117, 101], .str [102, 97, 108, 115, 101]] .sh] s7 = some (.bool true, s11) := by rw [← hc11]; exact q11
                  obtain ⟨s12, J12, q12, p12, x12⟩ := (node_simD (ts := ts) (m := m11) (k := 28) (v := fun P => .fn 113 [.ref P 0] []) (fun _ => rfl) (fun k hk => bump_sim ts k)) n (by omega) P s11 rest base k cs J b rest' cs' p11 hr11 (by omega)
                  have e12 : aCall Tryz.prog (den C n) 110 [.ref P 0, .int .i64 28, .fn 113 [.ref P 0] []] s11 = some (.tup [], s12) := q12
                  refine ⟨s12, J12, ?_, p12, ((((((x1.trans x2).trans x4).trans x5).trans x7).trans x11).trans x12)⟩
                  show aCall Tryz.prog (den C (n + 1)) 334 [.ref P 0] s = _
                  rw [callR en334 (ref1 ..), F334_eq, F334]
                  simp -implicitDefEqProofs only [sL, bs1, bs2, bs3, strip_own, aBox_ref, aBox_str, aBox_bool, aBox_int, str_eql, qp, zero80, qs, e2, e4, e5, e7, l9, e9, e11, e12]
                · have e11 : aCall Tryz.prog (den C n) 106 [.ref P 0, .sl 9 1 [.str [116, 114, 117, 101], .str [102, 97, 108, 115, 101]] .sh] s7 = some (.bool false, s11) := by rw [← hc11]; exact q11
                  obtain ⟨s13, J13, q13, p13, x13⟩ := ((put_sim ts m11).1) n (by omega) P s11 rest base k cs J b rest' cs' p11 hr11 (by omega)
                  have e13 : aCall Tryz.prog (den C n) 240 [.ref P 0] s11 = some (.tup [], s13) := q13
                  refine ⟨s13, J13, ?_, p13, ((((((x1.trans x2).trans x4).trans x5).trans x7).trans x11).trans x13)⟩
                  show aCall Tryz.prog (den C (n + 1)) 334 [.ref P 0] s = _
                  rw [callR en334 (ref1 ..), F334_eq, F334]
                  simp -implicitDefEqProofs only [sL, bs1, bs2, bs3, strip_own, aBox_ref, aBox_str, aBox_bool, aBox_int, str_eql, qp, zero80, qs, e2, e4, e5, e7, l9, e9, e11, e13]
        | true =>
          have e5 : aCall Tryz.prog (den C n) 230 [.ref P 0] s4 = some (.bool true, s5) := by rw [← hi5]; exact q5
          obtain ⟨sx6, Px6, s6, ql6, q6, p6, x6⟩ := look_at [wLPar, wColCol] (by decide : 2 < 50) (n := n) (by omega) p5
          have hL6 := (x6.fr sp.length hlt5 hnj).trans hL5
          have hlt6 := Nat.lt_of_lt_of_le hlt5 x6.len
          rcases ho5 with ⟨hc5, hr5⟩ | ⟨hc5, hr5⟩
          · have hd5 : (((pk rest).1 == 103) && !atT [wLPar, wColCol] (pk (la rest))) = true := hc5
            rw [hi5, Bool.true_and] at hd5
            rw [Bool.not_eq_true'] at hd5
            have e6 : aCall Tryz.prog (den C n) 106 [.ref Px6 0, .sl 9 1 [.str [40], .str [58, 58]] .sh] sx6 = some (.bool false, s6) := by rw [← hd5]; exact q6
            obtain ⟨s14, J14, q14, p14, x14⟩ := (node_simD (ts := ts) (m := m5) (k := 44) (v := fun P => .fn 113 [.ref P 0] []) (fun _ => rfl) (fun k hk => bump_sim ts k)) n (by omega) P s6 rest base k cs J b rest' cs' p6 hr5 (by omega)
            have e14 : aCall Tryz.prog (den C n) 110 [.ref P 0, .int .i64 44, .fn 113 [.ref P 0] []] s6 = some (.tup [], s14) := q14
            refine ⟨s14, J14, ?_, p14, (((((x1.trans x2).trans x4).trans x5).trans x6).trans x14)⟩
            show aCall Tryz.prog (den C (n + 1)) 334 [.ref P 0] s = _
            rw [callR en334 (ref1 ..), F334_eq, F334]
            simp -implicitDefEqProofs only [sL, bs1, bs2, bs3, strip_own, aBox_ref, aBox_str, aBox_bool, aBox_int, str_eql, qp, zero80, qs, e2, e4, e5, ql6, e6, e14]
          · have hd5 : (((pk rest).1 == 103) && !atT [wLPar, wColCol] (pk (la rest))) = false := hc5
            rw [hi5, Bool.true_and] at hd5
            rw [Bool.not_eq_false'] at hd5
            have e6 : aCall Tryz.prog (den C n) 106 [.ref Px6 0, .sl 9 1 [.str [40], .str [58, 58]] .sh] sx6 = some (.bool true, s6) := by rw [← hd5]; exact q6
            obtain ⟨s15, q15, p15, x15⟩ := (ident_rd ts).use (n := n) (by omega) p6
            have hL15 := (x15.fr sp.length hlt6 hnj).trans hL6
            have hlt15 := Nat.lt_of_lt_of_le hlt6 x15.len
            obtain ⟨m15, hm15, ho15⟩ := ite_inv hr5
            rcases ho15 with ⟨hc15, hr15⟩ | ⟨hc15, hr15⟩
            · have e15 : aCall Tryz.prog (den C n) 230 [.ref P 0] s6 = some (.bool true, s15) := by rw [← hc15]; exact q15
              obtain ⟨s16, J16, q16, p16, x16⟩ := (node_simD (ts := ts) (m := m15) (k := 45) (v := fun P => .fn 353 [] [.box [.ref P 0] 0]) (fun _ => rfl) (fun k hk => s353 (fun k hk => H k (by omega)))) n (by omega) P s15 rest base k cs J b rest' cs' p15 hr15 (by omega)
              have e16 : aCall Tryz.prog (den C n) 110 [.ref P 0, .int .i64 45, .fn 353 [] [.box [.ref P 0] 0]] s15 = some (.tup [], s16) := q16
              refine ⟨s16, J16, ?_, p16, ((((((x1.trans x2).trans x4).trans x5).trans x6).trans x15).trans x16)⟩
              show aCall Tryz.prog (den C (n + 1)) 334 [.ref P 0] s = _
              rw [callR en334 (ref1 ..), F334_eq, F334]
              simp -implicitDefEqProofs only [sL, bs1, bs2, bs3, strip_own, aBox_ref, aBox_str, aBox_bool, aBox_int, str_eql, qp, zero80, qs, e2, e4, e5, ql6, e6, e15, e16]
            · have e15 : aCall Tryz.prog (den C n) 230 [.ref P 0] s6 = some (.bool false, s15) := by rw [← hc15]; exact q15
              have l17 : aLoad false false 1 (.ref sp.length 0) s15 = some (I (pk rest).1, s15) := ld (o := 0) hL15 (by decide) rfl (by decide)
              obtain ⟨m17, hm17, ho17⟩ := ite_inv hr15
              rcases ho17 with ⟨hc17, hr17⟩ | ⟨hc17, hr17⟩
              · have e17 : (((pk rest).1 : Int) == 105) = true := (kind_eq _ 105).trans hc17
                obtain ⟨s18, J18, q18, p18, x18⟩ := (node_simD (ts := ts) (m := m17) (k := 27) (v := fun P => .fn 113 [.ref P 0] []) (fun _ => rfl) (fun k hk => bump_sim ts k)) n (by omega) P s15 rest base k cs J b rest' cs' p15 hr17 (by omega)
                have e18 : aCall Tryz.prog (den C n) 110 [.ref P 0, .int .i64 27, .fn 113 [.ref P 0] []] s15 = some (.tup [], s18) := q18
                refine ⟨s18, J18, ?_, p18, ((((((x1.trans x2).trans x4).trans x5).trans x6).trans x15).trans x18)⟩
                show aCall Tryz.prog (den C (n + 1)) 334 [.ref P 0] s = _
                rw [callR en334 (ref1 ..), F334_eq, F334]
                simp -implicitDefEqProofs only [sL, bs1, bs2, bs3, strip_own, aBox_ref, aBox_str, aBox_bool, aBox_int, str_eql, qp, zero80, qs, e2, e4, e5, ql6, e6, e15, l17, e17, e18]
              · have e17 : (((pk rest).1 : Int) == 105) = false := (kind_eq _ 105).trans hc17
                obtain ⟨s19, q19, p19, x19⟩ := (at_rd (ts := ts) [wTrue, wFalse] (by decide : 2 < 50)).use (n := n) (by omega) p15
                have hL19 := (x19.fr sp.length hlt15 hnj).trans hL15
                have hlt19 := Nat.lt_of_lt_of_le hlt15 x19.len
                obtain ⟨m19, hm19, ho19⟩ := ite_inv hr17
                rcases ho19 with ⟨hc19, hr19⟩ | ⟨hc19, hr19⟩
                · have e19 : aCall Tryz.prog (den C n) 106 [.ref P 0, .sl 9 1 [.str [116, 114, 117, 101], .str [102, 97, 108, 115, 101]] .sh] s15 = some (.bool true, s19) := by rw [← hc19]; exact q19
                  obtain ⟨s20, J20, q20, p20, x20⟩ := (node_simD (ts := ts) (m := m19) (k := 28) (v := fun P => .fn 113 [.ref P 0] []) (fun _ => rfl) (fun k hk => bump_sim ts k)) n (by omega) P s19 rest base k cs J b rest' cs' p19 hr19 (by omega)
                  have e20 : aCall Tryz.prog (den C n) 110 [.ref P 0, .int .i64 28, .fn 113 [.ref P 0] []] s19 = some (.tup [], s20) := q20
                  refine ⟨s20, J20, ?_, p20, (((((((x1.trans x2).trans x4).trans x5).trans x6).trans x15).trans x19).trans x20)⟩
                  show aCall Tryz.prog (den C (n + 1)) 334 [.ref P 0] s = _
                  rw [callR en334 (ref1 ..), F334_eq, F334]
                  simp -implicitDefEqProofs only [sL, bs1, bs2, bs3, strip_own, aBox_ref, aBox_str, aBox_bool, aBox_int, str_eql, qp, zero80, qs, e2, e4, e5, ql6, e6, e15, l17, e17, e19, e20]
                · have e19 : aCall Tryz.prog (den C n) 106 [.ref P 0, .sl 9 1 [.str [116, 114, 117, 101], .str [102, 97, 108, 115, 101]] .sh] s15 = some (.bool false, s19) := by rw [← hc19]; exact q19
                  obtain ⟨s21, J21, q21, p21, x21⟩ := ((put_sim ts m19).1) n (by omega) P s19 rest base k cs J b rest' cs' p19 hr19 (by omega)
                  have e21 : aCall Tryz.prog (den C n) 240 [.ref P 0] s19 = some (.tup [], s21) := q21
                  refine ⟨s21, J21, ?_, p21, (((((((x1.trans x2).trans x4).trans x5).trans x6).trans x15).trans x19).trans x21)⟩
                  show aCall Tryz.prog (den C (n + 1)) 334 [.ref P 0] s = _
                  rw [callR en334 (ref1 ..), F334_eq, F334]
                  simp -implicitDefEqProofs only [sL, bs1, bs2, bs3, strip_own, aBox_ref, aBox_str, aBox_bool, aBox_int, str_eql, qp, zero80, qs, e2, e4, e5, ql6, e6, e15, l17, e17, e19, e21]
    | true =>
      have e4 : aCall Tryz.prog (den C n) 230 [.ref P 0] s2 = some (.bool true, s4) := by rw [← hi4]; exact q4
      have hj4 : ((pk rest).1 == 103) = true := hi4
      rcases ho4 with ⟨hc4, hr4⟩ | ⟨hc4, hr4⟩
      · have hd4 : ((pk rest).1 == 103 && (pk rest).2 == wUnder) = true := hc4
        rw [hj4, Bool.true_and] at hd4
        have hw4 : ((pk rest).2 == [95]) = true := hd4
        obtain ⟨s22, J22, q22, p22, x22⟩ := (node_simD (ts := ts) (m := m4) (k := 43) (v := fun P => .fn 113 [.ref P 0] []) (fun _ => rfl) (fun k hk => bump_sim ts k)) n (by omega) P s4 rest base k cs J b rest' cs' p4 hr4 (by omega)
        have e22 : aCall Tryz.prog (den C n) 110 [.ref P 0, .int .i64 43, .fn 113 [.ref P 0] []] s4 = some (.tup [], s22) := q22
        refine ⟨s22, J22, ?_, p22, (((x1.trans x2).trans x4).trans x22)⟩
        show aCall Tryz.prog (den C (n + 1)) 334 [.ref P 0] s = _
        rw [callR en334 (ref1 ..), F334_eq, F334]
        simp -implicitDefEqProofs only [sL, bs1, bs2, bs3, strip_own, aBox_ref, aBox_str, aBox_bool, aBox_int, str_eql, qp, zero80, qs, e2, e4, l4, hw4, e22]
      · have hd4 : ((pk rest).1 == 103 && (pk rest).2 == wUnder) = false := hc4
        rw [hj4, Bool.true_and] at hd4
        have hw4 : ((pk rest).2 == [95]) = false := hd4
        obtain ⟨s23, q23, p23, x23⟩ := (ident_rd ts).use (n := n) (by omega) p4
        have hL23 := (x23.fr sp.length hlt4 hnj).trans hL4
        have hlt23 := Nat.lt_of_lt_of_le hlt4 x23.len
        obtain ⟨m23, hm23, ho23⟩ := ite_inv hr4
        cases hi23 : ((pk rest).1 == 103) with
        | false =>
          have e23 : aCall Tryz.prog (den C n) 230 [.ref P 0] s4 = some (.bool false, s23) := by rw [← hi23]; exact q23
          rcases ho23 with ⟨hc23, hr23⟩ | ⟨hc23, hr23⟩
          · have hd23 : (((pk rest).1 == 103) && !atT [wLPar, wColCol] (pk (la rest))) = true := hc23
            rw [hi23, Bool.false_and] at hd23; cases hd23
          · skip
            obtain ⟨s25, q25, p25, x25⟩ := (ident_rd ts).use (n := n) (by omega) p23
            have hL25 := (x25.fr sp.length hlt23 hnj).trans hL23
            have hlt25 := Nat.lt_of_lt_of_le hlt23 x25.len
            obtain ⟨m25, hm25, ho25⟩ := ite_inv hr23
            rcases ho25 with ⟨hc25, hr25⟩ | ⟨hc25, hr25⟩
            · have e25 : aCall Tryz.prog (den C n) 230 [.ref P 0] s23 = some (.bool true, s25) := by rw [← hc25]; exact q25
              obtain ⟨s26, J26, q26, p26, x26⟩ := (node_simD (ts := ts) (m := m25) (k := 45) (v := fun P => .fn 353 [] [.box [.ref P 0] 0]) (fun _ => rfl) (fun k hk => s353 (fun k hk => H k (by omega)))) n (by omega) P s25 rest base k cs J b rest' cs' p25 hr25 (by omega)
              have e26 : aCall Tryz.prog (den C n) 110 [.ref P 0, .int .i64 45, .fn 353 [] [.box [.ref P 0] 0]] s25 = some (.tup [], s26) := q26
              refine ⟨s26, J26, ?_, p26, (((((x1.trans x2).trans x4).trans x23).trans x25).trans x26)⟩
              show aCall Tryz.prog (den C (n + 1)) 334 [.ref P 0] s = _
              rw [callR en334 (ref1 ..), F334_eq, F334]
              simp -implicitDefEqProofs only [sL, bs1, bs2, bs3, strip_own, aBox_ref, aBox_str, aBox_bool, aBox_int, str_eql, qp, zero80, qs, e2, e4, l4, hw4, e23, e25, e26]
            · have e25 : aCall Tryz.prog (den C n) 230 [.ref P 0] s23 = some (.bool false, s25) := by rw [← hc25]; exact q25
              have l27 : aLoad false false 1 (.ref sp.length 0) s25 = some (I (pk rest).1, s25) := ld (o := 0) hL25 (by decide) rfl (by decide)
              obtain ⟨m27, hm27, ho27⟩ := ite_inv hr25
              rcases ho27 with ⟨hc27, hr27⟩ | ⟨hc27, hr27⟩
              · have e27 : (((pk rest).1 : Int) == 105) = true := (kind_eq _ 105).trans hc27
                obtain ⟨s28, J28, q28, p28, x28⟩ := (node_simD (ts := ts) (m := m27) (k := 27) (v := fun P => .fn 113 [.ref P 0] []) (fun _ => rfl) (fun k hk => bump_sim ts k)) n (by omega) P s25 rest base k cs J b rest' cs' p25 hr27 (by omega)
                have e28 : aCall Tryz.prog (den C n) 110 [.ref P 0, .int .i64 27, .fn 113 [.ref P 0] []] s25 = some (.tup [], s28) := q28
                refine ⟨s28, J28, ?_, p28, (((((x1.trans x2).trans x4).trans x23).trans x25).trans x28)⟩
                show aCall Tryz.prog (den C (n + 1)) 334 [.ref P 0] s = _
                rw [callR en334 (ref1 ..), F334_eq, F334]
                simp -implicitDefEqProofs only [sL, bs1, bs2, bs3, strip_own, aBox_ref, aBox_str, aBox_bool, aBox_int, str_eql, qp, zero80, qs, e2, e4, l4, hw4, e23, e25, l27, e27, e28]
              · have e27 : (((pk rest).1 : Int) == 105) = false := (kind_eq _ 105).trans hc27
                obtain ⟨s29, q29, p29, x29⟩ := (at_rd (ts := ts) [wTrue, wFalse] (by decide : 2 < 50)).use (n := n) (by omega) p25
                have hL29 := (x29.fr sp.length hlt25 hnj).trans hL25
                have hlt29 := Nat.lt_of_lt_of_le hlt25 x29.len
                obtain ⟨m29, hm29, ho29⟩ := ite_inv hr27
                rcases ho29 with ⟨hc29, hr29⟩ | ⟨hc29, hr29⟩
                · have e29 : aCall Tryz.prog (den C n) 106 [.ref P 0, .sl 9 1 [.str [116, 114, 117, 101], .str [102, 97, 108, 115, 101]] .sh] s25 = some (.bool true, s29) := by rw [← hc29]; exact q29
                  obtain ⟨s30, J30, q30, p30, x30⟩ := (node_simD (ts := ts) (m := m29) (k := 28) (v := fun P => .fn 113 [.ref P 0] []) (fun _ => rfl) (fun k hk => bump_sim ts k)) n (by omega) P s29 rest base k cs J b rest' cs' p29 hr29 (by omega)
                  have e30 : aCall Tryz.prog (den C n) 110 [.ref P 0, .int .i64 28, .fn 113 [.ref P 0] []] s29 = some (.tup [], s30) := q30
                  refine ⟨s30, J30, ?_, p30, ((((((x1.trans x2).trans x4).trans x23).trans x25).trans x29).trans x30)⟩
                  show aCall Tryz.prog (den C (n + 1)) 334 [.ref P 0] s = _
                  rw [callR en334 (ref1 ..), F334_eq, F334]
                  simp -implicitDefEqProofs only [sL, bs1, bs2, bs3, strip_own, aBox_ref, aBox_str, aBox_bool, aBox_int, str_eql, qp, zero80, qs, e2, e4, l4, hw4, e23, e25, l27, e27, e29, e30]
                · have e29 : aCall Tryz.prog (den C n) 106 [.ref P 0, .sl 9 1 [.str [116, 114, 117, 101], .str [102, 97, 108, 115, 101]] .sh] s25 = some (.bool false, s29) := by rw [← hc29]; exact q29
                  obtain ⟨s31, J31, q31, p31, x31⟩ := ((put_sim ts m29).1) n (by omega) P s29 rest base k cs J b rest' cs' p29 hr29 (by omega)
                  have e31 : aCall Tryz.prog (den C n) 240 [.ref P 0] s29 = some (.tup [], s31) := q31
                  refine ⟨s31, J31, ?_, p31, ((((((x1.trans x2).trans x4).trans x23).trans x25).trans x29).trans x31)⟩
                  show aCall Tryz.prog (den C (n + 1)) 334 [.ref P 0] s = _
                  rw [callR en334 (ref1 ..), F334_eq, F334]
                  simp -implicitDefEqProofs only [sL, bs1, bs2, bs3, strip_own, aBox_ref, aBox_str, aBox_bool, aBox_int, str_eql, qp, zero80, qs, e2, e4, l4, hw4, e23, e25, l27, e27, e29, e31]
        | true =>
          have e23 : aCall Tryz.prog (den C n) 230 [.ref P 0] s4 = some (.bool true, s23) := by rw [← hi23]; exact q23
          obtain ⟨sx24, Px24, s24, ql24, q24, p24, x24⟩ := look_at [wLPar, wColCol] (by decide : 2 < 50) (n := n) (by omega) p23
          have hL24 := (x24.fr sp.length hlt23 hnj).trans hL23
          have hlt24 := Nat.lt_of_lt_of_le hlt23 x24.len
          rcases ho23 with ⟨hc23, hr23⟩ | ⟨hc23, hr23⟩
          · have hd23 : (((pk rest).1 == 103) && !atT [wLPar, wColCol] (pk (la rest))) = true := hc23
            rw [hi23, Bool.true_and] at hd23
            rw [Bool.not_eq_true'] at hd23
            have e24 : aCall Tryz.prog (den C n) 106 [.ref Px24 0, .sl 9 1 [.str [40], .str [58, 58]] .sh] sx24 = some (.bool false, s24) := by rw [← hd23]; exact q24
            obtain ⟨s32, J32, q32, p32, x32⟩ := (node_simD (ts := ts) (m := m23) (k := 44) (v := fun P => .fn 113 [.ref P 0] []) (fun _ => rfl) (fun k hk => bump_sim ts k)) n (by omega) P s24 rest base k cs J b rest' cs' p24 hr23 (by omega)
            have e32 : aCall Tryz.prog (den C n) 110 [.ref P 0, .int .i64 44, .fn 113 [.ref P 0] []] s24 = some (.tup [], s32) := q32
            refine ⟨s32, J32, ?_, p32, (((((x1.trans x2).trans x4).trans x23).trans x24).trans x32)⟩
            show aCall Tryz.prog (den C (n + 1)) 334 [.ref P 0] s = _
            rw [callR en334 (ref1 ..), F334_eq, F334]
            simp -implicitDefEqProofs only [sL, bs1, bs2, bs3, strip_own, aBox_ref, aBox_str, aBox_bool, aBox_int, str_eql, qp, zero80, qs, e2, e4, l4, hw4, e23, ql24, e24, e32]
          · have hd23 : (((pk rest).1 == 103) && !atT [wLPar, wColCol] (pk (la rest))) = false := hc23
            rw [hi23, Bool.true_and] at hd23
            rw [Bool.not_eq_false'] at hd23
            have e24 : aCall Tryz.prog (den C n) 106 [.ref Px24 0, .sl 9 1 [.str [40], .str [58, 58]] .sh] sx24 = some (.bool true, s24) := by rw [← hd23]; exact q24
            obtain ⟨s33, q33, p33, x33⟩ := (ident_rd ts).use (n := n) (by omega) p24
            have hL33 := (x33.fr sp.length hlt24 hnj).trans hL24
            have hlt33 := Nat.lt_of_lt_of_le hlt24 x33.len
            obtain ⟨m33, hm33, ho33⟩ := ite_inv hr23
            rcases ho33 with ⟨hc33, hr33⟩ | ⟨hc33, hr33⟩
            · have e33 : aCall Tryz.prog (den C n) 230 [.ref P 0] s24 = some (.bool true, s33) := by rw [← hc33]; exact q33
              obtain ⟨s34, J34, q34, p34, x34⟩ := (node_simD (ts := ts) (m := m33) (k := 45) (v := fun P => .fn 353 [] [.box [.ref P 0] 0]) (fun _ => rfl) (fun k hk => s353 (fun k hk => H k (by omega)))) n (by omega) P s33 rest base k cs J b rest' cs' p33 hr33 (by omega)
              have e34 : aCall Tryz.prog (den C n) 110 [.ref P 0, .int .i64 45, .fn 353 [] [.box [.ref P 0] 0]] s33 = some (.tup [], s34) := q34
              refine ⟨s34, J34, ?_, p34, ((((((x1.trans x2).trans x4).trans x23).trans x24).trans x33).trans x34)⟩
              show aCall Tryz.prog (den C (n + 1)) 334 [.ref P 0] s = _
              rw [callR en334 (ref1 ..), F334_eq, F334]
              simp -implicitDefEqProofs only [sL, bs1, bs2, bs3, strip_own, aBox_ref, aBox_str, aBox_bool, aBox_int, str_eql, qp, zero80, qs, e2, e4, l4, hw4, e23, ql24, e24, e33, e34]
            · have e33 : aCall Tryz.prog (den C n) 230 [.ref P 0] s24 = some (.bool false, s33) := by rw [← hc33]; exact q33
              have l35 : aLoad false false 1 (.ref sp.length 0) s33 = some (I (pk rest).1, s33) := ld (o := 0) hL33 (by decide) rfl (by decide)
              obtain ⟨m35, hm35, ho35⟩ := ite_inv hr33
              rcases ho35 with ⟨hc35, hr35⟩ | ⟨hc35, hr35⟩
              · have e35 : (((pk rest).1 : Int) == 105) = true := (kind_eq _ 105).trans hc35
                obtain ⟨s36, J36, q36, p36, x36⟩ := (node_simD (ts := ts) (m := m35) (k := 27) (v := fun P => .fn 113 [.ref P 0] []) (fun _ => rfl) (fun k hk => bump_sim ts k)) n (by omega) P s33 rest base k cs J b rest' cs' p33 hr35 (by omega)
                have e36 : aCall Tryz.prog (den C n) 110 [.ref P 0, .int .i64 27, .fn 113 [.ref P 0] []] s33 = some (.tup [], s36) := q36
                refine ⟨s36, J36, ?_, p36, ((((((x1.trans x2).trans x4).trans x23).trans x24).trans x33).trans x36)⟩
                show aCall Tryz.prog (den C (n + 1)) 334 [.ref P 0] s = _
                rw [callR en334 (ref1 ..), F334_eq, F334]
                simp -implicitDefEqProofs only [sL, bs1, bs2, bs3, strip_own, aBox_ref, aBox_str, aBox_bool, aBox_int, str_eql, qp, zero80, qs, e2, e4, l4, hw4, e23, ql24, e24, e33, l35, e35, e36]
              · have e35 : (((pk rest).1 : Int) == 105) = false := (kind_eq _ 105).trans hc35
                obtain ⟨s37, q37, p37, x37⟩ := (at_rd (ts := ts) [wTrue, wFalse] (by decide : 2 < 50)).use (n := n) (by omega) p33
                have hL37 := (x37.fr sp.length hlt33 hnj).trans hL33
                have hlt37 := Nat.lt_of_lt_of_le hlt33 x37.len
                obtain ⟨m37, hm37, ho37⟩ := ite_inv hr35
                rcases ho37 with ⟨hc37, hr37⟩ | ⟨hc37, hr37⟩
                · have e37 : aCall Tryz.prog (den C n) 106 [.ref P 0, .sl 9 1 [.str [116, 114, 117, 101], .str [102, 97, 108, 115, 101]] .sh] s33 = some (.bool true, s37) := by rw [← hc37]; exact q37
                  obtain ⟨s38, J38, q38, p38, x38⟩ := (node_simD (ts := ts) (m := m37) (k := 28) (v := fun P => .fn 113 [.ref P 0] []) (fun _ => rfl) (fun k hk => bump_sim ts k)) n (by omega) P s37 rest base k cs J b rest' cs' p37 hr37 (by omega)
                  have e38 : aCall Tryz.prog (den C n) 110 [.ref P 0, .int .i64 28, .fn 113 [.ref P 0] []] s37 = some (.tup [], s38) := q38
                  refine ⟨s38, J38, ?_, p38, (((((((x1.trans x2).trans x4).trans x23).trans x24).trans x33).trans x37).trans x38)⟩
                  show aCall Tryz.prog (den C (n + 1)) 334 [.ref P 0] s = _
                  rw [callR en334 (ref1 ..), F334_eq, F334]
                  simp -implicitDefEqProofs only [sL, bs1, bs2, bs3, strip_own, aBox_ref, aBox_str, aBox_bool, aBox_int, str_eql, qp, zero80, qs, e2, e4, l4, hw4, e23, ql24, e24, e33, l35, e35, e37, e38]
                · have e37 : aCall Tryz.prog (den C n) 106 [.ref P 0, .sl 9 1 [.str [116, 114, 117, 101], .str [102, 97, 108, 115, 101]] .sh] s33 = some (.bool false, s37) := by rw [← hc37]; exact q37
                  obtain ⟨s39, J39, q39, p39, x39⟩ := ((put_sim ts m37).1) n (by omega) P s37 rest base k cs J b rest' cs' p37 hr37 (by omega)
                  have e39 : aCall Tryz.prog (den C n) 240 [.ref P 0] s37 = some (.tup [], s39) := q39
                  refine ⟨s39, J39, ?_, p39, (((((((x1.trans x2).trans x4).trans x23).trans x24).trans x33).trans x37).trans x39)⟩
                  show aCall Tryz.prog (den C (n + 1)) 334 [.ref P 0] s = _
                  rw [callR en334 (ref1 ..), F334_eq, F334]
                  simp -implicitDefEqProofs only [sL, bs1, bs2, bs3, strip_own, aBox_ref, aBox_str, aBox_bool, aBox_int, str_eql, qp, zero80, qs, e2, e4, l4, hw4, e23, ql24, e24, e33, l35, e35, e37, e39]
theorem s318 {ts : List Tok} {m : Nat} (H : ∀ k < m, AllS ts k) : Sim ts m (gPrimary) vd (fnF 318 fun P => [.ref P 0]) := by
  intro n hn P s rest base k cs J b rest' cs' h hr hb
  obtain ⟨n, rfl⟩ : ∃ j, n = j + 1 := ⟨n - 1, by omega⟩
  obtain ⟨sp, s1, L, qp, qs, p1, x1, hL1, hlt1, hnj, hLs⟩ := peek_cell (n := n) (by omega) h
  subst hLs
  have l2 : aLoad false false 1 (.ref sp.length 0) s1 = some (I (pk rest).1, s1) := ld (o := 0) hL1 (by decide) rfl (by decide)
  obtain ⟨m2, hm2, ho2⟩ := ite_inv hr
  rcases ho2 with ⟨hc2, hr2⟩ | ⟨hc2, hr2⟩
  · have e2 : (((pk rest).1 : Int) == 105) = true := (kind_eq _ 105).trans hc2
    obtain ⟨s3, J3, q3, p3, x3⟩ := (node_simD (ts := ts) (m := m2) (k := 27) (v := fun P => .fn 113 [.ref P 0] []) (fun _ => rfl) (fun k hk => bump_sim ts k)) n (by omega) P s1 rest base k cs J b rest' cs' p1 hr2 (by omega)
    have e3 : aCall Tryz.prog (den C n) 110 [.ref P 0, .int .i64 27, .fn 113 [.ref P 0] []] s1 = some (.tup [], s3) := q3
    refine ⟨s3, J3, ?_, p3, (x1.trans x3)⟩
    show aCall Tryz.prog (den C (n + 1)) 318 [.ref P 0] s = _
    rw [callR en318 (ref1 ..), F318_eq, F318]
    simp -implicitDefEqProofs only [sL, bs1, bs2, bs3, strip_own, aBox_ref, aBox_str, aBox_bool, aBox_int, qp, zero80, qs, l2, e2, e3]
  · have e2 : (((pk rest).1 : Int) == 105) = false := (kind_eq _ 105).trans hc2
    have l4 : aLoad false false 1 (.ref sp.length 0) s1 = some (I (pk rest).1, s1) := ld (o := 0) hL1 (by decide) rfl (by decide)
    obtain ⟨m4, hm4, ho4⟩ := ite_inv hr2
    rcases ho4 with ⟨hc4, hr4⟩ | ⟨hc4, hr4⟩
    · have e4 : (((pk rest).1 : Int) == 106) = true := (kind_eq _ 106).trans hc4
      obtain ⟨s5, J5, q5, p5, x5⟩ := (node_simD (ts := ts) (m := m4) (k := 29) (v := fun P => .fn 113 [.ref P 0] []) (fun _ => rfl) (fun k hk => bump_sim ts k)) n (by omega) P s1 rest base k cs J b rest' cs' p1 hr4 (by omega)
      have e5 : aCall Tryz.prog (den C n) 110 [.ref P 0, .int .i64 29, .fn 113 [.ref P 0] []] s1 = some (.tup [], s5) := q5
      refine ⟨s5, J5, ?_, p5, (x1.trans x5)⟩
      show aCall Tryz.prog (den C (n + 1)) 318 [.ref P 0] s = _
      rw [callR en318 (ref1 ..), F318_eq, F318]
      simp -implicitDefEqProofs only [sL, bs1, bs2, bs3, strip_own, aBox_ref, aBox_str, aBox_bool, aBox_int, qp, zero80, qs, l2, e2, l4, e4, e5]
    · have e4 : (((pk rest).1 : Int) == 106) = false := (kind_eq _ 106).trans hc4
      obtain ⟨s6, q6, p6, x6⟩ := (at_rd (ts := ts) [wTrue, wFalse] (by decide : 2 < 50)).use (n := n) (by omega) p1
      have hL6 := (x6.fr sp.length hlt1 hnj).trans hL1
      have hlt6 := Nat.lt_of_lt_of_le hlt1 x6.len
      obtain ⟨m6, hm6, ho6⟩ := ite_inv hr4
      rcases ho6 with ⟨hc6, hr6⟩ | ⟨hc6, hr6⟩
      · have e6 : aCall Tryz.prog (den C n) 106 [.ref P 0, .sl 9 1 [.str [116, 114, 117, 101], .str [102, 97, 108, 115, 101]] .sh] s1 = some (.bool true, s6) := by rw [← hc6]; exact q6
        obtain ⟨s7, J7, q7, p7, x7⟩ := (node_simD (ts := ts) (m := m6) (k := 28) (v := fun P => .fn 113 [.ref P 0] []) (fun _ => rfl) (fun k hk => bump_sim ts k)) n (by omega) P s6 rest base k cs J b rest' cs' p6 hr6 (by omega)
        have e7 : aCall Tryz.prog (den C n) 110 [.ref P 0, .int .i64 28, .fn 113 [.ref P 0] []] s6 = some (.tup [], s7) := q7
        refine ⟨s7, J7, ?_, p7, ((x1.trans x6).trans x7)⟩
        show aCall Tryz.prog (den C (n + 1)) 318 [.ref P 0] s = _
        rw [callR en318 (ref1 ..), F318_eq, F318]
        simp -implicitDefEqProofs only [sL, bs1, bs2, bs3, strip_own, aBox_ref, aBox_str, aBox_bool, aBox_int, qp, zero80, qs, l2, e2, l4, e4, e6, e7]
      · have e6 : aCall Tryz.prog (den C n) 106 [.ref P 0, .sl 9 1 [.str [116, 114, 117, 101], .str [102, 97, 108, 115, 101]] .sh] s1 = some (.bool false, s6) := by rw [← hc6]; exact q6
        have l8 : aLoad false false 1 (.ref sp.length 0) s6 = some (I (pk rest).1, s6) := ld (o := 0) hL6 (by decide) rfl (by decide)
        obtain ⟨m8, hm8, ho8⟩ := ite_inv hr6
        rcases ho8 with ⟨hc8, hr8⟩ | ⟨hc8, hr8⟩
        · have e8 : (((pk rest).1 : Int) == 103) = true := (kind_eq _ 103).trans hc8
          obtain ⟨m9, b9, t9, c9, hm9, ha9, hr9, hz9⟩ := seq_inv hr8
          obtain ⟨s10, J10, q10, p10, x10⟩ := (s239 (ts := ts) (m := m9) false (fun k hk => H k (by omega))) n (by omega) P s6 rest base k cs J b9 t9 c9 p6 ha9 (by omega)
          have e10 : aCall Tryz.prog (den C n) 239 [.ref P 0, .bool false] s6 = some (.tup [], s10) := q10
          obtain ⟨s11, q11, p11, x11⟩ := (at_rd (ts := ts) [wBang] (by decide : 1 < 50)).use (n := n) (by omega) p10
          obtain ⟨m11, hm11, ho11⟩ := ite_inv hr9
          cases hi11 : atT [wBang] (pk t9) with
          | false =>
            have e11 : aCall Tryz.prog (den C n) 106 [.ref P 0, .sl 9 1 [.str [33]] .sh] s10 = some (.bool false, s11) := by rw [← hi11]; exact q11
            rcases ho11 with ⟨hc11, hr11⟩ | ⟨hc11, hr11⟩
            · have hd11 : (atT [wBang] (pk t9) && atT [wLPar] (pk (la t9))) = true := hc11
              rw [hi11, Bool.false_and] at hd11; cases hd11
            · skip
              obtain ⟨hb13, rfl, rfl⟩ := ret_inv hr11
              refine ⟨s11, J10, ?_, p11, (((x1.trans x6).trans x10).trans x11)⟩
              show aCall Tryz.prog (den C (n + 1)) 318 [.ref P 0] s = _
              rw [callR en318 (ref1 ..), F318_eq, F318]
              simp -implicitDefEqProofs only [sL, bs1, bs2, bs3, strip_own, aBox_ref, aBox_str, aBox_bool, aBox_int, qp, zero80, qs, l2, e2, l4, e4, e6, l8, e8, e10, e11]
          | true =>
            have e11 : aCall Tryz.prog (den C n) 106 [.ref P 0, .sl 9 1 [.str [33]] .sh] s10 = some (.bool true, s11) := by rw [← hi11]; exact q11
            obtain ⟨sx12, Px12, s12, ql12, q12, p12, x12⟩ := look_at [wLPar] (by decide : 1 < 50) (n := n) (by omega) p11
            rcases ho11 with ⟨hc11, hr11⟩ | ⟨hc11, hr11⟩
            · have hd11 : (atT [wBang] (pk t9) && atT [wLPar] (pk (la t9))) = true := hc11
              rw [hi11, Bool.true_and] at hd11
              have e12 : aCall Tryz.prog (den C n) 106 [.ref Px12 0, .sl 9 1 [.str [40]] .sh] sx12 = some (.bool true, s12) := by rw [← hd11]; exact q12
              obtain ⟨s14, J14, q14, p14, x14⟩ := (wrap_simD (ts := ts) (m := m11) (k := 42) (v := fun P => .fn 335 [] [.box [.ref P 0] 0]) (fun _ => rfl) (fun k hk => s335 (fun k hk => H k (by omega)))) n (by omega) P s12 t9 base k c9 J10 b rest' cs' p12 hr11 (by omega)
              have e14 : aCall Tryz.prog (den C n) 287 [.ref P 0, .int .i64 42, .fn 335 [] [.box [.ref P 0] 0]] s12 = some (.tup [], s14) := q14
              refine ⟨s14, J14, ?_, p14, (((((x1.trans x6).trans x10).trans x11).trans x12).trans x14)⟩
              show aCall Tryz.prog (den C (n + 1)) 318 [.ref P 0] s = _
              rw [callR en318 (ref1 ..), F318_eq, F318]
              simp -implicitDefEqProofs only [sL, bs1, bs2, bs3, strip_own, aBox_ref, aBox_str, aBox_bool, aBox_int, qp, zero80, qs, l2, e2, l4, e4, e6, l8, e8, e10, e11, ql12, e12, e14]
            · have hd11 : (atT [wBang] (pk t9) && atT [wLPar] (pk (la t9))) = false := hc11
              rw [hi11, Bool.true_and] at hd11
              have e12 : aCall Tryz.prog (den C n) 106 [.ref Px12 0, .sl 9 1 [.str [40]] .sh] sx12 = some (.bool false, s12) := by rw [← hd11]; exact q12
              obtain ⟨hb15, rfl, rfl⟩ := ret_inv hr11
              refine ⟨s12, J10, ?_, p12, ((((x1.trans x6).trans x10).trans x11).trans x12)⟩
              show aCall Tryz.prog (den C (n + 1)) 318 [.ref P 0] s = _
              rw [callR en318 (ref1 ..), F318_eq, F318]
              simp -implicitDefEqProofs only [sL, bs1, bs2, bs3, strip_own, aBox_ref, aBox_str, aBox_bool, aBox_int, qp, zero80, qs, l2, e2, l4, e4, e6, l8, e8, e10, e11, ql12, e12]
        · have e8 : (((pk rest).1 : Int) == 103) = false := (kind_eq _ 103).trans hc8
          obtain ⟨s16, q16, p16, x16⟩ := (at_rd (ts := ts) [wLPar] (by decide : 1 < 50)).use (n := n) (by omega) p6
          have hL16 := (x16.fr sp.length hlt6 hnj).trans hL6
          have hlt16 := Nat.lt_of_lt_of_le hlt6 x16.len
          obtain ⟨m16, hm16, ho16⟩ := ite_inv hr8
          rcases ho16 with ⟨hc16, hr16⟩ | ⟨hc16, hr16⟩
          · have e16 : aCall Tryz.prog (den C n) 106 [.ref P 0, .sl 9 1 [.str [40]] .sh] s6 = some (.bool true, s16) := by rw [← hc16]; exact q16
            obtain ⟨s17, J17, q17, p17, x17⟩ := (node_simD (ts := ts) (m := m16) (k := 60) (v := fun P => .fn 337 [] [.box [.ref P 0] 0]) (fun _ => rfl) (fun k hk => s337 (fun k hk => H k (by omega)))) n (by omega) P s16 rest base k cs J b rest' cs' p16 hr16 (by omega)
            have e17 : aCall Tryz.prog (den C n) 110 [.ref P 0, .int .i64 60, .fn 337 [] [.box [.ref P 0] 0]] s16 = some (.tup [], s17) := q17
            refine ⟨s17, J17, ?_, p17, (((x1.trans x6).trans x16).trans x17)⟩
            show aCall Tryz.prog (den C (n + 1)) 318 [.ref P 0] s = _
            rw [callR en318 (ref1 ..), F318_eq, F318]
            simp -implicitDefEqProofs only [sL, bs1, bs2, bs3, strip_own, aBox_ref, aBox_str, aBox_bool, aBox_int, qp, zero80, qs, l2, e2, l4, e4, e6, l8, e8, e16, e17]
          · have e16 : aCall Tryz.prog (den C n) 106 [.ref P 0, .sl 9 1 [.str [40]] .sh] s6 = some (.bool false, s16) := by rw [← hc16]; exact q16
            obtain ⟨s18, q18, p18, x18⟩ := (at_rd (ts := ts) [wLBr] (by decide : 1 < 50)).use (n := n) (by omega) p16
            have hL18 := (x18.fr sp.length hlt16 hnj).trans hL16
            have hlt18 := Nat.lt_of_lt_of_le hlt16 x18.len
            obtain ⟨m18, hm18, ho18⟩ := ite_inv hr16
            rcases ho18 with ⟨hc18, hr18⟩ | ⟨hc18, hr18⟩
            · have e18 : aCall Tryz.prog (den C n) 106 [.ref P 0, .sl 9 1 [.str [123]] .sh] s16 = some (.bool true, s18) := by rw [← hc18]; exact q18
              obtain ⟨s19, J19, q19, p19, x19⟩ := ((H m18 (by omega)).bl) n (by omega) P s18 rest base k cs J b rest' cs' p18 hr18 (by omega)
              have e19 : aCall Tryz.prog (den C n) 227 [.ref P 0] s18 = some (.tup [], s19) := q19
              refine ⟨s19, J19, ?_, p19, ((((x1.trans x6).trans x16).trans x18).trans x19)⟩
              show aCall Tryz.prog (den C (n + 1)) 318 [.ref P 0] s = _
              rw [callR en318 (ref1 ..), F318_eq, F318]
              simp -implicitDefEqProofs only [sL, bs1, bs2, bs3, strip_own, aBox_ref, aBox_str, aBox_bool, aBox_int, qp, zero80, qs, l2, e2, l4, e4, e6, l8, e8, e16, e18, e19]
            · have e18 : aCall Tryz.prog (den C n) 106 [.ref P 0, .sl 9 1 [.str [123]] .sh] s16 = some (.bool false, s18) := by rw [← hc18]; exact q18
              obtain ⟨s20, q20, p20, x20⟩ := (at_rd (ts := ts) [wIf] (by decide : 1 < 50)).use (n := n) (by omega) p18
              have hL20 := (x20.fr sp.length hlt18 hnj).trans hL18
              have hlt20 := Nat.lt_of_lt_of_le hlt18 x20.len
              obtain ⟨m20, hm20, ho20⟩ := ite_inv hr18
              rcases ho20 with ⟨hc20, hr20⟩ | ⟨hc20, hr20⟩
              · have e20 : aCall Tryz.prog (den C n) 106 [.ref P 0, .sl 9 1 [.str [105, 102]] .sh] s18 = some (.bool true, s20) := by rw [← hc20]; exact q20
                obtain ⟨s21, J21, q21, p21, x21⟩ := ((H m20 (by omega)).ix) n (by omega) P s20 rest base k cs J b rest' cs' p20 hr20 (by omega)
                have e21 : aCall Tryz.prog (den C n) 338 [.ref P 0] s20 = some (.tup [], s21) := q21
                refine ⟨s21, J21, ?_, p21, (((((x1.trans x6).trans x16).trans x18).trans x20).trans x21)⟩
                show aCall Tryz.prog (den C (n + 1)) 318 [.ref P 0] s = _
                rw [callR en318 (ref1 ..), F318_eq, F318]
                simp -implicitDefEqProofs only [sL, bs1, bs2, bs3, strip_own, aBox_ref, aBox_str, aBox_bool, aBox_int, qp, zero80, qs, l2, e2, l4, e4, e6, l8, e8, e16, e18, e20, e21]
              · have e20 : aCall Tryz.prog (den C n) 106 [.ref P 0, .sl 9 1 [.str [105, 102]] .sh] s18 = some (.bool false, s20) := by rw [← hc20]; exact q20
                obtain ⟨s22, q22, p22, x22⟩ := (at_rd (ts := ts) [wMatch] (by decide : 1 < 50)).use (n := n) (by omega) p20
                have hL22 := (x22.fr sp.length hlt20 hnj).trans hL20
                have hlt22 := Nat.lt_of_lt_of_le hlt20 x22.len
                obtain ⟨m22, hm22, ho22⟩ := ite_inv hr20
                rcases ho22 with ⟨hc22, hr22⟩ | ⟨hc22, hr22⟩
                · have e22 : aCall Tryz.prog (den C n) 106 [.ref P 0, .sl 9 1 [.str [109, 97, 116, 99, 104]] .sh] s20 = some (.bool true, s22) := by rw [← hc22]; exact q22
                  obtain ⟨s23, J23, q23, p23, x23⟩ := (node_simD (ts := ts) (m := m22) (k := 35) (v := fun P => .fn 339 [.ref P 0] []) (fun _ => rfl) (fun k hk => s339 (fun k hk => H k (by omega)))) n (by omega) P s22 rest base k cs J b rest' cs' p22 hr22 (by omega)
                  have e23 : aCall Tryz.prog (den C n) 110 [.ref P 0, .int .i64 35, .fn 339 [.ref P 0] []] s22 = some (.tup [], s23) := q23
                  refine ⟨s23, J23, ?_, p23, ((((((x1.trans x6).trans x16).trans x18).trans x20).trans x22).trans x23)⟩
                  show aCall Tryz.prog (den C (n + 1)) 318 [.ref P 0] s = _
                  rw [callR en318 (ref1 ..), F318_eq, F318]
                  simp -implicitDefEqProofs only [sL, bs1, bs2, bs3, strip_own, aBox_ref, aBox_str, aBox_bool, aBox_int, qp, zero80, qs, l2, e2, l4, e4, e6, l8, e8, e16, e18, e20, e22, e23]
                · have e22 : aCall Tryz.prog (den C n) 106 [.ref P 0, .sl 9 1 [.str [109, 97, 116, 99, 104]] .sh] s20 = some (.bool false, s22) := by rw [← hc22]; exact q22
                  obtain ⟨s24, q24, p24, x24⟩ := (at_rd (ts := ts) [wNew] (by decide : 1 < 50)).use (n := n) (by omega) p22
                  have hL24 := (x24.fr sp.length hlt22 hnj).trans hL22
                  have hlt24 := Nat.lt_of_lt_of_le hlt22 x24.len
                  obtain ⟨m24, hm24, ho24⟩ := ite_inv hr22
                  rcases ho24 with ⟨hc24, hr24⟩ | ⟨hc24, hr24⟩
                  · have e24 : aCall Tryz.prog (den C n) 106 [.ref P 0, .sl 9 1 [.str [110, 101, 119]] .sh] s22 = some (.bool true, s24) := by rw [← hc24]; exact q24
                    obtain ⟨s25, J25, q25, p25, x25⟩ := (node_simD (ts := ts) (m := m24) (k := 33) (v := fun P => .fn 340 [.ref P 0] []) (fun _ => rfl) (fun k hk => s340 (fun k hk => H k (by omega)))) n (by omega) P s24 rest base k cs J b rest' cs' p24 hr24 (by omega)
                    have e25 : aCall Tryz.prog (den C n) 110 [.ref P 0, .int .i64 33, .fn 340 [.ref P 0] []] s24 = some (.tup [], s25) := q25
                    refine ⟨s25, J25, ?_, p25, (((((((x1.trans x6).trans x16).trans x18).trans x20).trans x22).trans x24).trans x25)⟩
                    show aCall Tryz.prog (den C (n + 1)) 318 [.ref P 0] s = _
                    rw [callR en318 (ref1 ..), F318_eq, F318]
                    simp -implicitDefEqProofs only [sL, bs1, bs2, bs3, strip_own, aBox_ref, aBox_str, aBox_bool, aBox_int, qp, zero80, qs, l2, e2, l4, e4, e6, l8, e8, e16, e18, e20, e22, e24, e25]
                  · have e24 : aCall Tryz.prog (den C n) 106 [.ref P 0, .sl 9 1 [.str [110, 101, 119]] .sh] s22 = some (.bool false, s24) := by rw [← hc24]; exact q24
                    obtain ⟨s26, q26, p26, x26⟩ := (at_rd (ts := ts) [wBar, wBarBar] (by decide : 2 < 50)).use (n := n) (by omega) p24
                    have hL26 := (x26.fr sp.length hlt24 hnj).trans hL24
                    have hlt26 := Nat.lt_of_lt_of_le hlt24 x26.len
                    obtain ⟨m26, hm26, ho26⟩ := ite_inv hr24
                    rcases ho26 with ⟨hc26, hr26⟩ | ⟨hc26, hr26⟩
                    · have e26 : aCall Tryz.prog (den C n) 106 [.ref P 0, .sl 9 1 [.str [124], .str [124, 124]] .sh] s24 = some (.bool true, s26) := by rw [← hc26]; exact q26
                      obtain ⟨s27, J27, q27, p27, x27⟩ := (node_simD (ts := ts) (m := m26) (k := 38) (v := fun P => .fn 341 [.ref P 0] []) (fun _ => rfl) (fun k hk => s341 (fun k hk => H k (by omega)))) n (by omega) P s26 rest base k cs J b rest' cs' p26 hr26 (by omega)
                      have e27 : aCall Tryz.prog (den C n) 110 [.ref P 0, .int .i64 38, .fn 341 [.ref P 0] []] s26 = some (.tup [], s27) := q27
                      refine ⟨s27, J27, ?_, p27, ((((((((x1.trans x6).trans x16).trans x18).trans x20).trans x22).trans x24).trans x26).trans x27)⟩
                      show aCall Tryz.prog (den C (n + 1)) 318 [.ref P 0] s = _
                      rw [callR en318 (ref1 ..), F318_eq, F318]
                      simp -implicitDefEqProofs only [sL, bs1, bs2, bs3, strip_own, aBox_ref, aBox_str, aBox_bool, aBox_int, qp, zero80, qs, l2, e2, l4, e4, e6, l8, e8, e16, e18, e20, e22, e24, e26, e27]
                    · have e26 : aCall Tryz.prog (den C n) 106 [.ref P 0, .sl 9 1 [.str [124], .str [124, 124]] .sh] s24 = some (.bool false, s26) := by rw [← hc26]; exact q26
                      obtain ⟨s28, J28, q28, p28, x28⟩ := ((put_sim ts m26).1) n (by omega) P s26 rest base k cs J b rest' cs' p26 hr26 (by omega)
                      have e28 : aCall Tryz.prog (den C n) 240 [.ref P 0] s26 = some (.tup [], s28) := q28
                      refine ⟨s28, J28, ?_, p28, ((((((((x1.trans x6).trans x16).trans x18).trans x20).trans x22).trans x24).trans x26).trans x28)⟩
                      show aCall Tryz.prog (den C (n + 1)) 318 [.ref P 0] s = _
                      rw [callR en318 (ref1 ..), F318_eq, F318]
                      simp -implicitDefEqProofs only [sL, bs1, bs2, bs3, strip_own, aBox_ref, aBox_str, aBox_bool, aBox_int, qp, zero80, qs, l2, e2, l4, e4, e6, l8, e8, e16, e18, e20, e22, e24, e26, e28]
theorem l324 {ts : List Tok} {n P : Nat} : ∀ (m : Nat), (∀ k < m, AllS ts k) → m * 20 + ts.length + 110 ≤ n → ∀ s rest base k cs J b rest' cs', PR ts P s rest base k cs J → run m (.whil (rAt [wLPar, wDot]) (.ite (rAt [wLPar]) (.wrap 30 gArgs) (.ite (fun _ t u => t.1 == 103 && atT [wLPar] u) (.wrap 31 (.seq .bump (.seq .bump gArgs))) (.wrap 32 (.seq .bump gIdent))))) rest cs = some (b, rest', cs') → base.length + szL cs' < 900000000 →
    ∃ s' J', (∀ M n' e, m < M → e 1 = pb P → aLoop (F324_L0 (den C n) n') M e s = some (.tup [], s')) ∧ PR ts P s' rest' base k cs' J' ∧ Ex s s' J J' := by
  intro m
  induction m with
  | zero => intro _ _ s rest base k cs J b rest' cs' h hr; rw [Pm.run_zero] at hr; cases hr
  | succ m ih =>
    intro H hn s rest base k cs J b rest' cs' h hr hb
    have hn0 : m * 20 + ts.length + 110 ≤ n := by omega
    have H0 : ∀ k < m, AllS ts k := fun k hk => H k (Nat.lt_succ_of_lt hk)
    obtain ⟨m', hm', hw⟩ := whil_inv hr
    cases hm'
    obtain ⟨sa, qa, pa, xa⟩ := (at_rd (ts := ts) [wLPar, wDot] (by decide : 2 < 50)).use (n := n) (by omega) h
    rcases hw with ⟨hc, rfl, rfl, rfl⟩ | ⟨hc, hrb, hb0⟩ | ⟨hc, tw, cw, hrb, hrw, hzw⟩
    · have ea : aCall Tryz.prog (den C n) 106 [.ref P 0, .sl 9 1 [.str [40], .str [46]] .sh] s = some (.bool false, sa) := by rw [← hc]; exact qa
      refine ⟨sa, J, fun M n' e hM he1 => ?_, pa, xa⟩
      obtain ⟨M, rfl⟩ : ∃ j, M = j + 1 := ⟨M - 1, by omega⟩
      rw [aLoop, F324_L0]
      simp -implicitDefEqProofs only [sL, bs1, bs2, bs3, strip_own, aBox_ref, he1, ea]
    · exact absurd (val_false (by rfl) hrb) (by decide)
    · have ea : aCall Tryz.prog (den C n) 106 [.ref P 0, .sl 9 1 [.str [40], .str [46]] .sh] s = some (.bool true, sa) := by rw [← hc]; exact qa
      obtain ⟨s1, q1, p1, x1⟩ := (at_rd (ts := ts) [wLPar] (by decide : 1 < 50)).use (n := n) (by omega) pa
      obtain ⟨m1, hm1, ho1⟩ := ite_inv hrb
      rcases ho1 with ⟨hc1, hr1⟩ | ⟨hc1, hr1⟩
      · have e1 : aCall Tryz.prog (den C n) 106 [.ref P 0, .sl 9 1 [.str [40]] .sh] sa = some (.bool true, s1) := by rw [← hc1]; exact q1
        obtain ⟨s2, J2, q2, p2, x2⟩ := (wrap_simD (ts := ts) (m := m1) (k := 30) (v := fun P => .fn 336 [.ref P 0] []) (fun _ => rfl) (fun k hk => s336 (fun k hk => H k (by omega)))) n (by omega) P s1 rest base k cs J false tw cw p1 hr1 (by omega)
        have e2 : aCall Tryz.prog (den C n) 287 [.ref P 0, .int .i64 30, .fn 336 [.ref P 0] []] s1 = some (.tup [], s2) := q2
        obtain ⟨s0, J0, e0, p0, x0⟩ := ih H0 hn0 s2 tw base k cw J2 b rest' cs' p2 hrw hb
        refine ⟨s0, J0, fun M n' e hM he1 => ?_, p0, ((xa.trans x1).trans x2).trans x0⟩
        obtain ⟨M, rfl⟩ : ∃ j, M = j + 1 := ⟨M - 1, by omega⟩
        rw [aLoop, F324_L0]
        simp -implicitDefEqProofs only [sL, bs1, bs2, bs3, strip_own, aBox_ref, he1, ea, e1, e2]
        exact e0 _ _ _ (by omega) ((upds_get _ _ _ rfl).trans he1)
      · have e1 : aCall Tryz.prog (den C n) 106 [.ref P 0, .sl 9 1 [.str [40]] .sh] sa = some (.bool false, s1) := by rw [← hc1]; exact q1
        obtain ⟨m3, hm3, ho3⟩ := ite_inv hr1
        cases hi3 : ((pk (la rest)).1 == 103) with
        | false =>
          obtain ⟨sx3, Px3, s3, ql3, qi3, p3, x3⟩ := look_id (n := n) (by omega) p1
          rw [hi3] at qi3
          rcases ho3 with ⟨hc3, hr3⟩ | ⟨hc3, hr3⟩
          · have hd3 : ((pk (la rest)).1 == 103 && atT [wLPar] (pk (la (la rest)))) = true := hc3
            rw [hi3, Bool.false_and] at hd3; cases hd3
          · skip
            obtain ⟨s4, J4, q4, p4, x4⟩ := (wrap_simD (ts := ts) (m := m3) (k := 32) (v := fun P => .fn 344 [] [.box [.ref P 0] 0]) (fun _ => rfl) (fun k hk => s344 (fun k hk => H k (by omega)))) n (by omega) P s3 rest base k cs J false tw cw p3 hr3 (by omega)
            have e4 : aCall Tryz.prog (den C n) 287 [.ref P 0, .int .i64 32, .fn 344 [] [.box [.ref P 0] 0]] s3 = some (.tup [], s4) := q4
            obtain ⟨s0, J0, e0, p0, x0⟩ := ih H0 hn0 s4 tw base k cw J4 b rest' cs' p4 hrw hb
            refine ⟨s0, J0, fun M n' e hM he1 => ?_, p0, (((xa.trans x1).trans x3).trans x4).trans x0⟩
            obtain ⟨M, rfl⟩ : ∃ j, M = j + 1 := ⟨M - 1, by omega⟩
            rw [aLoop, F324_L0]
            simp -implicitDefEqProofs only [sL, bs1, bs2, bs3, strip_own, aBox_ref, he1, ea, e1, ql3, qi3, e4]
            exact e0 _ _ _ (by omega) ((upds_get _ _ _ rfl).trans he1)
        | true =>
          obtain ⟨sx3, Px3, sy3, sz3, Py3, s3, ql3, qi3, qm3, qa3, p3, x3⟩ := look_post (n := n) (by omega) p1
          rw [hi3] at qi3
          rcases ho3 with ⟨hc3, hr3⟩ | ⟨hc3, hr3⟩
          · have hd3 : ((pk (la rest)).1 == 103 && atT [wLPar] (pk (la (la rest)))) = true := hc3
            rw [hi3, Bool.true_and] at hd3
            have e3 : aCall Tryz.prog (den C n) 106 [.ref Py3 0, .sl 9 1 [.str [40]] .sh] sz3 = some (.bool true, s3) := by rw [← hd3]; exact qa3
            obtain ⟨s5, J5, q5, p5, x5⟩ := (wrap_simD (ts := ts) (m := m3) (k := 31) (v := fun P => .fn 343 [] [.box [.ref P 0] 0]) (fun _ => rfl) (fun k hk => s343 (fun k hk => H k (by omega)))) n (by omega) P s3 rest base k cs J false tw cw p3 hr3 (by omega)
            have e5 : aCall Tryz.prog (den C n) 287 [.ref P 0, .int .i64 31, .fn 343 [] [.box [.ref P 0] 0]] s3 = some (.tup [], s5) := q5
            obtain ⟨s0, J0, e0, p0, x0⟩ := ih H0 hn0 s5 tw base k cw J5 b rest' cs' p5 hrw hb
            refine ⟨s0, J0, fun M n' e hM he1 => ?_, p0, (((xa.trans x1).trans x3).trans x5).trans x0⟩
            obtain ⟨M, rfl⟩ : ∃ j, M = j + 1 := ⟨M - 1, by omega⟩
            rw [aLoop, F324_L0]
            simp -implicitDefEqProofs only [sL, bs1, bs2, bs3, strip_own, aBox_ref, he1, ea, e1, ql3, qi3, qm3, e3, e5]
            exact e0 _ _ _ (by omega) ((upds_get _ _ _ rfl).trans he1)
          · have hd3 : ((pk (la rest)).1 == 103 && atT [wLPar] (pk (la (la rest)))) = false := hc3
            rw [hi3, Bool.true_and] at hd3
            have e3 : aCall Tryz.prog (den C n) 106 [.ref Py3 0, .sl 9 1 [.str [40]] .sh] sz3 = some (.bool false, s3) := by rw [← hd3]; exact qa3
            obtain ⟨s6, J6, q6, p6, x6⟩ := (wrap_simD (ts := ts) (m := m3) (k := 32) (v := fun P => .fn 344 [] [.box [.ref P 0] 0]) (fun _ => rfl) (fun k hk => s344 (fun k hk => H k (by omega)))) n (by omega) P s3 rest base k cs J false tw cw p3 hr3 (by omega)
            have e6 : aCall Tryz.prog (den C n) 287 [.ref P 0, .int .i64 32, .fn 344 [] [.box [.ref P 0] 0]] s3 = some (.tup [], s6) := q6
            obtain ⟨s0, J0, e0, p0, x0⟩ := ih H0 hn0 s6 tw base k cw J6 b rest' cs' p6 hrw hb
            refine ⟨s0, J0, fun M n' e hM he1 => ?_, p0, (((xa.trans x1).trans x3).trans x6).trans x0⟩
            obtain ⟨M, rfl⟩ : ∃ j, M = j + 1 := ⟨M - 1, by omega⟩
            rw [aLoop, F324_L0]
            simp -implicitDefEqProofs only [sL, bs1, bs2, bs3, strip_own, aBox_ref, he1, ea, e1, ql3, qi3, qm3, e3, e6]
            exact e0 _ _ _ (by omega) ((upds_get _ _ _ rfl).trans he1)
def SimU (ts : List Tok) (m : Nat) (g : G) (rv : Bool → AV) (F : Nat → Nat → Heap → Option (AV × Heap)) : Prop :=
  ∀ n, m * 20 + ts.length + 115 ≤ n → ∀ P s rest base k cs J b rest' cs', PR ts P s rest base k cs J → run m g rest cs = some (b, rest', cs') → base.length + szL cs' < 900000000 →
    ∃ s' J', F n P s = some (rv b, s') ∧ PR ts P s' rest' base k cs' J' ∧ Ex s s' J J'
theorem s324 {ts : List Tok} {m : Nat} (H : ∀ k < m, AllS ts k) : SimU ts m gPostfix vd (fnF 324 fun P => [.ref P 0]) := by
  intro n hn P s rest base k cs J b rest' cs' h hr hb
  obtain ⟨n, rfl⟩ : ∃ j, n = j + 1 := ⟨n - 1, by omega⟩
  obtain ⟨m1, hm1⟩ := run_pos hr
  obtain ⟨s1, J1, e1, p1, x1⟩ := l324 (P := P) (n := n) m H (by omega) s rest base k cs J b rest' cs' h hr hb
  refine ⟨s1, J1, ?_, p1, x1⟩
  show aCall Tryz.prog (den C (n + 1)) 324 [.ref P 0] s = _
  rw [callR en324 (ref1 ..), F324_eq, F324, aBox_ref, oh_some]
  exact e1 _ _ _ (by omega) rfl
theorem s285 {ts : List Tok} {m : Nat} (H : ∀ k < m, AllS ts k) : Sim ts m (gUnary) vd (fnF 285 fun P => [.ref P 0]) := by
  intro n hn P s rest base k cs J b rest' cs' h hr hb
  obtain ⟨n, rfl⟩ : ∃ j, n = j + 1 := ⟨n - 1, by omega⟩
  obtain ⟨s1, q1, p1, x1⟩ := (at_rd (ts := ts) [wMinus, wBang, wStar] (by decide : 3 < 50)).use (n := n) (by omega) h
  obtain ⟨m1, hm1, ho1⟩ := ite_inv hr
  rcases ho1 with ⟨hc1, hr1⟩ | ⟨hc1, hr1⟩
  · have e1 : aCall Tryz.prog (den C n) 106 [.ref P 0, .sl 9 1 [.str [45], .str [33], .str [42]] .sh] s = some (.bool true, s1) := by rw [← hc1]; exact q1
    obtain ⟨s2, J2, q2, p2, x2⟩ := (node_simD (ts := ts) (m := m1) (k := 40) (v := fun P => .fn 322 [] [.box [.ref P 0] 0]) (fun _ => rfl) (fun k hk => s322 (fun k hk => H k (by omega)))) n (by omega) P s1 rest base k cs J b rest' cs' p1 hr1 (by omega)
    have e2 : aCall Tryz.prog (den C n) 110 [.ref P 0, .int .i64 40, .fn 322 [] [.box [.ref P 0] 0]] s1 = some (.tup [], s2) := q2
    refine ⟨s2, J2, ?_, p2, (x1.trans x2)⟩
    show aCall Tryz.prog (den C (n + 1)) 285 [.ref P 0] s = _
    rw [callR en285 (ref1 ..), F285_eq, F285]
    simp -implicitDefEqProofs only [sL, bs1, bs2, bs3, strip_own, aBox_ref, aBox_str, aBox_bool, aBox_int, e1, e2]
  · have e1 : aCall Tryz.prog (den C n) 106 [.ref P 0, .sl 9 1 [.str [45], .str [33], .str [42]] .sh] s = some (.bool false, s1) := by rw [← hc1]; exact q1
    obtain ⟨s3, q3, p3, x3⟩ := (at_rd (ts := ts) [wAmp] (by decide : 1 < 50)).use (n := n) (by omega) p1
    obtain ⟨m3, hm3, ho3⟩ := ite_inv hr1
    rcases ho3 with ⟨hc3, hr3⟩ | ⟨hc3, hr3⟩
    · have e3 : aCall Tryz.prog (den C n) 106 [.ref P 0, .sl 9 1 [.str [38]] .sh] s1 = some (.bool true, s3) := by rw [← hc3]; exact q3
      obtain ⟨s4, J4, q4, p4, x4⟩ := (node_simD (ts := ts) (m := m3) (k := 41) (v := fun P => .fn 323 [] [.box [.ref P 0] 0]) (fun _ => rfl) (fun k hk => s323 (fun k hk => H k (by omega)))) n (by omega) P s3 rest base k cs J b rest' cs' p3 hr3 (by omega)
      have e4 : aCall Tryz.prog (den C n) 110 [.ref P 0, .int .i64 41, .fn 323 [] [.box [.ref P 0] 0]] s3 = some (.tup [], s4) := q4
      refine ⟨s4, J4, ?_, p4, ((x1.trans x3).trans x4)⟩
      show aCall Tryz.prog (den C (n + 1)) 285 [.ref P 0] s = _
      rw [callR en285 (ref1 ..), F285_eq, F285]
      simp -implicitDefEqProofs only [sL, bs1, bs2, bs3, strip_own, aBox_ref, aBox_str, aBox_bool, aBox_int, e1, e3, e4]
    · have e3 : aCall Tryz.prog (den C n) 106 [.ref P 0, .sl 9 1 [.str [38]] .sh] s1 = some (.bool false, s3) := by rw [← hc3]; exact q3
      obtain ⟨m5, b5, t5, c5, hm5, ha5, hr5, hz5⟩ := seq_inv hr3
      obtain ⟨s6, J6, q6, p6, x6⟩ := ((H m5 (by omega)).pr) n (by omega) P s3 rest base k cs J b5 t5 c5 p3 ha5 (by omega)
      have e6 : aCall Tryz.prog (den C n) 318 [.ref P 0] s3 = some (.tup [], s6) := q6
      obtain ⟨s7, J7, q7, p7, x7⟩ := (s324 (ts := ts) (m := m5) (fun k hk => H k (by omega))) n (by omega) P s6 t5 base k c5 J6 b rest' cs' p6 hr5 (by omega)
      have e7 : aCall Tryz.prog (den C n) 324 [.ref P 0] s6 = some (.tup [], s7) := q7
      refine ⟨s7, J7, ?_, p7, (((x1.trans x3).trans x6).trans x7)⟩
      show aCall Tryz.prog (den C (n + 1)) 285 [.ref P 0] s = _
      rw [callR en285 (ref1 ..), F285_eq, F285]
      simp -implicitDefEqProofs only [sL, bs1, bs2, bs3, strip_own, aBox_ref, aBox_str, aBox_bool, aBox_int, e1, e3, e6, e7]
theorem l182 {ts : List Tok} {n P : Nat} : ∀ (m : Nat), (∀ k < m, AllS ts k) → m * 20 + ts.length + 110 ≤ n → ∀ s rest base k cs J b t9 c9 m9 b' rest' cs', PR ts P s rest base k cs J → run m (.whil (rAt [wType, wFn]) (.ite (rAt [wFn]) (.node 3 (.seq .bump (.seq (gFunction false) nop))) gAssoc)) rest cs = some (b, t9, c9) → m9 * 20 + ts.length + 100 ≤ n → run m9 (gExpect wRBr) t9 c9 = some (b', rest', cs') → base.length + szL cs' < 900000000 →
    ∃ s' J', (∀ M n' e, m < M → e 1 = pb P → aLoop (F182_L0 (den C n) n') M e s = some (.tup [], s')) ∧ PR ts P s' rest' base k cs' J' ∧ Ex s s' J J' := by
  intro m
  induction m with
  | zero => intro _ _ s rest base k cs J b t9 c9 m9 b' rest' cs' h hr; rw [Pm.run_zero] at hr; cases hr
  | succ m ih =>
    intro H hn s rest base k cs J b t9 c9 m9 b' rest' cs' h hr hm9 hr9 hb
    have hn0 : m * 20 + ts.length + 110 ≤ n := by omega
    have H0 : ∀ k < m, AllS ts k := fun k hk => H k (Nat.lt_succ_of_lt hk)
    have hz9 : szL c9 ≤ szL cs' := runs_sz (runs_of _ _ _ _ _ _ _ hr9)
    obtain ⟨m', hm', hw⟩ := whil_inv hr
    cases hm'
    obtain ⟨sa, qa, pa, xa⟩ := (at_rd (ts := ts) [wType, wFn] (by decide : 2 < 50)).use (n := n) (by omega) h
    rcases hw with ⟨hc, rfl, rfl, rfl⟩ | ⟨hc, hrb, hb0⟩ | ⟨hc, tw, cw, hrb, hrw, hzw⟩
    · have ea : aCall Tryz.prog (den C n) 106 [.ref P 0, .sl 9 1 [.str [116, 121, 112, 101], .str [102, 110]] .sh] s = some (.bool false, sa) := by rw [← hc]; exact qa
      obtain ⟨sx, Jx, qx, px, xx⟩ := expect_sim ts m9 wRBr n hm9 P sa t9 base k c9 J b' rest' cs' pa hr9 hb
      have ex : aCall Tryz.prog (den C n) 184 [.ref P 0, .str [125]] sa = some (.tup [], sx) := qx
      refine ⟨sx, Jx, fun M n' e hM he1 => ?_, px, xa.trans xx⟩
      obtain ⟨M, rfl⟩ : ∃ j, M = j + 1 := ⟨M - 1, by omega⟩
      rw [aLoop, F182_L0]
      simp -implicitDefEqProofs only [sL, bs1, bs2, bs3, strip_own, aBox_ref, he1, ea, ex]
    · exact absurd (val_false (by rfl) hrb) (by decide)
    · have ea : aCall Tryz.prog (den C n) 106 [.ref P 0, .sl 9 1 [.str [116, 121, 112, 101], .str [102, 110]] .sh] s = some (.bool true, sa) := by rw [← hc]; exact qa
      obtain ⟨s1, q1, p1, x1⟩ := (at_rd (ts := ts) [wFn] (by decide : 1 < 50)).use (n := n) (by omega) pa
      obtain ⟨m1, hm1, ho1⟩ := ite_inv hrb
      rcases ho1 with ⟨hc1, hr1⟩ | ⟨hc1, hr1⟩
      · have e1 : aCall Tryz.prog (den C n) 106 [.ref P 0, .sl 9 1 [.str [102, 110]] .sh] sa = some (.bool true, s1) := by rw [← hc1]; exact q1
        obtain ⟨s2, J2, q2, p2, x2⟩ := (node_simD (ts := ts) (m := m1) (k := 3) (v := fun P => .fn 234 [] [.box [.ref P 0] 0]) (fun _ => rfl) (fun k hk => s234 (fun k hk => H k (by omega)))) n (by omega) P s1 rest base k cs J false tw cw p1 hr1 (by omega)
        have e2 : aCall Tryz.prog (den C n) 110 [.ref P 0, .int .i64 3, .fn 234 [] [.box [.ref P 0] 0]] s1 = some (.tup [], s2) := q2
        obtain ⟨s0, J0, e0, p0, x0⟩ := ih H0 hn0 s2 tw base k cw J2 b t9 c9 m9 b' rest' cs' p2 hrw hm9 hr9 hb
        refine ⟨s0, J0, fun M n' e hM he1 => ?_, p0, ((xa.trans x1).trans x2).trans x0⟩
        obtain ⟨M, rfl⟩ : ∃ j, M = j + 1 := ⟨M - 1, by omega⟩
        rw [aLoop, F182_L0]
        simp -implicitDefEqProofs only [sL, bs1, bs2, bs3, strip_own, aBox_ref, he1, ea, e1, e2]
        exact e0 _ _ _ (by omega) ((upds_get _ _ _ rfl).trans he1)
      · have e1 : aCall Tryz.prog (den C n) 106 [.ref P 0, .sl 9 1 [.str [102, 110]] .sh] sa = some (.bool false, s1) := by rw [← hc1]; exact q1
        obtain ⟨s3, J3, q3, p3, x3⟩ := (node_simD (ts := ts) (m := m1) (k := 16) (v := fun P => .fn 235 [] [.box [.ref P 0] 0]) (fun _ => rfl) (fun k hk => s235 (fun k hk => H k (by omega)))) n (by omega) P s1 rest base k cs J false tw cw p1 hr1 (by omega)
        have e3 : aCall Tryz.prog (den C n) 110 [.ref P 0, .int .i64 16, .fn 235 [] [.box [.ref P 0] 0]] s1 = some (.tup [], s3) := q3
        obtain ⟨s0, J0, e0, p0, x0⟩ := ih H0 hn0 s3 tw base k cw J3 b t9 c9 m9 b' rest' cs' p3 hrw hm9 hr9 hb
        refine ⟨s0, J0, fun M n' e hM he1 => ?_, p0, ((xa.trans x1).trans x3).trans x0⟩
        obtain ⟨M, rfl⟩ : ∃ j, M = j + 1 := ⟨M - 1, by omega⟩
        rw [aLoop, F182_L0]
        simp -implicitDefEqProofs only [sL, bs1, bs2, bs3, strip_own, aBox_ref, he1, ea, e1, e3]
        exact e0 _ _ _ (by omega) ((upds_get _ _ _ rfl).trans he1)
theorem s182 {ts : List Tok} {m : Nat} (H : ∀ k < m, AllS ts k) : Sim ts m (gMembers) vd (fnF 182 fun P => [.ref P 0]) := by
  intro n hn P s rest base k cs J b rest' cs' h hr hb
  obtain ⟨n, rfl⟩ : ∃ j, n = j + 1 := ⟨n - 1, by omega⟩
  obtain ⟨m1, b1, t1, c1, hm1, ha1, hr1, hz1⟩ := seq_inv hr
  obtain ⟨s2, J2, q2, p2, x2⟩ := (expect_sim ts m1 wLBr) n (by omega) P s rest base k cs J b1 t1 c1 h ha1 (by omega)
  have e2 : aCall Tryz.prog (den C n) 184 [.ref P 0, .str [123]] s = some (.tup [], s2) := q2
  obtain ⟨m3, b3, t3, c3, hm3, ha3, hr3, hz3⟩ := seq_inv hr1
  obtain ⟨s3, J3, e3, p3, x3⟩ := l182 (P := P) (n := n) m3 (fun k hk => H k (by omega)) (by omega) s2 t1 base k c1 J2 b3 t3 c3 m3 b rest' cs' p2 ha3 (by omega) hr3 (by omega)
  refine ⟨s3, J3, ?_, p3, (x2.trans x3)⟩
  show aCall Tryz.prog (den C (n + 1)) 182 [.ref P 0] s = _
  rw [callR en182 (ref1 ..), F182_eq, F182]
  simp -implicitDefEqProofs only [sL, bs1, bs2, bs3, strip_own, aBox_ref, aBox_str, aBox_bool, aBox_int, e2]
  exact e3 _ _ _ (by omega) rfl
theorem wsml (l : Nat) (hl : l ≤ 4) : IntKind.i64.wrap ((l : Int) + 1) = (l : Int) + 1 := by rw [wrap64] <;> omega
theorem bin1 {ts : List Tok} {m : Nat} (H : ∀ k < m + 1, AllS ts k) (l : Nat) (hl : l ≤ 4) : Sim ts m (.call (11 + l)) vd (fnF 241 fun P => [.ref P 0, I ((l : Int) + 1)]) := by
  have := (H m (by omega)).bi (l + 1) (by omega)
  rw [show 10 + (l + 1) = 11 + l by omega] at this
  exact this
theorem s288 {ts : List Tok} {m : Nat} (l : Nat) (hl : l ≤ 4) (H : ∀ k < m, AllS ts k) : Sim ts m (.seq .bump (.call (11 + l))) vd (fnF 288 fun P => [.box [.ref P 0] 0, .box [I l] 0]) := by
  intro n hn P s rest base k cs J b rest' cs' h hr hb
  obtain ⟨n, rfl⟩ : ∃ j, n = j + 1 := ⟨n - 1, by omega⟩
  obtain ⟨m1, b1, t1, c1, hm1, ha1, hr1, hz1⟩ := seq_inv hr
  obtain ⟨s2, J2, q2, p2, x2⟩ := (bump_sim ts m1) n (by omega) P s rest base k cs J b1 t1 c1 h ha1 (by omega)
  have e2 : aCall Tryz.prog (den C n) 113 [.ref P 0] s = some (.tup [], s2) := q2
  obtain ⟨s3, J3, q3, p3, x3⟩ := (bin1 (ts := ts) (m := m1) (fun k hk => H k (by omega)) l hl) n (by omega) P s2 t1 base k c1 J2 b rest' cs' p2 hr1 (by omega)
  have e3 : aCall Tryz.prog (den C n) 241 [.ref P 0, I ((l : Int) + 1)] s2 = some (.tup [], s3) := q3
  refine ⟨s3, J3, ?_, p3, (x2.trans x3)⟩
  show aCall Tryz.prog (den C (n + 1)) 288 [.box [.ref P 0] 0, .box [I l] 0] s = _
  rw [callR en288 (box1 ..), F288_eq, F288]
  simp -implicitDefEqProofs only [sL, bs1, bs2, bs3, strip_own, aBox_ref, aBox_str, aBox_bool, aBox_int, wsml l hl, e2, e3]
end ParF
end

section
set_option maxRecDepth 100000
set_option maxHeartbeats 1000000
namespace ParF
open Go Go.Abs Go.Proofs Pm
theorem bops_len (l : Nat) : (binOps l).length < 50 := by
  unfold binOps; split <;> decide
theorem l241 {ts : List Tok} {n P : Nat} (l : Nat) (hl : l ≤ 4) : ∀ (m : Nat), (∀ k < m, AllS ts k) → m * 20 + ts.length + 110 ≤ n → ∀ s rest base k cs J b rest' cs', PR ts P s rest base k cs J → run m (.whil (rAt (binOps l)) (.seq (.wrap 39 (.seq .bump (.call (11 + l)))) (.ret (l == 2)))) rest cs = some (b, rest', cs') → base.length + szL cs' < 900000000 →
    ∃ s' J', (∀ M n' e, m < M → e 2 = pb P → e 3 = .box [I l] 0 → aLoop (F241_L0 (den C n) n') M e s = some (.tup [], s')) ∧ PR ts P s' rest' base k cs' J' ∧ Ex s s' J J' := by
  intro m
  induction m with
  | zero => intro _ _ s rest base k cs J b rest' cs' h hr; rw [Pm.run_zero] at hr; cases hr
  | succ m ih =>
    intro H hn s rest base k cs J b rest' cs' h hr hb
    have hn0 : m * 20 + ts.length + 110 ≤ n := by omega
    have H0 : ∀ k < m, AllS ts k := fun k hk => H k (Nat.lt_succ_of_lt hk)
    have e0 := (bops_run l hl).of (n := n) (by omega) s
    have e2 : (((l : Nat) : Int) == 2) = (l == 2) := kind_eq l 2
    have nr : noRefL [AV.ref P 0, strs (binOps l)] = false := ref1 ..
    have hs : (strs (binOps l)).strip = strs (binOps l) := rfl
    obtain ⟨m', hm', hw⟩ := whil_inv hr
    cases hm'
    obtain ⟨sa, qa, pa, xa⟩ := (at_rd (ts := ts) (binOps l) (bops_len l)).use (n := n) (by omega) h
    rcases hw with ⟨hc, rfl, rfl, rfl⟩ | ⟨hc, hrb, hb0⟩ | ⟨hc, tw, cw, hrb, hrw, hzw⟩
    · have ea : aCall Tryz.prog (den C n) 106 [.ref P 0, strs (binOps l)] s = some (.bool false, sa) := by rw [← hc]; exact qa
      refine ⟨sa, J, fun M n' e hM he2 he3 => ?_, pa, xa⟩
      obtain ⟨M, rfl⟩ : ∃ j, M = j + 1 := ⟨M - 1, by omega⟩
      rw [aLoop, F241_L0]
      simp -implicitDefEqProofs only [sL, he2, he3, e0, hs, ea, nr, Bool.false_eq_true, ite_false, d241_4]
    · have ea : aCall Tryz.prog (den C n) 106 [.ref P 0, strs (binOps l)] s = some (.bool true, sa) := by rw [← hc]; exact qa
      obtain ⟨m1, b1, t1, c1, hm1, ha1, hr1, hz1⟩ := seq_inv hrb
      obtain ⟨hl2, rfl, rfl⟩ := ret_inv hr1
      obtain ⟨s1, J1, q1, p1, x1⟩ := (wrap_simD (ts := ts) (m := m1) (k := 39) (v := fun P => .fn 288 [] [.box [.ref P 0] 0, .box [I l] 0]) (fun _ => rfl) (fun k hk => s288 l hl (fun k hk => H k (by omega)))) n (by omega) P sa rest base k cs J b1 rest' cs' pa ha1 (by omega)
      have e1 : aCall Tryz.prog (den C n) 287 [.ref P 0, .int .i64 39, .fn 288 [] [.box [.ref P 0] 0, .box [I l] 0]] sa = some (.tup [], s1) := q1
      refine ⟨s1, J1, fun M n' e hM he2 he3 => ?_, p1, xa.trans x1⟩
      obtain ⟨M, rfl⟩ : ∃ j, M = j + 1 := ⟨M - 1, by omega⟩
      rw [aLoop, F241_L0]
      simp -implicitDefEqProofs only [sL, he2, he3, e0, hs, ea, nr, Bool.false_eq_true, ite_false, d241_4, e1, e2, hl2.symm]
    · have ea : aCall Tryz.prog (den C n) 106 [.ref P 0, strs (binOps l)] s = some (.bool true, sa) := by rw [← hc]; exact qa
      obtain ⟨m1, b1, t1, c1, hm1, ha1, hr1, hz1⟩ := seq_inv hrb
      obtain ⟨hl2, rfl, rfl⟩ := ret_inv hr1
      obtain ⟨s1, J1, q1, p1, x1⟩ := (wrap_simD (ts := ts) (m := m1) (k := 39) (v := fun P => .fn 288 [] [.box [.ref P 0] 0, .box [I l] 0]) (fun _ => rfl) (fun k hk => s288 l hl (fun k hk => H k (by omega)))) n (by omega) P sa rest base k cs J b1 tw cw pa ha1 (by omega)
      have e1 : aCall Tryz.prog (den C n) 287 [.ref P 0, .int .i64 39, .fn 288 [] [.box [.ref P 0] 0, .box [I l] 0]] sa = some (.tup [], s1) := q1
      obtain ⟨s2, J2, q2, p2, x2⟩ := ih H0 hn0 s1 tw base k cw J1 b rest' cs' p1 hrw hb
      refine ⟨s2, J2, fun M n' e hM he2 he3 => ?_, p2, (xa.trans x1).trans x2⟩
      obtain ⟨M, rfl⟩ : ∃ j, M = j + 1 := ⟨M - 1, by omega⟩
      rw [aLoop, F241_L0]
      simp -implicitDefEqProofs only [sL, he2, he3, e0, hs, ea, nr, Bool.false_eq_true, ite_false, d241_4, e1, e2, hl2.symm]
      exact q2 _ _ _ (by omega) ((upds_get _ _ _ rfl).trans he2) ((upds_get _ _ _ rfl).trans he3)
theorem s241 {ts : List Tok} {m : Nat} (l : Nat) (hl : l ≤ 4) (H : ∀ k < m, AllS ts k) : Sim ts m (gBinary l) vd (fnF 241 fun P => [.ref P 0, I l]) := by
  intro n hn P s rest base k cs J b rest' cs' h hr hb
  obtain ⟨n, rfl⟩ : ∃ j, n = j + 1 := ⟨n - 1, by omega⟩
  obtain ⟨m1, b1, t1, c1, hm1, ha1, hr1, hz1⟩ := seq_inv hr
  obtain ⟨m2, b2, t2, c2, hm2, ha2, hr2, hz2⟩ := seq_inv hr1
  obtain ⟨-, rfl, rfl⟩ := ret_inv hr2
  obtain ⟨s1, J1, q1, p1, x1⟩ := bin1 (ts := ts) (m := m1) (fun k hk => H k (by omega)) l hl n (by omega) P s rest base k cs J b1 t1 c1 h ha1 (by omega)
  have e1 : aCall Tryz.prog (den C n) 241 [.ref P 0, I ((l : Int) + 1)] s = some (.tup [], s1) := q1
  obtain ⟨s2, J2, e2, p2, x2⟩ := l241 (P := P) (n := n) l hl m2 (fun k hk => H k (by omega)) (by omega) s1 t1 base k c1 J1 b2 rest' cs' p1 ha2 hb
  refine ⟨s2, J2, ?_, p2, x1.trans x2⟩
  have e5 : (((l : Nat) : Int) == 5) = false := by simp; omega
  show aCall Tryz.prog (den C (n + 1)) 241 [.ref P 0, I l] s = _
  rw [callR en241 (ref1 ..), F241_eq, F241]
  simp -implicitDefEqProofs only [sL, aBox_ref, aBox_int, e5, wsml l hl, e1]
  exact e2 _ _ _ (by omega) rfl rfl
theorem drop_run {ts : List Tok} {P : Nat} {s : Heap} {rest : List Tok} {base : List Lv} {k0 : Nat} {ini : List Tree} {t : Tree} {J : List Nat} (h : PR ts P s rest base k0 (ini ++ [t]) J) :
    ∃ Q id s', aLoad false false 1 (.ref P 2) s = some (.rs 52 3 Q 0 (base.length + 1), s) ∧ aLoad false false 1 (.ref Q (base.length * 3 + 2)) s = some (.rs 52 3 id 0 (ini.length + 1), s) ∧
      aStore 1 s (.ref Q (base.length * 3 + 2)) (.rs 52 3 id 0 ini.length) = some s' ∧ PR ts P s' rest base k0 ini J ∧ Ex s s' J J := by
  obtain ⟨pos, i, rfl, h⟩ := h
  obtain ⟨tk, Q, junk, f, rfl⟩ := h.facts
  have hP := glt f.par
  have hQ := glt f.row
  have hok := f.ok
  obtain ⟨id, rfl⟩ : ∃ id, i = some id := by
    cases i with
    | none => have h0 : ini ++ [t] = [] := hok; simp at h0
    | some id => exact ⟨id, rfl⟩
  obtain ⟨rows, cj, h1, h2, h3⟩ := hok
  obtain ⟨r1, r2, rfl, l1, l2⟩ := IsL.split h2
  cases l2 with
  | cons _ a _ _ ht l3 =>
  cases l3 with
  | nil =>
  obtain ⟨c1, c2, c3, c4⟩ := ht.cells
  obtain ⟨tP, tQ, tl⟩ := f.top id rfl
  rw [cellsOf_snoc] at h1
  have hil : (ini ++ [t]).length = ini.length + 1 := by rw [app_len]; rfl
  have hrl := row_length (base ++ [(⟨k0, ini ++ [t], some id⟩ : Lv)])
  rw [app_len] at hrl
  have st1 := ParF.st (s := s) (o := base.length * 3 + 2) (n := 1) (v := .rs 52 3 id 0 ini.length) f.row (by decide) rfl rfl (by rw [app_len, hrl]; show _ ≤ 3 * (base.length + 1) + _; omega)
  have hst' : stCells (.rs 52 3 id 0 ini.length) = [AV.rs 52 3 id 0 ini.length] := rfl
  rw [hst', row_set] at st1
  have fr2 : ∀ x, x ≠ Q → (s.set Q (52, base.flatMap Lv.row ++ [I (k0 : Nat), .str [], .rs 52 3 id 0 ini.length] ++ junk))[x]? = s[x]? := fun x hne => gset_ne (Ne.symm hne)
  refine ⟨Q, id, _, ld (o := 2) f.par (by decide) rfl (by decide), ?_, st1, ⟨pos, some id, rfl, Fs.ps (tk := tk) (Q := Q) (junk := junk) (l := ⟨k0, ini, some id⟩) ⟨f.htk, ?_, ?_, f.ne, fun i hi => ?_, fun i hi => ?_, f.nd, ⟨r1, a.cells ++ cj, ?_, l1, ?_⟩, fun l' hl' => ?_, f.pos, f.len⟩⟩, ?_⟩
  · rw [ld (n := 1) (o := base.length * 3 + 2) f.row (by decide) (row_at 2 (by decide)) (by decide), ch_strip, ← hil]; rfl
  · rw [fr2 P f.ne]; exact f.par
  · rw [gset_eq f.row, flat_snoc]; rfl
  · obtain ⟨a1, a2, a3, a4⟩ := f.hbase i hi
    exact ⟨a1, a2, by rw [set_length]; exact a3, a4⟩
  · obtain ⟨a1, a2, a3⟩ := f.top i hi
    exact ⟨a1, a2, by rw [set_length]; exact a3⟩
  · rw [fr2 id tQ, h1, List.append_assoc]
  · intro e; have := congrArg List.length e; rw [app_len, app_len, c1] at this; simp at this
  · refine Lv.ok_frame (f.oks l' hl') fun i hi => ?_
    obtain ⟨a1, a2, a3, a4⟩ := f.hbase i (List.mem_filterMap.2 ⟨l', hl', hi⟩)
    exact fr2 i a2
  · refine ⟨by rw [set_length]; exact Nat.le_refl _, fun x hx hj => gset_ne fun e => hj ?_, fun _ h => .inl h⟩
    rw [← e]; unfold JJ; simp
theorem stm_inv {m : Nat} {g b : G} {ts ts' : List Tok} {cs cs' : List Tree} {r : Bool} (h : run m (.stm g b) ts cs = some (r, ts', cs')) : ∃ m' r1 t1 c1, m = m' + 1 ∧ run m' g ts cs = some (r1, t1, c1) ∧ szL c1 ≤ szL cs' ∧
    ((t1.length = ts.length ∧ ∃ c2 t, c1 = c2 ++ [t] ∧ run m' gUnexp t1 c2 = some (r, ts', cs')) ∨ (t1.length ≠ ts.length ∧ run m' b t1 c1 = some (r, ts', cs'))) := by
  obtain ⟨m, rfl⟩ := run_pos h
  rw [run_stm] at h
  obtain ⟨⟨r1, t1, d1⟩, h1, h2⟩ := Option.bind_eq_some_iff.1 h
  simp only at h2
  split at h2
  · rename_i hc
    obtain ⟨t, h3, h4⟩ := Option.bind_eq_some_iff.1 h2
    split at h4
    · rename_i ht
      have hd := getLast_split h3
      obtain ⟨m5, r5, t5, c5, -, h5, h6, hz6⟩ := seq_inv h4
      obtain ⟨m6, ds, -, -, h7⟩ := node_inv h5
      have hz : szL d1.dropLast + 1 ≤ szL cs' := by
        rw [h7, szL_append, szL_one, szT_mk] at hz6; omega
      refine ⟨m, r1, t1, d1, rfl, h1, ?_, .inl ⟨hc, d1.dropLast, t, hd, h4⟩⟩
      rw [hd, szL_append, szL_one]; omega
    · cases h4
  · rename_i hc; exact ⟨m, r1, t1, d1, rfl, h1, (runs_sz (runs_of _ _ _ _ _ _ _ h2)), .inr ⟨hc, h2⟩⟩
end ParF
end

section
set_option maxRecDepth 100000
set_option maxHeartbeats 1000000
namespace ParF
open Go Go.Abs Go.Proofs Pm
theorem zero4 : aAlloc Tryz.prog 4 = fun s => some (.ref s.length 0, s ++ [(4, [.bool false])]) := by
  have h : zeroOf Tryz.prog 4 = some (.bool false) := by kernel_rfl
  funext s
  simp [aAlloc, h, AV.cells]
theorem Ex.notin {s s' : Heap} {J J' : List Nat} (x : Ex s s' J J') {L : Nat} (hl : L < s.length) (hj : L ∉ J) : L ∉ J' := fun h => by
  rcases x.sub L h with k | k
  · exact hj k
  · omega
theorem s320 {ts : List Tok} {m : Nat} (bl : Bool) {n : Nat} (hn : m * 20 + ts.length + 100 ≤ n) {P : Nat} {s : Heap} {rest : List Tok} {base : List Lv} {k : Nat} {cs : List Tree} {J : List Nat} {b : Bool} {rest' : List Tok} {cs' : List Tree}
    (h : PR ts P s rest base k cs J) (hr : run m (.ite (rAt [wSemi]) .bump (if bl then nop else .put 108)) rest cs = some (b, rest', cs')) (hb : base.length + szL cs' < 900000000) {L : Nat} (hL : s[L]? = some (4, [.bool bl])) (hj : L ∉ J) :
    ∃ s' J' r, aCall Tryz.prog (den C n) 320 [.box [.ref P 0] 0, .ref L 0] s = some (r, s') ∧ PR ts P s' rest' base k cs' J' ∧ Ex s s' J J' := by
  obtain ⟨n, rfl⟩ : ∃ j, n = j + 1 := ⟨n - 1, by omega⟩
  obtain ⟨m1, hm1, ho⟩ := ite_inv hr
  have hlt := glt hL
  rcases ho with ⟨hc, hr1⟩ | ⟨hc, hr1⟩
  · obtain ⟨s1, J1, q1, p1, x1⟩ := acc_yes [wSemi] (by decide : 1 < 50) (n := n) (by omega) h hc hr1 hb
    have e1 : aCall Tryz.prog (den C n) 112 [.ref P 0, .sl 9 1 [.str [59]] .sh] s = some (.bool true, s1) := q1
    refine ⟨s1, J1, .tup [], ?_, p1, x1⟩
    rw [callR en320 (box1 ..), F320_eq, F320]
    simp -implicitDefEqProofs only [sL, bs1, strip_own, e1]
  · obtain ⟨s1, q1, p1, x1⟩ := acc_no [wSemi] (by decide : 1 < 50) (n := n) (by omega) h hc
    have e1 : aCall Tryz.prog (den C n) 112 [.ref P 0, .sl 9 1 [.str [59]] .sh] s = some (.bool false, s1) := q1
    have hL1 := (x1.fr L hlt hj).trans hL
    have l1 : aLoad false false 1 (.ref L 0) s1 = some (.bool bl, s1) := ld (o := 0) hL1 (by decide) rfl (by decide)
    cases bl with
    | true =>
      obtain ⟨-, rfl, rfl⟩ := ret_inv hr1
      refine ⟨s1, J, .tup [], ?_, p1, x1⟩
      rw [callR en320 (box1 ..), F320_eq, F320]
      simp -implicitDefEqProofs only [sL, bs1, strip_own, e1, l1]
    | false =>
      obtain ⟨s2, J2, q2, p2, x2⟩ := (put_sim ts m1).2.1 n (by omega) P s1 rest base k cs J b rest' cs' p1 hr1 hb
      have e2 : aCall Tryz.prog (den C n) 233 [.ref P 0] s1 = some (.tup [], s2) := q2
      refine ⟨s2, J2, .tup [], ?_, p2, x1.trans x2⟩
      rw [callR en320 (box1 ..), F320_eq, F320]
      simp -implicitDefEqProofs only [sL, bs1, strip_own, e1, l1, e2]
theorem stm_tail {ts : List Tok} {m : Nat} (H : ∀ k < m, AllS ts k) (bl : Bool) {n : Nat} (hn : m * 20 + ts.length + 100 ≤ n) {P : Nat} {s : Heap} {rest0 rest : List Tok} {base : List Lv} {k : Nat} {cs : List Tree} {J : List Nat} {b : Bool} {rest' : List Tok} {cs' : List Tree}
    (h : PR ts P s rest base k cs J) {pos0 : Nat} (hp0 : rest0.length + pos0 = ts.length)
    (hr : (rest.length = rest0.length ∧ ∃ c2 t, cs = c2 ++ [t] ∧ run m gUnexp rest c2 = some (b, rest', cs')) ∨ (rest.length ≠ rest0.length ∧ run m (.ite (rAt [wRBr]) (.ret true) (.ite (rAt [wEq]) (.seq (.wrap 23 (.seq .bump (.seq (.call 10) (gExpect wSemi)))) nop) (.seq (.wrap 26 (.ite (rAt [wSemi]) .bump (if bl then nop else .put 108))) nop))) rest cs = some (b, rest', cs')))
    (hb : base.length + szL cs' < 900000000) {L : Nat} (hL : s[L]? = some (4, [.bool bl])) (hj : L ∉ J) :
    ∃ s' J', (∀ n' e, e 1 = pb P → e 3 = I pos0 → e 4 = .ref L 0 → F278_J0 (den C n) n' e s = some (.bool b, s')) ∧ PR ts P s' rest' base k cs' J' ∧ Ex s s' J J' := by
  obtain ⟨pos3, tk3, st3, r3, hd3, hl3⟩ := h.rdy
  have hlt := glt hL
  rcases hr with ⟨hl, c2, t, rfl, hr⟩ | ⟨hl, hr⟩
  · have hpe : ((pos3 : Int) == (pos0 : Int)) = true := by simp; omega
    obtain ⟨m1, b1, t1, c1, hm1, ha1, hr1, hz1⟩ := seq_inv hr
    obtain ⟨rfl, rfl, rfl⟩ := ret_inv hr1
    obtain ⟨Q, id, s1, q1, q2, q3, p1, x1⟩ := drop_run h
    obtain ⟨s2, J2, q4, p2, x2⟩ := unexpected_sim ts m1 n (by omega) P s1 rest base k c2 J b1 rest' cs' p1 ha1 hb
    have e4 : aCall Tryz.prog (den C n) 280 [.ref P 0] s1 = some (.tup [], s2) := q4
    have hbl : base.length < 900000000 := by omega
    have hcl : c2.length < 900000000 := by
      have := len_le_sz cs'
      have h7 := runs_sz (runs_of _ _ _ _ _ _ _ ha1)
      have := len_le_sz c2
      omega
    refine ⟨s2, J2, fun n' e he1 he3 he4 => ?_, p2, x1.trans x2⟩
    rw [F278_J0]
    simp -implicitDefEqProofs only [sL, he1, he3, he4, r3.ld1, hpe, q1, q2, len50_rs, wsub1 (a := base.length) (by omega), wsub1 (a := c2.length) (by omega), idx_top, take_rs, q3, kStore_ref, d278_17, d278_18 Q, e4]
  · have hpe : ((pos3 : Int) == (pos0 : Int)) = false := by simp; omega
    obtain ⟨sa, qa, pa, xa⟩ := (at_rd (ts := ts) [wRBr] (by decide : 1 < 50)).use (n := n) (by omega) h
    obtain ⟨m1, hm1, ho⟩ := ite_inv hr
    rcases ho with ⟨hc, hr1⟩ | ⟨hc, hr1⟩
    · have ea : aCall Tryz.prog (den C n) 106 [.ref P 0, .sl 9 1 [.str [125]] .sh] s = some (.bool true, sa) := by rw [← hc]; exact qa
      obtain ⟨rfl, rfl, rfl⟩ := ret_inv hr1
      refine ⟨sa, J, fun n' e he1 he3 he4 => ?_, pa, xa⟩
      rw [F278_J0]
      simp -implicitDefEqProofs only [sL, he1, he3, he4, r3.ld1, hpe, bs1, strip_own, ea]
    · have ea : aCall Tryz.prog (den C n) 106 [.ref P 0, .sl 9 1 [.str [125]] .sh] s = some (.bool false, sa) := by rw [← hc]; exact qa
      obtain ⟨sb, qb, pb', xb⟩ := (at_rd (ts := ts) [wEq] (by decide : 1 < 50)).use (n := n) (by omega) pa
      obtain ⟨m2, hm2, ho⟩ := ite_inv hr1
      rcases ho with ⟨hc2, hr2⟩ | ⟨hc2, hr2⟩
      · have eb : aCall Tryz.prog (den C n) 106 [.ref P 0, .sl 9 1 [.str [61]] .sh] sa = some (.bool true, sb) := by rw [← hc2]; exact qb
        obtain ⟨m3, b3, t3, c3, hm3, ha3, hr3, hz3⟩ := seq_inv hr2
        obtain ⟨rfl, rfl, rfl⟩ := ret_inv hr3
        obtain ⟨s1, J1, q1, p1, x1⟩ := (wrap_simD (ts := ts) (m := m3) (k := 23) (v := fun P => .fn 319 [] [.box [.ref P 0] 0]) (fun _ => rfl) (fun k hk => s319 (fun k hk => H k (by omega)))) n (by omega) P sb rest base k cs J b3 rest' cs' pb' ha3 hb
        have e1 : aCall Tryz.prog (den C n) 287 [.ref P 0, .int .i64 23, .fn 319 [] [.box [.ref P 0] 0]] sb = some (.tup [], s1) := q1
        refine ⟨s1, J1, fun n' e he1 he3 he4 => ?_, p1, (xa.trans xb).trans x1⟩
        rw [F278_J0]
        simp -implicitDefEqProofs only [sL, he1, he3, he4, r3.ld1, hpe, bs1, strip_own, ea, eb, e1]
      · have eb : aCall Tryz.prog (den C n) 106 [.ref P 0, .sl 9 1 [.str [61]] .sh] sa = some (.bool false, sb) := by rw [← hc2]; exact qb
        obtain ⟨m3, b3, t3, c3, hm3, ha3, hr3, hz3⟩ := seq_inv hr2
        obtain ⟨rfl, rfl, rfl⟩ := ret_inv hr3
        obtain ⟨m4, ini, t, ds, hm4, rfl, hr4, rfl⟩ := wrap_inv ha3
        rw [szL_append, szL_one, szT_mk] at hb
        have xab := xa.trans xb
        have hLb := (xab.fr L hlt hj).trans hL
        have hltb := glt hLb
        obtain ⟨n, rfl⟩ : ∃ j, n = j + 3 := ⟨n - 3, by omega⟩
        obtain ⟨s1, J1, q1, p1, x1⟩ := wrap_run (k := 26) (v := .fn 320 [] [.box [.ref P 0] 0, .ref L 0]) pb' hb rfl n fun s3 lv J3 p3 x3 => by
          have hL3 := (x3.fr L hltb (xab.notin hlt hj)).trans hLb
          obtain ⟨s4, J4, r, e4, p4, x4⟩ := s320 bl (n := n + 2) (m := m4) (by omega) p3 hr4 (by rw [app_len]; show base.length + 1 + _ < _; omega) hL3 (x3.notin hltb (xab.notin hlt hj))
          exact ⟨s4, J4, r, e4, p4, x4⟩
        have e1 : aCall Tryz.prog (den C (n + 3)) 287 [.ref P 0, .int .i64 26, .fn 320 [] [.box [.ref P 0] 0, .ref L 0]] sb = some (.tup [], s1) := q1
        refine ⟨s1, J1, fun n' e he1 he3 he4 => ?_, p1, xab.trans x1⟩
        rw [F278_J0]
        simp -implicitDefEqProofs only [sL, he1, he3, he4, r3.ld1, hpe, bs1, strip_own, ea, eb, e1]
end ParF
end

section
set_option maxRecDepth 100000
set_option maxHeartbeats 1000000
namespace ParF
open Go Go.Abs Go.Proofs Pm
theorem s278 {ts : List Tok} {m : Nat} (H : ∀ k < m, AllS ts k) : Sim ts m (gStatement) bv (fnF 278 fun P => [.ref P 0]) := by
  intro n hn P s rest base k cs J b rest' cs' h hr hb
  obtain ⟨n, rfl⟩ : ∃ j, n = j + 1 := ⟨n - 1, by omega⟩
  obtain ⟨s1, q1, p1, x1⟩ := (at_rd (ts := ts) [wLet] (by decide : 1 < 50)).use (n := n) (by omega) h
  obtain ⟨m1, hm1, ho1⟩ := ite_inv hr
  rcases ho1 with ⟨hc1, hr1⟩ | ⟨hc1, hr1⟩
  · have e1 : aCall Tryz.prog (den C n) 106 [.ref P 0, .sl 9 1 [.str [108, 101, 116]] .sh] s = some (.bool true, s1) := by rw [← hc1]; exact q1
    obtain ⟨m2, b2, t2, c2, hm2, ha2, hr2, hz2⟩ := seq_inv hr1
    obtain ⟨s3, J3, q3, p3, x3⟩ := (node_simD (ts := ts) (m := m2) (k := 22) (v := fun P => .fn 315 [.ref P 0] []) (fun _ => rfl) (fun k hk => s315 (fun k hk => H k (by omega)))) n (by omega) P s1 rest base k cs J b2 t2 c2 p1 ha2 (by omega)
    have e3 : aCall Tryz.prog (den C n) 110 [.ref P 0, .int .i64 22, .fn 315 [.ref P 0] []] s1 = some (.tup [], s3) := q3
    obtain ⟨rfl, rfl, rfl⟩ := ret_inv hr2
    refine ⟨s3, J3, ?_, p3, (x1.trans x3)⟩
    show aCall Tryz.prog (den C (n + 1)) 278 [.ref P 0] s = _
    rw [callR en278 (ref1 ..), F278_eq, F278]
    simp -implicitDefEqProofs only [sL, bs1, bs2, bs3, strip_own, aBox_ref, aBox_str, aBox_bool, aBox_int, e1, e3]
  · have e1 : aCall Tryz.prog (den C n) 106 [.ref P 0, .sl 9 1 [.str [108, 101, 116]] .sh] s = some (.bool false, s1) := by rw [← hc1]; exact q1
    obtain ⟨s4, q4, p4, x4⟩ := (at_rd (ts := ts) [wWhile] (by decide : 1 < 50)).use (n := n) (by omega) p1
    obtain ⟨m4, hm4, ho4⟩ := ite_inv hr1
    rcases ho4 with ⟨hc4, hr4⟩ | ⟨hc4, hr4⟩
    · have e4 : aCall Tryz.prog (den C n) 106 [.ref P 0, .sl 9 1 [.str [119, 104, 105, 108, 101]] .sh] s1 = some (.bool true, s4) := by rw [← hc4]; exact q4
      obtain ⟨m5, b5, t5, c5, hm5, ha5, hr5, hz5⟩ := seq_inv hr4
      obtain ⟨s6, J6, q6, p6, x6⟩ := (node_simD (ts := ts) (m := m5) (k := 24) (v := fun P => .fn 316 [] [.box [.ref P 0] 0]) (fun _ => rfl) (fun k hk => s316 (fun k hk => H k (by omega)))) n (by omega) P s4 rest base k cs J b5 t5 c5 p4 ha5 (by omega)
      have e6 : aCall Tryz.prog (den C n) 110 [.ref P 0, .int .i64 24, .fn 316 [] [.box [.ref P 0] 0]] s4 = some (.tup [], s6) := q6
      obtain ⟨rfl, rfl, rfl⟩ := ret_inv hr5
      refine ⟨s6, J6, ?_, p6, ((x1.trans x4).trans x6)⟩
      show aCall Tryz.prog (den C (n + 1)) 278 [.ref P 0] s = _
      rw [callR en278 (ref1 ..), F278_eq, F278]
      simp -implicitDefEqProofs only [sL, bs1, bs2, bs3, strip_own, aBox_ref, aBox_str, aBox_bool, aBox_int, e1, e4, e6]
    · have e4 : aCall Tryz.prog (den C n) 106 [.ref P 0, .sl 9 1 [.str [119, 104, 105, 108, 101]] .sh] s1 = some (.bool false, s4) := by rw [← hc4]; exact q4
      obtain ⟨s7, q7, p7, x7⟩ := (at_rd (ts := ts) [wReturn] (by decide : 1 < 50)).use (n := n) (by omega) p4
      obtain ⟨m7, hm7, ho7⟩ := ite_inv hr4
      rcases ho7 with ⟨hc7, hr7⟩ | ⟨hc7, hr7⟩
      · have e7 : aCall Tryz.prog (den C n) 106 [.ref P 0, .sl 9 1 [.str [114, 101, 116, 117, 114, 110]] .sh] s4 = some (.bool true, s7) := by rw [← hc7]; exact q7
        obtain ⟨m8, b8, t8, c8, hm8, ha8, hr8, hz8⟩ := seq_inv hr7
        obtain ⟨s9, J9, q9, p9, x9⟩ := (node_simD (ts := ts) (m := m8) (k := 25) (v := fun P => .fn 317 [.ref P 0] []) (fun _ => rfl) (fun k hk => s317 (fun k hk => H k (by omega)))) n (by omega) P s7 rest base k cs J b8 t8 c8 p7 ha8 (by omega)
        have e9 : aCall Tryz.prog (den C n) 110 [.ref P 0, .int .i64 25, .fn 317 [.ref P 0] []] s7 = some (.tup [], s9) := q9
        obtain ⟨rfl, rfl, rfl⟩ := ret_inv hr8
        refine ⟨s9, J9, ?_, p9, (((x1.trans x4).trans x7).trans x9)⟩
        show aCall Tryz.prog (den C (n + 1)) 278 [.ref P 0] s = _
        rw [callR en278 (ref1 ..), F278_eq, F278]
        simp -implicitDefEqProofs only [sL, bs1, bs2, bs3, strip_own, aBox_ref, aBox_str, aBox_bool, aBox_int, e1, e4, e7, e9]
      · have e7 : aCall Tryz.prog (den C n) 106 [.ref P 0, .sl 9 1 [.str [114, 101, 116, 117, 114, 110]] .sh] s4 = some (.bool false, s7) := by rw [← hc7]; exact q7
        obtain ⟨pos10, tk10, st10, r10, hd10, hl10⟩ := p7.rdy
        obtain ⟨s10, q10, p10, x10⟩ := (at_rd (ts := ts) [wIf, wMatch, wLBr] (by decide : 3 < 50)).use (n := n) (by omega) p7
        obtain ⟨m10, hm10, ho10⟩ := ite_inv hr7
        rcases ho10 with ⟨hc10, hr10⟩ | ⟨hc10, hr10⟩
        · have e10 : aCall Tryz.prog (den C n) 106 [.ref P 0, .sl 9 1 [.str [105, 102], .str [109, 97, 116, 99, 104], .str [123]] .sh] s7 = some (.bool true, s10) := by rw [← hc10]; exact q10
          obtain ⟨m11, b11, t11, c11, hm11, ha11, hz11, ho11⟩ := stm_inv hr10
          have pa11 := p10.app [(4, [.bool true])]
          have nj11 : s10.length ∉ J := fun hm => by obtain ⟨pp, ii, _, hh⟩ := p10; exact Nat.lt_irrefl _ (hh.lt _ hm)
          obtain ⟨sc11, Jc11, qc11, pc11, xc11⟩ := ((H m11 (by omega)).pr) n (by omega) P _ rest base k cs J b11 t11 c11 pa11 ha11 (by omega)
          have ec11 : aCall Tryz.prog (den C n) 318 [.ref P 0] (s10 ++ [(4, [.bool true])]) = some (.tup [], sc11) := qc11
          have hL11 := (xc11.fr s10.length (by rw [app_length]; omega) nj11).trans gapp_new
          obtain ⟨s11, J11, et11, p11, x11⟩ := stm_tail (rest0 := rest) (m := m11) (fun k hk => H k (by omega)) true (n := n) (by omega) pc11 hl10 ho11 hb hL11 (xc11.notin (by rw [app_length]; omega) nj11)
          have sto11 : aStore 1 (s10 ++ [(4, [.bool false])]) (.ref s10.length 0) (.bool true) = some (s10 ++ [(4, [.bool true])]) := by rw [ParF.st (o := 0) (n := 1) (v := .bool true) gapp_new (by decide) rfl rfl (by show 0 + 1 ≤ 1; omega), set_end]; rfl
          have ld11 : aLoad false false 1 (.ref s10.length 0) (s10 ++ [(4, [.bool true])]) = some (.bool true, s10 ++ [(4, [.bool true])]) := ld (n := 1) (o := 0) (gapp_new (x := (4, [.bool true]))) (by decide) rfl (by decide)
          refine ⟨s11, J11, ?_, p11, ((((((x1.trans x4).trans x7).trans x10).trans (Ex.app _ _ _)).trans xc11).trans x11)⟩
          show aCall Tryz.prog (den C (n + 1)) 278 [.ref P 0] s = _
          rw [callR en278 (ref1 ..), F278_eq, F278]
          simp -implicitDefEqProofs only [sL, bs1, bs2, bs3, strip_own, aBox_ref, aBox_str, aBox_bool, aBox_int, e1, e4, e7, r10.ld1, e10, zero4, sto11, ld11, ec11]
          exact et11 _ _ rfl rfl rfl
        · have e10 : aCall Tryz.prog (den C n) 106 [.ref P 0, .sl 9 1 [.str [105, 102], .str [109, 97, 116, 99, 104], .str [123]] .sh] s7 = some (.bool false, s10) := by rw [← hc10]; exact q10
          obtain ⟨m12, b12, t12, c12, hm12, ha12, hz12, ho12⟩ := stm_inv hr10
          have pa12 := p10.app [(4, [.bool false])]
          have nj12 : s10.length ∉ J := fun hm => by obtain ⟨pp, ii, _, hh⟩ := p10; exact Nat.lt_irrefl _ (hh.lt _ hm)
          obtain ⟨sc12, Jc12, qc12, pc12, xc12⟩ := ((H m12 (by omega)).ex) n (by omega) P _ rest base k cs J b12 t12 c12 pa12 ha12 (by omega)
          have ec12 : aCall Tryz.prog (den C n) 186 [.ref P 0] (s10 ++ [(4, [.bool false])]) = some (.tup [], sc12) := qc12
          have hL12 := (xc12.fr s10.length (by rw [app_length]; omega) nj12).trans gapp_new
          obtain ⟨s12, J12, et12, p12, x12⟩ := stm_tail (rest0 := rest) (m := m12) (fun k hk => H k (by omega)) false (n := n) (by omega) pc12 hl10 ho12 hb hL12 (xc12.notin (by rw [app_length]; omega) nj12)
          have sto12 : aStore 1 (s10 ++ [(4, [.bool false])]) (.ref s10.length 0) (.bool false) = some (s10 ++ [(4, [.bool false])]) := by rw [ParF.st (o := 0) (n := 1) (v := .bool false) gapp_new (by decide) rfl rfl (by show 0 + 1 ≤ 1; omega), set_end]; rfl
          have ld12 : aLoad false false 1 (.ref s10.length 0) (s10 ++ [(4, [.bool false])]) = some (.bool false, s10 ++ [(4, [.bool false])]) := ld (n := 1) (o := 0) (gapp_new (x := (4, [.bool false]))) (by decide) rfl (by decide)
          refine ⟨s12, J12, ?_, p12, ((((((x1.trans x4).trans x7).trans x10).trans (Ex.app _ _ _)).trans xc12).trans x12)⟩
          show aCall Tryz.prog (den C (n + 1)) 278 [.ref P 0] s = _
          rw [callR en278 (ref1 ..), F278_eq, F278]
          simp -implicitDefEqProofs only [sL, bs1, bs2, bs3, strip_own, aBox_ref, aBox_str, aBox_bool, aBox_int, e1, e4, e7, r10.ld1, e10, zero4, sto12, ld12, ec12]
          exact et12 _ _ rfl rfl rfl
end ParF
end

section
set_option maxRecDepth 100000
set_option maxHeartbeats 1000000
namespace ParF
open Go Go.Abs Go.Proofs Pm
theorem noRef_ref (i o : Nat) : (AV.ref i o).noRef = false := rfl
def blkC : Cnd := fun t _ _ => !atT [wRBr] t && !(t.1 == 100) && !atT itemKws t
theorem blk_out {ts : List Tok} {n P : Nat} {s : Heap} {v : Bool} {m8 m7 : Nat} (h8 : m8 * 20 + ts.length + 100 ≤ n) (h7 : m7 * 20 + ts.length + 100 ≤ n) {t9 t8 rest' : List Tok} {c9 c8 cs' : List Tree} {base : List Lv} {k : Nat} {J : List Nat} {b8 b' : Bool}
    (h : PR ts P s t9 base k c9 J) (hr8 : run m8 (if v = true then nop else .put 0) t9 c9 = some (b8, t8, c8)) (hr7 : run m7 (gExpect wRBr) t8 c8 = some (b', rest', cs')) (hb : base.length + szL cs' < 900000000) :
    ∃ s1 s' J', (v = false → aCall Tryz.prog (den C n) 226 [.ref P 0] s = some (.tup [], s1)) ∧ (v = true → s1 = s) ∧ aCall Tryz.prog (den C n) 184 [.ref P 0, .str [125]] s1 = some (.tup [], s') ∧ PR ts P s' rest' base k cs' J' ∧ Ex s s' J J' := by
  have hz8 : szL c8 ≤ szL cs' := runs_sz (runs_of _ _ _ _ _ _ _ hr7)
  cases v with
  | true =>
    obtain ⟨-, rfl, rfl⟩ := ret_inv hr8
    obtain ⟨s', J', e, p, x⟩ := expect_sim ts m7 wRBr n h7 P s t8 base k c8 J b' rest' cs' h hr7 hb
    exact ⟨s, s', J', nofun, fun _ => rfl, e, p, x⟩
  | false =>
    obtain ⟨s1, J1, e1, p1, x1⟩ := (put_sim ts m8).2.2 n h8 P s t9 base k c9 J b8 t8 c8 h hr8 (by omega)
    obtain ⟨s', J', e, p, x⟩ := expect_sim ts m7 wRBr n h7 P s1 t8 base k c8 J1 b' rest' cs' p1 hr7 hb
    exact ⟨s1, s', J', fun _ => e1, nofun, e, p, x1.trans x⟩
theorem l277_done {n P : Nat} {s s' : Heap} (k3 : aCall Tryz.prog (den C n) 184 [.ref P 0, .str [125]] s = some (.tup [], s')) {M n' : Nat} {e : Env} (he0 : e 0 = pb P) (he1 : e 1 = .bool true) : aLoop (F277_L0 (den C n) n') (M + 1) e s = some (.tup [], s') := by
  rw [aLoop, F277_L0]
  simp -implicitDefEqProofs only [sL, he0, he1, Bool.false_eq_true, ite_false, F277_J1, upds_at, upds_nil, upd_at, zne, k3, kGd_false]
  exact drawOK_base (by kernel_rfl)
theorem l277 {ts : List Tok} {n P : Nat} {m8 m7 : Nat} (h8 : m8 * 20 + ts.length + 100 ≤ n) (h7 : m7 * 20 + ts.length + 100 ≤ n) : ∀ (m : Nat), (∀ k < m, AllS ts k) → m * 20 + ts.length + 110 ≤ n → ∀ s rest base k cs J v t9 c9 b8 t8 c8 b' rest' cs', PR ts P s rest base k cs J → run m (.whil blkC (.call 2)) rest cs = some (v, t9, c9) →
    run m8 (if v = true then nop else .put 0) t9 c9 = some (b8, t8, c8) → run m7 (gExpect wRBr) t8 c8 = some (b', rest', cs') → base.length + szL cs' < 900000000 →
    ∃ s' J', (∀ M n' e, m + 1 < M → e 0 = pb P → e 1 = .bool false → aLoop (F277_L0 (den C n) n') M e s = some (.tup [], s')) ∧ PR ts P s' rest' base k cs' J' ∧ Ex s s' J J' := by
  intro m
  induction m with
  | zero => intro _ _ s rest base k cs J v t9 c9 b8 t8 c8 b' rest' cs' h hr; rw [Pm.run_zero] at hr; cases hr
  | succ m ih =>
    intro H hn s rest base k cs J v t9 c9 b8 t8 c8 b' rest' cs' h hr hr8 hr7 hb
    have hn0 : m * 20 + ts.length + 110 ≤ n := by omega
    have H0 : ∀ k < m, AllS ts k := fun k hk => H k (Nat.lt_succ_of_lt hk)
    have hz9 : szL c9 ≤ szL cs' := Nat.le_trans (runs_sz (runs_of _ _ _ _ _ _ _ hr8)) (runs_sz (runs_of _ _ _ _ _ _ _ hr7))
    have hmn : (m + 1) * 20 + ts.length + 100 ≤ n := by omega
    obtain ⟨sa, qa, pa, xa⟩ := (at_rd (ts := ts) [wRBr] (by decide : 1 < 50)).use (n := n) (by omega) h
    obtain ⟨sb, qb, pb', xb⟩ := (eof_rd ts).use (n := n) (by omega) pa
    have ek := itemKeywords_run.of (n := n) (by omega) sb
    obtain ⟨sc, qc, pc, xc⟩ := (at_rd (ts := ts) itemKws (by decide)).use (n := n) (by omega) pb'
    have hs : (strs itemKws).strip = strs itemKws := rfl
    have nr1 : noRefL [AV.ref P 0, .sl 9 1 [.str [125]] .sh] = false := ref1 ..
    have nr2 : noRefL [AV.ref P 0] = false := ref1 ..
    have nr3 : noRefL [AV.ref P 0, strs itemKws] = false := ref1 ..
    have hev : ev blkC rest = (!atT [wRBr] (pk rest) && !(ev rEof rest) && !atT itemKws (pk rest)) := rfl
    obtain ⟨m', hm', hw⟩ := whil_inv hr
    cases hm'
    have qa' : aCall Tryz.prog (den C n) 106 [.ref P 0, .sl 9 1 [.str [125]] .sh] s = some (.bool (atT [wRBr] (pk rest)), sa) := qa
    have qb2 : aCall Tryz.prog (den C n) 59 [.ref P 0] sa = some (.bool (ev rEof rest), sb) := qb
    have qc2 : aCall Tryz.prog (den C n) 106 [.ref P 0, strs itemKws] sb = some (.bool (atT itemKws (pk rest)), sc) := qc
    rcases hw with ⟨hc, rfl, rfl, rfl⟩ | ⟨hc, hrb, rfl⟩ | ⟨hc, tw, cw, hrb, hrw, hzw⟩
    · -- the end
      rw [hc] at hev
      cases h1 : atT [wRBr] (pk t9) with
      | true =>
        rw [h1] at qa'
        obtain ⟨s1, s', J', k1, k2, k3, p', x'⟩ := blk_out h8 h7 pa hr8 hr7 hb
        have k1 := k1 rfl
        refine ⟨s', J', fun M n' e hM he0 he1 => ?_, p', xa.trans x'⟩
        obtain ⟨M, rfl⟩ : ∃ j, M = j + 1 := ⟨M - 1, by omega⟩
        rw [aLoop, F277_L0]
        simp -implicitDefEqProofs only [sL, he0, he1, bs1, strip_own, qa', nr1, Bool.false_eq_true, ite_false, k1, F277_J1, upds_at, upds_nil, upd_at, zne, k3, kGd_false]
        exact drawOK_base (by kernel_rfl)
      | false =>
        rw [h1] at qa' hev
        cases h2 : ev rEof t9 with
        | true =>
          rw [h2] at qb2
          obtain ⟨s1, s', J', k1, k2, k3, p', x'⟩ := blk_out h8 h7 pb' hr8 hr7 hb
          have k1 := k1 rfl
          refine ⟨s', J', fun M n' e hM he0 he1 => ?_, p', (xa.trans xb).trans x'⟩
          obtain ⟨M, rfl⟩ : ∃ j, M = j + 1 := ⟨M - 1, by omega⟩
          rw [aLoop, F277_L0]
          simp -implicitDefEqProofs only [sL, he0, he1, bs1, strip_own, qa', qb2, nr1, nr2, Bool.false_eq_true, ite_false, k1, F277_J1, upds_at, upds_nil, upd_at, zne, k3, kGd_false]
          exact drawOK_base (by kernel_rfl)
        | false =>
          rw [h2] at qb2 hev
          have h3 : atT itemKws (pk t9) = true := by simpa using hev
          rw [h3] at qc2
          obtain ⟨s1, s', J', k1, k2, k3, p', x'⟩ := blk_out h8 h7 pc hr8 hr7 hb
          have k1 := k1 rfl
          refine ⟨s', J', fun M n' e hM he0 he1 => ?_, p', ((xa.trans xb).trans xc).trans x'⟩
          obtain ⟨M, rfl⟩ : ∃ j, M = j + 1 := ⟨M - 1, by omega⟩
          rw [aLoop, F277_L0]
          simp -implicitDefEqProofs only [sL, he0, he1, bs1, strip_own, qa', qb2, ek, hs, qc2, nr1, nr2, nr3, Bool.false_eq_true, ite_false, k1, F277_J1, upds_at, upds_nil, upd_at, zne, k3, kGd_false, d277_2]
    · -- the value
      rw [hc] at hev
      simp only [Bool.true_eq, Bool.and_eq_true, Bool.not_eq_true'] at hev
      obtain ⟨⟨h1, h2⟩, h3⟩ := hev
      rw [h1] at qa'
      rw [h2] at qb2
      rw [h3] at qc2
      obtain ⟨s4, J4, q4, p4, x4⟩ := (H m (Nat.lt_succ_self m)).st n (by omega) P sc rest base k cs J true t9 c9 pc hrb (by omega)
      have e4 : aCall Tryz.prog (den C n) 278 [.ref P 0] sc = some (.bool true, s4) := q4
      obtain ⟨s1, s', J', k1, k2, k3, p', x'⟩ := blk_out h8 h7 p4 hr8 hr7 hb
      have k2 := k2 rfl
      subst k2
      refine ⟨s', J', fun M n' e hM he0 he1 => ?_, p', (((xa.trans xb).trans xc).trans x4).trans x'⟩
      obtain ⟨M, rfl⟩ : ∃ j, M = j + 2 := ⟨M - 2, by omega⟩
      rw [aLoop, F277_L0]
      simp -implicitDefEqProofs only [sL, he0, he1, bs1, strip_own, qa', qb2, ek, hs, qc2, nr1, nr2, nr3, Bool.false_eq_true, ite_false, d277_2, e4]
      exact l277_done k3 ((upds_get _ _ _ rfl).trans he0) (by simp [upds_at, upd_at])
    · -- one more
      rw [hc] at hev
      simp only [Bool.true_eq, Bool.and_eq_true, Bool.not_eq_true'] at hev
      obtain ⟨⟨h1, h2⟩, h3⟩ := hev
      rw [h1] at qa'
      rw [h2] at qb2
      rw [h3] at qc2
      obtain ⟨s4, J4, q4, p4, x4⟩ := (H m (Nat.lt_succ_self m)).st n (by omega) P sc rest base k cs J false tw cw pc hrb (by omega)
      have e4 : aCall Tryz.prog (den C n) 278 [.ref P 0] sc = some (.bool false, s4) := q4
      obtain ⟨s6, J6, e6, p6, x6⟩ := ih H0 hn0 s4 tw base k cw J4 v t9 c9 b8 t8 c8 b' rest' cs' p4 hrw hr8 hr7 hb
      refine ⟨s6, J6, fun M n' e hM he0 he1 => ?_, p6, (((xa.trans xb).trans xc).trans x4).trans x6⟩
      obtain ⟨M, rfl⟩ : ∃ j, M = j + 1 := ⟨M - 1, by omega⟩
      rw [aLoop, F277_L0]
      simp -implicitDefEqProofs only [sL, he0, he1, bs1, strip_own, qa', qb2, ek, hs, qc2, nr1, nr2, nr3, Bool.false_eq_true, ite_false, d277_2, e4]
      exact e6 _ _ _ (by omega) ((upds_get _ _ _ rfl).trans he0) (by simp [upds_at, upd_at])
theorem s277 {ts : List Tok} {m : Nat} (H : ∀ k < m, AllS ts k) : Sim ts m (.seq (gExpect wLBr) (.seq (.bra (.whil blkC (.call 2)) nop (.put 0)) (gExpect wRBr))) vd (fnF 277 fun P => [.box [.ref P 0] 0]) := by
  intro n hn P s rest base k cs J b rest' cs' h hr hb
  obtain ⟨n, rfl⟩ : ∃ j, n = j + 1 := ⟨n - 1, by omega⟩
  obtain ⟨m1, b1, t1, c1, hm1, ha1, hr1, hz1⟩ := seq_inv hr
  obtain ⟨m2, b2, t2, c2, hm2, ha2, hr2, hz2⟩ := seq_inv hr1
  obtain ⟨m3, v, t3, c3, hm3, ha3, hz3, ho3⟩ := bra_inv ha2
  have hr8 : run m3 (if v = true then nop else .put 0) t3 c3 = some (b2, t2, c2) := by
    rcases ho3 with ⟨hv, h⟩ | ⟨hv, h⟩ <;> subst hv <;> exact h
  obtain ⟨s1, J1, q1, p1, x1⟩ := expect_sim ts m1 wLBr n (by omega) P s rest base k cs J b1 t1 c1 h ha1 (by omega)
  have e1 : aCall Tryz.prog (den C n) 184 [.ref P 0, .str [123]] s = some (.tup [], s1) := q1
  obtain ⟨s2, J2, e2, p2, x2⟩ := l277 (P := P) (n := n) (m8 := m3) (m7 := m2) (by omega) (by omega) m3 (fun k hk => H k (by omega)) (by omega) s1 t1 base k c1 J1 v t3 c3 b2 t2 c2 b rest' cs' p1 ha3 hr8 hr2 hb
  refine ⟨s2, J2, ?_, p2, x1.trans x2⟩
  show aCall Tryz.prog (den C (n + 1)) 277 [.box [.ref P 0] 0] s = _
  rw [callR en277 (box1 ..), F277_eq, F277]
  simp -implicitDefEqProofs only [sL, e1]
  exact e2 _ _ _ (by omega) rfl rfl
theorem s227 {ts : List Tok} {m : Nat} (H : ∀ k < m, AllS ts k) : Sim ts m gBlock vd (fnF 227 fun P => [.ref P 0]) := by
  intro n hn P s rest base k cs J b rest' cs' h hr hb
  obtain ⟨n, rfl⟩ : ∃ j, n = j + 1 := ⟨n - 1, by omega⟩
  obtain ⟨s1, J1, q1, p1, x1⟩ := (node_simD (ts := ts) (m := m) (k := 21) (v := fun P => .fn 277 [] [.box [.ref P 0] 0]) (fun _ => rfl) (fun k hk => s277 (fun k hk => H k (by omega)))) n (by omega) P s rest base k cs J b rest' cs' h hr hb
  have e1 : aCall Tryz.prog (den C n) 110 [.ref P 0, .int .i64 21, .fn 277 [] [.box [.ref P 0] 0]] s = some (.tup [], s1) := q1
  refine ⟨s1, J1, ?_, p1, x1⟩
  show aCall Tryz.prog (den C (n + 1)) 227 [.ref P 0] s = _
  rw [callR en227 (ref1 ..), F227_eq, F227]
  simp -implicitDefEqProofs only [sL, aBox_ref, e1]
theorem all_sim (ts : List Tok) : ∀ (n m : Nat), m < n → AllS ts m := by
  intro n
  induction n with
  | zero => intro m h; omega
  | succ n ih =>
    intro m hm
    have H : ∀ k < m, ∀ j < k, AllS ts j := fun k hk j hj => ih j (by omega)
    refine ⟨call_sim fun k hk => s185 (H k hk), call_sim fun k hk => s227 (H k hk), call_sim fun k hk => s278 (H k hk), call_sim fun k hk => s318 (H k hk), call_sim fun k hk => s334 (H k hk), call_sim fun k hk => s338 (H k hk), ?_, call_sim fun k hk => s285 (H k hk), ?_⟩
    · intro n hn P s rest base k cs J b rest' cs' h hr hb
      obtain ⟨m', hm', hr1⟩ := call_inv hr
      obtain ⟨n, rfl⟩ : ∃ j, n = j + 1 := ⟨n - 1, by omega⟩
      obtain ⟨s1, J1, q1, p1, x1⟩ := s241 (ts := ts) (m := m') 0 (by decide) (H m' (by omega)) n (by omega) P s rest base k cs J b rest' cs' h hr1 hb
      have e1 : aCall Tryz.prog (den C n) 241 [.ref P 0, .int .i64 0] s = some (.tup [], s1) := q1
      refine ⟨s1, J1, ?_, p1, x1⟩
      show aCall Tryz.prog (den C (n + 1)) 186 [.ref P 0] s = _
      rw [callR en186 (ref1 ..), F186_eq, F186]
      simp -implicitDefEqProofs only [sL, e1]
    · intro l hl
      by_cases h5 : l = 5
      · subst h5
        intro n hn P s rest base k cs J b rest' cs' h hr hb
        obtain ⟨m', hm', hr1⟩ := call_inv hr
        obtain ⟨n, rfl⟩ : ∃ j, n = j + 1 := ⟨n - 1, by omega⟩
        obtain ⟨s1, J1, q1, p1, x1⟩ := s285 (ts := ts) (m := m') (H m' (by omega)) n (by omega) P s rest base k cs J b rest' cs' h hr1 hb
        have e1 : aCall Tryz.prog (den C n) 285 [.ref P 0] s = some (.tup [], s1) := q1
        refine ⟨s1, J1, ?_, p1, x1⟩
        show aCall Tryz.prog (den C (n + 1)) 241 [.ref P 0, .int .i64 5] s = _
        rw [callR en241 (ref1 ..), F241_eq, F241]
        simp -implicitDefEqProofs only [sL, show ((5 : Int) == 5) = true from rfl, aBox_ref, aBox_int, e1]
      · refine call_sim fun k hk => ?_
        have hd : defs (10 + l) = gBinary l := by
          match l, hl, h5 with
          | 0, _, _ => rfl
          | 1, _, _ => rfl
          | 2, _, _ => rfl
          | 3, _, _ => rfl
          | 4, _, _ => rfl
          | 5, _, h5 => exact absurd rfl h5
        rw [hd]
        exact s241 l (by omega) (H k hk)
theorem allS (ts : List Tok) (m : Nat) : AllS ts m := all_sim ts (m + 1) m (Nat.lt_succ_self m)
end ParF
end

section
set_option maxRecDepth 100000
set_option maxHeartbeats 1000000
namespace ParF
open Go Go.Abs Go.Proofs Pm
theorem insN_inv {m : Nat} {ts ts' : List Tok} {cs cs' : List Tree} {b : Bool} (h : run m .insN ts cs = some (b, ts', cs')) : ∃ ini t, cs = ini ++ [t] ∧ cs' = ini ++ [.mk 0 [] [], t] ∧ ts' = ts ∧ b = false := by
  obtain ⟨m, rfl⟩ := run_pos h
  rw [run_insN] at h
  obtain ⟨t, h0, h⟩ := Option.bind_eq_some_iff.1 h
  cases h
  exact ⟨cs.dropLast, t, getLast_split h0, rfl, rfl, rfl⟩
theorem en236 : enterable Tryz.prog 236 = true := by kernel_rfl
theorem ins_run {ts : List Tok} {P : Nat} {s : Heap} {rest : List Tok} {base : List Lv} {k0 : Nat} {ini : List Tree} {t : Tree} {J : List Nat} (h : PR ts P s rest base k0 (ini ++ [t]) J) (hb : ini.length < 900000000) :
    ∃ Q id s1 s' J', aLoad false false 1 (.ref P 2) s = some (.rs 52 3 Q 0 (base.length + 1), s) ∧ aLoad false false 1 (.ref Q (base.length * 3 + 2)) s = some (.rs 52 3 id 0 (ini.length + 1), s) ∧
      (∀ n, aCall Tryz.prog (den C (n + 1)) 236 [.rs 52 3 id 0 (ini.length + 1), I ini.length, .sl 52 3 [zrow] .sh] s = some (.rs 52 3 s.length 0 (ini.length + 2), s1)) ∧
      aStore 1 s1 (.ref Q (base.length * 3 + 2)) (.rs 52 3 s.length 0 (ini.length + 2)) = some s' ∧ PR ts P s' rest base k0 (ini ++ [.mk 0 [] [], t]) J' ∧ Ex s s' J J' := by
  obtain ⟨pos, i, rfl, h⟩ := h
  obtain ⟨tk, Q, junk, f, rfl⟩ := h.facts
  have hP := glt f.par
  have hQ := glt f.row
  have hok := f.ok
  obtain ⟨id, rfl⟩ : ∃ id, i = some id := by
    cases i with
    | none => have h0 : ini ++ [t] = [] := hok; simp at h0
    | some id => exact ⟨id, rfl⟩
  obtain ⟨rows, cj, h1, h2, h3⟩ := hok
  obtain ⟨r1, r2, rfl, l1, l2⟩ := IsL.split h2
  cases l2 with
  | cons _ a _ _ ht l3 =>
  cases l3 with
  | nil =>
  obtain ⟨c1, c2, c3, c4⟩ := ht.cells
  obtain ⟨d1, d2, d3, d4⟩ := l1.cells
  obtain ⟨tP, tQ, tl⟩ := f.top id rfl
  rw [cellsOf_snoc] at h1
  have hil : (ini ++ [t]).length = ini.length + 1 := by rw [app_len]; rfl
  have e3 : (ini.length + 1 - 1) * 3 = (cellsOf r1).length := by omega
  have tk1 : (cellsOf r1 ++ a.cells ++ cj).take ((ini.length + 1 - 1) * 3) = cellsOf r1 := by
    rw [e3, List.append_assoc, List.take_append_of_le_length (Nat.le_refl _), List.take_of_length_le (Nat.le_refl _)]
  have dk1 : ((cellsOf r1 ++ a.cells ++ cj).drop ((ini.length + 1 - 1) * 3)).take 3 = a.cells := by
    rw [e3, List.append_assoc, List.drop_left, List.take_append_of_le_length (by omega), List.take_of_length_le (by omega)]
  have ecall : ∀ n, aCall Tryz.prog (den C (n + 1)) 236 [.rs 52 3 id 0 (ini.length + 1), I ini.length, .sl 52 3 [zrow] .sh] s = some (.rs 52 3 s.length 0 (ini.length + 2), kill s id ++ [(52, cellsOf r1 ++ [I 0, .str [], .nils] ++ a.cells)]) := by
    intro n
    rw [callR en236 (by rw [noRefL_cons]; rfl), den_ext (e := eInsert) (by rfl)]
    simp only [eInsert, h1]
    have ow1 : a.cells.all (fun x => !x.isOwn) = true := by
      rw [← c2, List.all_eq_true]; intro x hx
      obtain ⟨q, _, rfl⟩ := List.mem_map.1 hx
      rw [strip_isOwn]; rfl
    rw [if_pos ⟨trivial, trivial, trivial, by omega, by omega, by first | exact trivial | rfl, by rw [app_len, app_len]; omega, by omega, by rw [dk1]; exact ow1⟩, tk1, dk1]
    rfl
  have fr1 : ∀ x, x < s.length → x ≠ id → (kill s id ++ [(52, cellsOf r1 ++ [I 0, .str [], .nils] ++ a.cells)])[x]? = s[x]? := fun x hx hne => by
    rw [gapp_old (by rw [kill_length]; exact hx), gkill_ne (Ne.symm hne)]
  have gnew : (kill s id ++ [(52, cellsOf r1 ++ [I 0, .str [], .nils] ++ a.cells)])[s.length]? = some (52, cellsOf r1 ++ [I 0, .str [], .nils] ++ a.cells) := by
    have := gapp_new (s := kill s id) (x := (52, cellsOf r1 ++ [I 0, .str [], .nils] ++ a.cells))
    rw [kill_length] at this; exact this
  have q1 := (fr1 Q hQ (Ne.symm tQ)).trans f.row
  have len1 : (kill s id ++ [(52, cellsOf r1 ++ [I 0, .str [], .nils] ++ a.cells)]).length = s.length + 1 := by rw [app_length, kill_length]
  generalize hs1 : kill s id ++ [(52, cellsOf r1 ++ [I 0, .str [], .nils] ++ a.cells)] = s1 at *
  have hrl := row_length (base ++ [(⟨k0, ini ++ [t], some id⟩ : Lv)])
  rw [app_len] at hrl
  have st1 := ParF.st (s := s1) (o := base.length * 3 + 2) (n := 1) (v := .rs 52 3 s.length 0 (ini.length + 2)) q1 (by decide) rfl rfl (by rw [app_len, hrl]; show _ ≤ 3 * (base.length + 1) + _; omega)
  have hst' : stCells (.rs 52 3 s.length 0 (ini.length + 2)) = [AV.rs 52 3 s.length 0 (ini.length + 2)] := rfl
  rw [hst', row_set] at st1
  have fr2 : ∀ x, x ≠ Q → (s1.set Q (52, base.flatMap Lv.row ++ [I (k0 : Nat), .str [], .rs 52 3 s.length 0 (ini.length + 2)] ++ junk))[x]? = s1[x]? := fun x hne => gset_ne (Ne.symm hne)
  refine ⟨Q, id, s1, _, _, ld (o := 2) f.par (by decide) rfl (by decide), ?_, ecall, st1, ⟨pos, some s.length, rfl, Fs.ps (tk := tk) (Q := Q) (junk := junk) (l := ⟨k0, ini ++ [.mk 0 [] [], t], some s.length⟩) ⟨f.htk, ?_, ?_, f.ne, fun i hi => ?_, fun i hi => ?_, f.nd, ⟨r1 ++ [zrow, a], [], ?_, ?_, ?_⟩, fun l' hl' => ?_, f.pos, f.len⟩⟩, ?_⟩
  · rw [ld (n := 1) (o := base.length * 3 + 2) f.row (by decide) (row_at 2 (by decide)) (by decide), ch_strip, ← hil]; rfl
  · rw [fr2 P f.ne, fr1 P hP (Ne.symm tP)]; exact f.par
  · have e2 : (ini ++ [Tree.mk 0 [] [], t]).length = ini.length + 2 := by rw [app_len]; rfl
    rw [gset_eq q1, flat_snoc]
    show _ = some (52, base.flatMap Lv.row ++ [I (k0 : Nat), .str [], .rs 52 3 s.length 0 (ini ++ [Tree.mk 0 [] [], t]).length] ++ junk)
    rw [e2]
  · obtain ⟨a1, a2, a3, a4⟩ := f.hbase i hi
    exact ⟨a1, a2, by rw [set_length]; omega, fun e => by cases e; omega⟩
  · cases hi
    exact ⟨by omega, by omega, by rw [set_length]; omega⟩
  · rw [fr2 s.length (by omega), gnew, cellsOf_append]
    show _ = some (52, cellsOf r1 ++ (zrow.cells ++ (a.cells ++ [])) ++ [])
    rw [List.append_nil, List.append_nil, List.append_assoc]
    rfl
  · exact l1.append (.cons _ _ _ _ (.mk _ _ _ _ .nil) (.cons _ _ _ _ ht .nil))
  · intro e; have := congrArg List.length e; rw [cellsOf_append, app_len, app_len] at this
    have h0 : (cellsOf [zrow, a]).length = 3 + (a.cells.length + 0) := by
      show (zrow.cells ++ (a.cells ++ [])).length = _
      rw [app_len, app_len]; rfl
    rw [h0] at this
    simp at this
  · refine Lv.ok_frame (f.oks l' hl') fun i hi => ?_
    obtain ⟨a1, a2, a3, a4⟩ := f.hbase i (List.mem_filterMap.2 ⟨l', hl', hi⟩)
    rw [fr2 i a2, fr1 i a3 (fun e => a4 (by rw [e]))]
  · refine ⟨by rw [set_length]; omega, fun x hx hj => ?_, fun x hx => ?_⟩
    · unfold JJ at hj
      simp only [List.mem_cons, List.mem_append, Option.mem_toList, not_or] at hj
      rw [fr2 x hj.2.1, fr1 x hx (fun e => hj.2.2.2 (by rw [e]))]
    · unfold JJ at hx ⊢
      simp only [List.mem_cons, List.mem_append, Option.mem_toList] at hx ⊢
      rcases hx with k | k | k | k
      · exact .inl (.inl k)
      · exact .inl (.inr (.inl k))
      · exact .inl (.inr (.inr (.inl k)))
      · cases k; exact .inr (Nat.le_refl _)
end ParF
end

section
set_option maxRecDepth 100000
set_option maxHeartbeats 1000000
namespace ParF
open Go Go.Abs Go.Proofs Pm
theorem s183 {ts : List Tok} {m : Nat} (H : ∀ k < m, AllS ts k) : Sim ts m (gImpl) vd (fnF 183 fun P => [.ref P 0]) := by
  intro n hn P s rest base k cs J b rest' cs' h hr hb
  obtain ⟨n, rfl⟩ : ∃ j, n = j + 1 := ⟨n - 1, by omega⟩
  obtain ⟨m1, b1, t1, c1, hm1, ha1, hr1, hz1⟩ := seq_inv hr
  obtain ⟨s2, J2, q2, p2, x2⟩ := (s224 (ts := ts) (m := m1) (fun k hk => H k (by omega))) n (by omega) P s rest base k cs J b1 t1 c1 h ha1 (by omega)
  have e2 : aCall Tryz.prog (den C n) 224 [.ref P 0] s = some (.tup [], s2) := q2
  obtain ⟨m3, b3, t3, c3, hm3, ha3, hr3, hz3⟩ := seq_inv hr1
  obtain ⟨s4, J4, q4, p4, x4⟩ := ((H m3 (by omega)).ty) n (by omega) P s2 t1 base k c1 J2 b3 t3 c3 p2 ha3 (by omega)
  have e4 : aCall Tryz.prog (den C n) 185 [.ref P 0] s2 = some (.tup [], s4) := q4
  obtain ⟨m5, b5, t5, c5, hm5, ha5, hr5, hz5⟩ := seq_inv hr3
  obtain ⟨m6, hm6, ho6⟩ := ite_inv ha5
  rcases ho6 with ⟨hc6, hr6⟩ | ⟨hc6, hr6⟩
  · obtain ⟨m7, b7, t7, c7, hm7, ha7, hr7, hz7⟩ := seq_inv hr6
    obtain ⟨s7, J7, q7, p7, x7⟩ := acc_yes [wFor] (by decide : 1 < 50) (n := n) (by omega) p4 hc6 ha7 (by omega)
    have e7 : aCall Tryz.prog (den C n) 112 [.ref P 0, .sl 9 1 [.str [102, 111, 114]] .sh] s4 = some (.bool true, s7) := q7
    obtain ⟨s8, J8, q8, p8, x8⟩ := ((H m7 (by omega)).ty) n (by omega) P s7 t7 base k c7 J7 b5 t5 c5 p7 hr7 (by omega)
    have e8 : aCall Tryz.prog (den C n) 185 [.ref P 0] s7 = some (.tup [], s8) := q8
    obtain ⟨s9, J9, q9, p9, x9⟩ := (s182 (ts := ts) (m := m5) (fun k hk => H k (by omega))) n (by omega) P s8 t5 base k c5 J8 b rest' cs' p8 hr5 (by omega)
    have e9 : aCall Tryz.prog (den C n) 182 [.ref P 0] s8 = some (.tup [], s9) := q9
    refine ⟨s9, J9, ?_, p9, ((((x2.trans x4).trans x7).trans x8).trans x9)⟩
    show aCall Tryz.prog (den C (n + 1)) 183 [.ref P 0] s = _
    rw [callR en183 (ref1 ..), F183_eq, F183]
    simp -implicitDefEqProofs only [sL, bs1, bs2, bs3, strip_own, aBox_ref, aBox_str, aBox_bool, aBox_int, F183_J0, upds_at, upds_nil, upd_at, argEnv_0, argEnv_1, zne, ite_false, e2, e4, e7, e8, e9]
  · obtain ⟨s10, q10, p10, x10⟩ := acc_no [wFor] (by decide : 1 < 50) (n := n) (by omega) p4 hc6
    have e10 : aCall Tryz.prog (den C n) 112 [.ref P 0, .sl 9 1 [.str [102, 111, 114]] .sh] s4 = some (.bool false, s10) := q10
    obtain ⟨ini11, tt11, hcs11, hcs'11, rfl, hb11⟩ := insN_inv hr6
    have pz11 := p10
    rw [hcs11] at pz11
    have hzz11 : ini11.length < 900000000 := by
      have := len_le_sz c5
      have h2 := congrArg List.length hcs'11
      rw [app_len] at h2
      omega
    obtain ⟨Q11, id11, sA11, s11, J11, l111, l211, l311, l411, p11, x11⟩ := ins_run pz11 hzz11
    rw [← hcs'11] at p11
    obtain ⟨nq11, hnq11⟩ : ∃ j, n = j + 1 := ⟨n - 1, by omega⟩
    have l311 := l311 nq11
    rw [← hnq11] at l311
    have hbs11 : base.length < 900000000 := by omega
    have b011 := build52_1 (I 0) rfl rfl rfl
    obtain ⟨s12, J12, q12, p12, x12⟩ := (s182 (ts := ts) (m := m5) (fun k hk => H k (by omega))) n (by omega) P s11 t5 base k c5 J11 b rest' cs' p11 hr5 (by omega)
    have e12 : aCall Tryz.prog (den C n) 182 [.ref P 0] s11 = some (.tup [], s12) := q12
    refine ⟨s12, J12, ?_, p12, ((((x2.trans x4).trans x10).trans x11).trans x12)⟩
    show aCall Tryz.prog (den C (n + 1)) 183 [.ref P 0] s = _
    rw [callR en183 (ref1 ..), F183_eq, F183]
    simp -implicitDefEqProofs only [sL, bs1, bs2, bs3, strip_own, aBox_ref, aBox_str, aBox_bool, aBox_int, F183_J0, upds_at, upds_nil, upd_at, argEnv_0, argEnv_1, zne, ite_false, e2, e4, e10, l111, l211, l311, l411, b011, len50_rs, wsub1 (a := base.length) (by omega), wsub1 (a := ini11.length) (by omega), idx_top, zero50, strip_rs, d183_4, e12]
theorem eqii (a b : Nat) : (((a : Nat) : Int) == ((b : Nat) : Int)) = (a == b) := kind_eq a b
theorem s114_3 {ts : List Tok} {m : Nat} (H : ∀ k < m, AllS ts k) : SimU ts m (gBody 3) vd (fnF 114 fun P => [.ref P 0, .int .i64 3]) := by
  intro n hn P s rest base k cs J b rest' cs' h hr hb
  obtain ⟨n, rfl⟩ : ∃ j, n = j + 1 := ⟨n - 1, by omega⟩
  obtain ⟨s1, J1, q1, p1, x1⟩ := (s179t (ts := ts) (m := m) (fun k hk => H k (by omega))) n (by omega) P s rest base k cs J b rest' cs' h hr (by omega)
  have e1 : aCall Tryz.prog (den C n) 179 [.ref P 0, .bool true] s = some (.tup [], s1) := q1
  refine ⟨s1, J1, ?_, p1, x1⟩
  show aCall Tryz.prog (den C (n + 1)) 114 [.ref P 0, .int .i64 3] s = _
  rw [callR en114 (ref1 ..), F114_eq, F114]
  simp -implicitDefEqProofs only [sL, bs1, bs2, bs3, strip_own, aBox_ref, aBox_str, aBox_bool, aBox_int, show ((3 : Int) == 2) = false from rfl, show ((3 : Int) == 3) = true from rfl, show ((3 : Int) == 4) = false from rfl, show ((3 : Int) == 5) = false from rfl, show ((3 : Int) == 6) = false from rfl, show ((3 : Int) == 7) = false from rfl, show ((3 : Int) == 8) = false from rfl, show ((3 : Int) == 9) = false from rfl, F114_J2, bin_eql, upds_at, upds_nil, upd_at, argEnv_0, argEnv_1, ite_false, Nat.reduceEqDiff, e1]
theorem s114_4 {ts : List Tok} {m : Nat} (H : ∀ k < m, AllS ts k) : SimU ts m (gBody 4) vd (fnF 114 fun P => [.ref P 0, .int .i64 4]) := by
  intro n hn P s rest base k cs J b rest' cs' h hr hb
  obtain ⟨n, rfl⟩ : ∃ j, n = j + 1 := ⟨n - 1, by omega⟩
  obtain ⟨s1, J1, q1, p1, x1⟩ := (s180t (ts := ts) (m := m) (fun k hk => H k (by omega))) n (by omega) P s rest base k cs J b rest' cs' h hr (by omega)
  have e1 : aCall Tryz.prog (den C n) 180 [.ref P 0, .int .i64 4] s = some (.tup [], s1) := q1
  refine ⟨s1, J1, ?_, p1, x1⟩
  show aCall Tryz.prog (den C (n + 1)) 114 [.ref P 0, .int .i64 4] s = _
  rw [callR en114 (ref1 ..), F114_eq, F114]
  simp -implicitDefEqProofs only [sL, bs1, bs2, bs3, strip_own, aBox_ref, aBox_str, aBox_bool, aBox_int, show ((4 : Int) == 2) = false from rfl, show ((4 : Int) == 3) = false from rfl, show ((4 : Int) == 4) = true from rfl, show ((4 : Int) == 5) = false from rfl, show ((4 : Int) == 6) = false from rfl, show ((4 : Int) == 7) = false from rfl, show ((4 : Int) == 8) = false from rfl, show ((4 : Int) == 9) = false from rfl, F114_J2, bin_eql, upds_at, upds_nil, upd_at, argEnv_0, argEnv_1, ite_false, Nat.reduceEqDiff, e1]
theorem s114_5 {ts : List Tok} {m : Nat} (H : ∀ k < m, AllS ts k) : SimU ts m (gBody 5) vd (fnF 114 fun P => [.ref P 0, .int .i64 5]) := by
  intro n hn P s rest base k cs J b rest' cs' h hr hb
  obtain ⟨n, rfl⟩ : ∃ j, n = j + 1 := ⟨n - 1, by omega⟩
  obtain ⟨s1, J1, q1, p1, x1⟩ := (s180f (ts := ts) (m := m) (fun k hk => H k (by omega))) n (by omega) P s rest base k cs J b rest' cs' h hr (by omega)
  have e1 : aCall Tryz.prog (den C n) 180 [.ref P 0, .int .i64 5] s = some (.tup [], s1) := q1
  refine ⟨s1, J1, ?_, p1, x1⟩
  show aCall Tryz.prog (den C (n + 1)) 114 [.ref P 0, .int .i64 5] s = _
  rw [callR en114 (ref1 ..), F114_eq, F114]
  simp -implicitDefEqProofs only [sL, bs1, bs2, bs3, strip_own, aBox_ref, aBox_str, aBox_bool, aBox_int, show ((5 : Int) == 2) = false from rfl, show ((5 : Int) == 3) = false from rfl, show ((5 : Int) == 4) = false from rfl, show ((5 : Int) == 5) = true from rfl, show ((5 : Int) == 6) = false from rfl, show ((5 : Int) == 7) = false from rfl, show ((5 : Int) == 8) = false from rfl, show ((5 : Int) == 9) = false from rfl, F114_J2, bin_eql, upds_at, upds_nil, upd_at, argEnv_0, argEnv_1, ite_false, Nat.reduceEqDiff, e1]
theorem s114_6 {ts : List Tok} {m : Nat} (H : ∀ k < m, AllS ts k) : SimU ts m (gBody 6) vd (fnF 114 fun P => [.ref P 0, .int .i64 6]) := by
  intro n hn P s rest base k cs J b rest' cs' h hr hb
  obtain ⟨n, rfl⟩ : ∃ j, n = j + 1 := ⟨n - 1, by omega⟩
  obtain ⟨m1, b1, t1, c1, hm1, ha1, hr1, hz1⟩ := seq_inv hr
  obtain ⟨s2, J2, q2, p2, x2⟩ := (ident_sim ts m1) n (by omega) P s rest base k cs J b1 t1 c1 h ha1 (by omega)
  have e2 : aCall Tryz.prog (den C n) 181 [.ref P 0] s = some (.tup [], s2) := q2
  obtain ⟨s3, J3, q3, p3, x3⟩ := (s182 (ts := ts) (m := m1) (fun k hk => H k (by omega))) n (by omega) P s2 t1 base k c1 J2 b rest' cs' p2 hr1 (by omega)
  have e3 : aCall Tryz.prog (den C n) 182 [.ref P 0] s2 = some (.tup [], s3) := q3
  refine ⟨s3, J3, ?_, p3, (x2.trans x3)⟩
  show aCall Tryz.prog (den C (n + 1)) 114 [.ref P 0, .int .i64 6] s = _
  rw [callR en114 (ref1 ..), F114_eq, F114]
  simp -implicitDefEqProofs only [sL, bs1, bs2, bs3, strip_own, aBox_ref, aBox_str, aBox_bool, aBox_int, show ((6 : Int) == 2) = false from rfl, show ((6 : Int) == 3) = false from rfl, show ((6 : Int) == 4) = false from rfl, show ((6 : Int) == 5) = false from rfl, show ((6 : Int) == 6) = true from rfl, show ((6 : Int) == 7) = false from rfl, show ((6 : Int) == 8) = false from rfl, show ((6 : Int) == 9) = false from rfl, F114_J2, bin_eql, upds_at, upds_nil, upd_at, argEnv_0, argEnv_1, ite_false, Nat.reduceEqDiff, e2, e3]
theorem s114_7 {ts : List Tok} {m : Nat} (H : ∀ k < m, AllS ts k) : SimU ts m (gBody 7) vd (fnF 114 fun P => [.ref P 0, .int .i64 7]) := by
  intro n hn P s rest base k cs J b rest' cs' h hr hb
  obtain ⟨n, rfl⟩ : ∃ j, n = j + 1 := ⟨n - 1, by omega⟩
  obtain ⟨s1, J1, q1, p1, x1⟩ := (s183 (ts := ts) (m := m) (fun k hk => H k (by omega))) n (by omega) P s rest base k cs J b rest' cs' h hr (by omega)
  have e1 : aCall Tryz.prog (den C n) 183 [.ref P 0] s = some (.tup [], s1) := q1
  refine ⟨s1, J1, ?_, p1, x1⟩
  show aCall Tryz.prog (den C (n + 1)) 114 [.ref P 0, .int .i64 7] s = _
  rw [callR en114 (ref1 ..), F114_eq, F114]
  simp -implicitDefEqProofs only [sL, bs1, bs2, bs3, strip_own, aBox_ref, aBox_str, aBox_bool, aBox_int, show ((7 : Int) == 2) = false from rfl, show ((7 : Int) == 3) = false from rfl, show ((7 : Int) == 4) = false from rfl, show ((7 : Int) == 5) = false from rfl, show ((7 : Int) == 6) = false from rfl, show ((7 : Int) == 7) = true from rfl, show ((7 : Int) == 8) = false from rfl, show ((7 : Int) == 9) = false from rfl, F114_J2, bin_eql, upds_at, upds_nil, upd_at, argEnv_0, argEnv_1, ite_false, Nat.reduceEqDiff, e1]
theorem s114_8 {ts : List Tok} {m : Nat} (H : ∀ k < m, AllS ts k) : SimU ts m (gBody 8) vd (fnF 114 fun P => [.ref P 0, .int .i64 8]) := by
  intro n hn P s rest base k cs J b rest' cs' h hr hb
  obtain ⟨n, rfl⟩ : ∃ j, n = j + 1 := ⟨n - 1, by omega⟩
  obtain ⟨m1, b1, t1, c1, hm1, ha1, hr1, hz1⟩ := seq_inv hr
  obtain ⟨s2, J2, q2, p2, x2⟩ := (ident_sim ts m1) n (by omega) P s rest base k cs J b1 t1 c1 h ha1 (by omega)
  have e2 : aCall Tryz.prog (den C n) 181 [.ref P 0] s = some (.tup [], s2) := q2
  obtain ⟨m3, b3, t3, c3, hm3, ha3, hr3, hz3⟩ := seq_inv hr1
  obtain ⟨s4, J4, q4, p4, x4⟩ := (expect_sim ts m3 wColon) n (by omega) P s2 t1 base k c1 J2 b3 t3 c3 p2 ha3 (by omega)
  have e4 : aCall Tryz.prog (den C n) 184 [.ref P 0, .str [58]] s2 = some (.tup [], s4) := q4
  obtain ⟨m5, b5, t5, c5, hm5, ha5, hr5, hz5⟩ := seq_inv hr3
  obtain ⟨s6, J6, q6, p6, x6⟩ := ((H m5 (by omega)).ty) n (by omega) P s4 t3 base k c3 J4 b5 t5 c5 p4 ha5 (by omega)
  have e6 : aCall Tryz.prog (den C n) 185 [.ref P 0] s4 = some (.tup [], s6) := q6
  obtain ⟨m7, b7, t7, c7, hm7, ha7, hr7, hz7⟩ := seq_inv hr5
  obtain ⟨s8, J8, q8, p8, x8⟩ := (expect_sim ts m7 wEq) n (by omega) P s6 t5 base k c5 J6 b7 t7 c7 p6 ha7 (by omega)
  have e8 : aCall Tryz.prog (den C n) 184 [.ref P 0, .str [61]] s6 = some (.tup [], s8) := q8
  obtain ⟨m9, b9, t9, c9, hm9, ha9, hr9, hz9⟩ := seq_inv hr7
  obtain ⟨s10, J10, q10, p10, x10⟩ := ((H m9 (by omega)).ex) n (by omega) P s8 t7 base k c7 J8 b9 t9 c9 p8 ha9 (by omega)
  have e10 : aCall Tryz.prog (den C n) 186 [.ref P 0] s8 = some (.tup [], s10) := q10
  obtain ⟨s11, J11, q11, p11, x11⟩ := (expect_sim ts m9 wSemi) n (by omega) P s10 t9 base k c9 J10 b rest' cs' p10 hr9 (by omega)
  have e11 : aCall Tryz.prog (den C n) 184 [.ref P 0, .str [59]] s10 = some (.tup [], s11) := q11
  refine ⟨s11, J11, ?_, p11, (((((x2.trans x4).trans x6).trans x8).trans x10).trans x11)⟩
  show aCall Tryz.prog (den C (n + 1)) 114 [.ref P 0, .int .i64 8] s = _
  rw [callR en114 (ref1 ..), F114_eq, F114]
  simp -implicitDefEqProofs only [sL, bs1, bs2, bs3, strip_own, aBox_ref, aBox_str, aBox_bool, aBox_int, show ((8 : Int) == 2) = false from rfl, show ((8 : Int) == 3) = false from rfl, show ((8 : Int) == 4) = false from rfl, show ((8 : Int) == 5) = false from rfl, show ((8 : Int) == 6) = false from rfl, show ((8 : Int) == 7) = false from rfl, show ((8 : Int) == 8) = true from rfl, show ((8 : Int) == 9) = false from rfl, F114_J2, bin_eql, upds_at, upds_nil, upd_at, argEnv_0, argEnv_1, ite_false, Nat.reduceEqDiff, e2, e4, e6, e8, e10, e11]
theorem s114_9 {ts : List Tok} {m : Nat} (H : ∀ k < m, AllS ts k) : SimU ts m (gBody 9) vd (fnF 114 fun P => [.ref P 0, .int .i64 9]) := by
  intro n hn P s rest base k cs J b rest' cs' h hr hb
  obtain ⟨n, rfl⟩ : ∃ j, n = j + 1 := ⟨n - 1, by omega⟩
  obtain ⟨m1, b1, t1, c1, hm1, ha1, hr1, hz1⟩ := seq_inv hr
  obtain ⟨s2, J2, q2, p2, x2⟩ := (ident_sim ts m1) n (by omega) P s rest base k cs J b1 t1 c1 h ha1 (by omega)
  have e2 : aCall Tryz.prog (den C n) 181 [.ref P 0] s = some (.tup [], s2) := q2
  obtain ⟨m3, b3, t3, c3, hm3, ha3, hr3, hz3⟩ := seq_inv hr1
  obtain ⟨s4, J4, q4, p4, x4⟩ := (expect_sim ts m3 wLPar) n (by omega) P s2 t1 base k c1 J2 b3 t3 c3 p2 ha3 (by omega)
  have e4 : aCall Tryz.prog (den C n) 184 [.ref P 0, .str [40]] s2 = some (.tup [], s4) := q4
  obtain ⟨m5, b5, t5, c5, hm5, ha5, hr5, hz5⟩ := seq_inv hr3
  obtain ⟨s6, J6, q6, p6, x6⟩ := (s187 (ts := ts) (m := m5) wRPar (fun k hk => H k (by omega))) n (by omega) P s4 t3 base k c3 J4 b5 t5 c5 p4 ha5 (by omega)
  have e6 : aCall Tryz.prog (den C n) 187 [.ref P 0, .str [41]] s4 = some (.tup [], s6) := q6
  obtain ⟨m7, b7, t7, c7, hm7, ha7, hr7, hz7⟩ := seq_inv hr5
  obtain ⟨s8, J8, q8, p8, x8⟩ := (expect_sim ts m7 wEq) n (by omega) P s6 t5 base k c5 J6 b7 t7 c7 p6 ha7 (by omega)
  have e8 : aCall Tryz.prog (den C n) 184 [.ref P 0, .str [61]] s6 = some (.tup [], s8) := q8
  obtain ⟨m9, b9, t9, c9, hm9, ha9, hr9, hz9⟩ := seq_inv hr7
  obtain ⟨s10, J10, q10, p10, x10⟩ := ((H m9 (by omega)).ex) n (by omega) P s8 t7 base k c7 J8 b9 t9 c9 p8 ha9 (by omega)
  have e10 : aCall Tryz.prog (den C n) 186 [.ref P 0] s8 = some (.tup [], s10) := q10
  obtain ⟨s11, J11, q11, p11, x11⟩ := (expect_sim ts m9 wSemi) n (by omega) P s10 t9 base k c9 J10 b rest' cs' p10 hr9 (by omega)
  have e11 : aCall Tryz.prog (den C n) 184 [.ref P 0, .str [59]] s10 = some (.tup [], s11) := q11
  refine ⟨s11, J11, ?_, p11, (((((x2.trans x4).trans x6).trans x8).trans x10).trans x11)⟩
  show aCall Tryz.prog (den C (n + 1)) 114 [.ref P 0, .int .i64 9] s = _
  rw [callR en114 (ref1 ..), F114_eq, F114]
  simp -implicitDefEqProofs only [sL, bs1, bs2, bs3, strip_own, aBox_ref, aBox_str, aBox_bool, aBox_int, show ((9 : Int) == 2) = false from rfl, show ((9 : Int) == 3) = false from rfl, show ((9 : Int) == 4) = false from rfl, show ((9 : Int) == 5) = false from rfl, show ((9 : Int) == 6) = false from rfl, show ((9 : Int) == 7) = false from rfl, show ((9 : Int) == 8) = false from rfl, show ((9 : Int) == 9) = true from rfl, F114_J2, bin_eql, upds_at, upds_nil, upd_at, argEnv_0, argEnv_1, ite_false, Nat.reduceEqDiff, e2, e4, e6, e8, e10, e11]
end ParF
end

section
set_option maxRecDepth 100000
set_option maxHeartbeats 1000000
namespace ParF
open Go Go.Abs Go.Proofs Pm
theorem node_cell {ts : List Tok} {k : Nat} {P : Nat} {s : Heap} {rest rest' : List Tok} {base : List Lv} {k0 : Nat} {cs ds : List Tree} {J : List Nat} (L : Nat) (c : TypeId × List AV) (h : PR ts P s rest base k0 cs J) (hb : base.length + (szL cs + (1 + szL ds)) < 900000000) {v : AV} (hv : v.strip = v) (n : Nat)
    (hg : ∀ s3 lv J3, PR ts P s3 rest (base ++ [lv]) k [] J3 → Ex s s3 J J3 → ∃ s4 J4 r, aCallV Tryz.prog (den C (n + 2)) v [] s3 = some (r, s4) ∧ PR ts P s4 rest' (base ++ [lv]) k ds J4 ∧ Ex s3 s4 (L :: J3) (L :: J4) ∧ s4[L]? = some c ∧ L ∉ J4) :
    ∃ s5 J5, aCall Tryz.prog (den C (n + 3)) 110 [.ref P 0, I k, v] s = some (.tup [], s5) ∧ PR ts P s5 rest' base k0 (cs ++ [.mk k [] ds]) J5 ∧ Ex s s5 (L :: J) (L :: J5) ∧ s5[L]? = some c ∧ L ∉ J5 := by
  obtain ⟨pos, i, rfl, h⟩ := h
  have hc := len_le_sz cs
  obtain ⟨tk, Q, s1, s2, s3, J3, p0, nQ, e1, e2, e3, p3, l3, f3, j3, hP⟩ := push_lv h (by rw [app_len]; show base.length + 1 < _; omega) (by rw [app_len]; show 0 < _ + 1; omega) (l := ⟨k, [], none⟩) rfl nofun
  have x3 : Ex s s3 J J3 := ⟨l3, f3, fun x hx => by
    rcases j3 x hx with k | k | k
    · exact .inl k
    · cases k
    · exact .inr k⟩
  obtain ⟨s4, J4, r, e4, p4, x4, hL4, hj4⟩ := hg s3 ⟨k0, cs, i⟩ J3 ⟨pos, none, rfl, p3⟩ x3
  obtain ⟨pos4, i4, rfl, p4⟩ := p4
  obtain ⟨s5, i5, J5, e5, p5, x5⟩ := finish_run p4 (by show cs.length + _ < _; omega)
  refine ⟨s5, J5, ?_, ⟨pos4, i5, rfl, p5⟩, ((x3.weak [L]).trans x4).trans (x5.weak [L]), (x5.fr L (glt hL4) hj4).trans hL4, x5.notin (glt hL4) hj4⟩
  have e5 := e5 n
  have q0 : aLoad false false 1 (.ref P 2) s = some (.rs 52 3 Q 0 (base ++ [(⟨k0, cs, i⟩ : Lv)]).length, s) := ld (o := 2) p0 (by decide) rfl (by decide)
  have e2 : aStore 3 s1 (.ref s.length ((base ++ [(⟨k0, cs, i⟩ : Lv)]).length * 3)) (.agg [I k, .str [], .nils]) = some s2 := e2
  rw [callR en110 (ref1 ..), F110_eq, F110]
  simp -implicitDefEqProofs only [sL, q0, build52_1 (I k) rfl rfl rfl, len50_rs, zero50, e1, idx_top, e2, strip_rs, e3, kStore_ref, appK_rs, d110_0 s.length P (by omega), hv, e4, e5]
theorem PR.setc {ts : List Tok} {P : Nat} {s : Heap} {rest : List Tok} {base : List Lv} {k : Nat} {cs : List Tree} {J : List Nat} (h : PR ts P s rest base k cs J) {L : Nat} (hj : L ∉ J) (v : TypeId × List AV) : PR ts P (s.set L v) rest base k cs J := by
  obtain ⟨pos, i, e, h⟩ := h
  exact ⟨pos, i, e, h.frame fun x hx => gset_ne fun e => hj (e ▸ hx)⟩
def useBody : G := .ite (fun _ t _ => atT [wStar] t) (.ret true) (.seq .bump (.seq (.node 18 gIdent) nop))
theorem l223_done {ts : List Tok} {n : Nat} (hn : ts.length + 80 ≤ n) {P L : Nat} {s : Heap} {rest : List Tok} {base : List Lv} {k : Nat} {cs : List Tree} {J : List Nat} (h : PR ts P s rest base k cs J) (hL : s[L]? = some (4, [.bool true])) (hj : L ∉ J) :
    ∃ s', (∀ M n' e, e 0 = pb P → e 1 = .ref L 0 → aLoop (F223_L0 (den C n) n') (M + 1) e s = some (.tup [], s')) ∧ PR ts P s' rest base k cs J ∧ Ex s s' J J := by
  obtain ⟨sa, qa, pa, xa⟩ := (at_rd (ts := ts) [wColCol] (by decide : 1 < 50)).use (n := n) hn h
  have qa' : aCall Tryz.prog (den C n) 106 [.ref P 0, .sl 9 1 [.str [58, 58]] .sh] s = some (.bool (atT [wColCol] (pk rest)), sa) := qa
  have hLa := (xa.fr L (glt hL) hj).trans hL
  have la : aLoad false false 1 (.ref L 0) sa = some (.bool true, sa) := ld (o := 0) hLa (by decide) rfl (by decide)
  refine ⟨sa, fun M n' e he0 he1 => ?_, pa, xa⟩
  rw [aLoop, F223_L0]
  cases h1 : atT [wColCol] (pk rest) with
  | true =>
    rw [h1] at qa'
    simp -implicitDefEqProofs only [sL, he0, he1, bs1, strip_own, qa', la]
  | false =>
    rw [h1] at qa'
    simp -implicitDefEqProofs only [sL, he0, he1, bs1, strip_own, qa']
theorem l223 {ts : List Tok} {n P L : Nat} : ∀ (m : Nat), m * 20 + ts.length + 140 ≤ n → ∀ s rest base k cs J b rest' cs', PR ts P s rest base k cs J → s[L]? = some (4, [.bool false]) → L ∉ J → run m (.whil (rAt [wColCol]) useBody) rest cs = some (b, rest', cs') → base.length + szL cs' < 900000000 →
    ∃ s' J', (∀ M n' e, m + 1 < M → e 0 = pb P → e 1 = .ref L 0 → aLoop (F223_L0 (den C n) n') M e s = some (.tup [], s')) ∧ PR ts P s' rest' base k cs' J' ∧ Ex s s' (L :: J) (L :: J') ∧ s'[L]? = some (4, [.bool b]) ∧ L ∉ J' := by
  intro m
  induction m with
  | zero => intro _ s rest base k cs J b rest' cs' h _ _ hr; rw [Pm.run_zero] at hr; cases hr
  | succ m ih =>
    intro hn s rest base k cs J b rest' cs' h hL hj hr hb
    have hn0 : m * 20 + ts.length + 140 ≤ n := by omega
    obtain ⟨m', hm', hw⟩ := whil_inv hr
    cases hm'
    obtain ⟨sa, qa, pa, xa⟩ := (at_rd (ts := ts) [wColCol] (by decide : 1 < 50)).use (n := n) (by omega) h
    have hLa := (xa.fr L (glt hL) hj).trans hL
    have la' : aLoad false false 1 (.ref L 0) sa = some (.bool false, sa) := ld (o := 0) hLa (by decide) rfl (by decide)
    rcases hw with ⟨hc, rfl, rfl, rfl⟩ | ⟨hc, hrb, rfl⟩ | ⟨hc, tw, cw, hrb, hrw, hzw⟩
    · have ea : aCall Tryz.prog (den C n) 106 [.ref P 0, .sl 9 1 [.str [58, 58]] .sh] s = some (.bool false, sa) := by rw [← hc]; exact qa
      refine ⟨sa, J, fun M n' e hM he0 he1 => ?_, pa, xa.weak [L], hLa, hj⟩
      obtain ⟨M, rfl⟩ : ∃ j, M = j + 1 := ⟨M - 1, by omega⟩
      rw [aLoop, F223_L0]
      simp -implicitDefEqProofs only [sL, he0, he1, bs1, strip_own, ea]
    · have ea : aCall Tryz.prog (den C n) 106 [.ref P 0, .sl 9 1 [.str [58, 58]] .sh] s = some (.bool true, sa) := by rw [← hc]; exact qa
      obtain ⟨sx, Px, sb, ql, q2, pb', xb⟩ := look_at [wStar] (by decide : 1 < 50) (n := n) (by omega) pa
      obtain ⟨m1, hm1, ho⟩ := ite_inv hrb
      have hLb := (xb.fr L (glt hLa) hj).trans hLa
      rcases ho with ⟨hc1, hr1⟩ | ⟨hc1, hr1⟩
      · have e2 : aCall Tryz.prog (den C n) 106 [.ref Px 0, .sl 9 1 [.str [42]] .sh] sx = some (.bool true, sb) := by rw [← hc1]; exact q2
        obtain ⟨-, rfl, rfl⟩ := ret_inv hr1
        have sto : aStore 1 sb (.ref L 0) (.bool true) = some (sb.set L (4, [.bool true])) := by rw [ParF.st (o := 0) (n := 1) (v := .bool true) hLb (by decide) rfl rfl (by show 0 + 1 ≤ 1; omega)]; rfl
        have pc := pb'.setc hj (4, [.bool true])
        have hLc : (sb.set L (4, [AV.bool true]))[L]? = some (4, [.bool true]) := gset_eq hLb
        have lc : aLoad false false 1 (.ref L 0) (sb.set L (4, [.bool true])) = some (.bool true, sb.set L (4, [.bool true])) := ld (o := 0) hLc (by decide) rfl (by decide)
        obtain ⟨s', qd, pd, xd⟩ := l223_done (n := n) (by omega) pc hLc hj
        have xc : Ex sb (sb.set L (4, [AV.bool true])) (L :: J) (L :: J) := ⟨by rw [set_length]; exact Nat.le_refl _, fun x hx hj => gset_ne fun e => hj (by rw [← e]; exact List.mem_cons_self ..), fun _ h => .inl h⟩
        refine ⟨s', J, fun M n' e hM he0 he1 => ?_, pd, (((xa.weak [L]).trans (xb.weak [L])).trans xc).trans (xd.weak [L]), (xd.fr L (glt hLc) hj).trans hLc, hj⟩
        obtain ⟨M, rfl⟩ : ∃ j, M = j + 2 := ⟨M - 2, by omega⟩
        rw [aLoop, F223_L0]
        simp -implicitDefEqProofs only [sL, he0, he1, bs1, strip_own, ea, la', ql, e2, sto, lc]
        exact qd _ _ _ ((upds_get _ _ _ rfl).trans he0) ((upds_get _ _ _ rfl).trans he1)
      · exact absurd (val_false (by rfl) hr1) (by decide)
    · have ea : aCall Tryz.prog (den C n) 106 [.ref P 0, .sl 9 1 [.str [58, 58]] .sh] s = some (.bool true, sa) := by rw [← hc]; exact qa
      obtain ⟨sx, Px, sb, ql, q2, pb', xb⟩ := look_at [wStar] (by decide : 1 < 50) (n := n) (by omega) pa
      obtain ⟨m1, hm1, ho⟩ := ite_inv hrb
      have hLb := (xb.fr L (glt hLa) hj).trans hLa
      rcases ho with ⟨hc1, hr1⟩ | ⟨hc1, hr1⟩
      · have := (ret_inv hr1).1; cases this
      · have e2 : aCall Tryz.prog (den C n) 106 [.ref Px 0, .sl 9 1 [.str [42]] .sh] sx = some (.bool false, sb) := by rw [← hc1]; exact q2
        have sto : aStore 1 sb (.ref L 0) (.bool false) = some (sb.set L (4, [.bool false])) := by rw [ParF.st (o := 0) (n := 1) (v := .bool false) hLb (by decide) rfl rfl (by show 0 + 1 ≤ 1; omega)]; rfl
        have pc := pb'.setc hj (4, [.bool false])
        have hLc : (sb.set L (4, [AV.bool false]))[L]? = some (4, [.bool false]) := gset_eq hLb
        have lc : aLoad false false 1 (.ref L 0) (sb.set L (4, [.bool false])) = some (.bool false, sb.set L (4, [.bool false])) := ld (o := 0) hLc (by decide) rfl (by decide)
        have xc : Ex sb (sb.set L (4, [AV.bool false])) (L :: J) (L :: J) := ⟨by rw [set_length]; exact Nat.le_refl _, fun x hx hj => gset_ne fun e => hj (by rw [← e]; exact List.mem_cons_self ..), fun _ h => .inl h⟩
        obtain ⟨m2, b2, t2, c2, hm2, ha2, hr2, hz2⟩ := seq_inv hr1
        obtain ⟨m3, b3, t3, c3, hm3, ha3, hr3, hz3⟩ := seq_inv hr2
        obtain ⟨-, rfl, rfl⟩ := ret_inv hr3
        obtain ⟨s1, J1, q1, p1, x1⟩ := bump_sim ts m2 n (by omega) P _ rest base k cs J b2 t2 c2 pc ha2 (by omega)
        have e1 : aCall Tryz.prog (den C n) 113 [.ref P 0] (sb.set L (4, [.bool false])) = some (.tup [], s1) := q1
        obtain ⟨s3, J3, q3, p3, x3⟩ := (node_simD (ts := ts) (m := m3) (k := 18) (v := fun P => .fn 181 [.ref P 0] []) (fun _ => rfl) (fun k hk => ident_sim ts k)) n (by omega) P s1 t2 base k c2 J1 b3 tw cw p1 ha3 (by omega)
        have e3 : aCall Tryz.prog (den C n) 110 [.ref P 0, .int .i64 18, .fn 181 [.ref P 0] []] s1 = some (.tup [], s3) := q3
        have x13 := x1.trans x3
        have hL3 := (x13.fr L (glt hLc) hj).trans hLc
        have hj3 := x13.notin (glt hLc) hj
        obtain ⟨s4, J4, q4, p4, x4, hL4, hj4⟩ := ih hn0 s3 tw base k cw J3 b rest' cs' p3 hL3 hj3 hrw hb
        refine ⟨s4, J4, fun M n' e hM he0 he1 => ?_, p4, ((((xa.weak [L]).trans (xb.weak [L])).trans xc).trans (x13.weak [L])).trans x4, hL4, hj4⟩
        obtain ⟨M, rfl⟩ : ∃ j, M = j + 1 := ⟨M - 1, by omega⟩
        rw [aLoop, F223_L0]
        simp -implicitDefEqProofs only [sL, he0, he1, bs1, strip_own, ea, la', ql, e2, sto, lc, e1, e3]
        exact q4 _ _ _ (by omega) ((upds_get _ _ _ rfl).trans he0) ((upds_get _ _ _ rfl).trans he1)
end ParF
end

section
set_option maxRecDepth 100000
set_option maxHeartbeats 1000000
namespace ParF
open Go Go.Abs Go.Proofs Pm
theorem s223 {ts : List Tok} {m n : Nat} (hn : m * 20 + ts.length + 141 ≤ n) {P L : Nat} {s : Heap} {rest : List Tok} {base : List Lv} {k : Nat} {cs : List Tree} {J : List Nat} {b : Bool} {rest' : List Tok} {cs' : List Tree}
    (h : PR ts P s rest base k cs J) (hL : s[L]? = some (4, [.bool false])) (hj : L ∉ J) (hr : run m (.seq (.node 18 gIdent) (.whil (rAt [wColCol]) useBody)) rest cs = some (b, rest', cs')) (hb : base.length + szL cs' < 900000000) :
    ∃ s' J', aCall Tryz.prog (den C n) 223 [.box [.ref P 0] 0, .ref L 0] s = some (.tup [], s') ∧ PR ts P s' rest' base k cs' J' ∧ Ex s s' (L :: J) (L :: J') ∧ s'[L]? = some (4, [.bool b]) ∧ L ∉ J' := by
  obtain ⟨n, rfl⟩ : ∃ j, n = j + 1 := ⟨n - 1, by omega⟩
  obtain ⟨m1, b1, t1, c1, hm1, ha1, hr1, hz1⟩ := seq_inv hr
  obtain ⟨s3, J3, q3, p3, x3⟩ := (node_simD (ts := ts) (m := m1) (k := 18) (v := fun P => .fn 181 [.ref P 0] []) (fun _ => rfl) (fun k hk => ident_sim ts k)) n (by omega) P s rest base k cs J b1 t1 c1 h ha1 (by omega)
  have e3 : aCall Tryz.prog (den C n) 110 [.ref P 0, .int .i64 18, .fn 181 [.ref P 0] []] s = some (.tup [], s3) := q3
  have hL3 := (x3.fr L (glt hL) hj).trans hL
  obtain ⟨s4, J4, q4, p4, x4, hL4, hj4⟩ := l223 (P := P) (n := n) m1 (by omega) s3 t1 base k c1 J3 b rest' cs' p3 hL3 (x3.notin (glt hL) hj) hr1 hb
  refine ⟨s4, J4, ?_, p4, (x3.weak [L]).trans x4, hL4, hj4⟩
  rw [callR en223 (box1 ..), F223_eq, F223]
  simp -implicitDefEqProofs only [sL, e3]
  exact q4 _ _ _ (by omega) rfl rfl
theorem Ex.unweak {s s' : Heap} {L : Nat} {J J' : List Nat} (x : Ex s s' (L :: J) (L :: J')) (hL : s.length ≤ L) (hj : L ∉ J') : Ex s s' J J' :=
  ⟨x.len, fun y hy hj => x.fr y hy (by rw [List.mem_cons]; rintro (e | e); · omega
                                       · exact hj e), fun y hy => by
    rcases x.sub y (List.mem_cons_of_mem _ hy) with k | k
    · rw [List.mem_cons] at k
      rcases k with k | k
      · exact .inr (by omega)
      · exact .inl k
    · exact .inr k⟩
theorem zeroB (s : Heap) : aStore 1 (s ++ [(4, [.bool false])]) (.ref s.length 0) (.bool false) = some (s ++ [(4, [.bool false])]) := by
  rw [ParF.st (o := 0) (n := 1) (v := .bool false) (gapp_new (x := (4, [.bool false]))) (by decide) rfl rfl (by show 0 + 1 ≤ 1; omega), set_end]; rfl
theorem s178 {ts : List Tok} {m : Nat} : SimU ts m gUse vd (fnF 178 fun P => [.ref P 0]) := by
  intro n hn P s rest base k cs J b rest' cs' h hr hb
  obtain ⟨m1, b1, t1, c1, hm1, ha1, hr1, hz1⟩ := seq_inv hr
  obtain ⟨m2, v, t2, c2, hm2, ha2, hz2, ho2⟩ := bra_inv ha1
  obtain ⟨m3, ds, hm3, hr3, hc2⟩ := node_inv ha2
  obtain ⟨n, rfl⟩ : ∃ j, n = j + 4 := ⟨n - 4, by omega⟩
  have hz : szL c2 = szL cs + (1 + szL ds) := by rw [hc2, szL_append, szL_one, szT_mk]
  have pa := h.app [(4, [.bool false])]
  have nj : s.length ∉ J := fun hm => by obtain ⟨pp, ii, _, hh⟩ := h; exact Nat.lt_irrefl _ (hh.lt _ hm)
  have hL0 : (s ++ [(4, [AV.bool false])])[s.length]? = some (4, [.bool false]) := gapp_new
  obtain ⟨s5, J5, q5, p5, x5, hL5, hj5⟩ := node_cell (k := 17) (ds := ds) (rest' := t2) s.length (4, [.bool v]) pa (by omega) (v := .fn 223 [] [.box [.ref P 0] 0, .ref s.length 0]) rfl n fun s3 lv J3 p3 x3 => by
    have hL3 := (x3.fr s.length (by rw [app_length]; omega) nj).trans hL0
    have hj3 := x3.notin (by rw [app_length]; omega) nj
    obtain ⟨s4, J4, e4, p4, x4, hL4, hj4⟩ := s223 (n := n + 2) (m := m3) (by omega) p3 hL3 hj3 hr3 (by rw [app_len]; show base.length + 1 + _ < _; omega)
    exact ⟨s4, J4, _, e4, p4, x4, hL4, hj4⟩
  rw [← hc2] at p5
  have e5 : aCall Tryz.prog (den C (n + 3)) 110 [.ref P 0, .int .i64 17, .fn 223 [] [.box [.ref P 0] 0, .ref s.length 0]] (s ++ [(4, [.bool false])]) = some (.tup [], s5) := q5
  have x05 : Ex s s5 J J5 := (((Ex.app s _ J).weak [s.length]).trans x5).unweak (Nat.le_refl _) hj5
  have l5 : aLoad false false 1 (.ref s.length 0) s5 = some (.bool v, s5) := ld (o := 0) hL5 (by decide) rfl (by decide)
  have fin : ∀ s6 J6, PR ts P s6 t1 base k c1 J6 → Ex s5 s6 J5 J6 → ∃ s7 J7, aCall Tryz.prog (den C (n + 3)) 184 [.ref P 0, .str [59]] s6 = some (.tup [], s7) ∧ PR ts P s7 rest' base k cs' J7 ∧ Ex s s7 J J7 := by
    intro s6 J6 p6 x6
    obtain ⟨s7, J7, e7, p7, x7⟩ := expect_sim ts m1 wSemi (n + 3) (by omega) P s6 t1 base k c1 J6 b rest' cs' p6 hr1 hb
    exact ⟨s7, J7, e7, p7, (x05.trans x6).trans x7⟩
  rcases ho2 with ⟨rfl, hr4⟩ | ⟨rfl, hr4⟩
  · obtain ⟨m4, b4, t4, c4, hm4, ha4, hr5, hz4⟩ := seq_inv hr4
    obtain ⟨s6, J6, q6, p6, x6⟩ := bump_sim ts m4 (n + 3) (by omega) P s5 t2 base k c2 J5 b4 t4 c4 p5 ha4 (by omega)
    obtain ⟨s7, J7, q7, p7, x7⟩ := bump_sim ts m4 (n + 3) (by omega) P s6 t4 base k c4 J6 b1 t1 c1 p6 hr5 (by omega)
    have e6 : aCall Tryz.prog (den C (n + 3)) 113 [.ref P 0] s5 = some (.tup [], s6) := q6
    have e7 : aCall Tryz.prog (den C (n + 3)) 113 [.ref P 0] s6 = some (.tup [], s7) := q7
    obtain ⟨s8, J8, e8, p8, x8⟩ := fin s7 J7 p7 (x6.trans x7)
    refine ⟨s8, J8, ?_, p8, x8⟩
    show aCall Tryz.prog (den C (n + 4)) 178 [.ref P 0] s = _
    rw [callR en178 (ref1 ..), F178_eq, F178]
    simp -implicitDefEqProofs only [sL, aBox_ref, zero4, zeroB, e5, l5, e6, e7, F178_J0, upds_at, upds_nil, upd_at, Nat.reduceEqDiff, ite_false, e8]
  · obtain ⟨m4, hm4, ho⟩ := ite_inv hr4
    rcases ho with ⟨hc, hr5⟩ | ⟨hc, hr5⟩
    · obtain ⟨m5, b5, t5, c5, hm5, ha5, hr6, hz5⟩ := seq_inv hr5
      obtain ⟨s6, J6, q6, p6, x6⟩ := acc_yes [wAs] (by decide : 1 < 50) (n := n + 3) (by omega) p5 hc ha5 (by omega)
      have e6 : aCall Tryz.prog (den C (n + 3)) 112 [.ref P 0, .sl 9 1 [.str [97, 115]] .sh] s5 = some (.bool true, s6) := q6
      obtain ⟨s7, J7, q7, p7, x7⟩ := ident_sim ts m5 (n + 3) (by omega) P s6 t5 base k c5 J6 b1 t1 c1 p6 hr6 (by omega)
      have e7 : aCall Tryz.prog (den C (n + 3)) 181 [.ref P 0] s6 = some (.tup [], s7) := q7
      obtain ⟨s8, J8, e8, p8, x8⟩ := fin s7 J7 p7 (x6.trans x7)
      refine ⟨s8, J8, ?_, p8, x8⟩
      show aCall Tryz.prog (den C (n + 4)) 178 [.ref P 0] s = _
      rw [callR en178 (ref1 ..), F178_eq, F178]
      simp -implicitDefEqProofs only [sL, aBox_ref, bs1, strip_own, zero4, zeroB, e5, l5, e6, e7, F178_J0, upds_at, upds_nil, upd_at, Nat.reduceEqDiff, ite_false, e8]
    · obtain ⟨-, rfl, rfl⟩ := ret_inv hr5
      obtain ⟨s6, q6, p6, x6⟩ := acc_no [wAs] (by decide : 1 < 50) (n := n + 3) (by omega) p5 hc
      have e6 : aCall Tryz.prog (den C (n + 3)) 112 [.ref P 0, .sl 9 1 [.str [97, 115]] .sh] s5 = some (.bool false, s6) := q6
      obtain ⟨s8, J8, e8, p8, x8⟩ := fin s6 J5 p6 x6
      refine ⟨s8, J8, ?_, p8, x8⟩
      show aCall Tryz.prog (den C (n + 4)) 178 [.ref P 0] s = _
      rw [callR en178 (ref1 ..), F178_eq, F178]
      simp -implicitDefEqProofs only [sL, aBox_ref, bs1, strip_own, zero4, zeroB, e5, l5, e6, F178_J0, upds_at, upds_nil, upd_at, Nat.reduceEqDiff, ite_false, e8]
end ParF
end

section
set_option maxRecDepth 100000
set_option maxHeartbeats 1000000
namespace ParF
open Go Go.Abs Go.Proofs Pm
theorem body_run {ts : List Tok} {m K : Nat} (hK : 2 ≤ K ∧ K ≤ 9) {n : Nat} (hn : m * 20 + ts.length + 118 ≤ n) {P : Nat} {s : Heap} {rest : List Tok} {base : List Lv} {k : Nat} {cs : List Tree} {J : List Nat} {b : Bool} {rest' : List Tok} {cs' : List Tree}
    (h : PR ts P s rest base k cs J) (hr : run m (gBody K) rest cs = some (b, rest', cs')) (hb : base.length + szL cs' < 900000000) :
    ∃ s' J', aCall Tryz.prog (den C n) 114 [.ref P 0, I K] s = some (.tup [], s') ∧ PR ts P s' rest' base k cs' J' ∧ Ex s s' J J' := by
  have H : ∀ k < m, AllS ts k := fun k _ => allS ts k
  match K, hK, hr with
  | 2, _, hr =>
    obtain ⟨n, rfl⟩ : ∃ j, n = j + 1 := ⟨n - 1, by omega⟩
    obtain ⟨s1, J1, q1, p1, x1⟩ := s178 (ts := ts) (m := m) n (by omega) P s rest base k cs J b rest' cs' h hr hb
    have e1 : aCall Tryz.prog (den C n) 178 [.ref P 0] s = some (.tup [], s1) := q1
    refine ⟨s1, J1, ?_, p1, x1⟩
    show aCall Tryz.prog (den C (n + 1)) 114 [.ref P 0, .int .i64 2] s = _
    rw [callR en114 (ref1 ..), F114_eq, F114]
    simp -implicitDefEqProofs only [sL, show ((2 : Int) == 2) = true from rfl, e1]
  | 3, _, hr => exact s114_3 H n (by omega) P s rest base k cs J b rest' cs' h hr hb
  | 4, _, hr => exact s114_4 H n (by omega) P s rest base k cs J b rest' cs' h hr hb
  | 5, _, hr => exact s114_5 H n (by omega) P s rest base k cs J b rest' cs' h hr hb
  | 6, _, hr => exact s114_6 H n (by omega) P s rest base k cs J b rest' cs' h hr hb
  | 7, _, hr => exact s114_7 H n (by omega) P s rest base k cs J b rest' cs' h hr hb
  | 8, _, hr => exact s114_8 H n (by omega) P s rest base k cs J b rest' cs' h hr hb
  | 9, _, hr => exact s114_9 H n (by omega) P s rest base k cs J b rest' cs' h hr hb
  | 0, hK, _ => omega
  | 1, hK, _ => omega
  | j + 10, hK, _ => omega
theorem s111 {ts : List Tok} {m K : Nat} (hK : 2 ≤ K ∧ K ≤ 9) {n : Nat} (hn : m * 20 + ts.length + 100 ≤ n) {P : Nat} {s : Heap} {rest : List Tok} {base : List Lv} {k : Nat} {cs : List Tree} {J : List Nat} {b : Bool} {rest' : List Tok} {cs' : List Tree}
    (h : PR ts P s rest base k cs J) {L : Nat} (hL : s[L]? = some (3, [I K])) (hj : L ∉ J) (hr : run m (.seq (gIf [wPub] nop) (.seq .bump (gBody K))) rest cs = some (b, rest', cs')) (hb : base.length + szL cs' < 900000000) :
    ∃ s' J', aCall Tryz.prog (den C n) 111 [.box [.ref P 0] 0, .ref L 0] s = some (.tup [], s') ∧ PR ts P s' rest' base k cs' J' ∧ Ex s s' J J' := by
  obtain ⟨n, rfl⟩ : ∃ j, n = j + 1 := ⟨n - 1, by omega⟩
  obtain ⟨m1, b1, t1, c1, hm1, ha1, hr1, hz1⟩ := seq_inv hr
  obtain ⟨m2, b2, t2, c2, hm2, ha2, hr2, hz2⟩ := seq_inv hr1
  obtain ⟨m3, hm3, ho⟩ := ite_inv ha1
  have hlt := glt hL
  have rest : ∀ s1 J1 bb, aCall Tryz.prog (den C n) 112 [.ref P 0, .sl 9 1 [.str [112, 117, 98]] .sh] s = some (.bool bb, s1) → PR ts P s1 t1 base k c1 J1 → Ex s s1 J J1 → ∃ s' J', aCall Tryz.prog (den C (n + 1)) 111 [.box [.ref P 0] 0, .ref L 0] s = some (.tup [], s') ∧ PR ts P s' rest' base k cs' J' ∧ Ex s s' J J' := by
    intro s1 J1 bb e1 p1 x1
    obtain ⟨s2, J2, q2, p2, x2⟩ := bump_sim ts m2 n (by omega) P s1 t1 base k c1 J1 b2 t2 c2 p1 ha2 (by omega)
    have e2 : aCall Tryz.prog (den C n) 113 [.ref P 0] s1 = some (.tup [], s2) := q2
    have x12 := x1.trans x2
    have hL2 := (x12.fr L hlt hj).trans hL
    have l2 : aLoad false false 1 (.ref L 0) s2 = some (I K, s2) := ld (o := 0) hL2 (by decide) rfl (by decide)
    obtain ⟨s3, J3, e3, p3, x3⟩ := body_run hK (n := n) (m := m2) (by omega) p2 hr2 hb
    refine ⟨s3, J3, ?_, p3, x12.trans x3⟩
    rw [callR en111 (box1 ..), F111_eq, F111]
    simp -implicitDefEqProofs only [sL, bs1, strip_own, e1, e2, l2, e3]
  rcases ho with ⟨hc, hr3⟩ | ⟨hc, hr3⟩
  · obtain ⟨m4, b4, t4, c4, hm4, ha4, hr4, hz4⟩ := seq_inv hr3
    obtain ⟨-, rfl, rfl⟩ := ret_inv hr4
    obtain ⟨s1, J1, q1, p1, x1⟩ := acc_yes [wPub] (by decide : 1 < 50) (n := n) (by omega) h hc ha4 (by omega)
    exact rest s1 J1 true q1 p1 x1
  · obtain ⟨-, rfl, rfl⟩ := ret_inv hr3
    obtain ⟨s1, q1, p1, x1⟩ := acc_no [wPub] (by decide : 1 < 50) (n := n) (by omega) h hc
    exact rest s1 J false q1 p1 x1
def skipC : Cnd := fun t _ _ => !(t.1 == 100) && !atT itemKws t
theorem l175 {ts : List Tok} {n P : Nat} : ∀ (m : Nat), m * 20 + ts.length + 110 ≤ n → ∀ s rest base k cs J b rest' cs', PR ts P s rest base k cs J → run m (.whil skipC .bump) rest cs = some (b, rest', cs') → base.length + szL cs' < 900000000 →
    ∃ s' J', (∀ M n' e, m < M → e 0 = pb P → aLoop (F175_L0 (den C n) n') M e s = some (.tup [], s')) ∧ PR ts P s' rest' base k cs' J' ∧ Ex s s' J J' := by
  intro m
  induction m with
  | zero => intro _ s rest base k cs J b rest' cs' h hr; rw [Pm.run_zero] at hr; cases hr
  | succ m ih =>
    intro hn s rest base k cs J b rest' cs' h hr hb
    have hn0 : m * 20 + ts.length + 110 ≤ n := by omega
    obtain ⟨sb, qb, pb', xb⟩ := (eof_rd ts).use (n := n) (by omega) h
    have ek := itemKeywords_run.of (n := n) (by omega) sb
    obtain ⟨sc, qc, pc, xc⟩ := (at_rd (ts := ts) itemKws (by decide)).use (n := n) (by omega) pb'
    have hs : (strs itemKws).strip = strs itemKws := rfl
    have nr2 : noRefL [AV.ref P 0] = false := ref1 ..
    have nr3 : noRefL [AV.ref P 0, strs itemKws] = false := ref1 ..
    have hev : ev skipC rest = (!(ev rEof rest) && !atT itemKws (pk rest)) := rfl
    obtain ⟨m', hm', hw⟩ := whil_inv hr
    cases hm'
    have qb2 : aCall Tryz.prog (den C n) 59 [.ref P 0] s = some (.bool (ev rEof rest), sb) := qb
    have qc2 : aCall Tryz.prog (den C n) 106 [.ref P 0, strs itemKws] sb = some (.bool (atT itemKws (pk rest)), sc) := qc
    rcases hw with ⟨hc, rfl, rfl, rfl⟩ | ⟨hc, hrb, hb0⟩ | ⟨hc, tw, cw, hrb, hrw, hzw⟩
    · rw [hc] at hev
      cases h2 : ev rEof rest' with
      | true =>
        rw [h2] at qb2
        refine ⟨sb, J, fun M n' e hM he0 => ?_, pb', xb⟩
        obtain ⟨M, rfl⟩ : ∃ j, M = j + 1 := ⟨M - 1, by omega⟩
        rw [aLoop, F175_L0]
        simp -implicitDefEqProofs only [sL, he0, qb2, nr2, Bool.false_eq_true, ite_false, kGd_false]
        exact drawOK_base (by kernel_rfl)
      | false =>
        rw [h2] at qb2 hev
        have h3 : atT itemKws (pk rest') = true := by simpa using hev
        rw [h3] at qc2
        refine ⟨sc, J, fun M n' e hM he0 => ?_, pc, xb.trans xc⟩
        obtain ⟨M, rfl⟩ : ∃ j, M = j + 1 := ⟨M - 1, by omega⟩
        rw [aLoop, F175_L0]
        simp -implicitDefEqProofs only [sL, he0, qb2, ek, hs, qc2, nr2, nr3, Bool.false_eq_true, ite_false, d175_1]
    · exact absurd (val_false (by rfl) hrb) (by decide)
    · rw [hc] at hev
      simp only [Bool.true_eq, Bool.and_eq_true, Bool.not_eq_true'] at hev
      rw [hev.1] at qb2
      rw [hev.2] at qc2
      obtain ⟨s1, J1, q1, p1, x1⟩ := bump_sim ts m n (by omega) P sc rest base k cs J false tw cw pc hrb (by omega)
      have e1 : aCall Tryz.prog (den C n) 113 [.ref P 0] sc = some (.tup [], s1) := q1
      obtain ⟨s2, J2, q2, p2, x2⟩ := ih hn0 s1 tw base k cw J1 b rest' cs' p1 hrw hb
      refine ⟨s2, J2, fun M n' e hM he0 => ?_, p2, ((xb.trans xc).trans x1).trans x2⟩
      obtain ⟨M, rfl⟩ : ∃ j, M = j + 1 := ⟨M - 1, by omega⟩
      rw [aLoop, F175_L0]
      simp -implicitDefEqProofs only [sL, he0, qb2, ek, hs, qc2, nr2, nr3, Bool.false_eq_true, ite_false, d175_1, e1]
      exact q2 _ _ _ (by omega) ((upds_get _ _ _ rfl).trans he0)
theorem s175 (ts : List Tok) (m : Nat) : Sim ts m (.seq .bump (.whil skipC .bump)) vd (fnF 175 fun P => [.box [.ref P 0] 0]) := by
  intro n hn P s rest base k cs J b rest' cs' h hr hb
  obtain ⟨n, rfl⟩ : ∃ j, n = j + 1 := ⟨n - 1, by omega⟩
  obtain ⟨m1, b1, t1, c1, hm1, ha1, hr1, hz1⟩ := seq_inv hr
  obtain ⟨s1, J1, q1, p1, x1⟩ := bump_sim ts m1 n (by omega) P s rest base k cs J b1 t1 c1 h ha1 (by omega)
  have e1 : aCall Tryz.prog (den C n) 113 [.ref P 0] s = some (.tup [], s1) := q1
  obtain ⟨s2, J2, e2, p2, x2⟩ := l175 (P := P) (n := n) m1 (by omega) s1 t1 base k c1 J1 b rest' cs' p1 hr1 hb
  refine ⟨s2, J2, ?_, p2, x1.trans x2⟩
  show aCall Tryz.prog (den C (n + 1)) 175 [.box [.ref P 0] 0] s = _
  rw [callR en175 (box1 ..), F175_eq, F175]
  simp -implicitDefEqProofs only [sL, e1]
  exact e2 _ _ _ (by omega) rfl
theorem s109 (ts : List Tok) (m : Nat) : SimD 5 ts m gSkip vd (fnF 109 fun P => [.ref P 0]) := by
  intro n hn P s rest base k cs J b rest' cs' h hr hb
  obtain ⟨m1, hm1⟩ := run_pos hr
  obtain ⟨n, rfl⟩ : ∃ j, n = j + 1 := ⟨n - 1, by omega⟩
  obtain ⟨s1, J1, q1, p1, x1⟩ := (node_simD (ts := ts) (m := m) (k := 46) (v := fun P => .fn 175 [] [.box [.ref P 0] 0]) (fun _ => rfl) (fun k hk => s175 ts k)) n (by omega) P s rest base k cs J b rest' cs' h hr hb
  have e1 : aCall Tryz.prog (den C n) 110 [.ref P 0, .int .i64 46, .fn 175 [] [.box [.ref P 0] 0]] s = some (.tup [], s1) := q1
  refine ⟨s1, J1, ?_, p1, x1⟩
  show aCall Tryz.prog (den C (n + 1)) 109 [.ref P 0] s = _
  rw [callR en109 (ref1 ..), F109_eq, F109]
  simp -implicitDefEqProofs only [sL, aBox_ref, e1]
def itX (rest : List Tok) : Tok := if atT [wPub] (pk rest) = true then pk (la rest) else pk rest
def itK (rest : List Tok) : Nat := kindOf (itX rest).2
theorem itemIs_ev (k : Nat) (rest : List Tok) : ev (itemIs k) rest = (itK rest == k && (itX rest).1 == 104) := rfl
theorem gItem_inv {m : Nat} {rest : List Tok} {cs : List Tree} {r : Bool × List Tok × List Tree} (h : run m gItem rest cs = some r) :
    ∃ m', m' < m ∧ (((2 ≤ itK rest ∧ itK rest ≤ 9) ∧ (itX rest).1 = 104 ∧ run m' (gItemAs (itK rest)) rest cs = some r) ∨ ((itK rest = 0 ∨ (itX rest).1 ≠ 104) ∧ run m' gSkip rest cs = some r)) := by
  have hK : itK rest = 0 ∨ (2 ≤ itK rest ∧ itK rest ≤ 9) := by
    rcases kindOf_eq (itX rest).2 with ⟨_, h⟩ | ⟨k, _, hk, h⟩
    · exact .inl h
    · right; unfold itK; omega
  have yes : ∀ k, ev (itemIs k) rest = true → itK rest = k ∧ (itX rest).1 = 104 := by
    intro k h; rw [itemIs_ev] at h; simpa using h
  have no : ∀ k, ev (itemIs k) rest = false → (itX rest).1 = 104 → itK rest ≠ k := by
    intro k h h2; rw [itemIs_ev, h2] at h; simpa using h
  obtain ⟨m2, e2, h2 | h2⟩ := ite_inv h
  · obtain ⟨a, b⟩ := yes 2 h2.1; exact ⟨m2, by omega, .inl ⟨by omega, b, by rw [a]; exact h2.2⟩⟩
  obtain ⟨m3, e3, h3 | h3⟩ := ite_inv h2.2
  · obtain ⟨a, b⟩ := yes 3 h3.1; exact ⟨m3, by omega, .inl ⟨by omega, b, by rw [a]; exact h3.2⟩⟩
  obtain ⟨m4, e4, h4 | h4⟩ := ite_inv h3.2
  · obtain ⟨a, b⟩ := yes 4 h4.1; exact ⟨m4, by omega, .inl ⟨by omega, b, by rw [a]; exact h4.2⟩⟩
  obtain ⟨m5, e5, h5 | h5⟩ := ite_inv h4.2
  · obtain ⟨a, b⟩ := yes 5 h5.1; exact ⟨m5, by omega, .inl ⟨by omega, b, by rw [a]; exact h5.2⟩⟩
  obtain ⟨m6, e6, h6 | h6⟩ := ite_inv h5.2
  · obtain ⟨a, b⟩ := yes 6 h6.1; exact ⟨m6, by omega, .inl ⟨by omega, b, by rw [a]; exact h6.2⟩⟩
  obtain ⟨m7, e7, h7 | h7⟩ := ite_inv h6.2
  · obtain ⟨a, b⟩ := yes 7 h7.1; exact ⟨m7, by omega, .inl ⟨by omega, b, by rw [a]; exact h7.2⟩⟩
  obtain ⟨m8, e8, h8 | h8⟩ := ite_inv h7.2
  · obtain ⟨a, b⟩ := yes 8 h8.1; exact ⟨m8, by omega, .inl ⟨by omega, b, by rw [a]; exact h8.2⟩⟩
  obtain ⟨m9, e9, h9 | h9⟩ := ite_inv h8.2
  · obtain ⟨a, b⟩ := yes 9 h9.1; exact ⟨m9, by omega, .inl ⟨by omega, b, by rw [a]; exact h9.2⟩⟩
  refine ⟨m9, by omega, .inr ⟨?_, h9.2⟩⟩
  by_cases hx : (itX rest).1 = 104
  · left
    have := no 2 h2.1 hx; have := no 3 h3.1 hx; have := no 4 h4.1 hx; have := no 5 h5.1 hx
    have := no 6 h6.1 hx; have := no 7 h7.1 hx; have := no 8 h8.1 hx; have := no 9 h9.1 hx
    omega
  · exact .inr hx
end ParF
end

section
set_option maxRecDepth 100000
set_option maxHeartbeats 1000000
namespace ParF
open Go Go.Abs Go.Proofs Pm
theorem look_peek {ts : List Tok} {n : Nat} (hn : ts.length + 130 ≤ n) {P : Nat} {s : Heap} {rest : List Tok} {base : List Lv} {k : Nat} {cs : List Tree} {J : List Nat} (h : PR ts P s rest base k cs J) :
    ∃ s1 P1 s2, aCall Tryz.prog (den C n) 107 [.ref P 0] s = some (.ref P1 0, s1) ∧ aCall Tryz.prog (den C n) 105 [.ref P1 0] s1 = some (tokA (pk (la rest)), s2) ∧ PR ts P s2 rest base k cs J ∧ Ex s s2 J J := by
  have h' := h
  obtain ⟨pos, i, rfl, h⟩ := h
  obtain ⟨tk, st, r⟩ := h.rdy
  obtain ⟨t, P1, pos1, tk1, st1, e1, r1, d1⟩ := look_run r (n := n) (by omega)
  obtain ⟨t2, e2⟩ := peek_run r1 (n := n) (by omega)
  rw [d1] at e2
  exact ⟨_, P1, _, e1, e2, (h'.app t).app t2, (Ex.app s t J).trans (Ex.app _ _ J)⟩
theorem peek_len {ts : List Tok} {n : Nat} (hn : ts.length + 20 ≤ n) {P : Nat} {s sp : Heap} {r : AV} {rest : List Tok} {base : List Lv} {k : Nat} {cs : List Tree} {J : List Nat} (h : PR ts P s rest base k cs J) (e : aCall Tryz.prog (den C n) 105 [.ref P 0] s = some (r, sp)) : s.length ≤ sp.length := by
  obtain ⟨pos, i, rfl, h⟩ := h
  obtain ⟨tk, st, rr⟩ := h.rdy
  obtain ⟨t, e'⟩ := peek_run rr (n := n) (by omega)
  rw [e'] at e
  cases e
  rw [app_len]; omega
theorem zero3 : aAlloc Tryz.prog 3 = fun s => some (.ref s.length 0, s ++ [(3, [I 0])]) := by
  have h : zeroOf Tryz.prog 3 = some (I 0) := by kernel_rfl
  funext s
  simp [aAlloc, h]
theorem item_tail {ts : List Tok} {m n : Nat} (hn : m * 20 + ts.length + 99 ≤ n) {P : Nat} {s : Heap} {rest : List Tok} {base : List Lv} {k : Nat} {cs : List Tree} {J : List Nat} {b : Bool} {rest' : List Tok} {cs' : List Tree}
    (h : PR ts P s rest base k cs J) (hr : run m gItem rest cs = some (b, rest', cs')) (hb : base.length + szL cs' < 900000000) {L : Nat} (hL : s[L]? = some (80, [I (itX rest).1, .str (itX rest).2])) (hj : L ∉ J) :
    ∃ s' J', (∀ n' e, e 1 = pb P → e 2 = .ref L 0 → F60_J0 (den C n) n' e s = some (.tup [], s')) ∧ PR ts P s' rest' base k cs' J' ∧ Ex s s' J J' := by
  obtain ⟨m', hm', ho⟩ := gItem_inv hr
  have l1 : aLoad false false 1 (.ref L 1) s = some (.str (itX rest).2, s) := ld (o := 1) hL (by decide) rfl (by decide)
  have e1 := (itemKind_run (itX rest).2).of (n := n) (by omega) s
  have e1 : aCall Tryz.prog (den C n) 108 [.str (itX rest).2] s = some (I (itK rest), s) := e1
  have sto : aStore 1 (s ++ [(3, [I 0])]) (.ref s.length 0) (I (itK rest)) = some (s ++ [(3, [I (itK rest)])]) := by
    rw [ParF.st (o := 0) (n := 1) (v := I (itK rest)) (gapp_new (x := (3, [I 0]))) (by decide) rfl rfl (by show 0 + 1 ≤ 1; omega), set_end]; rfl
  have pa := h.app [(3, [I (itK rest)])]
  have nj : s.length ∉ J := fun hm => by obtain ⟨pp, ii, _, hh⟩ := h; exact Nat.lt_irrefl _ (hh.lt _ hm)
  have hL2 : (s ++ [(3, [I (itK rest)])])[s.length]? = some (3, [I (itK rest)]) := gapp_new
  have l2 : aLoad false false 1 (.ref s.length 0) (s ++ [(3, [I (itK rest)])]) = some (I (itK rest), s ++ [(3, [I (itK rest)])]) := ld (o := 0) hL2 (by decide) rfl (by decide)
  have hL3 : (s ++ [(3, [I (itK rest)])])[L]? = some (80, [I (itX rest).1, .str (itX rest).2]) := (gapp_old (glt hL)).trans hL
  have l3 : aLoad false false 1 (.ref L 0) (s ++ [(3, [I (itK rest)])]) = some (I (itX rest).1, s ++ [(3, [I (itK rest)])]) := ld (o := 0) hL3 (by decide) rfl (by decide)
  have k0 : ((itK rest : Int) == 0) = (itK rest == 0) := kind_eq _ 0
  have k1 : (((itX rest).1 : Int) != 104) = !((itX rest).1 == 104) := by rw [bne]; exact congrArg _ (kind_eq _ 104)
  rcases ho with ⟨hK, hx, hr1⟩ | ⟨hK, hr1⟩
  · have z0 : (itK rest == 0) = false := by simp; omega
    have z1 : ((itX rest).1 == 104) = true := by simp [hx]
    obtain ⟨m1, ds, hm1, hr2, rfl⟩ := node_inv hr1
    rw [szL_append, szL_one, szT_mk] at hb
    obtain ⟨n, rfl⟩ : ∃ j, n = j + 3 := ⟨n - 3, by omega⟩
    obtain ⟨s1, J1, q1, p1, x1⟩ := node_run (k := itK rest) [] pa hb (v := .fn 111 [] [.box [.ref P 0] 0, .ref s.length 0]) rfl n fun s3 lv J3 p3 x3 => by
      have hL4 := (x3.fr s.length (by rw [app_length]; omega) nj).trans hL2
      obtain ⟨s4, J4, e4, p4, x4⟩ := s111 hK (n := n + 2) (m := m1) (by omega) p3 hL4 (x3.notin (by rw [app_length]; omega) nj) hr2 (by rw [app_len]; show base.length + 1 + _ < _; omega)
      exact ⟨s4, J4, _, e4, p4, x4⟩
    refine ⟨s1, J1, fun n' e he1 he2 => ?_, p1, (Ex.app s _ J).trans x1⟩
    rw [F60_J0]
    simp -implicitDefEqProofs only [sL, he1, he2, l1, e1, zero3, sto, l2, k0, z0, l3, k1, z1, q1]
  · obtain ⟨s1, J1, q1, p1, x1⟩ := s109 ts m' n (by omega) P _ rest base k cs J b rest' cs' pa hr1 hb
    have q1 : aCall Tryz.prog (den C n) 109 [.ref P 0] (s ++ [(3, [I (itK rest)])]) = some (.tup [], s1) := q1
    refine ⟨s1, J1, fun n' e he1 he2 => ?_, p1, (Ex.app s _ J).trans x1⟩
    rw [F60_J0]
    cases z0 : (itK rest == 0) with
    | true => simp -implicitDefEqProofs only [sL, he1, he2, l1, e1, zero3, sto, l2, k0, z0, q1]
    | false =>
      have z1 : ((itX rest).1 == 104) = false := by
        rcases hK with h | h
        · simp [h] at z0
        · simpa using h
      simp -implicitDefEqProofs only [sL, he1, he2, l1, e1, zero3, sto, l2, k0, z0, l3, k1, z1, q1]
theorem s60 (ts : List Tok) (m : Nat) : Sim ts m gItem vd (fnF 60 fun P => [.ref P 0]) := by
  intro n hn P s rest base k cs J b rest' cs' h hr hb
  obtain ⟨n, rfl⟩ : ∃ j, n = j + 1 := ⟨n - 1, by omega⟩
  have hm2 : 2 ≤ m := by
    obtain ⟨m1, e1⟩ := run_pos hr
    obtain ⟨m', h', ho⟩ := gItem_inv hr
    have : 0 < m' := by
      rcases ho with ⟨_, _, h⟩ | ⟨_, h⟩ <;> (obtain ⟨q, e⟩ := run_pos h; omega)
    omega
  obtain ⟨sp, s2, L, qp, qs, p2, x2, hL2, hlt2, hnj, hLs⟩ := peek_cell (n := n) (by omega) h
  have hsp := peek_len (n := n) (by omega) h qp
  obtain ⟨s3, q3, p3, x3⟩ := (at_rd (ts := ts) [wPub] (by decide : 1 < 50)).use (n := n) (by omega) p2
  have q3 : aCall Tryz.prog (den C n) 106 [.ref P 0, .sl 9 1 [.str [112, 117, 98]] .sh] s2 = some (.bool (atT [wPub] (pk rest)), s3) := q3
  have hL3 := (x3.fr L hlt2 hnj).trans hL2
  have x03 := x2.trans x3
  subst hLs
  cases hp : atT [wPub] (pk rest) with
  | false =>
    rw [hp] at q3
    have hX : itX rest = pk rest := by rw [itX, hp]; rfl
    obtain ⟨s4, J4, q4, p4, x4⟩ := item_tail (n := n) (m := m) (by omega) p3 hr hb (L := sp.length) (by rw [hX]; exact hL3) hnj
    refine ⟨s4, J4, ?_, p4, x03.trans x4⟩
    show aCall Tryz.prog (den C (n + 1)) 60 [.ref P 0] s = _
    rw [callR en60 (ref1 ..), F60_eq, F60]
    simp -implicitDefEqProofs only [sL, aBox_ref, qp, zero80, qs, bs1, strip_own, q3]
    exact q4 _ _ rfl rfl
  | true =>
    rw [hp] at q3
    have hX : itX rest = pk (la rest) := by rw [itX, hp]; rfl
    obtain ⟨s5, P1, s6, q5, q6, p6, x6⟩ := look_peek (n := n) (by omega) p3
    have hlt3 := glt hL3
    have hL6 := (x6.fr sp.length hlt3 hnj).trans hL3
    have sto : aStore 2 s6 (.ref sp.length 0) (tokA (pk (la rest))) = some (s6.set sp.length (80, [I (pk (la rest)).1, .str (pk (la rest)).2])) := by
      rw [ParF.st (o := 0) (n := 2) (v := tokA (pk (la rest))) hL6 (by decide) rfl rfl (by show 2 ≤ 2; omega)]; rfl
    have p7 := p6.setc hnj (80, [I (pk (la rest)).1, .str (pk (la rest)).2])
    have hL7 : (s6.set sp.length (80, [I (pk (la rest)).1, .str (pk (la rest)).2]))[sp.length]? = some (80, [I (itX rest).1, .str (itX rest).2]) := by rw [hX]; exact gset_eq hL6
    have xc : Ex s6 (s6.set sp.length (80, [I (pk (la rest)).1, .str (pk (la rest)).2])) (sp.length :: J) (sp.length :: J) := ⟨by rw [set_length]; exact Nat.le_refl _, fun x hx hj => gset_ne fun e => hj (by rw [← e]; exact List.mem_cons_self ..), fun _ h => .inl h⟩
    have x07 := (((x03.trans x6).weak [sp.length]).trans xc).unweak hsp hnj
    obtain ⟨s8, J8, q8, p8, x8⟩ := item_tail (n := n) (m := m) (by omega) p7 hr hb (L := sp.length) hL7 hnj
    refine ⟨s8, J8, ?_, p8, x07.trans x8⟩
    show aCall Tryz.prog (den C (n + 1)) 60 [.ref P 0] s = _
    rw [callR en60 (ref1 ..), F60_eq, F60]
    simp -implicitDefEqProofs only [sL, aBox_ref, qp, zero80, qs, bs1, strip_own, q3, q5, q6, sto]
    exact q8 _ _ rfl rfl
end ParF
end
