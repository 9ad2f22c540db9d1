/- ExtR, CmpC, CmpF, CmpA, LayZ, CmpB, CmpD, CmpE, CmpG, CmpI, CmpH, CmpJ, CmpK -/
import Derived.Test.YtnhnmigafkodfaaGreatDoorA
import Derived.Test.YtnhnmigafkodfaaGreatDoorB
import Derived.Test.YtnhnmigafkodfaaGreatDoorProg
import Derived.KernelRfl
import Derived.Test.YtnhnmigafkodfaaGreatDoorC
import Derived.Sort.Grow
import Derived.Deep.Draws
import Derived.Shelf.SlSortCmp.WholeK
import Derived.Test.YtnhnmigafkodfaaGreatDoorX
import Derived.Test.YtnhnmigafkodfaaGreatDoorH
import Derived.Shelf.SlicesQ.Reverse
import Derived.Lib.SlicesCompact
import Derived.Shelf.SlLaysE
import Derived.Shelf.SlicesE.Compact
set_option linter.all false

section
namespace Go.Abs
open Go
variable {W0 : World} {L : Lay} {ow : Owns} {s : Heap} {w : World}
theorem setrow_st (h : St W0 L ow s w) {id : Nat} {t0 : TypeId} {cs ds : List AV} (hs : s[id]? = some (t0, cs)) (hne : cs ≠ []) (hdt : t0 ≠ deadTy) (hds : ds ≠ [])
    {w' : World} {vs js : List Value} {fz : Nat × Nat} (hb0 : w'.heap[L.loc id]? = some (.cells (vs ++ js).toArray t0 fz)) (hsz : (vs ++ js).length = L.sz id)
    (hother : ∀ k, k < w.heap.size → k ≠ L.loc id → w'.heap[k]? = w.heap[k]?) (hsize : w.heap.size ≤ w'.heap.size) (hmelt : ∀ o, w'.frozen? ⟨L.loc id, o, none⟩ = false) (same : Same L.m w w')
    (hr : RelL L ds vs) (h1 : ∀ v ∈ vs, oneC v = true) (hown : ∀ k a v, ds[k]? = some a → vs[k]? = some v → OwnAt L ow w (.cell id k) a v) : Ext L ow w L ow w' ∧ St W0 L ow (s.set id (t0, ds)) w' := by
  have O := h.obj id _ hs hne hdt
  have hidl : id < s.length := (List.getElem?_eq_some_iff.1 hs).1
  have hhas : has s id = true := has_of hs hne
  have hx : Ext L ow w L ow w' := by
    refine ⟨.refl L, fun k hk => ?_, same⟩
    have hkb : k ≠ L.loc id := by intro e; subst e; rw [O.own] at hk; cases hk
    exact ⟨hk, fun _ => rfl, hother k (h.used k (by rw [hk]; simp)) hkb⟩
  refine ⟨hx, ⟨fun i => by rw [h.live, has_set hhas hds], fun b o v hS => ?_, fun i dd hdd hddne hddt => ?_, fun k hk => Nat.lt_of_lt_of_le (h.used k hk) hsize, h.base, h.below_ext hx⟩⟩
  · have hne' : b ≠ L.loc id := by intro e; subst e; rw [O.S] at hS; cases hS
    rw [cell?_of_heap (hother b (World.block_lt_of_cell? w (a := ⟨b, o, none⟩) (h.imm b o v hS)) hne')]
    exact h.imm b o v hS
  · by_cases e' : i = id
    · subst e'
      rw [List.getElem?_set_self hidl] at hdd
      cases hdd
      exact ⟨O.own, O.S, ⟨vs, js, ⟨fz, hb0⟩, hr, h1, fun k a v ha hv => (hown k a v ha hv).move fun b hb => ⟨hb, fun _ => rfl, hother b (h.used b (by rw [hb]; simp)) (by intro e; subst e; rw [O.own] at hb; cases hb)⟩, hsz⟩, hmelt⟩
    · rw [List.getElem?_set_ne (fun e => e' e.symm)] at hdd
      have hil : L.live i = true := by rw [h.live]; exact has_of hdd hddne
      refine (h.obj i dd hdd hddne hddt).move (.refl L) hil (fun b hb => ⟨rfl, fun _ => rfl, ?_⟩)
      have hne' : b ≠ L.loc id := by
        intro e; subst e; rw [O.own] at hb
        rcases hb with hb | ⟨k, hb⟩
        · injection hb with hb; exact e' hb.symm
        · cases hb
      refine hother b (h.used b ?_) hne'
      rcases hb with hb | ⟨k, hb⟩ <;> rw [hb] <;> simp
end Go.Abs
end

section
namespace CmpF
open Go Go.Abs Go.Proofs
noncomputable def C0 : Cfg := { P := Tryz.prog, glob := fun _ => none, ext := fun _ => none, ref := fun _ _ => false, own := fun _ _ => false, m := true }
end CmpF
end

section
set_option maxRecDepth 10000
namespace CmpF
open Go Go.Abs Go.Proofs
-- cmp.isNaN int
noncomputable def F126 (D : Den) (n : Nat) (t0 : AV) (s : Heap) : Ans :=
  oh (some ((.bool false), s)) fun t2 s =>
  oh (some (t0.strip, s)) fun t3 s =>
  oh (some (t0.strip, s)) fun t4 s =>
  oh (mp (aBin Tryz.prog .neq 3 t3 t4) s) fun t5 s =>
  oh (some (t5, s)) fun t2_2 s =>
  some (t2_2, s)
theorem F126_eq (n : Nat) (t0 : AV) (s : Heap) : den C0 (n + 1) 126 [t0] s = F126 (den C0 n) n t0 s :=
  (den_body rfl Tryz.func126 _ _).trans (by kernel_rfl)
theorem en126 : enterable Tryz.prog 126 = true := by kernel_rfl
-- cmp.isNaN string
noncomputable def F127 (D : Den) (n : Nat) (t0 : AV) (s : Heap) : Ans :=
  oh (some ((.bool false), s)) fun t2 s =>
  oh (some (t0.strip, s)) fun t3 s =>
  oh (some (t0.strip, s)) fun t4 s =>
  oh (mp (aBin Tryz.prog .neq 9 t3 t4) s) fun t5 s =>
  oh (some (t5, s)) fun t2_2 s =>
  some (t2_2, s)
theorem F127_eq (n : Nat) (t0 : AV) (s : Heap) : den C0 (n + 1) 127 [t0] s = F127 (den C0 n) n t0 s :=
  (den_body rfl Tryz.func127 _ _).trans (by kernel_rfl)
theorem en127 : enterable Tryz.prog 127 = true := by kernel_rfl
-- cmp.Compare int
noncomputable def F58 (D : Den) (n : Nat) (t0 t1 : AV) (s : Heap) : Ans :=
  oh (some ((.int .i64 0), s)) fun t4 s =>
  oh (some (t0.strip, s)) fun t7 s =>
  oh (aCall Tryz.prog D 126 [t7.strip] s) fun t8 s =>
  oh (some (t8, s)) fun t5 s =>
  oh (some (t1.strip, s)) fun t9 s =>
  oh (aCall Tryz.prog D 126 [t9.strip] s) fun t10 s =>
  oh (some (t10, s)) fun t6 s =>
  oh (some (t5.strip, s)) fun t11 s =>
  br t11
    (oh (some (t6.strip, s)) fun t12 s =>
  br t12
    (oh (some ((.int .i64 0), s)) fun t4_2 s =>
  some (t4_2, s))
    (oh (some ((.int .i64 (-1)), s)) fun t4_3 s =>
  some (t4_3, s)))
    (oh (some (t6.strip, s)) fun t13 s =>
  br t13
    (oh (some ((.int .i64 1), s)) fun t4_4 s =>
  some (t4_4, s))
    (oh (some (t0.strip, s)) fun t14 s =>
  oh (some (t1.strip, s)) fun t15 s =>
  oh (mp (aBin Tryz.prog .lss 3 t14 t15) s) fun t16 s =>
  br t16
    (oh (some ((.int .i64 (-1)), s)) fun t4_5 s =>
  some (t4_5, s))
    (oh (some (t0.strip, s)) fun t17 s =>
  oh (some (t1.strip, s)) fun t18 s =>
  oh (mp (aBin Tryz.prog .gtr 3 t17 t18) s) fun t19 s =>
  br t19
    (oh (some ((.int .i64 1), s)) fun t4_6 s =>
  some (t4_6, s))
    (oh (some ((.int .i64 0), s)) fun t4_7 s =>
  some (t4_7, s)))))
theorem F58_eq (n : Nat) (t0 t1 : AV) (s : Heap) : den C0 (n + 1) 58 [t0, t1] s = F58 (den C0 n) n t0 t1 s :=
  (den_body rfl Tryz.func58 _ _).trans (by kernel_rfl)
theorem en58 : enterable Tryz.prog 58 = true := by kernel_rfl
-- cmp.Compare string
noncomputable def F59 (D : Den) (n : Nat) (t0 t1 : AV) (s : Heap) : Ans :=
  oh (some ((.int .i64 0), s)) fun t4 s =>
  oh (some (t0.strip, s)) fun t7 s =>
  oh (aCall Tryz.prog D 127 [t7.strip] s) fun t8 s =>
  oh (some (t8, s)) fun t5 s =>
  oh (some (t1.strip, s)) fun t9 s =>
  oh (aCall Tryz.prog D 127 [t9.strip] s) fun t10 s =>
  oh (some (t10, s)) fun t6 s =>
  oh (some (t5.strip, s)) fun t11 s =>
  br t11
    (oh (some (t6.strip, s)) fun t12 s =>
  br t12
    (oh (some ((.int .i64 0), s)) fun t4_2 s =>
  some (t4_2, s))
    (oh (some ((.int .i64 (-1)), s)) fun t4_3 s =>
  some (t4_3, s)))
    (oh (some (t6.strip, s)) fun t13 s =>
  br t13
    (oh (some ((.int .i64 1), s)) fun t4_4 s =>
  some (t4_4, s))
    (oh (some (t0.strip, s)) fun t14 s =>
  oh (some (t1.strip, s)) fun t15 s =>
  oh (mp (aBin Tryz.prog .lss 9 t14 t15) s) fun t16 s =>
  br t16
    (oh (some ((.int .i64 (-1)), s)) fun t4_5 s =>
  some (t4_5, s))
    (oh (some (t0.strip, s)) fun t17 s =>
  oh (some (t1.strip, s)) fun t18 s =>
  oh (mp (aBin Tryz.prog .gtr 9 t17 t18) s) fun t19 s =>
  br t19
    (oh (some ((.int .i64 1), s)) fun t4_6 s =>
  some (t4_6, s))
    (oh (some ((.int .i64 0), s)) fun t4_7 s =>
  some (t4_7, s)))))
theorem F59_eq (n : Nat) (t0 t1 : AV) (s : Heap) : den C0 (n + 1) 59 [t0, t1] s = F59 (den C0 n) n t0 t1 s :=
  (den_body rfl Tryz.func59 _ _).trans (by kernel_rfl)
theorem en59 : enterable Tryz.prog 59 = true := by kernel_rfl
-- cmp.Or int
noncomputable def F57_L0 (D : Den) (n : Nat) (k0 : Env → Heap → Ans) (e : Env) (s : Heap) : Ans :=
  oh (mp (aBin Tryz.prog .lss 3 (e 8) (e 7)) s) fun t9 s =>
  br t9
    (oh (mp (aIndexAddr Tryz.prog 44 (e 6) (e 8)) s) fun t10 s =>
  oh (aLoad false false 1 t10 s) fun t11 s =>
  oh (some (t11, s)) fun t5 s =>
  oh (some (t5.strip, s)) fun t12 s =>
  oh (some ((e 3).strip, s)) fun t13 s =>
  oh (mp (aBin Tryz.prog .neq 3 t12 t13) s) fun t14 s =>
  br t14
    (oh (some (t5.strip, s)) fun t15 s =>
  oh (some (t15, s)) fun t2_2 s =>
  some (t2_2, s))
    (oh (mp (aBin Tryz.prog .add 3 (e 8) (.int .i64 1)) s) fun t16 s =>
  oh (some (t16.strip, s)) fun t8_2 s =>
  k0 (upds e [(9, t9), (10, t10), (11, t11), (11, t11.strip), (5, t5), (12, t12), (13, t13), (14, t14), (16, t16), (8, t8_2)]) s))
    (oh (some ((e 3).strip, s)) fun t17 s =>
  oh (some (t17, s)) fun t2_3 s =>
  some (t2_3, s))
noncomputable def F57 (D : Den) (n : Nat) (t0 : AV) (s : Heap) : Ans :=
  oh (some ((.int .i64 0), s)) fun t2 s =>
  oh (some ((.int .i64 0), s)) fun t3 s =>
  oh (some (t0.strip, s)) fun t6 s =>
  oh (mp (aLen Tryz.prog 44 t6) s) fun t7 s =>
  oh (some ((.int .i64 0), s)) fun t8 s =>
  aLoop (F57_L0 D n) n (upds (argEnv [t0]) [(2, t2), (3, t3), (6, t6), (7, t7), (8, t8)]) s
theorem F57_eq (n : Nat) (t0 : AV) (s : Heap) : den C0 (n + 1) 57 [t0] s = F57 (den C0 n) n t0 s :=
  (den_body rfl Tryz.func57 _ _).trans (by kernel_rfl)
theorem en57 : enterable Tryz.prog 57 = true := by kernel_rfl
-- ast.CompareDiagnostics
noncomputable def F35 (D : Den) (n : Nat) (t0 t1 : AV) (s : Heap) : Ans :=
  oh (aBox false 61 t0 s) fun t2 s =>
  oh (aBox false 61 t1 s) fun t3 s =>
  oh (some ((.int .i64 0), s)) fun t4 s =>
  oh (mp (aAddr 1 t2) s) fun t5 s1 =>
  oh (aLoad false false 1 t5 s1) fun t6 s2 =>
  oh (mp (aAddr 1 t3) s2) fun t7 s3 =>
  oh (aLoad false false 1 t7 s3) fun t8 s4 =>
  oh (aCall Tryz.prog D 58 [t6.strip, t8.strip] s4) fun t9 s5 =>
  oh (mp (aAddr 2 t2) s5) fun t10 s6 =>
  oh (aLoad false false 1 t10 s6) fun t11 s7 =>
  oh (mp (aAddr 2 t3) s7) fun t12 s8 =>
  oh (aLoad false false 1 t12 s8) fun t13 s9 =>
  oh (aCall Tryz.prog D 58 [t11.strip, t13.strip] s9) fun t14 s10 =>
  oh (mp (aAddr 3 t2) s10) fun t15 s11 =>
  oh (aLoad false false 1 t15 s11) fun t16 s12 =>
  oh (mp (aAddr 3 t3) s12) fun t17 s13 =>
  oh (aLoad false false 1 t17 s13) fun t18 s14 =>
  oh (aCall Tryz.prog D 58 [t16.strip, t18.strip] s14) fun t19 s15 =>
  oh (mp (aAddr 0 t2) s15) fun t20 s16 =>
  oh (aLoad false false 1 t20 s16) fun t21 s17 =>
  oh (mp (aAddr 0 t3) s17) fun t22 s18 =>
  oh (aLoad false false 1 t22 s18) fun t23 s19 =>
  oh (aCall Tryz.prog D 58 [t21.strip, t23.strip] s19) fun t24 s20 =>
  oh (mp (aAddr 4 t2) s20) fun t25 s21 =>
  oh (aLoad false false 1 t25 s21) fun t26 s22 =>
  oh (mp (aAddr 4 t3) s22) fun t27 s23 =>
  oh (aLoad false false 1 t27 s23) fun t28 s24 =>
  oh (aCall Tryz.prog D 59 [t26.strip, t28.strip] s24) fun t29 s25 =>
  oh (mp (aBuildSlice Tryz.prog 44 5 [(0, t9), (1, t14), (2, t19), (3, t24), (4, t29)]) s25) fun t30 s26 =>
  oh (aCall Tryz.prog D 57 [t30.strip] s26) fun t31 s27 =>
  oh (some (t31, s27)) fun t4_2 s28 =>
  drawOK C0 35 (regOps Tryz.f35 1) [.silent, (kLoad false t5), .silent, (kLoad false t7), (dyn (kCall [t6.strip, t8.strip]) s4 s5), .silent, (kLoad false t10), .silent, (kLoad false t12), (dyn (kCall [t11.strip, t13.strip]) s9 s10), .silent, (kLoad false t15), .silent, (kLoad false t17), (dyn (kCall [t16.strip, t18.strip]) s14 s15), .silent, (kLoad false t20), .silent, (kLoad false t22), (dyn (kCall [t21.strip, t23.strip]) s19 s20), .silent, (kLoad false t25), .silent, (kLoad false t27), (dyn (kCall [t26.strip, t28.strip]) s24 s25), .silent, (dyn (kCall [t30.strip]) s26 s27), .silent] <|
  some (t4_2, s28)
theorem F35_eq (n : Nat) (t0 t1 : AV) (s : Heap) : den C0 (n + 1) 35 [t0, t1] s = F35 (den C0 n) n t0 t1 s :=
  (den_body rfl Tryz.func35 _ _).trans (by kernel_rfl)
theorem d35_1 (x : Ans) : drawOK C0 35 (regOps Tryz.f35 1) [.silent, .silent, .silent, .silent, .silent, .silent, .silent, .silent, .silent, .silent, .silent, .silent, .silent, .silent, .silent, .silent, .silent, .silent, .silent, .silent, .silent, .silent, .silent, .silent, .silent, .silent, .silent, .silent] x = x := drawOK_ok (by kernel_rfl)
theorem en35 : enterable Tryz.prog 35 = true := by kernel_rfl
end CmpF
end

section
set_option maxRecDepth 100000
set_option maxHeartbeats 1000000
namespace CmpF
open Go Go.Abs Go.Proofs ParF
theorem AC.at0 {g : FuncId} {args : List AV} {v : AV} (h : AC C0 g args v) : ∃ N, ∀ n, N ≤ n → ∀ s, aCall Tryz.prog (den C0 n) g args s = some (v, s) := h
theorem nan_i (x : Int) : AC C0 126 [.int .i64 x] (.bool false) := by
  refine .intro en126 rfl rfl ⟨0, fun n hn => ⟨[], ?_⟩⟩
  have h : (x != x) = false := by simp
  rw [F126_eq, F126]
  simp -implicitDefEqProofs only [sL, h]
theorem nan_s (x : List UInt8) : AC C0 127 [.str x] (.bool false) := by
  refine .intro en127 rfl rfl ⟨0, fun n hn => ⟨[], ?_⟩⟩
  have h : aBin Tryz.prog .neq 9 (.str x) (.str x) = some (.bool false) := by simp [aBin, strBin]
  rw [F127_eq, F127]
  simp -implicitDefEqProofs only [sL, h]
theorem cmp_i (x y : Int) : AC C0 58 [.int .i64 x, .int .i64 y] (.int .i64 (cmpI x y)) := by
  obtain ⟨N1, q1⟩ := AC.at0 (nan_i x)
  obtain ⟨N2, q2⟩ := AC.at0 (nan_i y)
  refine .intro en58 rfl rfl ⟨N1 + N2, fun n hn => ⟨[], ?_⟩⟩
  have q1 := q1 n (by omega)
  have q2 := q2 n (by omega)
  rw [F58_eq, F58]
  unfold cmpI
  by_cases h1 : x < y
  · rw [if_pos h1]
    simp -implicitDefEqProofs only [sL, q1, q2, h1, decide_true]
  · rw [if_neg h1]
    by_cases h2 : y < x
    · rw [if_pos h2]
      simp -implicitDefEqProofs only [sL, q1, q2, h1, h2, decide_true, decide_false]
    · rw [if_neg h2]
      simp -implicitDefEqProofs only [sL, q1, q2, h1, h2, decide_true, decide_false]
theorem cmp_s : AC C0 59 [.str [], .str []] (.int .i64 0) := by
  obtain ⟨N1, q1⟩ := AC.at0 (nan_s [])
  refine .intro en59 rfl rfl ⟨N1, fun n hn => ⟨[], ?_⟩⟩
  have q1 := q1 n (by omega)
  have h1 : aBin Tryz.prog .lss 9 (.str []) (.str []) = some (.bool false) := by kernel_rfl
  have h2 : aBin Tryz.prog .gtr 9 (.str []) (.str []) = some (.bool false) := by kernel_rfl
  rw [F59_eq, F59]
  simp -implicitDefEqProofs only [sL, q1, h1, h2]
def orL : List Int → Int
  | [] => 0
  | x :: xs => if x ≠ 0 then x else orL xs
theorem len44 (xs : List AV) (f : Flag) : aLen Tryz.prog 44 (.sl 3 1 xs f) = some (.int .i64 xs.length) := by
  have u : Tryz.prog.underlying 44 = some (.slice 3) := by kernel_rfl
  simp [aLen, u]
theorem idx44 {xs : List Int} {i : Nat} {f : Flag} (h : i < xs.length) : aIndexAddr Tryz.prog 44 (.sl 3 1 (xs.map fun x => .int .i64 x) f) (.int .i64 i) = some (.box [.int .i64 xs[i]] 0) := by
  have u : Tryz.prog.underlying 44 = some (.slice 3) := by kernel_rfl
  have z : szOf Tryz.prog 3 = some 1 := by kernel_rfl
  simp [aIndexAddr, u, z, h, AV.cells]
theorem or_loop (xs : List Int) (hx : xs.length < 1000) : ∀ (k i : Nat), xs.length - i = k → i ≤ xs.length → ∀ D m, k < m → ∀ n' e s, e 8 = .int .i64 i → e 7 = .int .i64 xs.length → e 6 = .sl 3 1 (xs.map fun x => .int .i64 x) .sh → e 3 = .int .i64 0 →
    aLoop (F57_L0 D n') m e s = some (.int .i64 (orL (xs.drop i)), s) := by
  intro k
  induction k with
  | zero =>
    intro i hk hi D m hm n' e s e8 e7 e6 e3
    obtain ⟨m, rfl⟩ : ∃ j, m = j + 1 := ⟨m - 1, by omega⟩
    have c : ¬ (i : Int) < (xs.length : Int) := by omega
    rw [List.drop_of_length_le (by omega), orL, aLoop, F57_L0]
    simp -implicitDefEqProofs only [sL, e8, e7, e6, e3, c]
  | succ k ih =>
    intro i hk hi D m hm n' e s e8 e7 e6 e3
    obtain ⟨m, rfl⟩ : ∃ j, m = j + 1 := ⟨m - 1, by omega⟩
    have hlt : i < xs.length := by omega
    have c : (i : Int) < (xs.length : Int) := by omega
    have ix := idx44 (f := .sh) hlt
    have ld : ∀ (x : Int) s, aLoad false false 1 (.box [.int .i64 x] 0) s = some (.int .i64 x, s) := fun x s => rfl
    have w : IntKind.i64.wrap ((i : Int) + 1) = ((i + 1 : Nat) : Int) := by rw [wrap64] <;> omega
    have ih := ih (i + 1) (by omega) (by omega) D m (by omega) n'
    rw [List.drop_eq_getElem_cons hlt, orL, aLoop, F57_L0]
    generalize xs[i] = x at *
    by_cases h : x = 0
    · have hb : (x != 0) = false := by simp [h]
      rw [if_neg (by simpa using h)]
      simp -implicitDefEqProofs only [sL, e8, e7, e6, e3, c, ix, ld, hb, w]
      refine ih _ _ ?_ ?_ ?_ ?_
      · simp [upds_at, upd_at]
      · simp [upds_at, upd_at, e7]
      · simp [upds_at, upd_at, e6]
      · simp [upds_at, upd_at, e3]
    · have hb : (x != 0) = true := by simp [h]
      rw [if_pos h]
      simp -implicitDefEqProofs only [sL, e8, e7, e6, e3, c, ix, ld, hb, w]
theorem or_run (xs : List Int) (hx : xs.length < 1000) : AC C0 57 [.sl 3 1 (xs.map fun x => .int .i64 x) .sh] (.int .i64 (orL xs)) := by
  have nr : noRefL (xs.map fun x => AV.int .i64 x) = true := by
    clear hx
    induction xs with
    | nil => exact noRefL_nil
    | cons x xs ih => rw [List.map_cons, noRefL_cons, ih]; rfl
  refine .intro en57 (by rw [noRefL_cons, noRef_sl, nr, noRefL_nil]; rfl) rfl ⟨xs.length + 1, fun n hn => ⟨[], ?_⟩⟩
  have l := len44 (xs.map fun x => .int .i64 x) .sh
  rw [List.length_map] at l
  have q := or_loop xs hx xs.length 0 (by omega) (by omega) (den C0 n) n (by omega) n
  rw [List.drop_zero] at q
  rw [F57_eq, F57]
  simp -implicitDefEqProofs only [sL, strip_sh, l]
  refine q _ _ ?_ ?_ ?_ ?_
  · rfl
  · rfl
  · rfl
  · rfl
theorem lit44 (a b c d f : Int) : aBuildSlice Tryz.prog 44 5 [(0, .int .i64 a), (1, .int .i64 b), (2, .int .i64 c), (3, .int .i64 d), (4, .int .i64 f)] = some (.sl 3 1 ([a, b, c, d, f].map fun x => .int .i64 x) .own) := by kernel_rfl
theorem diag_run (a b : Dr) : AC C0 35 [.agg a.row, .agg b.row] (.int .i64 (Dr.cmp a b)) := by
  obtain ⟨N1, q1⟩ := AC.at0 (cmp_i 0 0)
  obtain ⟨N2, q2⟩ := AC.at0 (cmp_i a.s b.s)
  obtain ⟨N3, q3⟩ := AC.at0 (cmp_i a.e b.e)
  obtain ⟨N4, q4⟩ := AC.at0 (cmp_i a.c b.c)
  obtain ⟨N5, q5⟩ := AC.at0 cmp_s
  obtain ⟨N6, q6⟩ := AC.at0 (or_run [cmpI 0 0, cmpI a.s b.s, cmpI a.e b.e, cmpI a.c b.c, 0] (by simp))
  have eo : orL [cmpI 0 0, cmpI a.s b.s, cmpI a.e b.e, cmpI a.c b.c, 0] = Dr.cmp a b := by
    have : cmpI 0 0 = 0 := rfl
    rw [this]
    simp only [orL, Dr.cmp, or0]
    by_cases h1 : cmpI a.s b.s = 0 <;> by_cases h2 : cmpI a.e b.e = 0 <;> by_cases h3 : cmpI a.c b.c = 0 <;> simp [h1, h2, h3]
  rw [eo] at q6
  refine .intro en35 (by rw [noRefL_cons, noRefL_cons, noRefL_nil]; rfl) rfl ⟨N1 + N2 + N3 + N4 + N5 + N6, fun n hn => ⟨[], ?_⟩⟩
  have q1 := q1 n (by omega)
  have q2 := q2 n (by omega)
  have q3 := q3 n (by omega)
  have q4 := q4 n (by omega)
  have q5 := q5 n (by omega)
  have q6 := q6 n (by omega)
  have l1 := lit44 (cmpI 0 0) (cmpI a.s b.s) (cmpI a.e b.e) (cmpI a.c b.c) 0
  have st : (AV.sl 3 1 ([cmpI 0 0, cmpI a.s b.s, cmpI a.e b.e, cmpI a.c b.c, 0].map fun x => .int .i64 x) .own).strip = .sl 3 1 ([cmpI 0 0, cmpI a.s b.s, cmpI a.e b.e, cmpI a.c b.c, 0].map fun x => .int .i64 x) .sh := rfl
  have bx : ∀ (d : Dr) s, aBox false 61 (.agg d.row) s = some (.box d.row 0, s) := fun d s => rfl
  have g1 : ∀ (d : Dr) s, aLoad false false 1 (.box d.row 1) s = some (.int .i64 0, s) := fun d s => rfl
  have g2 : ∀ (d : Dr) s, aLoad false false 1 (.box d.row 2) s = some (.int .i64 d.s, s) := fun d s => rfl
  have g3 : ∀ (d : Dr) s, aLoad false false 1 (.box d.row 3) s = some (.int .i64 d.e, s) := fun d s => rfl
  have g0 : ∀ (d : Dr) s, aLoad false false 1 (.box d.row 0) s = some (.int .i64 d.c, s) := fun d s => rfl
  have g4 : ∀ (d : Dr) s, aLoad false false 1 (.box d.row 4) s = some (.str [], s) := fun d s => rfl
  have nr : (AV.sl 3 1 ([cmpI 0 0, cmpI a.s b.s, cmpI a.e b.e, cmpI a.c b.c, 0].map fun x => .int .i64 x) .sh).noRef = true := by rw [noRef_sl]; rfl
  have k1 : ∀ l k, kLoad l (.box [] k) = .silent := fun l k => by cases l <;> rfl
  rw [F35_eq, F35]
  simp -implicitDefEqProofs only [sL, bx, g0, g1, g2, g3, g4, q1, q2, q3, q4, q5, l1, st, q6, nr, Bool.and_true, if_true, dyn_silent, d35_1]
end CmpF
end

section
namespace ParF
open Go Go.Abs
def lay0 (W : World) : Lay := { S := fun b o => W.cell? ⟨b, o, none⟩, live := fun _ => false, loc := fun _ => 0 }
def lay1 (W : World) : Lay := { S := fun b o => W.cell? ⟨b, o, none⟩, live := fun _ => false, loc := fun _ => 0, m := true }
def ow0 (W : World) : Owns := fun b => if b < W.heap.size then .frame else .free
theorem st0 (W : World) : St W (lay0 W) (ow0 W) [] W where
  live := fun id => by simp [lay0, has]
  imm := fun b o v h => h
  obj := fun id cs h _ => by simp at h
  used := fun b h => by unfold ow0 at h; split at h; assumption; exact absurd rfl h
  base := fun b h => by simp [ow0, h]
  below := RowKit.Below.refl _ _
theorem st1 (W : World) : St W (lay1 W) (ow0 W) [] W where
  live := fun id => by simp [lay1, has]
  imm := fun b o v h => h
  obj := fun id cs h _ => by simp at h
  used := fun b h => by unfold ow0 at h; split at h; assumption; exact absurd rfl h
  base := fun b h => by simp [ow0, h]
  below := RowKit.Below.refl _ _
theorem grown_of {W W' : World} {L' : Lay} {ow' : Owns} (hx : Ext (lay1 W) (ow0 W) W L' ow' W') : ∃ q os', W' = Sort.grow (W.drewN q) os' := by
  have hd : W.drawn ≤ W'.drawn := hx.same.drawn rfl
  have hb : ∀ k, k < W.heap.size → W'.heap[k]? = W.heap[k]? := fun k hk => (hx.fr k (by simp [ow0, hk])).2.2
  have hs : W.heap.size ≤ W'.heap.size := hx.same.size
  have e1 : W'.os = W.os := hx.same.os
  have e2 : W'.tape = W.tape := hx.same.tape
  have e3 : W'.output = W.output := hx.same.output
  refine ⟨W'.drawn - W.drawn, W'.heap.extract W.heap.size W'.heap.size, ?_⟩
  clear hx
  obtain ⟨heap', tape', drawn', os', output'⟩ := W'
  simp only at hd hb hs e1 e2 e3
  subst e1 e2 e3
  have eh : heap' = W.heap ++ heap'.extract W.heap.size heap'.size := by
    apply Array.ext_getElem?
    intro k
    by_cases hk : k < W.heap.size
    · rw [Array.getElem?_append_left hk]; exact hb k hk
    · rw [Array.getElem?_append_right (by omega), Array.getElem?_extract]
      by_cases hk2 : k < heap'.size
      · rw [if_pos (by omega)]; congr 1; omega
      · rw [if_neg (by omega), Array.getElem?_eq_none (by omega)]
  have ed : drawn' = W.drawn + (drawn' - W.drawn) := by omega
  simp only [Sort.grow, World.drewN]
  congr 1
end ParF
end

section
set_option maxRecDepth 100000
namespace ParF
open Go Go.Abs Go.Proofs Go.Sort Go.Shelf Go.RowKit
abbrev encD (d : Dr) : List Value := [.int .i64 d.c, .int .i64 0, .int .i64 d.s, .int .i64 d.e, .string ⟨#[]⟩]
theorem row_rel (L : Lay) (d : Dr) : RelL L d.row (encD d) :=
  .cons _ _ _ _ (.int _ _) (.cons _ _ _ _ (.int _ _) (.cons _ _ _ _ (.int _ _) (.cons _ _ _ _ (.int _ _) (.cons _ _ _ _ (.str []) .nil))))
theorem enc_one (d : Dr) : ∀ v ∈ encD d, v.oneCell' = true := by
  intro v hv
  simp [encD] at hv
  rcases hv with rfl | rfl | rfl | rfl | rfl <;> rfl
theorem diag_calls (a b : Dr) (W : World) : Calls Tryz.prog 35 #[.agg (encD a).toArray, .agg (encD b).toArray] W fun e w' => e = .returned (.int .i64 (Dr.cmp a b)) ∧ ∃ q os', w' = grow (W.drewN q) os' := by
  obtain ⟨N, q⟩ := CmpF.AC.at0 (CmpF.diag_run a b)
  have q := q N (Nat.le_refl _) []
  have D : DOK CmpF.C0 W (den CmpF.C0 N) := den_ok (fun g cs e => by cases e) (by kernel_rfl) (fun g e args s v s' h1 h2 _ => by cases h1) N
  have one : ∀ d : Dr, ∀ v ∈ encD d, oneC v = true := fun d v hv => by
    simp [encD] at hv
    rcases hv with rfl | rfl | rfl | rfl | rfl <;> rfl
  refine (aCall_ok (C := CmpF.C0) (L := lay1 W) (fun g cs e => by cases e) D q (by intro a ha; simp at ha; rcases ha with rfl | rfl <;> rfl) ⟨fun g cs e => (by cases e), rfl⟩ (st1 W) (cargs := [.agg (encD a).toArray, .agg (encD b).toArray])
    (.cons _ _ _ _ (.agg _ _ (row_rel _ a) (one a)) (.cons _ _ _ _ (.agg _ _ (row_rel _ b) (one b)) .nil))).2.mono ?_
  rintro e W' ⟨cv, rfl, L', ow', hx, hs, hr, _⟩
  cases hr
  exact ⟨rfl, grown_of hx⟩
theorem diag_lays (blk off size : Nat) (w : World) : CmpLays Tryz.prog 35 #[] encD 5 Dr.cmp blk off size w :=
  fun _ _ _ _ x y => diag_calls x y _
end ParF
end

section
set_option maxRecDepth 100000
namespace ParF
open Go Go.Abs Go.Proofs Go.Sort Go.Shelf Go.RowKit
theorem drs_inv : ∀ {l : List AV} {d : List Dr}, drs l = some d → l = d.flatMap Dr.row ∧ l.length = d.length * 5 := by
  intro l d h
  induction l using drs.induct generalizing d with
  | case1 => rw [drs] at h; cases h; exact ⟨rfl, rfl⟩
  | case2 c s e r ih =>
    rw [drs, Option.map_eq_some_iff] at h
    obtain ⟨d', h1, rfl⟩ := h
    obtain ⟨i1, i2⟩ := ih h1
    refine ⟨?_, ?_⟩
    · rw [List.flatMap_cons, ← i1]; rfl
    · simp only [List.length_cons, i2]; omega
  | case3 l h1 h2 => rw [drs] at h; cases h; exact h1; exact h2
theorem rel_int {L : Lay} {k : IntKind} {n : Int} {v : Value} (h : Rel L (.int k n) v) : v = .int k n := by cases h; rfl
theorem rel_str0 {L : Lay} {v : Value} (h : Rel L (.str []) v) : v = .string ⟨#[]⟩ := by cases h; rfl
theorem rows_rel (L : Lay) : ∀ d : List Dr, RelL L (d.flatMap Dr.row) (d.flatMap encD)
  | [] => .nil
  | x :: d => by rw [List.flatMap_cons, List.flatMap_cons]; exact (row_rel L x).append (rows_rel L d)
theorem relL_app {L : Lay} : ∀ {a b : List AV} {v : List Value}, RelL L (a ++ b) v → ∃ x y, v = x ++ y ∧ RelL L a x ∧ RelL L b y
  | [], b, v, h => ⟨[], v, rfl, .nil, h⟩
  | q :: a, b, v, h => by
    cases h with
    | cons _ u _ vs h t =>
      obtain ⟨x, y, rfl, h1, h2⟩ := relL_app t
      exact ⟨u :: x, y, rfl, .cons _ _ _ _ h h1, h2⟩
theorem row_inv {L : Lay} {d : Dr} {x : List Value} (h : RelL L d.row x) : x = encD d := by
  cases h with
  | cons _ v0 _ _ h0 t => cases t with
    | cons _ v1 _ _ h1 t => cases t with
      | cons _ v2 _ _ h2 t => cases t with
        | cons _ v3 _ _ h3 t => cases t with
          | cons _ v4 _ _ h4 t =>
            cases t
            rw [rel_int h0, rel_int h1, rel_int h2, rel_int h3, rel_str0 h4]
theorem rows_inv {L : Lay} : ∀ {d : List Dr} {x : List Value}, RelL L (d.flatMap Dr.row) x → x = d.flatMap encD
  | [], x, h => by cases h; rfl
  | d :: ds, x, h => by
    rw [List.flatMap_cons] at h
    obtain ⟨a, b, rfl, h1, h2⟩ := relL_app h
    rw [row_inv h1, rows_inv h2, List.flatMap_cons]
theorem enc_len (d : List Dr) : (d.flatMap encD).length = d.length * 5 := by
  induction d with
  | nil => rfl
  | cons a d ih => rw [List.flatMap_cons, List.length_append, ih, show (encD a).length = 5 from rfl, List.length_cons]; omega
theorem enc_get : ∀ (d : List Dr) (t : Nat), t < d.length * 5 → (d.flatMap encD)[t]? = some (encD (d.toArray[t / 5]!))[t % 5]!
  | [], t, h => by simp at h
  | a :: d, t, h => by
    rw [List.flatMap_cons]
    by_cases c : t < 5
    · rw [List.getElem?_append_left (by exact c)]
      have e1 : t / 5 = 0 := by omega
      have e2 : t % 5 = t := by omega
      rw [e1, e2]
      have : (a :: d).toArray[0]! = a := rfl
      rw [this]
      match t, c with
      | 0, _ => rfl
      | 1, _ => rfl
      | 2, _ => rfl
      | 3, _ => rfl
      | 4, _ => rfl
    · rw [List.getElem?_append_right (by show 5 ≤ t; omega)]
      have hl : (encD a).length = 5 := rfl
      rw [hl, enc_get d (t - 5) (by simp only [List.length_cons] at h; omega)]
      have e1 : t / 5 = (t - 5) / 5 + 1 := by omega
      have e2 : (t - 5) % 5 = t % 5 := by omega
      rw [e1, e2]
      congr 3
      have hh : (t - 5) / 5 < d.length := by simp only [List.length_cons] at h; omega
      simp [hh]
theorem flat_list (d : List Dr) : flatK encD 5 d.toArray = (d.flatMap encD).toArray := by
  refine Array.ext (by rw [size_flatK, List.size_toArray, List.size_toArray, enc_len]) fun t h1 h2 => ?_
  have ht : t < d.length * 5 := by rw [size_flatK] at h1; simpa using h1
  have e := enc_get d t ht
  have g := get_flatK encD 5 d.toArray t (by simpa using ht)
  rw [getElem!_pos _ t h1] at g
  rw [g]
  have : (d.flatMap encD).toArray[t]? = some (encD (d.toArray[t / 5]!))[t % 5]! := by rw [List.getElem?_toArray]; exact e
  rw [Array.getElem?_eq_getElem h2] at this
  exact (Option.some.inj this).symm
theorem put_list (F c : List Value) (h : F.length ≤ c.length) : putCells id 0 F.toArray c.toArray = (F ++ c.drop F.length).toArray := by
  refine Array.ext (by simp [putCells]; omega) fun k h1 h2 => ?_
  simp only [putCells, Array.getElem_mapIdx, Nat.zero_le, true_and, Nat.zero_add, Nat.sub_zero, List.size_toArray, id]
  by_cases e : k < F.length
  · rw [if_pos e]
    rw [getElem!_pos _ k (by simpa using e)]
    simp [List.getElem_append_left e]
  · rw [if_neg e]
    simp only [List.getElem_toArray]
    rw [List.getElem_append_right (by omega), List.getElem_drop]
    congr 1; omega
theorem srt_pdq (d : List Dr) : (pdq (ltOf Dr.cmp) d.toArray 0 d.toArray.size (Lib.bitLen d.toArray.size) true true).toList = srt d := by
  unfold srt
  rw [List.size_toArray]
  split
  · rename_i h
    have p := (pdq_facts d).2
    match d, h, p with
    | [], _, p => exact List.Perm.eq_nil p
    | [x], _, p => exact List.perm_singleton.1 p
  · rfl
theorem drow_len (d : List Dr) : (d.flatMap Dr.row).length = d.length * 5 := by
  induction d with
  | nil => rfl
  | cons a d ih => rw [List.flatMap_cons, List.length_append, ih, show a.row.length = 5 from rfl, List.length_cons]; omega
theorem rowworld {m : Bool} {w : World} {blk : Nat} {c : List Value} {fz : Nat × Nat} (n : Nat) (os : Array Obj) {X : List Dr} (hh : w.heap[blk]? = some (.cells c.toArray 61 fz)) (hl : X.length * 5 ≤ c.length) :
    (grow (putRowK encD 5 (Sort.ahead w n) blk 0 X.toArray) os).heap[blk]? = some (.cells (X.flatMap encD ++ c.drop (X.length * 5)).toArray 61 fz) ∧
    (∀ k, k < w.heap.size → k ≠ blk → (grow (putRowK encD 5 (Sort.ahead w n) blk 0 X.toArray) os).heap[k]? = w.heap[k]?) ∧ w.heap.size ≤ (grow (putRowK encD 5 (Sort.ahead w n) blk 0 X.toArray) os).heap.size ∧
    Same m w (grow (putRowK encD 5 (Sort.ahead w n) blk 0 X.toArray) os) := by
  have hb : blk < w.heap.size := (Array.getElem?_eq_some_iff.1 hh).1
  have hsz : w.heap.size ≤ (grow (putRowK encD 5 (Sort.ahead w n) blk 0 X.toArray) os).heap.size := by simp [grow, putRowK, putRow, mapBlock, Sort.ahead]
  have hp := put_list (X.flatMap encD) c (by rw [enc_len]; exact hl)
  rw [enc_len, ← flat_list] at hp
  refine ⟨?_, fun k hk hne => ?_, hsz, ⟨rfl, rfl, rfl, hsz, fun _ => Nat.le_add_right _ _⟩⟩
  · simp only [grow, putRowK, putRow, mapBlock, Sort.ahead]
    rw [Array.getElem?_append_left (by simpa using hb), Array.getElem?_modify, if_pos rfl, hh]
    simp only [Option.map_some, onCells]
    rw [hp]
  · simp only [grow, putRowK, putRow, mapBlock, Sort.ahead]
    rw [Array.getElem?_append_left (by simpa using hk), Array.getElem?_modify, if_neg (Ne.symm hne)]
theorem row_res {W0 : World} {L : Lay} {ow : Owns} {s : Heap} {w w' : World} (hst : St W0 L ow s w) {id : Nat} {cs : TypeId × List AV} (hcs : s[id]? = some cs) (e1 : cs.1 = 61) {d X : List Dr} (hcl : d.length * 5 ≤ cs.2.length)
    (hX : X.length = d.length) (hne : cs.2 ≠ []) {vs js : List Value} {fz : Nat × Nat} (hh : w.heap[L.loc id]? = some (.cells (vs ++ js).toArray 61 fz)) (hrel : RelL L cs.2 vs) (h1 : ∀ v ∈ vs, oneC v = true)
    (h2 : ∀ k a v, cs.2[k]? = some a → vs[k]? = some v → OwnAt L ow w (.cell id k) a v) (h5 : (vs ++ js).length = L.sz id) (hm : ∀ o, w.frozen? ⟨L.loc id, o, none⟩ = false) {n : Nat} {os : Array Obj}
    (hw : w' = grow (putRowK encD 5 (Sort.ahead w n) (L.loc id) 0 X.toArray) os) : Ext L ow w L ow w' ∧ St W0 L ow (s.set id (61, X.flatMap Dr.row ++ cs.2.drop (d.length * 5))) w' := by
  have hvl := hrel.length
  obtain ⟨a1, a2, a3, a4⟩ := rowworld (m := L.m) n os hh (X := X) (by rw [List.length_append, hX]; omega)
  rw [← hw] at a1 a2 a3 a4
  have ed : (vs ++ js).drop (X.length * 5) = vs.drop (d.length * 5) ++ js := by
    rw [hX, List.drop_append_of_le_length (by omega)]
  rw [ed, ← List.append_assoc] at a1
  have lX : (X.flatMap Dr.row).length = d.length * 5 := by
    have := drow_len X
    rw [hX] at this; exact this
  have lE : (X.flatMap encD).length = d.length * 5 := by rw [enc_len, hX]
  have hcs' : s[id]? = some (61, cs.2) := by rw [hcs, ← e1]
  have hlen : (X.flatMap Dr.row ++ cs.2.drop (d.length * 5)).length = cs.2.length := by rw [List.length_append, lX, List.length_drop]; omega
  refine setrow_st hst hcs' hne (by decide) ?_ a1 ?_ a2 a3 ?_ a4 ((rows_rel L X).append (hrel.drop _)) ?_ ?_
  · intro e
    rw [e] at hlen
    exact hne (List.length_eq_zero_iff.1 hlen.symm)
  · rw [← h5]
    simp only [List.length_append, lE, List.length_drop]; omega
  · intro o
    have := hm o
    simp only [World.frozen?, hh] at this
    simp only [World.frozen?, a1]; exact this
  · intro v hv
    rcases List.mem_append.1 hv with hv | hv
    · obtain ⟨x, _, hx⟩ := List.mem_flatMap.1 hv
      simp [encD] at hx
      rcases hx with rfl | rfl | rfl | rfl | rfl <;> rfl
    · exact h1 v (List.mem_of_mem_drop hv)
  · intro k a v ha hv
    by_cases hk : k < d.length * 5
    · rw [List.getElem?_append_left (by omega)] at ha
      obtain ⟨x, _, hx⟩ := List.mem_flatMap.1 (List.mem_of_getElem? ha)
      refine .of_not ?_
      simp [Dr.row] at hx
      rcases hx with rfl | rfl | rfl | rfl | rfl <;> rfl
    · rw [List.getElem?_append_right (by omega), lX, List.getElem?_drop, show d.length * 5 + (k - d.length * 5) = k by omega] at ha
      rw [List.getElem?_append_right (by omega), lE, List.getElem?_drop, show d.length * 5 + (k - d.length * 5) = k by omega] at hv
      exact h2 k a v ha hv
theorem spec_sort (W0 : World) (args : List AV) (s : Heap) (v : AV) (s' : Heap) (h : eSort args s = some (v, s')) : CallSpec C W0 34 args s v s' := by
  intro L ow w cargs hg hst hargs
  unfold eSort at h
  split at h
  · cases h
    obtain ⟨u1, u2, rfl, k1, k2⟩ := relL2 hargs
    cases k1
    refine (Tryz.slices_SortFunc_none none 0 u2 w).mono ?_
    rintro e w' ⟨rfl, rfl⟩
    exact ⟨_, rfl, .same hst (.tup [] [] .nil) (fun _ _ _ _ => trivial)⟩
  · rename_i ty z id len
    split at h
    case h_2 => cases h
    rename_i cs hcs
    split at h
    case isFalse => cases h
    rename_i hc
    obtain ⟨e1, rfl, rfl, hcl, hbig⟩ := hc
    rw [Option.map_eq_some_iff] at h
    obtain ⟨d, hd, h⟩ := h
    cases h
    obtain ⟨u1, u2, rfl, k1, k2⟩ := relL2 hargs
    cases k2 with
    | fn _ _ _ first captured hf hcap2 =>
    cases hf; cases hcap2
    cases k1 with
    | rs _ _ _ _ _ cap hid hcap =>
    obtain ⟨dr, dl⟩ := drs_inv hd
    have hdl : d.length = len := by
      have := congrArg List.length dr
      rw [List.length_take] at dl; omega
    subst hdl
    have hne := hst.at hid hcs
    have hdt : cs.1 ≠ deadTy := by rw [e1]; decide
    have O := hst.obj id cs hcs hne hdt
    obtain ⟨vs, js, ⟨fz, hh⟩, hrel, h1, h2, h5⟩ := O.cells
    rw [e1] at hh
    have hvl := hrel.length
    have hlt : L.loc id < w.heap.size := hst.used _ (by rw [O.own]; simp)
    have hvs : vs.take (d.length * 5) = d.flatMap encD := rows_inv (by rw [← dr]; exact hrel.take _)
    have hcell : ∀ j q, (vs ++ js)[j]? = some q → w.cell? ⟨L.loc id, j, none⟩ = some q := by
      intro j q hj
      simp only [World.cell?, hh]
      rw [List.getElem?_toArray]; exact hj
    have hH : HoldsK encD 5 w (L.loc id) 0 d.toArray := by
      unfold HoldsK Holds
      intro t ht
      rw [size_flatK, List.size_toArray] at ht
      refine ⟨?_, by rw [Nat.zero_add]; exact O.melt t⟩
      rw [Nat.zero_add, get_flatK _ _ _ _ (by simpa using ht)]
      refine hcell t _ ?_
      rw [List.getElem?_append_left (by omega), ← List.getElem?_take_of_lt ht, hvs]
      exact enc_get d t ht
    have eg : ∀ args w, (callFunc 35 args).run Tryz.prog w = .ok (.enter 35 args) w := enters_of Tryz.func35 (by kernel_rfl) rfl
    have aE : ∀ w, (isAgg 61).run Tryz.prog w = .ok true w := Tryz.isAgg61
    have zE : ∀ w, (Go.sizeOf 61).run Tryz.prog w = .ok 5 w := Tryz.sizeOf61
    have hcon := AnyQ.slices_SortFunc_eq (α := Dr) Tryz.sortDg 5 aE zE encD (fun _ => rfl) enc_one Dr.cmp (by exact swo_dr) 35 #[] (L.loc id) 0 cap d.toArray w eg (diag_lays _ _ _ _) hH hlt (by rw [List.size_toArray]; omega)
    change Calls Tryz.prog 34 _ _ _ at hcon
    refine hcon.mono ?_
    rintro e w' ⟨rfl, n, os, hw⟩
    have hw2 : w' = grow (putRowK encD 5 (Sort.ahead w n) (L.loc id) 0 (srt d).toArray) os := by
      rw [hw]; unfold sortWorldK
      rw [← srt_pdq d, Array.toArray_toList]
    obtain ⟨x1, x2⟩ := row_res hst hcs e1 hcl (srt_length d) hne hh hrel h1 h2 h5 O.melt hw2
    exact ⟨_, rfl, L, ow, x1, x2, .tup [] [] .nil, trivial⟩
  · cases h
end ParF
end

section
set_option maxRecDepth 100000
namespace ParF
open Go Go.Abs Go.Proofs Go.Shelf Go.RowKit
abbrev step10 (n : Nat) (c : UInt8) : Nat := n * 10 + (c.toNat - 48)
theorem fold_ge (l : List UInt8) : ∀ acc : Nat, acc ≤ l.foldl step10 acc := by
  induction l with
  | nil => intro acc; exact Nat.le_refl _
  | cons c r ih => intro acc; rw [List.foldl_cons]; have := ih (step10 acc c); unfold step10 at *; omega
theorem pu_fold : ∀ (l : List UInt8) (acc : Nat), (l.all fun b => decide (48 ≤ b.toNat) && decide (b.toNat ≤ 57)) = true → acc < 18446744073709551616 →
    Lib.parseUint10 acc l = if l.foldl step10 acc < 18446744073709551616 then .ok (l.foldl step10 acc) else .range
  | [], acc, _, ha => by
    show Lib.NumEnd.ok acc = _
    rw [if_pos (show ([] : List UInt8).foldl step10 acc < _ from ha)]; rfl
  | c :: r, acc, h, ha => by
    rw [List.all_cons, Bool.and_eq_true, Bool.and_eq_true, decide_eq_true_eq, decide_eq_true_eq] at h
    rw [Lib.parseUint10, if_pos h.1, List.foldl_cons]
    have g := fold_ge r (step10 acc c)
    by_cases c1 : 1844674407370955162 ≤ acc
    · rw [if_pos c1, if_neg (by unfold step10 at *; omega)]
    · rw [if_neg c1]
      by_cases c2 : 18446744073709551616 ≤ acc * 10 + (c.toNat - 48)
      · rw [if_pos c2, if_neg (by unfold step10 at *; omega)]
      · rw [if_neg c2]; exact pu_fold r _ h.2 (by omega)
theorem atoi_digits {l : List UInt8} (hne : l ≠ []) (h : (l.all fun b => decide (48 ≤ b.toNat) && decide (b.toNat ≤ 57)) = true) :
    Lib.atoiAll l = (if digitsOf l ≤ 9223372036854775807 then .ok (digitsOf l : Int) else .range) ∧ Lib.atoiSat l = 9223372036854775807 := by
  cases l with
  | nil => exact absurd rfl hne
  | cons c r =>
    have hc := h
    rw [List.all_cons, Bool.and_eq_true, Bool.and_eq_true, decide_eq_true_eq, decide_eq_true_eq] at hc
    have e : digitsOf (c :: r) = (c :: r).foldl step10 0 := rfl
    have p := pu_fold (c :: r) 0 h (by decide)
    rw [← e] at p
    refine ⟨?_, ?_⟩
    · simp only [Lib.atoiAll]
      rw [if_neg (by omega)]
      unfold Lib.parseMag
      rw [if_neg hne, p]
      by_cases h1 : digitsOf (c :: r) < 18446744073709551616
      · rw [if_pos h1]
        simp only
        have h45 : ¬ c.toNat = 45 := by omega
        by_cases h2 : digitsOf (c :: r) ≤ 9223372036854775807
        · rw [if_pos h2, if_neg (by omega), if_neg (by omega), if_neg h45]
        · rw [if_neg h2, if_pos ⟨h45, by omega⟩]
      · rw [if_neg h1, if_neg (by omega)]
    · have hn : ¬ (((c :: r).head?.map (·.toNat)) = some 45) := by
        intro e
        have e : some c.toNat = some 45 := e
        injection e with e; omega
      unfold Lib.atoiSat
      rw [if_neg hn]
def ErrTab (w : World) : Prop := ∃ tp p, w.var? Tryz.prog "strconv.ErrRange" = some #[.iface tp p]
theorem var_keep {w w' : World} {n : String} {cs : Array Value} (h : w.var? Tryz.prog n = some cs) (hb : Below w.heap.size w w') : w'.var? Tryz.prog n = some cs := by
  unfold World.var? at *
  cases hg : Tryz.prog.globalNamed n with
  | none => simp [hg] at h
  | some g =>
    simp only [hg, Option.bind_some] at h ⊢
    have hlt : g < w.heap.size := by
      rcases Nat.lt_or_ge g w.heap.size with h' | h'
      · exact h'
      · rw [Array.getElem?_eq_none h'] at h; cases h
    rw [hb.block g hlt]; exact h
theorem spec_atoi (W0 : World) (hT : ErrTab W0) (args : List AV) (s : Heap) (v : AV) (s' : Heap) (h : eAtoi args s = some (v, s')) : CallSpec C W0 175 args s v s' := by
  intro L ow w cargs hg hst hargs
  have hm : L.m = false := hg.2
  unfold eAtoi at h
  split at h
  case h_2 => cases h
  rename_i a
  split at h
  case isFalse => cases h
  rename_i hc
  obtain ⟨hne, hall, hlen⟩ := hc
  obtain ⟨q1, q2⟩ := atoi_digits hne hall
  obtain ⟨u1, rfl, k1⟩ := relL1 hargs
  cases k1
  have hno : ∀ (x y : AV) (r : Value), NoOwn (.tup [x, y]) r := fun _ _ _ _ _ _ _ => trivial
  split at h
  · rename_i hd
    cases h
    rw [if_pos hd] at q1
    refine (Tryz.strconv_Atoi_ok ⟨a.toArray⟩ (by rw [bytes_size]; omega) (digitsOf a) (by rw [bytes_list]; exact q1) w).mono ?_
    rintro e w' ⟨rfl, hw⟩
    have hb : Below w.heap.size w w' := by
      rcases hw with rfl | ⟨t, rfl⟩
      · exact .refl _ _
      · exact ⟨rfl, rfl, rfl, by rw [Lib.bytesWorld_size]; omega, fun j hj => Lib.bytesWorld_at_old w 5 t j hj⟩
    exact ⟨_, rfl, below_res hst hm hb (.tup _ _ (.cons _ _ _ _ (.int _ _) (.cons _ _ _ _ .nili .nil))) (hno _ _ _)⟩
  · rename_i hd
    cases h
    rw [if_neg hd] at q1
    obtain ⟨tp, p, hv⟩ := hT
    refine (Tryz.strconv_Atoi_range_var ⟨a.toArray⟩ (by rw [bytes_size]; omega) (by rw [bytes_list]; exact q1) tp p w (var_keep hv hst.below)).mono ?_
    rintro e w' ⟨N, rfl, _, _, hb⟩
    rw [bytes_list, q2]
    exact ⟨_, rfl, below_res hst hm hb (.tup _ _ (.cons _ _ _ _ (.int _ _) (.cons _ _ _ _ (.ifc _ _) .nil))) (hno _ _ _)⟩
end ParF
end

section
namespace ParF
open Go Go.Abs Go.Proofs Go.Sort Go.Shelf Go.RowKit Go.Lib
theorem eq_dr (x y : Dr) : aEq Tryz.prog 6 61 (.agg x.row) (.agg y.row) = some (decide (x = y)) := by
  have h : aEq Tryz.prog 6 61 (.agg x.row) (.agg y.row) = some ((x.c == y.c) && (((0 : Int) == 0) && ((x.s == y.s) && ((x.e == y.e) && ((([] : List UInt8) == []) && true))))) := by kernel_rfl
  rw [h]
  clear h
  refine congrArg some ?_
  cases x; cases y
  rw [Bool.eq_iff_iff]
  simp [Dr.mk.injEq]
theorem agg_rel (x : Dr) (w : World) : Rel (lay1 w) (.agg x.row) (.agg (encD x).toArray) :=
  .agg _ _ (row_rel _ x) (fun v hv => by
    simp [encD] at hv
    rcases hv with rfl | rfl | rfl | rfl | rfl <;> rfl)
theorem equal_dr (x y : Dr) (w : World) : (Op.equal 61 (.agg (encD x).toArray) (.agg (encD y).toArray)).run Tryz.prog w = .ok (decide (x = y)) w :=
  aEq_ok 6 Op.maxDepth (by decide) 61 _ _ _ (eq_dr x y) _ _ (agg_rel x w) (agg_rel y w) w
theorem eql_dr (x y : Dr) (w : World) : (binOp .eql 61 (.agg (encD x).toArray) (.agg (encD y).toArray)).run Tryz.prog w = .ok (.bool (decide (x = y))) w := by
  have e1 : binOp .eql 61 (.agg (encD x).toArray) (.agg (encD y).toArray) = (do pure (.bool (← Op.equal 61 (.agg (encD x).toArray) (.agg (encD y).toArray))) : Sem Value) := rfl
  rw [e1]; simp only [Sem.run_bind, equal_dr, Result.andThen_ok, Sem.run_pure]
theorem neq_dr (x y : Dr) (w : World) : (binOp .neq 61 (.agg (encD x).toArray) (.agg (encD y).toArray)).run Tryz.prog w = .ok (.bool (!decide (x = y))) w := by
  have e1 : binOp .neq 61 (.agg (encD x).toArray) (.agg (encD y).toArray) = (do pure (.bool (!(← Op.equal 61 (.agg (encD x).toArray) (.agg (encD y).toArray)))) : Sem Value) := rfl
  rw [e1]; simp only [Sem.run_bind, equal_dr, Result.andThen_ok, Sem.run_pure]
theorem gd_ty : Tryz.prog.eqGuardType Tryz.prog.depth 61 = false := by kernel_rfl
theorem guard_dr (op : BinOp) (a b : Operand) (x y : Dr) (w : World) : (eqGuard op 61 a b (.agg (encD x).toArray) (.agg (encD y).toArray)).run Tryz.prog w = .ok () w := by
  unfold eqGuard; cases op <;> simp [gd_ty]
abbrev zrD : Dr := ⟨0, 0, 0⟩
end ParF
end

section
namespace Go.Proofs
open Go.Shelf Go.RowKit Go.Lib Go.Sort
structure CompK (P : Program) (ρ : Ren) : Prop where
  mixed : P.follows .mixedOrders = true
  f43 : Bears P (ρ.f 43) (SlBodyN.n43 ρ)
  t0 : P.underlying (ρ.t 0) = some (TypeDesc.tuple #[])
  a0 : ∀ w, (isAgg (ρ.t 0)).run P w = .ok false w
  z0 : ∀ w, (Go.sizeOf (ρ.t 0)).run P w = .ok 1 w
  v0 : ∀ w, (zeroValue (ρ.t 0)).run P w = .ok (Value.tuple #[]) w
  t3 : P.underlying (ρ.t 3) = some (TypeDesc.int IntKind.i64)
  a3 : ∀ w, (isAgg (ρ.t 3)).run P w = .ok false w
  z3 : ∀ w, (Go.sizeOf (ρ.t 3)).run P w = .ok 1 w
  v3 : ∀ w, (zeroValue (ρ.t 3)).run P w = .ok (Value.int IntKind.i64 0) w
  t4 : P.underlying (ρ.t 4) = some (TypeDesc.bool)
  a4 : ∀ w, (isAgg (ρ.t 4)).run P w = .ok false w
  z4 : ∀ w, (Go.sizeOf (ρ.t 4)).run P w = .ok 1 w
  v4 : ∀ w, (zeroValue (ρ.t 4)).run P w = .ok (Value.bool false) w
  t22 : P.underlying (ρ.t 22) = some (TypeDesc.slice (ρ.t 23))
  a22 : ∀ w, (isAgg (ρ.t 22)).run P w = .ok false w
  z22 : ∀ w, (Go.sizeOf (ρ.t 22)).run P w = .ok 1 w
  v22 : ∀ w, (zeroValue (ρ.t 22)).run P w = .ok (Value.slice none 0 0) w
def Tryz.compDg_ren : Go.Shelf.Ren := ⟨fun | 43 => 36 | n => n, fun | 22 => 28 | 23 => 61 | 3 => 3 | 4 => 4 | 0 => 0 | n => n, fun | n => n⟩
theorem Tryz.compDg : CompK Tryz.prog Tryz.compDg_ren := {
  mixed := by kernel_rfl
  f43 := ⟨Tryz.f36.name, by decide, Tryz.func36.trans (congrArg some (by kernel_rfl))⟩
  t0 := Tryz.underlying0
  a0 := Tryz.isAgg0
  z0 := Tryz.sizeOf0
  v0 := Tryz.zeroValue0
  t3 := Tryz.underlying3
  a3 := Tryz.isAgg3
  z3 := Tryz.sizeOf3
  v3 := Tryz.zeroValue3
  t4 := Tryz.underlying4
  a4 := Tryz.isAgg4
  z4 := Tryz.sizeOf4
  v4 := Tryz.zeroValue4
  t22 := Tryz.underlying28
  a22 := Tryz.isAgg28
  z22 := Tryz.sizeOf28
  v22 := Tryz.zeroValue28 }
variable {P : Program} {ρ : Ren} {α : Type} [Inhabited α] [DecidableEq α]
omit [DecidableEq α] in
theorem bndK {z i n : Nat} (h : i < n) : i * z + z ≤ n * z := by
  have := Nat.mul_le_mul_right z (show i + 1 ≤ n from h); rwa [Nat.add_mul, Nat.one_mul] at this
omit [DecidableEq α] in
theorem store_worldG (enc : α → List Value) (z : Nat) (hz : ∀ x, (enc x).length = z) (w : World) (n q blk off : Nat) (dk : Array α) (i : Nat) (hi : i < dk.size) (x : α) :
    ((putRowK enc z (Sort.ahead w n) blk off dk).drewN q).setCells blk (off + i * z) (enc x) = putRowK enc z (Sort.ahead w (n + q)) blk off (dk.setIfInBounds i x) := by
  rw [putRowK_drewN]
  have hb := bndK (z := z) hi
  unfold putRowK
  rw [setCells_putRow _ _ _ _ _ _ (by rw [size_flatK, hz]; exact hb)]
  congr 1
  refine ext_get! (by simp) fun t ht => ?_
  have ht' : t < dk.size * z := by simpa using ht
  have k0 : 0 < z := by rcases Nat.eq_zero_or_pos z with h | h; · subst h; simp at ht'
                        · exact h
  rw [get_setMany _ _ _ t (by simpa using ht'), get_flatK _ _ _ t ht', get_flatK _ _ _ t (by simpa using ht'), hz]
  by_cases a : t / z = i
  · rw [if_pos ((blk_iff z i t k0).2 a), a, getElem!_set_same dk i x hi]
    congr 1; subst a; rw [Nat.mod_eq_sub_div_mul]
  · rw [if_neg (fun h => a ((blk_iff z i t k0).1 h)), getElem!_set_other _ _ _ _ a]
end Go.Proofs
end

section
namespace Go.Proofs
open Go.Shelf Go.RowKit Go.Lib Go.Sort
variable {P : Program} {ρ : Ren} {α : Type} [Inhabited α] [DecidableEq α]
omit [DecidableEq α] in
theorem size_layK : ∀ (xs : List α) (d : Array α) (k : Nat), (lay d k xs).size = d.size
  | [], d, k => rfl
  | x :: r, d, k => by rw [lay, size_layK r]; simp
omit [DecidableEq α] in
theorem clear_worldG (enc : α → List Value) (z : Nat) (hz : ∀ x, (enc x).length = z) (w : World) (n blk off : Nat) (dk : Array α) (k : Nat) (hk : k ≤ dk.size) (zr : α) :
    (putRowK enc z (Sort.ahead w n) blk off dk).setCells blk (off + k * z) (Builtin.zeroCells (enc zr).toArray (dk.size - k)).toList = putRowK enc z (Sort.ahead w n) blk off (lay dk k (List.replicate (dk.size - k) zr)) := by
  have hl : (Builtin.zeroCells (enc zr).toArray (dk.size - k)).toList.length = (dk.size - k) * z := by simp [Builtin.zeroCells, hz]
  have hb : k * z + (dk.size - k) * z = dk.size * z := by rw [← Nat.add_mul]; congr 1; omega
  unfold putRowK
  rw [setCells_putRow _ _ _ _ _ _ (by rw [size_flatK, hl]; omega)]
  congr 1
  refine ext_get! (by simp [size_layK]) fun t ht => ?_
  have ht' : t < dk.size * z := by simpa using ht
  have k0 : 0 < z := by rcases Nat.eq_zero_or_pos z with h | h; · subst h; simp at ht'
                        · exact h
  rw [get_setMany _ _ _ t (by simpa using ht'), get_flatK _ _ _ t ht', get_flatK _ _ _ t (by simpa [size_layK] using ht'), hl]
  have hq : t / z < dk.size := (Nat.div_lt_iff_lt_mul k0).2 ht'
  have hget : (lay dk k (List.replicate (dk.size - k) zr))[t / z]! = if k ≤ t / z then zr else dk[t / z]! := by
    have g := lay_get? (List.replicate (dk.size - k) zr) dk k (t / z) (by simp; omega)
    rw [List.length_replicate] at g
    rw [getElem!_def, g]
    by_cases c : k ≤ t / z
    · rw [if_pos ⟨c, by omega⟩, if_pos c, List.getElem?_replicate, if_pos (by omega)]
    · rw [if_neg (fun h => c h.1), if_neg c, getElem!_def]
  rw [hget]
  by_cases c : k ≤ t / z
  · have c' : k * z ≤ t := by
      have := Nat.mul_le_mul_right z c
      exact Nat.le_trans this (Nat.div_mul_le_self t z)
    rw [if_pos ⟨c', by omega⟩, if_pos c]
    have hi : t - k * z < (Builtin.zeroCells (enc zr).toArray (dk.size - k)).toList.length := by rw [hl]; omega
    rw [getElem!_pos (Builtin.zeroCells (enc zr).toArray (dk.size - k)).toList (t - k * z) hi]
    simp only [Builtin.zeroCells, Array.getElem_toList, Array.getElem_map, Array.getElem_range, List.size_toArray, hz]
    have em : (t - k * z) % z = t % z := by
      have : t = t - k * z + k * z := by omega
      conv => rhs; rw [this]
      rw [Nat.add_mul_mod_self_right]
    rw [em]
    simp
  · have c' : ¬ k * z ≤ t := fun h => c ((Nat.le_div_iff_mul_le k0).2 h)
    rw [if_neg (fun h => c' h.1), if_neg c]
omit [DecidableEq α] in
theorem clear_runG (enc : α → List Value) (z : Nat) (hz : ∀ x, (enc x).length = z) (h1 : ∀ x, ∀ v ∈ enc x, v.oneCell' = true) (w : World) (t e ty : TypeId) (zr : α) (ht : P.underlying t = some (.slice e)) (hv : ∀ w, (zeroValue e).run P w = .ok (.agg (enc zr).toArray) w) (b o n c : Nat) (hn : 0 < n)
    (hc : ∀ j, j < n * z → (w.cell? ⟨b, o + j, none⟩).isSome = true) (hf : ∀ j, j < n * z → w.frozen? ⟨b, o + j, none⟩ = false) :
    (Builtin.clear_ #[t] ty #[.slice (some ⟨b, o, none⟩) n c]).run P w = .ok (.tuple #[]) (w.setCells b o (Builtin.zeroCells (enc zr).toArray n).toList) := by
  have hl : (Builtin.zeroCells (enc zr).toArray n).toList.length = n * z := by simp [Builtin.zeroCells, hz]
  have hst := run_storeCells_cells (P := P) b o (Builtin.zeroCells (enc zr).toArray n).toList 0 w (by rw [hl]; simpa using hc) (by rw [hl]; simpa using hf) (by
    intro v hv'
    simp only [Builtin.zeroCells, Array.toList_map, List.mem_map, List.size_toArray] at hv'
    obtain ⟨i, hi, rfl⟩ := hv'
    simp only [Array.toList_range, List.mem_range, hz] at hi
    have hpos : 0 < z := by rcases Nat.eq_zero_or_pos z with h | h; · subst h; simp at hi
                            · exact h
    have : i % (enc zr).length < (enc zr).length := by rw [hz]; exact Nat.mod_lt _ hpos
    rw [show ((enc zr).toArray)[i % (enc zr).length]! = (enc zr)[i % (enc zr).length]! by simp]
    rw [getElem!_pos (enc zr) (i % (enc zr).length) this]
    exact h1 zr _ (List.getElem_mem this))
  simp only [Nat.add_zero] at hst
  obtain ⟨m, rfl⟩ : ∃ m, n = m + 1 := ⟨n - 1, by omega⟩
  simp [Builtin.clear_, run_underlying ht, hv, Value.cells, hst]
set_option maxHeartbeats 4000000 in
set_option maxRecDepth 1000000 in
theorem compK (L : CompK P ρ) (z : Nat) (aE : ∀ w, (isAgg (ρ.t 23)).run P w = .ok true w) (zE : ∀ w, (Go.sizeOf (ρ.t 23)).run P w = .ok z w) (enc : α → List Value) (hz : ∀ x, (enc x).length = z) (h1 : ∀ x, ∀ v ∈ enc x, v.oneCell' = true)
    (heq' : ∀ (x y : α) (w : World), Sem.run P (binOp .eql (ρ.t 23) (.agg (enc x).toArray) (.agg (enc y).toArray)) w = .ok (.bool (decide (x = y))) w)
    (hne' : ∀ (x y : α) (w : World), Sem.run P (binOp .neq (ρ.t 23) (.agg (enc x).toArray) (.agg (enc y).toArray)) w = .ok (.bool (!decide (x = y))) w)
    (hgd' : ∀ (op : BinOp) (a b : Operand) (x y : α) (w : World), Sem.run P (eqGuard op (ρ.t 23) a b (.agg (enc x).toArray) (.agg (enc y).toArray)) w = .ok () w)
    (zr : α) (v23 : ∀ w, (zeroValue (ρ.t 23)).run P w = .ok (.agg (enc zr).toArray) w) (blk off cap : Nat) (d : Array α) (w : World) (hH : HoldsK enc z w blk off d) (hsz : d.size ≤ 9223372036854775807) (hcap : d.size ≤ cap) :
    Calls P (ρ.f 43) #[.slice (some ⟨blk, off, none⟩) d.size cap] w fun e w' => e = .returned (.slice (some ⟨blk, off, none⟩) (compactUpTo d d.size).length cap) ∧
      ∃ q, w' = putRowK enc z (Sort.ahead w q) blk off (compactUpTo d d.size ++ List.replicate (d.size - (compactUpTo d d.size).length) zr).toArray := by
  have mixed := L.mixed; have t0 := L.t0; have a0 := L.a0; have z0 := L.z0; have v0 := L.v0; have t3 := L.t3; have a3 := L.a3; have z3 := L.z3; have v3 := L.v3; have t4 := L.t4; have a4 := L.a4; have z4 := L.z4; have v4 := L.v4; have t22 := L.t22; have a22 := L.a22; have z22 := L.z22; have v22 := L.v22
  have same : ∀ q, (∀ j, j < d.size → keeps d j = true) → (compactUpTo d d.size).length = d.size ∧ w.drewN q = putRowK enc z (Sort.ahead w q) blk off (compactUpTo d d.size ++ List.replicate (d.size - (compactUpTo d d.size).length) zr).toArray := by
    intro q hall
    have e : compactUpTo d d.size = d.toList := by rw [compactUpTo_all d _ hall, range_map_get]
    rw [e]
    refine ⟨by simp, ?_⟩
    simp only [Array.length_toList, Nat.sub_self, List.replicate_zero, List.append_nil, Array.toArray_toList]
    exact (putRowK_self enc z (Sort.ahead w q) blk off d (holdsK_ahead enc z w q blk off d hH)).symm
  have HS : Aside (∀ q, (∀ j, j < d.size → keeps d j = true) → (compactUpTo d d.size).length = d.size ∧ w.drewN q = putRowK enc z (Sort.ahead w q) blk off (compactUpTo d d.size ++ List.replicate (d.size - (compactUpTo d d.size).length) zr).toArray) := same
  clear same
  have HZ : Aside (∀ x, (enc x).length = z) := hz
  have H1 : Aside (∀ x, ∀ v ∈ enc x, v.oneCell' = true) := h1
  have HV : Aside (∀ w, (zeroValue (ρ.t 23)).run P w = .ok (.agg (enc zr).toArray) w) := v23
  have HH : Aside (HoldsK enc z w blk off d) := hH
  clear hz h1 v23 hH
  by_cases h2 : d.size < 2
  · obtain ⟨_, _, FG⟩ := L.f43
    go_enter FG, SlBodyN.n43_ntmps ρ
    go_wp2
    go_ret
    obtain ⟨e1, e2⟩ := HS.out 0 (fun j hj => keeps_lt_one d j (by omega))
    exact ⟨by rw [e1]; rfl, 0, e2⟩
  · obtain ⟨_, _, FG⟩ := L.f43
    go_enter FG, SlBodyN.n43_ntmps ρ
    go_wp2
    go_loopg [3] d.size (fun g s3 wr => ∃ k q : Nat, 1 ≤ k ∧ k ≤ d.size ∧ d.size - k ≤ g ∧ s3 = .int .i64 k ∧ wr = w.drewN q ∧ Aside (∀ j, j < k → keeps d j = true))
    case atStart => exact ⟨1, 0, Nat.le_refl _, by omega, by omega, rfl, rfl, keeps_lt_one d⟩
    case round =>
      obtain ⟨k, q, hk1, hk, hg, rfl, rfl, A⟩ := hrel
      by_cases hlt : k < d.size
      · have l1 : ∀ m, Sem.run P (loadCellsFrom ⟨blk, off + k * z, none⟩ 0 z #[]) ((w.drewN q).drewN m) = .ok (enc d[k]!).toArray ((w.drewN q).drewN m) := fun m => by
          rw [World.drewN_drewN]; exact run_loadCellsFrom_list P _ _ (enc d[k]!) z (HZ.out _) (HoldsK.cells (holdsK_ahead enc z w (q + m) blk off d HH.out) HZ.out hlt)
        have l2 : ∀ m, Sem.run P (loadCellsFrom ⟨blk, off + (k - 1) * z, none⟩ 0 z #[]) ((w.drewN q).drewN m) = .ok (enc d[k - 1]!).toArray ((w.drewN q).drewN m) := fun m => by
          rw [World.drewN_drewN]; exact run_loadCellsFrom_list P _ _ (enc d[k - 1]!) z (HZ.out _) (HoldsK.cells (holdsK_ahead enc z w (q + m) blk off d HH.out) HZ.out (by omega))
        generalize hx : d[k]! = x at l1
        generalize hy : d[k - 1]! = y at l2
        have B : Aside (d[k]! = x ∧ d[k - 1]! = y) := ⟨hx, hy⟩
        clear hx hy
        have wk : IntKind.i64.wrap ((k : Int) - 1) = ((k - 1 : Nat) : Int) := by rw [IntKind.wrap_i64]; omega
        have wb : k - 1 < d.size := by omega
        generalize hwq : w.drewN q = wq at l1 l2 ⊢
        by_cases hdup : x = y
        · subst hdup
          go_wp2_with fail
          go_quiet_o (fail)
          go_wp2
          have WQ : Aside (w.drewN q = wq) := hwq
          clear l1 l2 wk wb hwq
          go_loopg [3, 5] d.size (fun g s3 s5 wr => ∃ (kk k2 q2 : Nat) (dk : Array α), s3 = .int .i64 kk ∧ s5 = .int .i64 k2 ∧ 1 ≤ k2 ∧ k + k2 ≤ d.size ∧ d.size - (k + k2) ≤ g ∧ Aside (wr = putRowK enc z (Sort.ahead w q2) blk off dk) ∧ Aside (CompInv d (k + k2) kk dk))
          case atStart =>
            refine ⟨k, 1, q + nq, d, rfl, rfl, Nat.le_refl _, by omega, by omega, ?_, (show Aside _ from CompInv.start A.out (keeps_neg (by omega) (by rw [B.out.1, B.out.2])))⟩
            show _ = _
            rw [← WQ.out, World.drewN_drewN]
            exact (putRowK_self enc z (Sort.ahead w (q + nq)) blk off d (holdsK_ahead enc z w (q + nq) blk off d HH.out)).symm
          case round =>
            obtain ⟨kk, k2, q2, dk, rfl, rfl, g1, hle, hg2, W2, I2⟩ := hrel
            have hkk := I2.out.lt
            have hds := I2.out.size
            have hold : ∀ m, HoldsK enc z (wr.drewN m) blk off dk := fun m => by
              rw [W2.out, putRowK_drewN]; exact holdsK_putRowK enc z _ blk off d dk (holdsK_ahead enc z w (q2 + m) blk off d HH.out) hds
            by_cases hlt2 : k + k2 < d.size
            · have e1 : off + k * z + k2 * z = off + (k + k2) * z := by rw [Nat.add_mul, Nat.add_assoc]
              have e2 : off + k * z + (k2 - 1) * z = off + (k + k2 - 1) * z := by rw [Nat.add_assoc, ← Nat.add_mul]; congr 2; omega
              have m1 : ∀ m, Sem.run P (loadCellsFrom ⟨blk, off + k * z + k2 * z, none⟩ 0 z #[]) (wr.drewN m) = .ok (enc d[k + k2]!).toArray (wr.drewN m) := fun m => by
                rw [e1, ← I2.out.high (k + k2) (by omega)]
                exact run_loadCellsFrom_list P _ _ (enc dk[k + k2]!) z (HZ.out _) (HoldsK.cells (hold m) HZ.out (by omega))
              have m2 : ∀ m, Sem.run P (loadCellsFrom ⟨blk, off + k * z + (k2 - 1) * z, none⟩ 0 z #[]) (wr.drewN m) = .ok (enc d[k + k2 - 1]!).toArray (wr.drewN m) := fun m => by
                rw [e2, ← I2.out.high (k + k2 - 1) (by omega)]
                exact run_loadCellsFrom_list P _ _ (enc dk[k + k2 - 1]!) z (HZ.out _) (HoldsK.cells (hold m) HZ.out (by omega))
              have s1 : ∀ m, Sem.run P (storeCells ⟨blk, off + kk * z, none⟩ (enc d[k + k2]!) 0) (wr.drewN m) = .ok () ((wr.drewN m).setCells blk (off + kk * z) (enc d[k + k2]!)) := fun m =>
                stores_of_holds P (hold m) (kk * z) _ (by rw [HZ.out, size_flatK]; exact bndK (by omega)) (H1.out _)
              have hl : (enc d[k + k2]!).length = z := HZ.out _
              clear e1 e2 hold
              generalize hu : d[k + k2]! = u at m1 s1 hl
              generalize hv : d[k + k2 - 1]! = v at m2
              have C : Aside (d[k + k2]! = u ∧ d[k + k2 - 1]! = v) := ⟨hu, hv⟩
              clear hu hv
              have wk2 : IntKind.i64.wrap ((k2 : Int) - 1) = ((k2 - 1 : Nat) : Int) := by rw [IntKind.wrap_i64]; omega
              have wb2 : k2 - 1 < d.size - k := by omega
              by_cases huv : u = v
              · subst huv
                go_wp2_with fail
                go_quiet_o (fail)
                go_wp2
                go_roundg (d.size - (k + (k2 + 1)))
                case measure => omega
                case rel =>
                  refine ⟨kk, k2 + 1, q2 + nq, dk, rfl, by go_num, by omega, by omega, Nat.le_refl _, ?_, (show Aside _ from I2.out.skip (keeps_neg (by omega) (by rw [C.out.1, C.out.2])))⟩
                  show _ = _
                  rw [W2.out, putRowK_drewN]
              · go_wp2_with fail
                go_quiet_o (fail)
                go_wp2
                go_roundg (d.size - (k + (k2 + 1)))
                case measure => omega
                case rel =>
                  refine ⟨kk + 1, k2 + 1, q2 + nq, dk.setIfInBounds kk u, by go_num, by go_num, by omega, by omega, Nat.le_refl _, ?_, ?_⟩
                  · show _ = _
                    rw [W2.out]; exact store_worldG enc z HZ.out w q2 nq blk off dk kk (by omega) u
                  · show CompInv _ _ _ _
                    have := I2.out.keep hlt2 (keeps_pos (by rw [C.out.1, C.out.2]; exact huv))
                    rwa [C.out.1] at this
            · have hend : k + k2 = d.size := by omega
              have hcl : ∀ ty, (Builtin.clear_ #[ρ.t 22] ty #[.slice (some ⟨blk, off + kk * z, none⟩) (d.size - kk) (cap - kk)]).run P wr = .ok (.tuple #[]) (wr.setCells blk (off + kk * z) (Builtin.zeroCells (enc zr).toArray (d.size - kk)).toList) := fun ty => by
                have h0 : HoldsK enc z wr blk off dk := hold 0
                have hb : kk * z + (d.size - kk) * z = dk.size * z := by rw [← Nat.add_mul, hds]; congr 1; omega
                refine clear_runG enc z HZ.out H1.out wr _ _ ty zr t22 HV.out blk (off + kk * z) _ _ (by omega) (fun j hj => ?_) (fun j hj => ?_)
                · rw [Nat.add_assoc, (h0 (kk * z + j) (by rw [size_flatK]; omega)).1]; rfl
                · rw [Nat.add_assoc]; exact (h0 (kk * z + j) (by rw [size_flatK]; omega)).2
              clear hold
              go_wp2
              go_ret
              have hI := I2.out
              rw [hend] at hI
              refine ⟨by rw [hI.len]; rfl, q2, ?_⟩
              rw [hI.len, ← hI.done zr, W2.out, ← hds]
              exact clear_worldG enc z HZ.out w q2 blk off dk kk (by omega) zr
        · go_wp2_with fail
          go_quiet_o (fail)
          go_wp2
          go_roundg (d.size - (k + 1))
          case measure => omega
          case rel =>
            refine ⟨k + 1, q + nq, by omega, by omega, Nat.le_refl _, by go_num, by rw [← hwq, World.drewN_drewN], (show Aside _ from fun j hj => ?_)⟩
            by_cases e : j = k
            · subst e
              exact keeps_pos (by rw [B.out.1, B.out.2]; exact hdup)
            · exact A.out j (by omega)
      · have : k = d.size := by omega
        subst this
        go_wp2
        go_ret
        obtain ⟨e1, e2⟩ := HS.out q A.out
        exact ⟨by rw [e1]; rfl, q, e2⟩
end Go.Proofs
end

section
set_option maxRecDepth 100000
namespace ParF
open Go Go.Abs Go.Proofs Go.Sort Go.Shelf Go.RowKit Go.Lib
def cmpF : Dr → List Dr → List Dr
  | _, [] => []
  | p, x :: r => if x = p then cmpF x r else x :: cmpF x r
theorem cmpct_cmpF : ∀ (l : List Dr) (a : Dr), cmpct (a :: l) = a :: cmpF a l
  | [], a => rfl
  | b :: r, a => by
    rw [cmpct, cmpct_cmpF r b, cmpF]
    by_cases c : a = b
    · rw [if_pos c, if_pos c.symm, c]
    · rw [if_neg c, if_neg (Ne.symm c)]
theorem upto_app : ∀ (l pre : List Dr) (p : Dr), compactUpTo (pre ++ p :: l).toArray (pre.length + 1 + l.length) = compactUpTo (pre ++ p :: l).toArray (pre.length + 1) ++ cmpF p l
  | [], pre, p => by rw [cmpF, List.append_nil]; rfl
  | x :: r, pre, p => by
    have ih := upto_app r (pre ++ [p]) x
    rw [List.append_assoc] at ih
    have e1 : [p] ++ x :: r = p :: x :: r := rfl
    rw [e1, List.length_append, List.length_cons, List.length_nil] at ih
    have e2 : pre.length + 1 + (x :: r).length = pre.length + (0 + 1) + 1 + r.length := by rw [List.length_cons]; omega
    rw [e2, ih, Nat.zero_add, compactUpTo_succ, cmpF, List.append_assoc]
    congr 1
    have g1 : (pre ++ p :: x :: r).toArray[pre.length + 1]! = x := by simp
    have g0 : (pre ++ p :: x :: r).toArray[pre.length]! = p := by simp
    by_cases c : x = p
    · rw [if_pos c]
      have : keeps (pre ++ p :: x :: r).toArray (pre.length + 1) = false := keeps_neg (by omega) (by rw [Nat.add_sub_cancel, g1, g0]; exact c)
      rw [this]; rfl
    · rw [if_neg c]
      have : keeps (pre ++ p :: x :: r).toArray (pre.length + 1) = true := keeps_pos (by rw [Nat.add_sub_cancel, g1, g0]; exact c)
      rw [this, if_pos rfl, g1]; rfl
theorem upto_cmpct (d : List Dr) : compactUpTo d.toArray d.toArray.size = cmpct d := by
  cases d with
  | nil => rfl
  | cons a l =>
    have h := upto_app l [] a
    rw [List.nil_append, List.length_nil, Nat.zero_add] at h
    have e : (a :: l).toArray.size = 1 + l.length := by simp; omega
    rw [e, h, cmpct_cmpF]
    have : compactUpTo (a :: l).toArray 1 = [a] := by
      rw [compactUpTo_succ]
      have k : keeps (a :: l).toArray 0 = true := keeps_lt_one _ 0 (by omega)
      rw [k]; rfl
    rw [this]; rfl
theorem cmpct_len (d : List Dr) : (cmpct d).length ≤ d.length := by
  have h := upto_cmpct d
  rw [← h]
  unfold compactUpTo
  rw [List.length_map]
  refine Nat.le_trans (List.length_filter_le _ _) ?_
  simp
theorem chunk_rows : ∀ (d : List Dr), chunks 5 d.length (d.flatMap Dr.row) = d.map fun r => .agg r.row
  | [] => rfl
  | a :: d => by
    rw [List.length_cons, List.flatMap_cons, List.map_cons, chunks]
    have e1 : (a.row ++ d.flatMap Dr.row).take 5 = a.row := rfl
    have e2 : (a.row ++ d.flatMap Dr.row).drop 5 = d.flatMap Dr.row := rfl
    rw [e1, e2, chunk_rows d]; rfl
theorem drow_strip (d : List Dr) : (d.flatMap Dr.row).map AV.strip = d.flatMap Dr.row := by
  induction d with
  | nil => rfl
  | cons a d ih => rw [List.flatMap_cons, List.map_append, ih]; rfl
theorem drow_plain (d : List Dr) : (d.flatMap Dr.row).all plainC = true := by
  induction d with
  | nil => rfl
  | cons a d ih => rw [List.flatMap_cons, List.all_append, ih]; rfl
set_option maxHeartbeats 1000000 in
theorem compact_nil (w : World) : Calls Tryz.prog 36 #[.slice none 0 0] w fun e w' => e = .returned (.slice none 0 0) ∧ w' = w := by
  go_enter Tryz.func36, Tryz.ntmps36
  go_wp2
  go_ret
  exact ⟨rfl, rfl⟩
theorem zv61 : ∀ w, (zeroValue 61).run Tryz.prog w = .ok (.agg (encD ⟨0, 0, 0⟩).toArray) w := Tryz.zeroValue61
end ParF
end

section
set_option maxRecDepth 100000
namespace ParF
open Go Go.Abs Go.Proofs Go.Sort Go.Shelf Go.RowKit Go.Lib
theorem spec_compact (W0 : World) (args : List AV) (s : Heap) (v : AV) (s' : Heap) (h : eCompact args s = some (v, s')) : CallSpec C W0 36 args s v s' := by
  intro L ow w cargs hg hst hargs
  unfold eCompact at h
  split at h
  · cases h
    obtain ⟨u1, rfl, k1⟩ := relL1 hargs
    cases k1
    refine (compact_nil w).mono ?_
    rintro e w' ⟨rfl, rfl⟩
    exact ⟨_, rfl, .same hst .nils (.of_not rfl)⟩
  · rename_i ty z id len
    split at h
    case h_2 => cases h
    rename_i cs hcs
    split at h
    case isFalse => cases h
    rename_i hc
    obtain ⟨e1, rfl, rfl, hcl, hbig⟩ := hc
    rw [Option.map_eq_some_iff] at h
    obtain ⟨d, hd, h⟩ := h
    cases h
    obtain ⟨u1, rfl, k1⟩ := relL1 hargs
    cases k1 with
    | rs _ _ _ _ _ cap hid hcap =>
    obtain ⟨dr, dl⟩ := drs_inv hd
    have hdl : d.length = len := by
      have := congrArg List.length dr
      rw [List.length_take] at dl; omega
    subst hdl
    have hne := hst.at hid hcs
    have hdt : cs.1 ≠ deadTy := by rw [e1]; decide
    have O := hst.obj id cs hcs hne hdt
    obtain ⟨vs, js, ⟨fz, hh⟩, hrel, h1, h2, h5⟩ := O.cells
    rw [e1] at hh
    have hvl := hrel.length
    have hvs : vs.take (d.length * 5) = d.flatMap encD := rows_inv (by rw [← dr]; exact hrel.take _)
    have hcell : ∀ j q, (vs ++ js)[j]? = some q → w.cell? ⟨L.loc id, j, none⟩ = some q := by
      intro j q hj
      simp only [World.cell?, hh]
      rw [List.getElem?_toArray]; exact hj
    have hH : HoldsK encD 5 w (L.loc id) 0 d.toArray := by
      unfold HoldsK Holds
      intro t ht
      rw [size_flatK, List.size_toArray] at ht
      refine ⟨?_, by rw [Nat.zero_add]; exact O.melt t⟩
      rw [Nat.zero_add, get_flatK _ _ _ _ (by simpa using ht)]
      refine hcell t _ ?_
      rw [List.getElem?_append_left (by omega), ← List.getElem?_take_of_lt ht, hvs]
      exact enc_get d t ht
    have hcon := compK (α := Dr) Tryz.compDg 5 Tryz.isAgg61 Tryz.sizeOf61 encD (fun _ => rfl) enc_one eql_dr neq_dr guard_dr zrD zv61 (L.loc id) 0 cap d.toArray w hH (by rw [List.size_toArray]; omega) (by rw [List.size_toArray]; exact hcap.1)
    change Calls Tryz.prog 36 _ _ _ at hcon
    refine hcon.mono ?_
    rintro e w' ⟨rfl, n, hw⟩
    rw [upto_cmpct] at hw ⊢
    have hcm := cmpct_len d
    obtain ⟨X, hX⟩ : ∃ X, X = cmpct d ++ List.replicate (d.toArray.size - (cmpct d).length) zrD := ⟨_, rfl⟩
    have hXl : X.length = d.length := by rw [hX, List.length_append, List.length_replicate, List.size_toArray]; omega
    rw [← hX, ← grow_empty (putRowK _ _ _ _ _ _)] at hw
    obtain ⟨x1, x2⟩ := row_res hst hcs e1 hcl hXl hne hh hrel h1 h2 h5 O.melt hw
    have hidl : id < s.length := (List.getElem?_eq_some_iff.1 hcs).1
    have hkill : kill (s.set id (61, X.flatMap Dr.row ++ cs.2.drop (d.length * 5))) id = kill s id := by unfold kill; rw [List.set_set]
    have htk : (X.flatMap Dr.row ++ cs.2.drop (d.length * 5)).take ((cmpct d).length * 5) = (cmpct d).flatMap Dr.row := by
      rw [hX, List.flatMap_append, List.append_assoc, List.take_append_of_le_length (by rw [drow_len]; exact Nat.le_refl _), List.take_of_length_le (by rw [drow_len]; exact Nat.le_refl _)]
    have hpub : aPub1 (.rs 61 5 id 0 (cmpct d).length) (s.set id (61, X.flatMap Dr.row ++ cs.2.drop (d.length * 5))) = some (.sl 61 5 ((cmpct d).map fun r => .agg r.row) .sh, kill s id) := by
      unfold aPub1
      simp only [List.getElem?_set_self hidl]
      rw [htk, if_pos ⟨trivial, by decide, by decide, by rw [List.length_append, drow_len]; omega, drow_plain _⟩, drow_strip, chunk_rows, hkill]
    obtain ⟨L2, y1, y2, y3, y4⟩ := pub1_ok x2 hpub (v := .slice (some ⟨L.loc id, 0, none⟩) (cmpct d).length cap) (.rs 61 5 id 0 _ cap hid ⟨by omega, hcap.2⟩)
    exact ⟨_, rfl, L2, ow, x1.trans y1, y2, y3, .of_not rfl⟩
  · cases h
def SpTab (w : World) : Prop := Lib.TabIs Tryz.prog w "strings.asciiSpace" .u8 Lib.asciiSpaceTab ∧ ErrTab w
theorem ext_ok (W0 : World) (hT : SpTab W0) (g : FuncId) (e : List AV → Heap → Option (AV × Heap)) (args : List AV) (s : Heap) (v : AV) (s' : Heap) (he : C.ext g = some e) (h : e args s = some (v, s')) : CallSpec C W0 g args s v s' := by
  have he' : (if g = 71 then some eIndex else if g = 62 then some ePrefix else if g = 130 then some eFields else if g = 207 then some eInsert else if g = 144 then some (bCheck 113) else if g = 81 then some (bString 5) else if g = 175 then some eAtoi else if g = 34 then some eSort else if g = 36 then some eCompact else none) = some e := he
  intro L ow w cargs hg hst hargs
  split at he'
  · rename_i hg'; subst hg'; cases he'
    unfold eIndex at h
    split at h
    · rename_i a c
      cases h
      obtain ⟨u1, u2, rfl, k1, k2⟩ := relL2 hargs
      cases k1; cases k2
      refine (Tryz.strings_IndexByte ⟨a.toArray⟩ c w).mono ?_
      rintro e w' ⟨rfl, rfl⟩
      rw [bytes_list]
      exact ⟨_, rfl, .same hst (.int _ _) (.of_not rfl)⟩
    · cases h
  split at he'
  · rename_i hg'; subst hg'; cases he'
    unfold ePrefix at h
    split at h
    · rename_i a b
      cases h
      obtain ⟨u1, u2, rfl, k1, k2⟩ := relL2 hargs
      cases k1; cases k2
      refine (Tryz.strings_HasPrefix ⟨a.toArray⟩ ⟨b.toArray⟩ w).mono ?_
      rintro e w' ⟨rfl, rfl⟩
      rw [bytes_list, bytes_list]
      exact ⟨_, rfl, .same hst (.bool _) (.of_not rfl)⟩
    · cases h
  split at he'
  · rename_i hg'; subst hg'; cases he'
    unfold eFields at h
    split at h
    · rename_i a
      split at h
      · rename_i hc
        cases h
        obtain ⟨u1, rfl, k1⟩ := relL1 hargs
        cases k1
        have hs := Lib.tabBelow_of_tabIs hT.1 w hst.below
        refine (Tryz.strings_Fields ⟨a.toArray⟩ w (by rw [bytes_size]; omega) (fun j b hb => ?_) hs).mono ?_
        · rw [bytes_list] at hb
          have := List.all_eq_true.1 hc.2 b (List.mem_of_getElem? hb)
          simpa using this
        · rintro e w' ⟨rfl, rfl⟩
          rw [bytes_list]
          exact ⟨_, rfl, new_strs hst (Lib.fields a)⟩
      · cases h
    · cases h
  split at he'
  · rename_i hg'; subst hg'; cases he'
    exact spec_insert W0 args s v s' h L ow w cargs hg hst hargs
  split at he'
  · rename_i hg'; subst hg'; cases he'
    exact spec_check W0 args s v s' h L ow w cargs hg hst hargs
  split at he'
  · rename_i hg'; subst hg'; cases he'
    exact spec_string W0 args s v s' h L ow w cargs hg hst hargs
  split at he'
  · rename_i hg'; subst hg'; cases he'
    exact spec_atoi W0 hT.2 args s v s' h L ow w cargs hg hst hargs
  split at he'
  · rename_i hg'; subst hg'; cases he'
    exact spec_sort W0 args s v s' h L ow w cargs hg hst hargs
  split at he'
  · rename_i hg'; subst hg'; cases he'
    exact spec_compact W0 args s v s' h L ow w cargs hg hst hargs
  · cases he'
end ParF
end
