/- SrvB, SrvD, SrvE, SrvG, SrvH -/
import Derived.Test.YtpfffbhhommecaaGreatDoorD
set_option linter.all false

section
set_option maxRecDepth 100000
namespace Srv
open Go Go.Abs Go.Proofs
theorem info3 : Info 3 1 := infoG (by kernel_rfl)
theorem cells_I (xs : List Int) : cellsOf (xs.map I) = xs.map I := by
  induction xs with
  | nil => rfl
  | cons x xs ih => show [I x] ++ cellsOf (xs.map I) = _; rw [ih]; rfl
theorem strip_I (xs : List Int) : (xs.map I).map AV.strip = xs.map I := by
  rw [List.map_map]; rfl
theorem NV.src {s : Heap} {v : AV} {xs : List Int} (h : NV s v xs) : ∃ ys, srcH 1 v s = some ys ∧ ys.length = xs.length ∧ (cellsOf ys).map AV.strip = xs.map I ∧ xs.length < 1000000000 := by
  cases h with
  | nil => exact ⟨[], rfl, rfl, rfl, by decide⟩
  | sl xs f hb => exact ⟨_, rfl, by simp, by rw [cells_I, strip_I], hb⟩
  | rs Q junk _ h hb hp =>
    have hl : xs.length * 1 ≤ (xs.map I ++ junk).length := by simp
    have hne : xs.map I ++ junk ≠ [] := by
      intro e; rw [e] at hl; simp only [List.length_nil, Nat.mul_one] at hl; omega
    refine ⟨chunkH 1 xs.length (xs.map I ++ junk), ?_, chunkH_length .., ?_, hb⟩
    · simp only [srcH, h, true_and, and_self, if_true]
      rw [if_pos ⟨by decide, hl, hne⟩]
    · rw [(chunkH_cells 1 xs.length _ hl).1, Nat.mul_one, List.take_left' (by simp), strip_I]
theorem c60 (n : Nat) {s : Heap} {v : AV} {xs : List Int} (h : NV s v xs) : ∃ v' s', den C (n + 1) 60 [v] s = some (v', s') ∧ NV s' v' xs ∧ Gr s s' := by
  rw [rd Tryz.func60]; conv in compF _ _ _ _ _ _ => cbv
  simp only [strip_rs, strip_mr, strip_nilf, Bool.false_eq_true, if_false, ↓kR, kE, kK, sL, C_P, Nat.reduceEqDiff, reduceIte, Tryz.f60, ]
  have hs := h.strip
  have bs : aBuildSlice Tryz.prog 59 0 [] = some (.sl 3 1 [] .full) := by kernel_rfl
  generalize v.strip = w at hs ⊢
  have k : w ≠ .nils → aBin Tryz.prog .eql 59 w .nils = some (.bool false) → ∃ v' s', (oh (mp (aBin Tryz.prog .eql 59 w .nils) s) fun r s' => br r (some (AV.nils, s')) (oh (mp (aBuildSlice Tryz.prog 59 0 []) s') fun r s' => oh (aRsAppend Tryz.prog 59 59 r w s') fun r s' => some (r, s'))) = some (v', s') ∧ NV s' v' xs ∧ Gr s s' := by
    intro _ e
    obtain ⟨ys, h1, h2, h3, h4⟩ := hs.src
    obtain ⟨a1, a2⟩ := apS (x := .sl 3 1 [] .full) under59 under59 info3 (by decide) (by decide) (.inr rfl) h1 (by omega)
    by_cases hy : ys = []
    · subst hy
      have : xs = [] := List.length_eq_zero_iff.1 h2.symm
      subst this
      exact ⟨.sl 3 1 [] .full, s, by simp only [e, bs, a1 rfl, sL], .sl [] _ (by decide), .refl _⟩
    · refine ⟨.rs 3 1 s.length 0 xs.length, s ++ [(3, xs.map I)], by simp only [e, bs, a2 hy, h3, h2, sL], ?_, Gr.app ..⟩
      have hp : 0 < xs.length := by rw [← h2]; exact List.length_pos_iff.2 hy
      exact .rs _ [] xs (by rw [gapp_new, List.append_nil]) h4 hp
  cases hs with
  | nil => exact ⟨.nils, s, by kernel_rfl, .nil, .refl _⟩
  | sl _ f hb => exact k nofun (by simp [aBin, aEq, under59, eqOp])
  | rs Q junk _ h hb hp => exact k nofun (by simp [aBin, aEq, under59, eqOp])
theorem loopI {body : (Env → Heap → Ans) → Env → Heap → Ans} {R : Ans → Prop} (Inv : Nat → Env → Heap → Prop) (N : Nat)
    (step : ∀ i e s k, i < N → Inv i e s → (∀ e' s', Inv (i + 1) e' s' → R (k e' s')) → R (body k e s))
    (stop : ∀ e s k, Inv N e s → R (body k e s)) : ∀ (d i : Nat), d + i = N → ∀ n, d < n → ∀ e s, Inv i e s → R (aLoop body n e s)
  | 0, i, hi, n, hn, e, s, h => by
    obtain ⟨m, rfl⟩ := Nat.exists_eq_succ_of_ne_zero (by omega : n ≠ 0)
    rw [Nat.zero_add] at hi; subst hi
    exact stop e s _ h
  | d + 1, i, hi, n, hn, e, s, h => by
    obtain ⟨m, rfl⟩ := Nat.exists_eq_succ_of_ne_zero (by omega : n ≠ 0)
    exact step i e s _ (by omega) h fun e' s' h' => loopI Inv N step stop d (i + 1) (by omega) m (by omega) e' s' h'
theorem c157 (n : Nat) {s : Heap} {v w : AV} {xs ys : List Int} (h : NV s v xs) (k : NV s w ys) (hn : xs.length < n) : den C (n + 1) 157 [v, w] s = some (.bool (decide (xs = ys)), s) := by
  rw [rd Tryz.func157]; conv in compF _ _ _ _ _ _ => cbv
  simp only [strip_rs, strip_mr, strip_nilf, Bool.false_eq_true, if_false, ↓kR, kE, kK, sL, C_P, Nat.reduceEqDiff, reduceIte, Tryz.f157, ]
  have hs := h.strip
  have ks := k.strip
  generalize hv : v.strip = v' at hs ⊢
  generalize hw : w.strip = w' at ks ⊢
  simp only [strip_rs, strip_mr, strip_nilf, Bool.false_eq_true, if_false, ↓kR, kE, kK, sL, C_P, Nat.reduceEqDiff, reduceIte, hs.len, ks.len, sL]
  have hb := h.bnd
  by_cases hl : xs.length = ys.length
  · have e1 : ((xs.length : Int) != ys.length) = false := by simp [hl]
    rw [e1]
    simp only [sL]
    refine loopI (R := fun a => a = some (AV.bool (decide (xs = ys)), s)) (fun i e s1 => s1 = s ∧ e 0 = v ∧ e 1 = w ∧ e 12 = I xs.length ∧ e 13 = I i ∧ xs.take i = ys.take i) xs.length ?_ ?_ xs.length 0 (by omega) n hn _ _ ⟨rfl, rfl, rfl, rfl, rfl, rfl⟩
    · rintro i e _ k hi ⟨rfl, e0, e1, e12, e13, ht⟩ hk
      obtain ⟨p, p1, p2, p3⟩ := hs.at hi
      obtain ⟨q, q1, q2, q3⟩ := ks.at (hl ▸ hi)
      have hlt := decide_eq_true hi
      simp only [strip_rs, strip_mr, strip_nilf, Bool.false_eq_true, if_false, ↓kR, kE, kK, sL, C_P, Nat.reduceEqDiff, reduceIte, e0, e1, e12, e13, hv, hw, p1, p2, q1, q2, rd_compat p3 q3, hlt, sL]
      by_cases hx : xs[i] = ys[i]
      · rw [hx, bne_self_eq_false]
        simp only [sL]
        rw [wrap64 (by omega) (by omega)]
        refine hk _ _ ⟨rfl, e0, e1, e12, iS i, ?_⟩
        rw [List.take_succ, List.take_succ, ht, List.getElem?_eq_getElem hi, List.getElem?_eq_getElem (hl ▸ hi), hx]
      · rw [(by simpa using hx : (xs[i] != ys[i]) = true)]
        simp only [sL]
        rw [decide_eq_false (fun e : xs = ys => hx (by subst e; rfl))]
    · rintro e _ k ⟨rfl, e0, e1, e12, e13, ht⟩
      have hlt := decide_eq_false (Nat.lt_irrefl xs.length)
      simp only [strip_rs, strip_mr, strip_nilf, Bool.false_eq_true, if_false, ↓kR, kE, kK, sL, C_P, Nat.reduceEqDiff, reduceIte, e12, e13, hlt, sL]
      rw [List.take_length, hl, List.take_length] at ht
      rw [decide_eq_true ht]
  · have e1 : ((xs.length : Int) != ys.length) = true := by simp; omega
    rw [e1]
    simp only [sL]
    rw [decide_eq_false (fun e : xs = ys => hl (by rw [e]))]
theorem ag82 : isAggT Tryz.prog 82 = some true := by kernel_rfl
theorem sz82 : szOf Tryz.prog 82 = some 2 := by kernel_rfl
theorem z82 : zeroOf Tryz.prog 82 = some (.agg [.nils, .str []]) := by kernel_rfl
theorem b82 {s : Heap} {w : AV} {xs : List Int} (h : NV s w xs) (t : Bytes) : aBuild Tryz.prog 82 [(0, w), (1, .str t)] = some (.agg [w, .str t]) := by
  cases h <;> kernel_rfl
theorem c116 (n : Nat) {s : Heap} {v : AV} {xs : List Int} (h : NV s v xs) (t : Bytes) : ∃ v' s', den C (n + 2) 116 [.agg [v, .str t]] s = some (.agg [v', .str t], s') ∧ NV s' v' xs ∧ Gr s s' ∧ v'.strip = v' := by
  rw [rd Tryz.func116]; conv in compF _ _ _ _ _ _ => cbv
  simp only [strip_rs, strip_mr, strip_nilf, Bool.false_eq_true, if_false, ↓kR, kE, kK, sL, C_P, Nat.reduceEqDiff, reduceIte, Tryz.f116, ]
  obtain ⟨w, s1, h1, h2, h3⟩ := c60 n (h.strip.strip.gr (Gr.app s (82, [.nils, .str []])))
  obtain ⟨g1, g2, g3⟩ := h3.set (y := (82, [w.strip, .str t]))
  simp only [strip_rs, strip_mr, strip_nilf, Bool.false_eq_true, if_false, ↓kR, kE, kK, sL, C_P, Nat.reduceEqDiff, reduceIte, allocG z82 (by decide) ⟨nofun, rfl⟩, b82 h2, cFs _ _ (by kernel_rfl : enterable Tryz.prog 60 = true), h1, sL]
  have hst : aStore 2 s1 (.ref s.length 0) (.agg [w, .str t]) = some (s1.set s.length (82, [w.strip, .str t])) := by
    have hat := h3.at gapp_new
    rw [st (n := 2) (o := 0) (v := .agg [w, .str t]) hat (by decide) (by cases h2 <;> rfl) rfl (by decide)]
    rfl
  rw [hst]
  simp only [sL]
  rw [fkc ag82 sz82 (x := .agg [w.strip, .str t]) (by rw [show (upd _ 8 _ : Env) 2 = AV.ref s.length 0 from rfl]; exact ldA g2 (by decide) (by simp) (by decide))]
  refine ⟨w.strip, _, rfl, h2.strip.fr fun Q n' e => ?_, g1, ?_⟩
  · refine g3 Q fun e' => ?_
    obtain ⟨cs, hc⟩ := h2.strip.row e
    rw [e', h3.at gapp_new] at hc
    cases hc
  · cases h2 <;> first | rfl | (rename_i f _; cases f <;> rfl)
theorem NV.pure {s s' : Heap} {v : AV} {xs : List Int} (h : NV s v xs) (hr : v.noRef = true) : NV s' v xs := by
  cases h with
  | nil => exact .nil
  | sl xs f hb => exact .sl xs f hb
  | rs Q junk ns h hb hp => cases hr
theorem aC {D : Den} {g : FuncId} {args : List AV} {s : Heap} {r : AV} (en : enterable Tryz.prog g = true) (hr : r.noRef = true) (h : noRefL args = true → ∃ s1, D g args [] = some (r, s1)) (k : noRefL args = false → D g args s = some (r, s)) : aCall Tryz.prog D g args s = some (r, s) := by
  rw [aCall, if_pos en]
  cases hn : noRefL args with
  | true => obtain ⟨s1, e⟩ := h hn; simp only [if_true, e, hr]
  | false => simp only [Bool.false_eq_true, if_false, k hn]
theorem a157 (n : Nat) {s : Heap} {v w : AV} {xs ys : List Int} (h : NV s v xs) (k : NV s w ys) (hn : xs.length < n) : aCall Tryz.prog (den C (n + 1)) 157 [v, w] s = some (.bool (decide (xs = ys)), s) := by
  refine aC (by kernel_rfl) rfl (fun e => ⟨[], ?_⟩) fun _ => c157 n h k hn
  simp only [noRefL_cons, Bool.and_eq_true] at e
  exact c157 n (h.pure e.1) (k.pure e.2.1) hn
theorem c135 (n : Nat) {s : Heap} {v w : AV} {xs ys : List Int} (h : NV s v xs) (k : NV s w ys) (hn : xs.length < n) (t u : Bytes) : den C (n + 2) 135 [.agg [v, .str t], .agg [w, .str u]] s = some (.bool (t == u && decide (xs = ys)), s) := by
  rw [rd Tryz.func135]; conv in compF _ _ _ _ _ _ => cbv
  simp only [strip_rs, strip_mr, strip_nilf, Bool.false_eq_true, if_false, ↓kR, kE, kK, sL, C_P, Nat.reduceEqDiff, reduceIte, Tryz.f135, ]
  cases hb : (t == u) with
  | true => simp only [sL, a157 n h.strip.strip k.strip.strip hn, Bool.true_and]
  | false => simp only [sL, Bool.false_and]
theorem a135 (n : Nat) {s : Heap} {v w : AV} {xs ys : List Int} (h : NV s v xs) (k : NV s w ys) (hn : xs.length < n) (t u : Bytes) : aCall Tryz.prog (den C (n + 2)) 135 [.agg [v, .str t], .agg [w, .str u]] s = some (.bool (t == u && decide (xs = ys)), s) := by
  refine aC (by kernel_rfl) rfl (fun e => ⟨[], ?_⟩) fun _ => c135 n h k hn t u
  simp only [noRefL_cons, noRef_agg, Bool.and_eq_true] at e
  exact c135 n (h.pure e.1.1) (k.pure e.2.1.1) hn t u
abbrev Key (a b c : Int) : AV := .agg [I a, I b, I c]
def Rows (s s' : Heap) : Prop := ∀ (Q : Nat) (cs : List AV), s[Q]? = some (3, cs) → s'[Q]? = some (3, cs)
def CV (s : Heap) (x : AV) : Prop := ∃ v xs t ch, x = .agg [v, .str t, I ch, I 0] ∧ NV s v xs ∧ v.strip = v ∧ xs.length < 2
theorem CV.gr {s s' : Heap} {x : AV} (h : CV s x) (g : Rows s s') : CV s' x := by
  obtain ⟨v, xs, t, ch, e, h, hs, hl⟩ := h
  refine ⟨v, xs, t, ch, e, h.fr fun Q n e => ?_, hs, hl⟩
  obtain ⟨cs, hc⟩ := h.row e
  rw [hc, g Q cs hc]
inductive KV (s : Heap) : List AV → Prop
  | nil : KV s []
  | cons (a b c : Int) (x : AV) (l : List AV) : CV s x → KV s l → KV s (Key a b c :: x :: l)
theorem KV.gr {s s' : Heap} {l : List AV} (h : KV s l) (g : Rows s s') : KV s' l := by
  induction h with
  | nil => exact .nil
  | cons a b c x l hx hl ih => exact .cons a b c x l (hx.gr g) ih
theorem KV.app {s : Heap} {l : List AV} (h : KV s l) {a b c : Int} {x : AV} (hx : CV s x) : KV s (l ++ [Key a b c, x]) := by
  induction h with
  | nil => exact .cons _ _ _ _ _ hx .nil
  | cons a b c x l hy hl ih => exact .cons _ _ _ _ _ hy ih
theorem key79 (a b c : Int) : keyOK Tryz.prog 79 (Key a b c) = true := by kernel_rfl
theorem eq79 (a b c a' b' c' : Int) : aEq Tryz.prog 6 79 (Key a b c) (Key a' b' c') = some ((a == a') && ((b == b') && ((c == c') && true))) := by kernel_rfl
theorem KV.find {s : Heap} {l : List AV} (h : KV s l) (a b c : Int) : (kfind Tryz.prog 79 (Key a b c) l = some none) ∨ ∃ i v, kfind Tryz.prog 79 (Key a b c) l = some (some (i, v)) ∧ CV s v ∧ l[2 * i]? = some (Key a b c) ∧ ∀ x, CV s x → KV s ((l.set (2 * i) (Key a b c)).set (2 * i + 1) x) := by
  induction h with
  | nil => exact .inl rfl
  | cons a' b' c' x l hx hl ih =>
    unfold kfind
    rw [eq79]
    cases he : ((a' == a) && ((b' == b) && ((c' == c) && true)))
    · have hne : ((a == a') && ((b == b') && ((c == c') && true))) = false := by
        rw [Bool.beq_comm (a := a), Bool.beq_comm (a := b), Bool.beq_comm (a := c)]; exact he
      rw [hne]
      rcases ih with h | ⟨i, v, h1, h2, h3, h4⟩
      · left; simp only [h]
      · right
        refine ⟨i + 1, v, by simp only [h1], h2, ?_, fun y hy => ?_⟩
        · rw [show 2 * (i + 1) = 2 * i + 1 + 1 by omega]; exact h3
        · rw [show 2 * (i + 1) = 2 * i + 1 + 1 by omega]
          exact .cons _ _ _ _ _ hx (h4 y hy)
    · have hne : ((a == a') && ((b == b') && ((c == c') && true))) = true := by
        rw [Bool.beq_comm (a := a), Bool.beq_comm (a := b), Bool.beq_comm (a := c)]; exact he
      rw [hne]
      simp only [Bool.and_true, Bool.and_eq_true, beq_iff_eq] at he
      obtain ⟨rfl, rfl, rfl⟩ := he
      right
      exact ⟨0, x, rfl, hx, rfl, fun y hy => .cons _ _ _ _ _ hy hl⟩
theorem und145 : Tryz.prog.underlying 145 = some (.map 79 189) := by kernel_rfl
theorem z189 : zeroOf Tryz.prog 189 = some (.agg [.nils, .str [], I 0, I 0]) := by kernel_rfl
theorem CV.strip {s : Heap} {x : AV} (h : CV s x) : x.strip = x := by
  obtain ⟨v, xs, t, ch, rfl, h, hs⟩ := h
  rfl
theorem mget {s : Heap} {M : Nat} {l : List AV} (hM : s[M]? = some (mapTy, .undef :: l)) (hl : KV s l) (a b c : Int) : ∃ x, aMapGet Tryz.prog 145 (.mr M) (Key a b c) false s = some x ∧ CV s x := by
  rcases hl.find a b c with h | ⟨i, v, h1, h2, h3, h4⟩
  · exact ⟨.agg [.nils, .str [], I 0, I 0], by simp [aMapGet, und145, key79, hM, h, z189, getR], .nils, [], [], 0, rfl, .nil, rfl, by decide⟩
  · exact ⟨v, by simp [aMapGet, und145, key79, hM, h1, getR, h2.strip], h2⟩
theorem mset {s : Heap} {M : Nat} {l : List AV} (hM : s[M]? = some (mapTy, .undef :: l)) (hl : KV s l) (a b c : Int) {x : AV} (hx : CV s x) (hs : x.solid = true) : ∃ l', aMapSet Tryz.prog 145 (.mr M) (Key a b c) x s = some (s.set M (mapTy, .undef :: l')) ∧ KV s l' := by
  rcases hl.find a b c with h | ⟨i, v, h1, h2, h3, h4⟩
  · exact ⟨l ++ [Key a b c, x], by simp [aMapSet, und145, key79, hM, h, hs, hx.strip], hl.app hx⟩
  · have sk : sameKey (Key a b c) (Key a b c) = true := by simp [sameKey, isI64]
    exact ⟨_, by simp [aMapSet, und145, key79, hM, h1, hs, h3, sk, hx.strip], h4 x hx⟩
structure IS (s : Heap) (S M : Nat) : Prop where
  ne : S ≠ M
  st : ∃ r a b c, s[S]? = some (148, [I r, I a, I b, I c, .mr M])
  mp : ∃ l, s[M]? = some (mapTy, .undef :: l) ∧ KV s l
structure Upd (X : List Nat) (s s' : Heap) : Prop where
  len : s.length ≤ s'.length
  old : ∀ i, i < s.length → i ∉ X → s'[i]? = s[i]?
theorem Upd.refl (X : List Nat) (s : Heap) : Upd X s s := ⟨Nat.le_refl _, fun _ _ _ => rfl⟩
theorem Upd.trans {X : List Nat} {a b c : Heap} (h : Upd X a b) (k : Upd X b c) : Upd X a c :=
  ⟨Nat.le_trans h.len k.len, fun i hi hx => (k.old i (Nat.lt_of_lt_of_le hi h.len) hx).trans (h.old i hi hx)⟩
theorem Gr.upd {a b : Heap} (h : Gr a b) (X : List Nat) : Upd X a b := ⟨h.len, fun _ hi _ => h.get hi⟩
theorem Upd.set {X : List Nat} {s s' : Heap} (h : Upd X s s') {i : Nat} (hi : i ∈ X ∨ s.length ≤ i) (v : TypeId × List AV) : Upd X s (s'.set i v) :=
  ⟨by rw [set_length]; exact h.len, fun j hj hx => by
    have : i ≠ j := by
      rcases hi with hi | hi
      · exact fun e => hx (e ▸ hi)
      · omega
    rw [gset_ne this]; exact h.old j hj hx⟩
theorem dec00 : decide ((0 : Int) < 0) = false := rfl
theorem dec30 : decide ((3 : Int) ≤ 0) = false := rfl
theorem aLoop_succ (F : (Env → Heap → Ans) → Env → Heap → Ans) (n : Nat) (e : Env) (s : Heap) : aLoop F (n + 1) e s = F (aLoop F n) e s := rfl
theorem max00 : aMax (I 0) (I 0) = some (I 0) := rfl
theorem w01 : IntKind.i64.wrap (0 + 1) = 1 := rfl
theorem dec01 : decide ((0 : Int) < 1) = true := rfl
theorem dec11 : decide ((1 : Int) < 1) = false := rfl
theorem und146 (S : Nat) : aIndexAddr Tryz.prog 146 (.ref S 1) (I 0) = some (.ref S 1) := by kernel_rfl
theorem b189 {s : Heap} {w : AV} {xs : List Int} (h : NV s w xs) (t : Bytes) (r : Int) : aBuild Tryz.prog 189 [(0, .agg [w, .str t]), (1, I r), (2, I 0)] = some (.agg [w, .str t, I r, I 0]) := by
  cases h <;> kernel_rfl
theorem Rows.gr {s s' : Heap} (h : Gr s s') : Rows s s' := fun Q cs e => h.at e
theorem Rows.trans {a b c : Heap} (h : Rows a b) (k : Rows b c) : Rows a c := fun Q cs e => k Q cs (h Q cs e)
theorem Rows.set {s : Heap} {i : Nat} {v w : TypeId × List AV} (h : s[i]? = some v) (hv : v.1 ≠ 3) : Rows s (s.set i w) := fun Q cs e => by
  rw [gset_ne (fun e' => by subst e'; rw [h] at e; cases e; exact hv rfl)]; exact e
set_option maxRecDepth 200000 in
theorem c113 (n : Nat) {s : Heap} {S M : Nat} (h : IS s S M) {v : AV} {xs : List Int} (hv : NV s v xs) (a b : Int) (t : Bytes) (hn : xs.length < 2) : ∃ bb s', den C (n + 10) 113 [.ref S 0, Key 0 a b, .agg [v, .str t], I 0] s = some (.tup [.bool bb, I 0], s') ∧ IS s' S M ∧ Upd [S, M] s s' := by
  obtain ⟨r, x0, x1, x2, hS⟩ := h.st
  obtain ⟨l, hM, hl⟩ := h.mp
  have l4 : aLoad false false 1 (.ref S 4) s = some (.mr M, s) := ldv hS (by decide) rfl
  obtain ⟨x, hx, v0, ys, t0, ch, rfl, hv0, hs0, hn0⟩ := mget hM hl 0 a b
  obtain ⟨s1, e1⟩ : ∃ s1, s ++ [(189, [v0, AV.str t0, I ch, I 0])] = s1 := ⟨_, rfl⟩
  have hst : aStore 4 (s ++ [(189, [.nils, .str [], I 0, I 0])]) (.ref s.length 0) (.agg [v0, .str t0, I ch, I 0]) = some s1 := by
    rw [stW (n := 4) (cs := [.nils, .str [], I 0, I 0]) gapp_new (by decide) rfl rfl (by show [v0.strip, .str t0, I ch, I 0] = _; rw [hs0]), set_end, e1]
  have at1 : s1[s.length]? = some (189, [v0, AV.str t0, I ch, I 0]) := by rw [← e1]; exact gapp_new
  have g1 : Gr s s1 := by rw [← e1]; exact Gr.app ..
  have ld3 : aLoad false false 1 (.ref s.length 3) s1 = some (I 0, s1) := ldv at1 (by decide) rfl
  have ld0 : aLoad false true 2 (.ref s.length 0) s1 = some (.agg [v0, .str t0], s1) := ldA (n := 2) at1 (by decide) (by simp) (by decide)
  have bx3 : ∀ s, aLoad false true 3 (.box [I 0, I a, I b] 0) s = some (Key 0 a b, s) := fun s => boxG (n := 3) rfl false s
  have bx2 : ∀ s, aLoad false true 2 (.box [v, .str t] 0) s = some (.agg [v, .str t], s) := fun s => boxG (n := 2) rfl false s
  rw [rd Tryz.func113]; conv in compF _ _ _ _ _ _ => cbv
  simp only [strip_rs, strip_mr, strip_nilf, Bool.false_eq_true, if_false, ↓kR, kE, kK, sL, C_P, Nat.reduceEqDiff, reduceIte, Tryz.f113, dec00, dec30, bne_self_eq_false, beq_self_eq_true, l4, bx3, bx2, hx, allocG z189 (by decide) ⟨nofun, rfl⟩, hst, ld3, ld0, a135 (n + 7) (hv0.gr g1) (hv.gr g1) (by omega), sL]
  have hS1 : s1[S]? = _ := g1.at hS
  have hM1 : s1[M]? = _ := g1.at hM
  cases hq : (t0 == t && decide (ys = xs)) with
  | true =>
    simp only [sL]
    exact ⟨false, s1, rfl, ⟨h.ne, ⟨_, _, _, _, hS1⟩, _, hM1, hl.gr (.gr g1)⟩, g1.upd _⟩
  | false =>
    have lS : aLoad false false 1 (.ref S 0) s1 = some (I r, s1) := ldv hS1 (by decide) rfl
    obtain ⟨r', hr⟩ : ∃ r', IntKind.i64.wrap (r + 1) = r' := ⟨_, rfl⟩
    obtain ⟨s2, e2⟩ : ∃ s2, s1.set S (148, [I r', I x0, I x1, I x2, AV.mr M]) = s2 := ⟨_, rfl⟩
    have st2 : aStore 1 s1 (.ref S 0) (I r') = some s2 := by
      rw [st (n := 1) hS1 (by decide) rfl rfl (by simp), ← e2]; rfl
    have hlt := glt hS
    have hne : S ≠ s.length := by omega
    have hS2 : s2[S]? = some (148, [I r', I x0, I x1, I x2, AV.mr M]) := by rw [← e2]; exact gset_eq hS1
    have at2 : s2[s.length]? = some (189, [v0, AV.str t0, I ch, I 0]) := by rw [← e2, gset_ne hne]; exact at1
    have ld3' : aLoad false false 1 (.ref s.length 3) s2 = some (I 0, s2) := ldv at2 (by decide) rfl
    have lS2 : aLoad false false 1 (.ref S 0) s2 = some (I r', s2) := ldv hS2 (by decide) rfl
    obtain ⟨s3, e3⟩ : ∃ s3, s2.set S (148, [I r', I r', I x1, I x2, AV.mr M]) = s3 := ⟨_, rfl⟩
    have st3 : aStore 1 s2 (.ref S 1) (I r') = some s3 := by
      rw [st (n := 1) hS2 (by decide) rfl rfl (by simp), ← e3]; rfl
    have hS3 : s3[S]? = some (148, [I r', I r', I x1, I x2, AV.mr M]) := by rw [← e3]; exact gset_eq hS2
    have lM3 : aLoad false false 1 (.ref S 4) s3 = some (.mr M, s3) := ldv hS3 (by decide) rfl
    have rw3 : Rows s s3 := (Rows.gr g1).trans ((e2 ▸ Rows.set hS1 (by show (148 : Nat) ≠ 3; decide)).trans (e3 ▸ Rows.set hS2 (by show (148 : Nat) ≠ 3; decide)))
    have up3 : Upd [S, M] s s3 := by
      rw [← e3, ← e2]
      exact ((g1.upd _).set (.inl (by simp)) _).set (.inl (by simp)) _
    simp only [sL, lS, hr, st2, ld3', ite_self, w01]
    have hv3 : NV s3 v xs := hv.fr fun Q n e => by obtain ⟨cs, hc⟩ := hv.row e; rw [hc, rw3 Q cs hc]
    obtain ⟨w, s4, c1, c2, c3, c4⟩ := c116 (n + 7) hv3 t
    have hS4 : s4[S]? = _ := c3.at hS3
    have lS4 : aLoad false false 1 (.ref S 0) s4 = some (I r', s4) := ldv hS4 (by decide) rfl
    have kp : (kept s3 s4).contains S = true := kept_of (glt hS3) (c3.get (glt hS3))
    have rw4 : Rows s s4 := rw3.trans (.gr c3)
    have hM3 : s3[M]? = some (mapTy, .undef :: l) := by rw [← e3, gset_ne h.ne, ← e2, gset_ne h.ne]; exact hM1
    have hM4 : s4[M]? = _ := c3.at hM3
    have cv : CV s4 (.agg [w, .str t, I r', I 0]) := ⟨w, xs, t, r', rfl, c2, c4, hn⟩
    obtain ⟨l', m1, m2⟩ := mset hM4 (hl.gr rw4) 0 a b cv (by cases c2 <;> rfl)
    rw [aLoop_succ]
    simp only [strip_rs, strip_mr, strip_nilf, Bool.false_eq_true, if_false, ↓kR, kE, kK, sL, C_P, Nat.reduceEqDiff, reduceIte, dec01, lS2, und146, st3, w01, sL]
    rw [aLoop_succ]
    simp only [strip_rs, strip_mr, strip_nilf, Bool.false_eq_true, if_false, ↓kR, kE, kK, sL, C_P, Nat.reduceEqDiff, reduceIte, dec11, lM3, bx3, bx2, cFs _ _ (by kernel_rfl : enterable Tryz.prog 116 = true), c1, lS4, b189 c2, m1, kp, sL]
    have rM : Rows s4 (s4.set M (mapTy, .undef :: l')) := Rows.set hM4 (by show (mapTy : Nat) ≠ 3; decide)
    refine ⟨true, _, rfl, ⟨h.ne, ⟨_, _, _, _, (gset_ne h.ne.symm).trans hS4⟩, l', gset_eq hM4, m2.gr rM⟩, ?_⟩
    exact (up3.trans (c3.upd _)).set (.inl (by simp)) _
theorem c101 (n : Nat) {s : Heap} {S M D : Nat} {o : List AV} {f : AV} (h : IS s S M) (hD : s[D]? = some (121, f :: .ref S 0 :: o)) {v : AV} {xs : List Int} (hv : NV s v xs) (a b : Int) (t : Bytes) (hn : xs.length < 2) : ∃ s', den C (n + 11) 101 [.ref D 0, Key 0 a b, .agg [v, .str t], I 0] s = some (I 0, s') ∧ IS s' S M ∧ Upd [S, M] s s' := by
  obtain ⟨bb, s', h1, h2, h3⟩ := c113 n h hv a b t hn
  have l1 : aLoad false false 1 (.ref D 1) s = some (.ref S 0, s) := ldv hD (by decide) rfl
  have bx3 : ∀ s, aLoad false true 3 (.box [I 0, I a, I b] 0) s = some (Key 0 a b, s) := fun s => boxG (n := 3) rfl false s
  have bx2 : ∀ s, aLoad false true 2 (.box [v, .str t] 0) s = some (.agg [v, .str t], s) := fun s => boxG (n := 2) rfl false s
  have cl : aCall Tryz.prog (den C (n + 10)) 113 [.ref S 0, Key 0 a b, .agg [v, .str t], I 0] s = some (.tup [.bool bb, I 0], s') := by
    rw [aCall, if_pos (by kernel_rfl), if_neg (by simp [noRefL_cons, AV.noRef])]
    exact h1
  rw [rd Tryz.func101]; conv in compF _ _ _ _ _ _ => cbv
  simp only [strip_rs, strip_mr, strip_nilf, Bool.false_eq_true, if_false, ↓kR, kE, kK, sL, C_P, Nat.reduceEqDiff, reduceIte, Tryz.f101, l1, bx3, bx2, cl, sL]
  exact ⟨s', rfl, h2, h3⟩
end Srv
end

section
set_option maxRecDepth 100000
namespace Srv
open Go Go.Abs Go.Proofs
theorem under46 : Tryz.prog.underlying 46 = some (.slice 45) := by kernel_rfl
theorem sz45 : szOf Tryz.prog 45 = some 2 := by kernel_rfl
theorem info45 : Info 45 2 := infoG (by kernel_rfl)
theorem z45 : zeroOf Tryz.prog 45 = some (.agg [.str [], .str []]) := by kernel_rfl
abbrev nm : Bytes := [109]
abbrev Md (t : Bytes) : AV := .agg [.str nm, .str t]
abbrev R1 (Q : Nat) : AV := .rs 45 2 Q 0 1
def M1 (s : Heap) (Q : Nat) (t : Bytes) : Prop := ∃ junk, s[Q]? = some (45, .str nm :: .str t :: junk)
theorem M1.upd {s s' : Heap} {Q : Nat} {t : Bytes} (h : M1 s Q t) (e : s'[Q]? = s[Q]?) : M1 s' Q t := by
  obtain ⟨j, h⟩ := h; exact ⟨j, e.trans h⟩
theorem M1.lt {s : Heap} {Q : Nat} {t : Bytes} (h : M1 s Q t) : Q < s.length := by obtain ⟨j, h⟩ := h; exact glt h
theorem M1.ld {s : Heap} {Q : Nat} {t : Bytes} (h : M1 s Q t) : aLoad false true 2 (.ref Q 0) s = some (Md t, s) := by
  obtain ⟨j, h⟩ := h; exact ldA (n := 2) h (by decide) (by simp) (by decide)
theorem ix1 (Q : Nat) : aIndexAddr Tryz.prog 46 (R1 Q) (I 0) = some (.ref Q 0) := by kernel_rfl
theorem len1 (Q : Nat) : aLen Tryz.prog 46 (R1 Q) = some (I 1) := by simp [aLen, under46]
theorem len0 (Q : Nat) : aLen Tryz.prog 46 (.rs 45 2 Q 0 0) = some (I 0) := by simp [aLen, under46]
theorem lenN : aLen Tryz.prog 46 .nils = some (I 0) := by kernel_rfl
theorem lenS (b : Bytes) : aLen Tryz.prog 9 (.str b) = some (I b.length) := by
  have : Tryz.prog.underlying 9 = some .string := by kernel_rfl
  simp [aLen, this]
theorem c98 (n : Nat) (a b : Bytes) (s : Heap) (hb : b.length ≤ 2000) : den C (n + 1) 98 [.agg [.str a, .str b]] s = some (.bool false, s) := by
  have : decide ((2000 : Int) < b.length) = false := decide_eq_false (by omega)
  rw [rd Tryz.func98]; conv in compF _ _ _ _ _ _ => cbv
  simp only [strip_rs, strip_mr, strip_nilf, Bool.false_eq_true, if_false, ↓kR, kE, kK, sL, C_P, Nat.reduceEqDiff, reduceIte, Tryz.f98, lenS, this, sL]
theorem c96 (n : Nat) (a b x : Bytes) (s : Heap) : den C (n + 1) 96 [.agg [.str a, .str b], .box [.str x] 0] s = some (.bool (a == x), s) := by
  rw [rd Tryz.func96]; conv in compF _ _ _ _ _ _ => cbv
  simp only [strip_rs, strip_mr, strip_nilf, Bool.false_eq_true, if_false, ↓kR, kE, kK, sL, C_P, Nat.reduceEqDiff, reduceIte, Tryz.f96, ]
theorem id_m (n : Nat) (hn : 40 ≤ n) (s : Heap) : aCall Tryz.prog (den C n) 100 [.str nm] s = some (.bool true, s) := by
  obtain ⟨s1, h⟩ : ∃ s1, den C 40 100 [.str nm] [] = some (.bool true, s1) := by
    have : (den C 40 100 [.str nm] []).map (·.1) = some (.bool true) := by kernel_rfl
    rw [Option.map_eq_some_iff] at this
    obtain ⟨⟨a, s1⟩, e, rfl⟩ := this
    exact ⟨s1, e⟩
  exact aC (by kernel_rfl) rfl (fun _ => ⟨s1, den_mono C hn _ _ _ _ h⟩) nofun
theorem c99 (n : Nat) (hn : 40 ≤ n) (b : Bytes) (s : Heap) : den C (n + 1) 99 [Md b] s = some (.bool false, s) := by
  rw [rd Tryz.func99]; conv in compF _ _ _ _ _ _ => cbv
  simp only [strip_rs, strip_mr, strip_nilf, Bool.false_eq_true, if_false, ↓kR, kE, kK, sL, C_P, Nat.reduceEqDiff, reduceIte, Tryz.f99, id_m n hn]
theorem c95 (n : Nat) {s : Heap} {Q : Nat} {t : Bytes} (h : M1 s Q t) {f : AV} {b : Bool} (hf : f.strip = f) (hp : ∀ s, aCallV Tryz.prog (den C (n + 2)) f [Md t] s = some (.bool b, s)) : den C (n + 3) 95 [R1 Q, f] s = some (I (if b then 0 else -1), s) := by
  rw [rd Tryz.func95]; conv in compF _ _ _ _ _ _ => cbv
  simp only [strip_rs, strip_mr, strip_nilf, Bool.false_eq_true, if_false, ↓kR, kE, kK, sL, C_P, Nat.reduceEqDiff, reduceIte, Tryz.f95, len1, sL]
  rw [aLoop_succ]
  simp only [strip_rs, strip_mr, strip_nilf, Bool.false_eq_true, if_false, ↓kR, kE, kK, sL, C_P, Nat.reduceEqDiff, reduceIte, dec01, ix1, h.ld, hf, hp, w01, sL]
  cases b
  · simp only [sL]
    rw [aLoop_succ]
    simp only [strip_rs, strip_mr, strip_nilf, Bool.false_eq_true, if_false, ↓kR, kE, kK, sL, C_P, Nat.reduceEqDiff, reduceIte, dec11, sL]
  · simp only [sL]
theorem c95n (n : Nat) {s : Heap} {v f : AV} (hv : v = .nils ∨ ∃ Q, v = .rs 45 2 Q 0 0) : den C (n + 2) 95 [v, f] s = some (I (-1), s) := by
  have h : v.strip = v ∧ aLen Tryz.prog 46 v = some (I 0) := by
    rcases hv with rfl | ⟨Q, rfl⟩
    · exact ⟨rfl, lenN⟩
    · exact ⟨rfl, len0 Q⟩
  rw [rd Tryz.func95]; conv in compF _ _ _ _ _ _ => cbv
  simp only [strip_rs, strip_mr, strip_nilf, Bool.false_eq_true, if_false, ↓kR, kE, kK, sL, C_P, Nat.reduceEqDiff, reduceIte, Tryz.f95, h.1, h.2, sL]
  rw [aLoop_succ]
  simp only [strip_rs, strip_mr, strip_nilf, Bool.false_eq_true, if_false, ↓kR, kE, kK, sL, C_P, Nat.reduceEqDiff, reduceIte, dec00, sL]
theorem vFn (n g : Nat) (caps : List AV) (en : enterable Tryz.prog g = true) (a : AV) {b : Bool} (hn : noRefL ((a :: caps).map AV.strip) = true) (h : ∃ s1, den C n g ((a :: caps).map AV.strip) [] = some (.bool b, s1)) (s : Heap) : aCallV Tryz.prog (den C n) (.fn g [] caps) [a] s = some (.bool b, s) := by
  obtain ⟨s1, h⟩ := h
  show aCall Tryz.prog (den C n) g ((a :: caps).map AV.strip) s = _
  exact aC en rfl (fun _ => ⟨s1, h⟩) (fun e => by rw [hn] at e; cases e)
theorem bx9 (x : Bytes) (s : Heap) : aBox false 9 (.str x) s = some (.box [.str x] 0, s) := boxV rfl s
theorem c80 (n : Nat) {s : Heap} {Q : Nat} {t : Bytes} (h : M1 s Q t) : den C (n + 5) 80 [R1 Q, .str nm] s = some (I 0, s) := by
  have := c95 (n + 1) h (f := .fn 96 [] [.box [.str nm] 0]) (b := true) rfl (fun s => vFn _ _ _ (by kernel_rfl) _ rfl ⟨_, c96 (n + 2) nm t nm []⟩ s)
  have cl : aCall Tryz.prog (den C (n + 4)) 95 [R1 Q, .fn 96 [] [.box [.str nm] 0]] s = some (I 0, s) := by
    rw [aCall, if_pos (by kernel_rfl), if_neg (by simp [noRefL_cons, AV.noRef])]; exact this
  rw [rd Tryz.func80]; conv in compF _ _ _ _ _ _ => cbv
  simp only [strip_rs, strip_mr, strip_nilf, Bool.false_eq_true, if_false, ↓kR, kE, kK, sL, C_P, Nat.reduceEqDiff, reduceIte, Tryz.f80, bx9, cl, sL]
theorem c80n (n : Nat) {s : Heap} {v : AV} (hv : v = .nils ∨ ∃ Q, v = .rs 45 2 Q 0 0) : den C (n + 5) 80 [v, .str nm] s = some (I (-1), s) := by
  have hs : v.strip = v := by rcases hv with rfl | ⟨Q, rfl⟩ <;> rfl
  have cl : aCall Tryz.prog (den C (n + 4)) 95 [v, .fn 96 [] [.box [.str nm] 0]] s = some (I (-1), s) :=
    aC (by kernel_rfl) rfl (fun _ => ⟨[], c95n (n + 2) hv⟩) (fun _ => c95n (n + 2) hv)
  rw [rd Tryz.func80]; conv in compF _ _ _ _ _ _ => cbv
  simp only [strip_rs, strip_mr, strip_nilf, Bool.false_eq_true, if_false, ↓kR, kE, kK, sL, C_P, Nat.reduceEqDiff, reduceIte, Tryz.f80, hs, bx9, cl, sL]
theorem c97 (n : Nat) {s : Heap} {Q : Nat} {t : Bytes} (h : M1 s Q t) {g : Nat} (hp : ∀ s, aCallV Tryz.prog (den C (n + 2)) (.fn g [] []) [Md t] s = some (.bool false, s)) : aCall Tryz.prog (den C (n + 4)) 97 [R1 Q, .fn g [] []] s = some (.bool false, s) := by
  have cl : aCall Tryz.prog (den C (n + 3)) 95 [R1 Q, .fn g [] []] s = some (I (-1), s) := by
    rw [aCall, if_pos (by kernel_rfl), if_neg (by simp [noRefL_cons, AV.noRef])]; exact c95 n h rfl hp
  rw [aCall, if_pos (by kernel_rfl), if_neg (by simp [noRefL_cons, AV.noRef])]
  rw [rd Tryz.func97]; conv in compF _ _ _ _ _ _ => cbv
  simp only [strip_rs, strip_mr, strip_nilf, Bool.false_eq_true, if_false, ↓kR, kE, kK, sL, C_P, Nat.reduceEqDiff, reduceIte, Tryz.f97, cl, sL]
  rw [show decide ((0 : Int) ≤ -1) = false from rfl]
theorem c81 (n : Nat) (hn : 40 ≤ n) {s : Heap} {Q : Nat} {t : Bytes} (h : M1 s Q t) (ht : t.length ≤ 2000) : ∃ s', den C (n + 7) 81 [R1 Q] s = some (I 0, s') ∧ Gr s s' := by
  have w1 : ∀ s, aCallV Tryz.prog (den C (n + 4)) (.fn 98 [] []) [Md t] s = some (.bool false, s) := fun s => vFn (n + 4) 98 [] (by kernel_rfl) (Md t) rfl ⟨[], c98 (n + 3) nm t [] ht⟩ s
  have w2 : ∀ s, aCallV Tryz.prog (den C (n + 4)) (.fn 99 [] []) [Md t] s = some (.bool false, s) := fun s => vFn (n + 4) 99 [] (by kernel_rfl) (Md t) rfl ⟨[], c99 (n + 3) (by omega) t []⟩ s
  have v1 : aCall Tryz.prog (den C (n + 6)) 97 [R1 Q, .fn 98 [] []] s = some (.bool false, s) := c97 (n + 2) h (g := 98) w1
  have v2 : aCall Tryz.prog (den C (n + 6)) 97 [R1 Q, .fn 99 [] []] s = some (.bool false, s) := c97 (n + 2) h (g := 99) w2
  have d8 : decide ((8 : Int) < 1) = false := rfl
  have sl0 : aSl Tryz.prog 46 (R1 Q) none (some (I 0)) none = some (.rs 45 2 Q 0 0) := by kernel_rfl
  obtain ⟨s1, e1⟩ : ∃ s1, s ++ [(45, [AV.str nm, AV.str t])] = s1 := ⟨_, rfl⟩
  have hst : aStore 2 (s ++ [(45, [.str [], .str []])]) (.ref s.length 0) (Md t) = some s1 := by
    rw [stW (n := 2) (cs := [.str [], .str []]) gapp_new (by decide) rfl rfl rfl, set_end, e1]
  have at1 : s1[s.length]? = some (45, [AV.str nm, AV.str t]) := by rw [← e1]; exact gapp_new
  have l0 : aLoad false false 1 (.ref s.length 0) s1 = some (.str nm, s1) := ldv at1 (by decide) rfl
  have cl : aCall Tryz.prog (den C (n + 6)) 80 [.rs 45 2 Q 0 0, .str nm] s1 = some (I (-1), s1) := by
    rw [aCall, if_pos (by kernel_rfl), if_neg (by simp [noRefL_cons, AV.noRef])]; exact c80n (n + 1) (.inr ⟨Q, rfl⟩)
  rw [rd Tryz.func81]; conv in compF _ _ _ _ _ _ => cbv
  simp only [strip_rs, strip_mr, strip_nilf, Bool.false_eq_true, if_false, ↓kR, kE, kK, sL, C_P, Nat.reduceEqDiff, reduceIte, Tryz.f81, len1, v1, v2, d8, sL]
  rw [aLoop_succ]
  simp only [strip_rs, strip_mr, strip_nilf, Bool.false_eq_true, if_false, ↓kR, kE, kK, sL, C_P, Nat.reduceEqDiff, reduceIte, dec01, ix1, h.ld, allocG z45 (by decide) ⟨nofun, rfl⟩, hst, sl0, l0, cl, w01, show decide ((0 : Int) ≤ -1) = false from rfl, sL]
  rw [aLoop_succ]
  simp only [strip_rs, strip_mr, strip_nilf, Bool.false_eq_true, if_false, ↓kR, kE, kK, sL, C_P, Nat.reduceEqDiff, reduceIte, dec11, sL]
  exact ⟨s1, rfl, e1 ▸ Gr.app ..⟩
end Srv
end

section
set_option maxRecDepth 100000
namespace Srv
open Go Go.Abs Go.Proofs
structure SV (s : Heap) (V D S M : Nat) (ms vs : AV) (r : Int) : Prop where
  sv : s[V]? = some (86, [ms, vs, .nils, I r, .ref D 0])
  db : ∃ f o, s[D]? = some (121, f :: .ref S 0 :: o)
  is : IS s S M
theorem SV.ne {s : Heap} {V D S M : Nat} {ms vs : AV} {r : Int} (h : SV s V D S M ms vs r) : V ∉ [S, M] ∧ D ∉ [S, M] ∧ V ≠ D := by
  obtain ⟨f, o, hD⟩ := h.db
  obtain ⟨_, _, _, _, hS⟩ := h.is.st
  obtain ⟨_, hM, _⟩ := h.is.mp
  have hV := h.sv
  refine ⟨?_, ?_, fun e => ?_⟩
  · simp only [List.mem_cons, List.not_mem_nil, or_false, not_or]
    exact ⟨fun e => (by rw [e, hS] at hV; cases hV), fun e => (by rw [e, hM] at hV; cases hV)⟩
  · simp only [List.mem_cons, List.not_mem_nil, or_false, not_or]
    exact ⟨fun e => (by rw [e, hS] at hD; cases hD), fun e => (by rw [e, hM] at hD; cases hD)⟩
  · rw [e, hD] at hV; cases hV
theorem SV.upd {s s' : Heap} {V D S M : Nat} {ms vs : AV} {r : Int} (h : SV s V D S M ms vs r) (u : Upd [S, M] s s') (k : IS s' S M) : SV s' V D S M ms vs r := by
  obtain ⟨n1, n2, _⟩ := h.ne
  obtain ⟨f, o, hD⟩ := h.db
  exact ⟨(u.old V (glt h.sv) n1).trans h.sv, ⟨f, o, (u.old D (glt hD) n2).trans hD⟩, k⟩
theorem IS.gr {s s' : Heap} {S M : Nat} (h : IS s S M) (g : Gr s s') : IS s' S M := by
  obtain ⟨a, b, c, d, hS⟩ := h.st
  obtain ⟨l, hM, hl⟩ := h.mp
  exact ⟨h.ne, ⟨a, b, c, d, g.at hS⟩, l, g.at hM, hl.gr (.gr g)⟩
theorem SV.gr {s s' : Heap} {V D S M : Nat} {ms vs : AV} {r : Int} (h : SV s V D S M ms vs r) (g : Gr s s') : SV s' V D S M ms vs r := h.upd (g.upd _) (h.is.gr g)
theorem M1.upd' {s s' : Heap} {Q S M : Nat} {t : Bytes} (h : M1 s Q t) (hi : IS s S M) (u : Upd [S, M] s s') : M1 s' Q t := by
  refine h.upd (u.old Q h.lt ?_)
  obtain ⟨j, hQ⟩ := h
  obtain ⟨_, _, _, _, hS⟩ := hi.st
  obtain ⟨_, hM, _⟩ := hi.mp
  simp only [List.mem_cons, List.not_mem_nil, or_false, not_or]
  exact ⟨fun e => (by rw [e, hS] at hQ; cases hQ), fun e => (by rw [e, hM] at hQ; cases hQ)⟩
theorem c82 (n : Nat) {s : Heap} {V D S M Q : Nat} {vs : AV} {r : Int} {t : Bytes} (h : SV s V D S M (R1 Q) vs r) (hQ : M1 s Q t) : ∃ s', den C (n + 12) 82 [.ref V 0] s = some (.tup [], s') ∧ SV s' V D S M (R1 Q) vs r ∧ Upd [S, M] s s' := by
  obtain ⟨f, o, hD⟩ := h.db
  have lV4 : ∀ {s ms}, SV s V D S M ms vs r → aLoad false false 1 (.ref V 4) s = some (.ref D 0, s) := fun h => ldv h.sv (by decide) rfl
  have lV0 : ∀ {s}, SV s V D S M (R1 Q) vs r → aLoad false false 1 (.ref V 0) s = some (R1 Q, s) := fun h => ldv h.sv (by decide) rfl
  have e101 : enterable Tryz.prog 101 = true := by kernel_rfl
  have k101 : ∀ {s : Heap} (h : SV s V D S M (R1 Q) vs r) {v : AV} {xs : List Int} (hv : NV s v xs) (a b : Int) (t : Bytes) (hn : xs.length < 2), ∃ s', aCall Tryz.prog (den C (n + 11)) 101 [.ref D 0, Key 0 a b, .agg [v, .str t], I 0] s = some (I 0, s') ∧ SV s' V D S M (R1 Q) vs r ∧ Upd [S, M] s s' := by
    intro s h v xs hv a b t hn
    obtain ⟨f, o, hD⟩ := h.db
    obtain ⟨s', h1, h2, h3⟩ := c101 n h.is hD hv a b t hn
    refine ⟨s', ?_, h.upd h3 h2, h3⟩
    rw [aCall, if_pos e101, if_neg (by simp [noRefL_cons, AV.noRef])]; exact h1
  have b79 : ∀ a b : Int, aBuild Tryz.prog 79 [(1, I a), (2, I b)] = some (Key 0 a b) := fun a b => by kernel_rfl
  have b79' : aBuild Tryz.prog 79 [(1, I 0)] = some (Key 0 0 0) := by kernel_rfl
  have bs : aBuildSlice Tryz.prog 59 1 [(0, I 1)] = some (.sl 3 1 [I 1] .own) := by kernel_rfl
  have b82n : aBuild Tryz.prog 82 [(0, .sl 3 1 [I 1] .own)] = some (.agg [.sl 3 1 [I 1] .own, .str []]) := by kernel_rfl
  have b82t : ∀ t : Bytes, aBuild Tryz.prog 82 [(1, .str t)] = some (.agg [.nils, .str t]) := fun t => by kernel_rfl
  obtain ⟨s1, h1, h2, h3⟩ := k101 h (v := .sl 3 1 [I 1] .own) (.sl [1] .own (by decide)) 0 0 [] (by decide)
  have hQ1 := hQ.upd' h.is h3
  obtain ⟨s2, e2⟩ : ∃ s2, s1 ++ [(45, [AV.str nm, AV.str t])] = s2 := ⟨_, rfl⟩
  have g2 : Gr s1 s2 := e2 ▸ Gr.app ..
  have hst : aStore 2 (s1 ++ [(45, [.str [], .str []])]) (.ref s1.length 0) (Md t) = some s2 := by
    rw [stW (n := 2) (cs := [.str [], .str []]) gapp_new (by decide) rfl rfl rfl, set_end, e2]
  have at2 : s2[s1.length]? = some (45, [AV.str nm, AV.str t]) := by rw [← e2]; exact gapp_new
  have h2' := h2.gr g2
  have l0 : aLoad false false 1 (.ref s1.length 0) s2 = some (.str nm, s2) := ldv at2 (by decide) rfl
  obtain ⟨s3, i1, i2, i3⟩ := k101 h2' (v := .nils) .nil 1 0 nm (by decide)
  have at3 : M1 s3 s1.length t := M1.upd' (s := s2) ⟨[], at2⟩ h2'.is i3
  have l1 : aLoad false false 1 (.ref s1.length 1) s3 = some (.str t, s3) := by obtain ⟨j, e⟩ := at3; exact ldv e (by decide) rfl
  obtain ⟨s4, j1, j2, j3⟩ := k101 i2 (v := .nils) .nil 2 0 t (by decide)
  rw [rd Tryz.func82]; conv in compF _ _ _ _ _ _ => cbv
  simp only [strip_rs, strip_mr, strip_nilf, Bool.false_eq_true, if_false, ↓kR, kE, kK, sL, C_P, Nat.reduceEqDiff, reduceIte, Tryz.f82, lV4 h, b79', lV0 h, len1, bs, b82n, h1, lV0 h2, sL]
  rw [aLoop_succ]
  simp only [strip_rs, strip_mr, strip_nilf, Bool.false_eq_true, if_false, ↓kR, kE, kK, sL, C_P, Nat.reduceEqDiff, reduceIte, dec01, ix1, hQ1.ld, allocG z45 (by decide) ⟨nofun, rfl⟩, hst, lV4 h2', b79, b82t, l0, i1, lV4 i2, l1, j1, w01, sL]
  rw [aLoop_succ]
  simp only [strip_rs, strip_mr, strip_nilf, Bool.false_eq_true, if_false, ↓kR, kE, kK, sL, C_P, Nat.reduceEqDiff, reduceIte, dec11, sL]
  exact ⟨s4, rfl, j2, (h3.trans (g2.upd _)).trans (i3.trans j3)⟩
theorem c62 (n : Nat) (hn : 40 ≤ n) {s : Heap} {V D S M Q : Nat} {ms vs vs' : AV} {r : Int} {t : Bytes} (h : SV s V D S M ms vs r) (hQ : M1 s Q t) (ht : t.length ≤ 2000) (hv : vs'.strip = vs') (hsol : vs'.solid = true) (hc : vs'.cells = [vs']) (hst : stCells vs' = [vs']) : ∃ s' r', den C (n + 13) 62 [.ref V 0, R1 Q, vs'] s = some (I 0, s') ∧ SV s' V D S M (R1 Q) vs' r' ∧ Upd [V, S, M] s s' ∧ M1 s' Q t := by
  obtain ⟨s1, a1, a2⟩ := c81 (n + 5) (by omega) hQ ht
  have cl : aCall Tryz.prog (den C (n + 12)) 81 [R1 Q] s = some (I 0, s1) := by
    rw [aCall, if_pos (by kernel_rfl), if_neg (by simp [noRefL_cons, AV.noRef])]; exact a1
  have h1 := h.gr a2
  have hV1 := h1.sv
  have st1 : aStore 1 s1 (.ref V 0) (R1 Q) = some (s1.set V (86, [R1 Q, vs, .nils, I r, .ref D 0])) := by
    rw [st (n := 1) hV1 (by decide) rfl rfl (by simp)]; rfl
  obtain ⟨s2, e2⟩ : ∃ s2, s1.set V (86, [R1 Q, vs, .nils, I r, .ref D 0]) = s2 := ⟨_, rfl⟩
  have hV2 : s2[V]? = _ := e2 ▸ gset_eq hV1
  have st2 : aStore 1 s2 (.ref V 1) vs' = some (s2.set V (86, [R1 Q, vs', .nils, I r, .ref D 0])) := by
    rw [st (n := 1) hV2 (by decide) hsol (by rw [hc]; rfl) (by simp), hst]; rfl
  obtain ⟨s3, e3⟩ : ∃ s3, s2.set V (86, [R1 Q, vs', .nils, I r, .ref D 0]) = s3 := ⟨_, rfl⟩
  have hV3 : s3[V]? = _ := e3 ▸ gset_eq hV2
  have l3 : aLoad false false 1 (.ref V 3) s3 = some (I r, s3) := ldv hV3 (by decide) rfl
  obtain ⟨r', er⟩ : ∃ r', IntKind.i64.wrap (r + 1) = r' := ⟨_, rfl⟩
  have st3 : aStore 1 s3 (.ref V 3) (I r') = some (s3.set V (86, [R1 Q, vs', .nils, I r', .ref D 0])) := by
    rw [st (n := 1) hV3 (by decide) rfl rfl (by simp)]; rfl
  obtain ⟨s4, e4⟩ : ∃ s4, s3.set V (86, [R1 Q, vs', .nils, I r', .ref D 0]) = s4 := ⟨_, rfl⟩
  have hV4 : s4[V]? = _ := e4 ▸ gset_eq hV3
  have oth : ∀ i, i ≠ V → s4[i]? = s1[i]? := fun i hi => by rw [← e4, gset_ne hi.symm, ← e3, gset_ne hi.symm, ← e2, gset_ne hi.symm]
  obtain ⟨n1, n2, n3⟩ := h1.ne
  have up4 : Upd [V] s1 s4 := ⟨by rw [← e4, set_length, ← e3, set_length, ← e2, set_length]; exact Nat.le_refl _, fun i _ hi => oth i (by simpa using hi)⟩
  have hs4 : SV s4 V D S M (R1 Q) vs' r' := by
    refine ⟨hV4, ?_, ?_⟩
    · obtain ⟨f, o, hD⟩ := h1.db
      exact ⟨f, o, (oth D n3.symm).trans hD⟩
    · obtain ⟨a, b, c, d, hS⟩ := h1.is.st
      obtain ⟨l, hM, hl⟩ := h1.is.mp
      simp only [List.mem_cons, List.not_mem_nil, or_false, not_or] at n1
      refine ⟨h1.is.ne, ⟨a, b, c, d, (oth S (Ne.symm n1.1)).trans hS⟩, l, (oth M (Ne.symm n1.2)).trans hM, hl.gr fun X cs e => ?_⟩
      rw [oth X (fun e' => by rw [e', hV1] at e; cases e)]; exact e
  have hQ4 : M1 s4 Q t := by
    obtain ⟨j, hq⟩ := hQ
    have := a2.at hq
    exact ⟨j, (oth Q (fun e' => by rw [e', hV1] at this; cases this)).trans this⟩
  obtain ⟨s5, b1, b2, b3⟩ := c82 n hs4 hQ4
  have cl2 : aCall Tryz.prog (den C (n + 12)) 82 [.ref V 0] s4 = some (.tup [], s5) := by
    rw [aCall, if_pos (by kernel_rfl), if_neg (by simp [noRefL_cons, AV.noRef])]; exact b1
  rw [rd Tryz.func62]; conv in compF _ _ _ _ _ _ => cbv
  simp only [strip_rs, strip_mr, strip_nilf, Bool.false_eq_true, if_false, ↓kR, kE, kK, sL, C_P, Nat.reduceEqDiff, reduceIte, Tryz.f62, cl, bne_self_eq_false, st1, e2, hv, st2, e3, l3, er, st3, e4, cl2, sL]
  refine ⟨s5, r', rfl, b2, ?_, hQ4.upd' hs4.is b3⟩
  refine ⟨Nat.le_trans a2.len (Nat.le_trans up4.len b3.len), fun i hi hx => ?_⟩
  simp only [List.mem_cons, List.not_mem_nil, or_false, not_or] at hx
  rw [b3.old i (Nat.lt_of_lt_of_le (Nat.lt_of_lt_of_le hi a2.len) up4.len) (by simp [hx]), oth i hx.1, a2.get hi]
end Srv
end

section
set_option maxRecDepth 100000
namespace Srv
open Go Go.Abs Go.Proofs
abbrev RI (P : Nat) : AV := .rs 3 1 P 0 1
def V1 (s : Heap) (P : Nat) (k : Int) : Prop := ∃ junk, s[P]? = some (3, I k :: junk)
theorem srcH1 {s : Heap} {e z Q : Nat} {cs : List AV} (h : s[Q]? = some (e, cs)) (he : e < deadTy) (hl : z ≤ cs.length) (hz : 0 < z) : srcH z (.rs e z Q 0 1) s = some [.agg (cs.take z)] := by
  have : cs ≠ [] := by intro e; rw [e] at hl; simp at hl; omega
  simp only [srcH, h, and_self, if_true, true_and]
  rw [if_pos ⟨he, by omega, this⟩]; rfl
theorem c49 (n : Nat) {s : Heap} {Q : Nat} {t : Bytes} (h : M1 s Q t) : den C (n + 1) 49 [R1 Q] s = some (R1 s.length, s ++ [(45, [.str nm, .str t])]) := by
  obtain ⟨j, hQ⟩ := h
  have bs : aBuildSlice Tryz.prog 46 0 [] = some (.sl 45 2 [] .full) := by kernel_rfl
  have b : aBin Tryz.prog .eql 46 (R1 Q) .nils = some (.bool false) := by kernel_rfl
  have hs := srcH1 hQ (by decide) (by simp) (by decide : 0 < 2)
  have ap := (apS (x := .sl 45 2 [] .full) under46 under46 info45 (by decide) (by decide) (.inr rfl) hs (by simp)).2 nofun
  rw [rd Tryz.func49]; conv in compF _ _ _ _ _ _ => cbv
  simp only [strip_rs, strip_mr, strip_nilf, Bool.false_eq_true, if_false, ↓kR, kE, kK, sL, C_P, Nat.reduceEqDiff, reduceIte, Tryz.f49, b, bs, ap, sL]
  rfl
theorem c49n (n : Nat) (s : Heap) : den C (n + 1) 49 [.nils] s = some (.nils, s) := by
  have b : aBin Tryz.prog .eql 46 .nils .nils = some (.bool true) := by kernel_rfl
  rw [rd Tryz.func49]; conv in compF _ _ _ _ _ _ => cbv
  simp only [strip_rs, strip_mr, strip_nilf, Bool.false_eq_true, if_false, ↓kR, kE, kK, sL, C_P, Nat.reduceEqDiff, reduceIte, Tryz.f49, b, sL]
theorem c60n (n : Nat) (s : Heap) : den C (n + 1) 60 [.nils] s = some (.nils, s) := by
  have b : aBin Tryz.prog .eql 59 .nils .nils = some (.bool true) := by kernel_rfl
  rw [rd Tryz.func60]; conv in compF _ _ _ _ _ _ => cbv
  simp only [strip_rs, strip_mr, strip_nilf, Bool.false_eq_true, if_false, ↓kR, kE, kK, sL, C_P, Nat.reduceEqDiff, reduceIte, Tryz.f60, b, sL]
theorem c60o (n : Nat) {s : Heap} {P : Nat} {k : Int} (h : V1 s P k) : den C (n + 1) 60 [RI P] s = some (RI s.length, s ++ [(3, [I k])]) := by
  obtain ⟨j, hP⟩ := h
  have bs : aBuildSlice Tryz.prog 59 0 [] = some (.sl 3 1 [] .full) := by kernel_rfl
  have b : aBin Tryz.prog .eql 59 (RI P) .nils = some (.bool false) := by kernel_rfl
  have hs := srcH1 hP (by decide) (by simp) (by decide : 0 < 1)
  have ap := (apS (x := .sl 3 1 [] .full) under59 under59 info3 (by decide) (by decide) (.inr rfl) hs (by simp)).2 nofun
  rw [rd Tryz.func60]; conv in compF _ _ _ _ _ _ => cbv
  simp only [strip_rs, strip_mr, strip_nilf, Bool.false_eq_true, if_false, ↓kR, kE, kK, sL, C_P, Nat.reduceEqDiff, reduceIte, Tryz.f60, b, bs, ap, sL]
  rfl
theorem c61 (n : Nat) {s : Heap} {V D S M Q : Nat} {vs : AV} {r : Int} {t : Bytes} (h : SV s V D S M (R1 Q) vs r) (hQ : M1 s Q t) : aCall Tryz.prog (den C (n + 7)) 61 [.ref V 0, .str nm] s = some (I 0, s) := by
  have l0 : aLoad false false 1 (.ref V 0) s = some (R1 Q, s) := ldv h.sv (by decide) rfl
  have cl : aCall Tryz.prog (den C (n + 6)) 80 [R1 Q, .str nm] s = some (I 0, s) := by
    rw [aCall, if_pos (by kernel_rfl), if_neg (by simp [noRefL_cons, AV.noRef])]; exact c80 (n + 1) hQ
  rw [aCall, if_pos (by kernel_rfl), if_neg (by simp [noRefL_cons, AV.noRef])]
  rw [rd Tryz.func61]; conv in compF _ _ _ _ _ _ => cbv
  simp only [strip_rs, strip_mr, strip_nilf, Bool.false_eq_true, if_false, ↓kR, kE, kK, sL, C_P, Nat.reduceEqDiff, reduceIte, Tryz.f61, l0, cl, sL]
theorem c61n (n : Nat) {s : Heap} {V D S M : Nat} {vs : AV} {r : Int} (h : SV s V D S M .nils vs r) : aCall Tryz.prog (den C (n + 7)) 61 [.ref V 0, .str nm] s = some (I (-1), s) := by
  have l0 : aLoad false false 1 (.ref V 0) s = some (.nils, s) := ldv h.sv (by decide) rfl
  have cl : aCall Tryz.prog (den C (n + 6)) 80 [.nils, .str nm] s = some (I (-1), s) :=
    aC (by kernel_rfl) rfl (fun _ => ⟨[], c80n (n + 1) (.inl rfl)⟩) (fun _ => c80n (n + 1) (.inl rfl))
  rw [aCall, if_pos (by kernel_rfl), if_neg (by simp [noRefL_cons, AV.noRef])]
  rw [rd Tryz.func61]; conv in compF _ _ _ _ _ _ => cbv
  simp only [strip_rs, strip_mr, strip_nilf, Bool.false_eq_true, if_false, ↓kR, kE, kK, sL, C_P, Nat.reduceEqDiff, reduceIte, Tryz.f61, l0, cl, sL]
theorem e49 : enterable Tryz.prog 49 = true := by kernel_rfl
theorem e60 : enterable Tryz.prog 60 = true := by kernel_rfl
theorem e62 : enterable Tryz.prog 62 = true := by kernel_rfl
theorem ixI (P : Nat) : aIndexAddr Tryz.prog 59 (RI P) (I 0) = some (.ref P 0) := by kernel_rfl
theorem V1.upd {s s' : Heap} {P : Nat} {k : Int} (hP : V1 s P k) {V D S M : Nat} {ms vs : AV} {r : Int} (h : SV s V D S M ms vs r) (u : Upd [V, S, M] s s') : V1 s' P k := by
  obtain ⟨j, e⟩ := hP
  refine ⟨j, (u.old P (glt e) ?_).trans e⟩
  obtain ⟨_, _, _, _, hS⟩ := h.is.st
  obtain ⟨_, hM, _⟩ := h.is.mp
  have hV := h.sv
  simp only [List.mem_cons, List.not_mem_nil, or_false, not_or]
  exact ⟨fun e' => (by rw [e', hV] at e; cases e), fun e' => (by rw [e', hS] at e; cases e), fun e' => (by rw [e', hM] at e; cases e)⟩
theorem eq10 : ((1 : Int) == 0) = false := rfl
theorem e66 : enterable Tryz.prog 66 = true := by kernel_rfl
theorem e67 : enterable Tryz.prog 67 = true := by kernel_rfl
theorem c66 (n : Nat) (t : Bytes) (s : Heap) : den C (n + 1) 66 [.nils, I 0, .sl 45 2 [Md t] .sh] s = some (R1 s.length, s ++ [(45, [.str nm, .str t])]) := by
  have s1 : aSl Tryz.prog 46 .nils (some (I 0)) none none = some .nils := by kernel_rfl
  have l1 : ∀ f, aLen Tryz.prog 46 (.sl 45 2 [Md t] f) = some (I 1) := fun f => by kernel_rfl
  have ap := (apS (x := .nils) (y := .sl 45 2 [Md t] .sh) (ys := [Md t]) under46 under46 info45 (by decide) (by decide) (.inl rfl) rfl (by simp) (s := s)).2 nofun
  have hs : (AV.sl 45 2 [Md t] .sh).strip = .sl 45 2 [Md t] .sh := rfl
  rw [rd Tryz.func66]; conv in compF _ _ _ _ _ _ => cbv
  simp only [strip_rs, strip_mr, strip_nilf, Bool.false_eq_true, if_false, ↓kR, kE, kK, sL, C_P, Nat.reduceEqDiff, reduceIte, Tryz.f66, s1, l1, lenN, hs, ap, eq10, beq_self_eq_true, sL]
  rfl
theorem c67 (n : Nat) (s : Heap) : den C (n + 1) 67 [.nils, I 0, .sl 3 1 [I 1] .sh] s = some (RI s.length, s ++ [(3, [I 1])]) := by
  have s1 : aSl Tryz.prog 59 .nils (some (I 0)) none none = some .nils := by kernel_rfl
  have l1 : aLen Tryz.prog 59 (.sl 3 1 [I 1] .sh) = some (I 1) := by kernel_rfl
  have l0 : aLen Tryz.prog 59 .nils = some (I 0) := by kernel_rfl
  have ap := (apS (x := .nils) (y := .sl 3 1 [I 1] .sh) (ys := [I 1]) under59 under59 info3 (by decide) (by decide) (.inl rfl) rfl (by simp) (s := s)).2 nofun
  have hs : (AV.sl 3 1 [I 1] .sh).strip = .sl 3 1 [I 1] .sh := rfl
  rw [rd Tryz.func67]; conv in compF _ _ _ _ _ _ => cbv
  simp only [strip_rs, strip_mr, strip_nilf, Bool.false_eq_true, if_false, ↓kR, kE, kK, sL, C_P, Nat.reduceEqDiff, reduceIte, Tryz.f67, s1, l1, l0, hs, ap, eq10, beq_self_eq_true, sL]
  rfl
theorem c63 (n : Nat) (s : Heap) : aCall Tryz.prog (den C (n + 2)) 63 [.nils, .str nm, .fn 64 [] []] s = some (.tup [I 0, .bool false], s) := by
  refine aC (by kernel_rfl) rfl (fun _ => ⟨[], ?_⟩) nofun
  rw [rd Tryz.func63]; conv in compF _ _ _ _ _ _ => cbv
  simp only [strip_rs, strip_mr, strip_nilf, Bool.false_eq_true, if_false, ↓kR, kE, kK, sL, C_P, Nat.reduceEqDiff, reduceIte, Tryz.f63, lenN, sL]
  rw [aLoop_succ]
  simp only [strip_rs, strip_mr, strip_nilf, Bool.false_eq_true, if_false, ↓kR, kE, kK, sL, C_P, Nat.reduceEqDiff, reduceIte, dec00, sL]
theorem c37 (n : Nat) (hn : 40 ≤ n) {s : Heap} {V D S M Q P : Nat} {r k k' : Int} {t0 t : Bytes} (h : SV s V D S M (R1 Q) (RI P) r) (hQ : M1 s Q t0) (hP : V1 s P k) (ht : t.length ≤ 2000) (hk : IntKind.i64.wrap (k + 1) = k') :
    ∃ s' Q' P' r', den C (n + 14) 37 [.ref V 0, .str nm, .str t] s = some (I 0, s') ∧ SV s' V D S M (R1 Q') (RI P') r' ∧ M1 s' Q' t ∧ V1 s' P' k' ∧ Upd [V, S, M] s s' := by
  have l0 : aLoad false false 1 (.ref V 0) s = some (R1 Q, s) := ldv h.sv (by decide) rfl
  obtain ⟨s1, e1⟩ : ∃ s1, s ++ [(45, [AV.str nm, AV.str t0])] = s1 := ⟨_, rfl⟩
  have g1 : Gr s s1 := e1 ▸ Gr.app ..
  have k49 := c49 (n + 12) hQ
  rw [e1] at k49
  have h1 := h.gr g1
  have l1 : aLoad false false 1 (.ref V 1) s1 = some (RI P, s1) := ldv h1.sv (by decide) rfl
  have hP1 : V1 s1 P k := by obtain ⟨j, e⟩ := hP; exact ⟨j, g1.at e⟩
  obtain ⟨s2, e2⟩ : ∃ s2, s1 ++ [(3, [I k])] = s2 := ⟨_, rfl⟩
  have g2 : Gr s1 s2 := e2 ▸ Gr.app ..
  have k60 := c60o (n + 12) hP1
  rw [e2] at k60
  have h2 := h1.gr g2
  have hQ2 : M1 s2 Q t0 := by obtain ⟨j, e⟩ := hQ; exact ⟨j, g2.at (g1.at e)⟩
  have k61 := c61 (n + 6) h2 hQ2
  have at1 : s2[s.length]? = some (45, [AV.str nm, AV.str t0]) := g2.at (by rw [← e1]; exact gapp_new)
  have at2 : s2[s1.length]? = some (3, [I k]) := by rw [← e2]; exact gapp_new
  obtain ⟨s3, e3⟩ : ∃ s3, s2.set s.length (45, [AV.str nm, AV.str t]) = s3 := ⟨_, rfl⟩
  have st3 : aStore 1 s2 (.ref s.length 1) (.str t) = some s3 := by
    rw [st (n := 1) at1 (by decide) rfl rfl (by simp), ← e3]; rfl
  have hne : s.length ≠ s1.length := by rw [← e1, app_length]; omega
  have at3 : s3[s1.length]? = some (3, [I k]) := by rw [← e3, gset_ne hne]; exact at2
  have lk : aLoad false false 1 (.ref s1.length 0) s3 = some (I k, s3) := ldv at3 (by decide) rfl
  obtain ⟨s4, e4⟩ : ∃ s4, s3.set s1.length (3, [I k']) = s4 := ⟨_, rfl⟩
  have st4 : aStore 1 s3 (.ref s1.length 0) (I k') = some s4 := by
    rw [st (n := 1) at3 (by decide) rfl rfl (by simp), ← e4]; rfl
  have hQ4 : M1 s4 s.length t := ⟨[], by rw [← e4, gset_ne hne.symm, ← e3]; exact gset_eq at1⟩
  have hP4 : V1 s4 s1.length k' := ⟨[], by rw [← e4]; exact gset_eq at3⟩
  have up : Upd [] s s4 := by
    rw [← e4, ← e3]
    exact (((g1.trans g2).upd _).set (.inr (Nat.le_refl _)) _).set (.inr g1.len) _
  have h4 : SV s4 V D S M (R1 Q) (RI P) r := by
    refine h.upd ⟨up.len, fun i hi _ => up.old i hi nofun⟩ ?_
    obtain ⟨a, b, c, d, hS⟩ := h.is.st
    obtain ⟨l, hM, hl⟩ := h.is.mp
    exact ⟨h.is.ne, ⟨a, b, c, d, (up.old S (glt hS) nofun).trans hS⟩, l, (up.old M (glt hM) nofun).trans hM, hl.gr fun X cs e => (up.old X (glt e) nofun).trans e⟩
  obtain ⟨s5, r', b1, b2, b3, b4⟩ := c62 n hn h4 hQ4 ht (vs' := RI s1.length) rfl rfl rfl rfl
  have cl : aCall Tryz.prog (den C (n + 13)) 62 [.ref V 0, R1 s.length, RI s1.length] s4 = some (I 0, s5) := by
    rw [aCall, if_pos e62, if_neg (by simp [noRefL_cons, AV.noRef])]; exact b1
  have kp1 : (kept s s1).contains V = true := kept_of (glt h.sv) (g1.get (glt h.sv))
  have kp2 : (kept s1 s2).contains V = true := kept_of (glt h1.sv) (g2.get (glt h1.sv))
  have d0 : decide ((0 : Int) ≤ 0) = true := rfl
  rw [rd Tryz.func37]; conv in compF _ _ _ _ _ _ => cbv
  simp only [strip_rs, strip_mr, strip_nilf, Bool.false_eq_true, if_false, ↓kR, kE, kK, sL, C_P, Nat.reduceEqDiff, reduceIte, Tryz.f37, l0, cFs _ _ e49, cFs _ _ e60, k49, l1, k60, k61, d0, kp1, kp2, ix1, ixI, st3, lk, hk, st4, cl, sL]
  exact ⟨s5, s.length, s1.length, r', rfl, b2, b4, hP4.upd h4 b3, ⟨Nat.le_trans up.len b3.len, fun i hi hx => (b3.old i (Nat.lt_of_lt_of_le hi up.len) hx).trans (up.old i hi nofun)⟩⟩
theorem c37n (n : Nat) (hn : 40 ≤ n) {s : Heap} {V D S M : Nat} {r : Int} {t : Bytes} (h : SV s V D S M .nils .nils r) (ht : t.length ≤ 2000) :
    ∃ s' Q' P' r', den C (n + 14) 37 [.ref V 0, .str nm, .str t] s = some (I 0, s') ∧ SV s' V D S M (R1 Q') (RI P') r' ∧ M1 s' Q' t ∧ V1 s' P' 1 ∧ Upd [V, S, M] s s' := by
  have l0 : aLoad false false 1 (.ref V 0) s = some (.nils, s) := ldv h.sv (by decide) rfl
  have l1 : aLoad false false 1 (.ref V 1) s = some (.nils, s) := ldv h.sv (by decide) rfl
  have k49 := c49n (n + 12) s
  have k60 := c60n (n + 12) s
  have k61 := c61n (n + 6) h
  have kp : (kept s s).contains V = true := kept_of (glt h.sv) rfl
  have d0 : decide ((0 : Int) ≤ -1) = false := rfl
  have k63 : aCall Tryz.prog (den C (n + 13)) 63 [.nils, .str nm, .fn 64 [] []] s = some (.tup [I 0, .bool false], s) := c63 (n + 11) s
  have b45 : aBuild Tryz.prog 45 [(0, .str nm), (1, .str t)] = some (Md t) := by kernel_rfl
  have bs46 : aBuildSlice Tryz.prog 46 1 [(0, Md t)] = some (.sl 45 2 [Md t] .own) := by kernel_rfl
  have bs59 : aBuildSlice Tryz.prog 59 1 [(0, I 1)] = some (.sl 3 1 [I 1] .own) := by kernel_rfl
  obtain ⟨s1, e1⟩ : ∃ s1, s ++ [(45, [AV.str nm, AV.str t])] = s1 := ⟨_, rfl⟩
  have g1 : Gr s s1 := e1 ▸ Gr.app ..
  have k66 := c66 (n + 12) t s
  rw [e1] at k66
  obtain ⟨s2, e2⟩ : ∃ s2, s1 ++ [(3, [I 1])] = s2 := ⟨_, rfl⟩
  have g2 : Gr s1 s2 := e2 ▸ Gr.app ..
  have k67 := c67 (n + 12) s1
  rw [e2] at k67
  have hQ2 : M1 s2 s.length t := ⟨[], g2.at (by rw [← e1]; exact gapp_new)⟩
  have hP2 : V1 s2 s1.length 1 := ⟨[], by rw [← e2]; exact gapp_new⟩
  have h2 := h.gr (g1.trans g2)
  obtain ⟨s5, r', b1, b2, b3, b4⟩ := c62 n hn h2 hQ2 ht (vs' := RI s1.length) rfl rfl rfl rfl
  have cl : aCall Tryz.prog (den C (n + 13)) 62 [.ref V 0, R1 s.length, RI s1.length] s2 = some (I 0, s5) := by
    rw [aCall, if_pos e62, if_neg (by simp [noRefL_cons, AV.noRef])]; exact b1
  have hs1 : (AV.sl 45 2 [Md t] .own).strip = .sl 45 2 [Md t] .sh := rfl
  have hs2 : (AV.sl 3 1 [I 1] .own).strip = .sl 3 1 [I 1] .sh := rfl
  rw [rd Tryz.func37]; conv in compF _ _ _ _ _ _ => cbv
  simp only [strip_rs, strip_mr, strip_nilf, Bool.false_eq_true, if_false, ↓kR, kE, kK, sL, C_P, Nat.reduceEqDiff, reduceIte, Tryz.f37, l0, cFs _ _ e49, cFs _ _ e60, k49, l1, k60, k61, d0, kp, hs1, hs2, k63, b45, bs46, bs59, cFs _ _ e66, cFs _ _ e67, k66, k67, cl, sL]
  exact ⟨s5, s.length, s1.length, r', rfl, b2, b4, hP2.upd h2 b3, ⟨Nat.le_trans (g1.trans g2).len b3.len, fun i hi hx => (b3.old i (Nat.lt_of_lt_of_le hi (g1.trans g2).len) hx).trans ((g1.trans g2).get hi)⟩⟩
theorem c39 (n : Nat) (hn : 40 ≤ n) {s : Heap} {V D S M Q P : Nat} {r k k' : Int} {t0 t : Bytes} {ed : AV} (h : SV s V D S M (R1 Q) (RI P) r) (hQ : M1 s Q t0) (hP : V1 s P k) (ht : t.length ≤ 2000) (hk : IntKind.i64.wrap (k + 1) = k') (he : ed.strip = ed)
    (hA : aCall Tryz.prog (den C (n + 15)) 13 [.str t0, ed] s = some (.tup [.str t, I 0], s)) :
    ∃ s' Q' P' r', den C (n + 16) 39 [.ref V 0, .str nm, I k, ed] s = some (I 0, s') ∧ SV s' V D S M (R1 Q') (RI P') r' ∧ M1 s' Q' t ∧ V1 s' P' k' ∧ Upd [V, S, M] s s' := by
  have k61 := c61 (n + 8) h hQ
  have l1 : aLoad false false 1 (.ref V 1) s = some (RI P, s) := ldv h.sv (by decide) rfl
  have l0 : aLoad false false 1 (.ref V 0) s = some (R1 Q, s) := ldv h.sv (by decide) rfl
  have lP : aLoad false false 1 (.ref P 0) s = some (I k, s) := by obtain ⟨j, e⟩ := hP; exact ldv e (by decide) rfl
  have lQ : aLoad false false 1 (.ref Q 1) s = some (.str t0, s) := by obtain ⟨j, e⟩ := hQ; exact ldv e (by decide) rfl
  obtain ⟨s1, Q', P', r', b1, b2, b3, b4, b5⟩ := c37 (n + 1) (by omega) h hQ hP ht hk
  have cl : aCall Tryz.prog (den C (n + 15)) 37 [.ref V 0, .str nm, .str t] s = some (I 0, s1) := by
    rw [aCall, if_pos (by kernel_rfl), if_neg (by simp [noRefL_cons, AV.noRef])]; exact b1
  have d0 : decide ((0 : Int) < 0) = false := rfl
  rw [rd Tryz.func39]; conv in compF _ _ _ _ _ _ => cbv
  simp only [strip_rs, strip_mr, strip_nilf, Bool.false_eq_true, if_false, ↓kR, kE, kK, sL, C_P, Nat.reduceEqDiff, reduceIte, Tryz.f39, k61, d0, l1, ixI, lP, bne_self_eq_false, l0, ix1, lQ, he, hA, cl, sL]
  exact ⟨s1, Q', P', r', rfl, b2, b3, b4, b5⟩
end Srv
end

section
set_option maxRecDepth 100000
namespace Srv
open Go Go.Abs Go.Proofs
abbrev Ev (k v : Int) (t : Bytes) (ed : AV) : AV := .agg [I k, I 0, I v, .str nm, .str t, ed, I 0, I 0, I 0, I 0, .str []]
theorem c12w (n : Nat) {s s' : Heap} {V : Nat} {t : Bytes} (h : aCall Tryz.prog (den C n) 37 [.ref V 0, .str nm, .str t] s = some (I 0, s')) : den C (n + 1) 12 [.ref V 0, Ev 1 0 t .nils] s = some (.tup [.nils, I 0], s') := by
  rw [rd Tryz.func12]; conv in compF _ _ _ _ _ _ => cbv
  simp only [strip_rs, strip_mr, strip_nilf, Bool.false_eq_true, if_false, ↓kR, kE, kK, sL, C_P, Nat.reduceEqDiff, reduceIte, Tryz.f12, beq_self_eq_true, h, sL]
theorem c12e (n : Nat) {s s' : Heap} {V : Nat} {v : Int} {ed : AV} (he : ed.strip = ed) (h : aCall Tryz.prog (den C n) 39 [.ref V 0, .str nm, I v, ed] s = some (I 0, s')) : den C (n + 1) 12 [.ref V 0, Ev 3 v [] ed] s = some (.tup [.nils, I 0], s') := by
  have q1 : ((3 : Int) == 1) = false := rfl
  have q2 : ((3 : Int) == 2) = false := rfl
  rw [rd Tryz.func12]; conv in compF _ _ _ _ _ _ => cbv
  simp only [strip_rs, strip_mr, strip_nilf, Bool.false_eq_true, if_false, ↓kR, kE, kK, sL, C_P, Nat.reduceEqDiff, reduceIte, Tryz.f12, q1, q2, beq_self_eq_true, he, h, sL]
theorem c16 (n : Nat) {s : Heap} {V D S M Q : Nat} {vs : AV} {r : Int} {t : Bytes} (h : SV s V D S M (R1 Q) vs r) (hQ : M1 s Q t) : den C (n + 2) 16 [.ref V 0] s = some (R1 s.length, s ++ [(45, [.str nm, .str t])]) := by
  have l0 : aLoad false false 1 (.ref V 0) s = some (R1 Q, s) := ldv h.sv (by decide) rfl
  rw [rd Tryz.func16]; conv in compF _ _ _ _ _ _ => cbv
  simp only [strip_rs, strip_mr, strip_nilf, Bool.false_eq_true, if_false, ↓kR, kE, kK, sL, C_P, Nat.reduceEqDiff, reduceIte, Tryz.f16, l0, cFs _ _ e49, c49 n hQ, sL]
abbrev Cl (b : Nat) : AV := .fn 35 [] [.ref b 0]
theorem c34 (n b : Nat) (s : Heap) : den C (n + 2) 34 [Cl b] s = some (.ref (s.length + 4) 0, s ++ [(mapTy, [.undef])] ++ [(148, [I 0, I 0, I 0, I 0, .mr s.length])] ++ [(mapTy, [.undef])] ++ [(mapTy, [.undef])] ++ [(121, [Cl b, .ref (s.length + 1) 0, .mr (s.length + 2), .mr (s.length + 3), .nilf, I 0, I 0])]) := by
  have q : aBin Tryz.prog .eql 84 (Cl b) .nilf = some (.bool false) := by kernel_rfl
  have hs : (Cl b).strip = Cl b := rfl
  have bd : ∀ x y z, aBuild Tryz.prog 121 [(0, Cl b), (1, .ref x 0), (2, .mr y), (3, .mr z)] = some (.agg [Cl b, .ref x 0, .mr y, .mr z, .nilf, I 0, I 0]) := fun x y z => by kernel_rfl
  have bx : ∀ x y z s, aBox true 121 (.agg [Cl b, .ref x 0, .mr y, .mr z, .nilf, I 0, I 0]) s = some (.ref s.length 0, s ++ [(121, [Cl b, .ref x 0, .mr y, .mr z, .nilf, I 0, I 0])]) := fun x y z s => boxR (t := 121) (by decide) rfl (by intro e; cases e) s
  rw [rd Tryz.func34]; conv in compF _ _ _ _ _ _ => cbv
  simp only [strip_rs, strip_mr, strip_nilf, Bool.false_eq_true, if_false, ↓kR, kE, kK, sL, C_P, Nat.reduceEqDiff, reduceIte, Tryz.f34, hs, sL]
  simp only [strip_rs, strip_mr, strip_nilf, Bool.false_eq_true, if_false, ↓kR, kE, kK, sL, C_P, Nat.reduceEqDiff, reduceIte, rC_seqj, hs, q, cFs _ _ (by kernel_rfl : enterable Tryz.prog 57 = true), in_new n s, mkmap, bd, bx, app_length, sL]
theorem c11 (n : Nat) (s : Heap) : ∃ s' V D S M, den C (n + 3) 11 [.nilf] s = some (.ref V 0, s') ∧ SV s' V D S M .nils .nils 0 ∧ Gr s s' := by
  have bx : aBox true 54 .nilf s = some (.ref s.length 0, s ++ [(54, [.nilf])]) := boxR (t := 54) (by decide) rfl (by intro e; cases e) s
  obtain ⟨s1, e1⟩ : ∃ s1, s ++ [(54, [AV.nilf])] = s1 := ⟨_, rfl⟩
  have at1 : s1[s.length]? = some (54, [.nilf]) := by rw [← e1]; exact gapp_new
  have l1 : aLoad false false 1 (.ref s.length 0) s1 = some (.nilf, s1) := ldv at1 (by decide) rfl
  have q : aBin Tryz.prog .eql 54 .nilf .nilf = some (.bool true) := by kernel_rfl
  have st1 : aStore 1 s1 (.ref s.length 0) (.fn 33 [] []) = some (s ++ [(54, [.fn 33 [] []])]) := by
    rw [st (n := 1) at1 (by decide) rfl rfl (by simp), ← e1, set_end]; rfl
  obtain ⟨s2, e2⟩ : ∃ s2, s ++ [(54, [AV.fn 33 [] []])] = s2 := ⟨_, rfl⟩
  have k34 := c34 n s.length s2
  obtain ⟨s3, e3⟩ : ∃ s3, s2 ++ [(mapTy, [.undef])] ++ [(148, [I 0, I 0, I 0, I 0, .mr s2.length])] ++ [(mapTy, [.undef])] ++ [(mapTy, [.undef])] ++ [(121, [Cl s.length, .ref (s2.length + 1) 0, .mr (s2.length + 2), .mr (s2.length + 3), .nilf, I 0, I 0])] = s3 := ⟨_, rfl⟩
  rw [e3] at k34
  have cl : aCall Tryz.prog (den C (n + 2)) 34 [Cl s.length] s2 = some (.ref (s2.length + 4) 0, s3) := by
    rw [aCall, if_pos (by kernel_rfl), if_neg (by simp [noRefL_cons, AV.noRef])]; exact k34
  have bd : ∀ x, aBuild Tryz.prog 86 [(4, .ref x 0)] = some (.agg [.nils, .nils, .nils, I 0, .ref x 0]) := fun x => by kernel_rfl
  have bx2 : ∀ x s, aBox true 86 (.agg [.nils, .nils, .nils, I 0, .ref x 0]) s = some (.ref s.length 0, s ++ [(86, [.nils, .nils, .nils, I 0, .ref x 0])]) := fun x s => boxR (t := 86) (by decide) rfl (by intro e; cases e) s
  have evF : ∀ env, evO C env (.func 33) = .fn 33 [] [] := fun _ => rfl
  have sF : (AV.fn 33 [] []).strip = .fn 33 [] [] := rfl
  have sC : (AV.fn 35 [] [.ref s.length 0]).strip = Cl s.length := rfl
  rw [rd Tryz.func11]; conv in compF _ _ _ _ _ _ => cbv
  simp only [strip_rs, strip_mr, strip_nilf, Bool.false_eq_true, if_false, ↓kR, kE, kK, sL, C_P, Nat.reduceEqDiff, reduceIte, Tryz.f11, bx, e1, sL]
  simp only [strip_rs, strip_mr, strip_nilf, Bool.false_eq_true, if_false, ↓kR, kE, kK, sL, C_P, Nat.reduceEqDiff, reduceIte, rC_seqj, evF, sF, l1, q, st1, e2, sC, cl, bd, bx2, sL]
  have g2 : Gr s s2 := e2 ▸ Gr.app ..
  have g3 : Gr s2 s3 := ⟨_, by rw [← e3]; simp only [List.append_assoc]; rfl⟩
  have ln : s3.length = s2.length + 5 := by rw [← e3]; simp only [app_length]
  refine ⟨_, s3.length, s2.length + 4, s2.length + 1, s2.length, rfl, ⟨gapp_new, ⟨Cl s.length, [.mr (s2.length + 2), .mr (s2.length + 3), .nilf, I 0, I 0], ?_⟩, ⟨by omega, ⟨0, 0, 0, 0, ?_⟩, ⟨[], ?_, .nil⟩⟩⟩, (g2.trans g3).trans (.app ..)⟩
  · rw [gapp_old (by omega), ← e3, show s2.length + 4 = (s2 ++ [(mapTy, [AV.undef])] ++ [(148, [I 0, I 0, I 0, I 0, AV.mr s2.length])] ++ [(mapTy, [AV.undef])] ++ [(mapTy, [AV.undef])]).length by simp only [app_length]]
    exact gapp_new
  · rw [gapp_old (by omega), ← e3, gapp_old (by simp only [app_length]; omega), gapp_old (by simp only [app_length]; omega), gapp_old (by simp only [app_length]; omega), show s2.length + 1 = (s2 ++ [(mapTy, [AV.undef])]).length by simp only [app_length]]
    exact gapp_new
  · rw [gapp_old (by omega), ← e3, gapp_old (by simp only [app_length]; omega), gapp_old (by simp only [app_length]; omega), gapp_old (by simp only [app_length]; omega), gapp_old (by simp only [app_length]; omega)]
    exact gapp_new
end Srv
end
