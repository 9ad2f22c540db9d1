/- GrnG, GrnH, GrnI, GrnJ, GrnK, GrnL, GrnM, GrnN -/
import Derived.Test.YtkikcleofaeigaaGreatDoorG
import Derived.Test.YtkikcleofaeigaaGreatDoorP
set_option linter.all false

section
set_option maxRecDepth 100000
set_option maxHeartbeats 1000000
namespace GrnF
open Go Go.Abs Go.Proofs ParF Pm Gt
theorem row_set : ∀ {rows : List AV} (i : Nat) {n : N} {c : AV} (d : AV), (∀ a ∈ rows, a.cells.length = 4) → rows[i]? = some (nodeA n c) → setL (cellsOf rows) (i * 4 + 3) [d] = cellsOf (rows.set i (nodeA n d))
  | [], i, n, c, d, _, h => by simp at h
  | x :: rows, 0, n, c, d, _, h => by
    simp at h; subst h; rfl
  | x :: rows, i + 1, n, c, d, h4, h => by
    have hx := h4 x (List.mem_cons_self ..)
    have h : rows[i]? = some (nodeA n c) := by simpa using h
    have hlt := (List.getElem?_eq_some_iff.1 h).1
    have h4' : ∀ a ∈ rows, a.cells.length = 4 := fun b hb => h4 b (List.mem_cons_of_mem _ hb)
    have ih := row_set i d h4' h
    have hl := cells_len h4'
    have e : cellsOf (x :: rows) = x.cells ++ cellsOf rows := rfl
    have e2 : cellsOf ((x :: rows).set (i + 1) (nodeA n d)) = x.cells ++ cellsOf (rows.set i (nodeA n d)) := rfl
    have hb : i * 4 + 3 + 1 ≤ (cellsOf rows).length := by rw [hl]; omega
    rw [e, e2, ← ih, setL_split _ _ _ (by rw [List.length_append]; simp; omega), setL_split _ _ _ (by simpa using hb)]
    rw [show (i + 1) * 4 + 3 = x.cells.length + (i * 4 + 3) by omega, List.take_length_add_append, Nat.add_assoc x.cells.length, List.drop_length_add_append, List.append_assoc, List.append_assoc, List.append_assoc]
theorem IsRow.set {rows : List AV} {A : Ar} (h : IsRow rows A) {i : Nat} {n : N} (hn : A[i]? = some n) {a : AV} (ha : IsN a n) : IsRow (rows.set i a) A := by
  refine ⟨by rw [List.length_set]; exact h.1, fun j m hm => ?_⟩
  by_cases e : i = j
  · subst e
    rw [hn] at hm; cases hm
    have hlt := (List.getElem?_eq_some_iff.1 hn).1
    exact ⟨a, List.getElem?_set_self (by rw [h.1]; exact hlt), ha⟩
  · rw [List.getElem?_set_ne e]
    exact h.2 j m hm
theorem IsRow.stripped {rows : List AV} {A : Ar} (h : IsRow rows A) : ∃ rows', (cellsOf rows).map AV.strip = cellsOf rows' ∧ IsRow rows' A := by
  refine ⟨rows.map fun a => .agg (a.cells.map AV.strip), ?_, by rw [List.length_map]; exact h.1, fun i n hn => ?_⟩
  · clear h
    induction rows with
    | nil => rfl
    | cons x rows ih =>
      show (x.cells ++ cellsOf rows).map AV.strip = x.cells.map AV.strip ++ cellsOf (rows.map _)
      rw [List.map_append, ih]
  · obtain ⟨a, h1, h2⟩ := h.2 i n hn
    refine ⟨_, by rw [List.getElem?_map, h1]; rfl, ?_⟩
    obtain ⟨c, c', rfl, ec, hc⟩ := h2
    refine ⟨c', c', ?_, hc.strip.1, hc⟩
    show AV.agg [(I n.kind).strip, (I n.width).strip, (AV.str n.text).strip, c.strip] = _
    rw [ec]; rfl
theorem gat {a : Heap} {x : TypeId × List AV} {n : Nat} (h : n = a.length) : (a ++ [x])[n]? = some x := by subst h; exact gapp_new
theorem build58 {v : AV} (h1 : v.cells = [v]) (h2 : v.solid = true) (h3 : v.strip = v) : aBuild Tryz.prog 58 [(0, v)] = some (.agg [v]) := by
  have hz : zeroOf Tryz.prog 58 = some (.agg [.nils]) := by kernel_rfl
  have hu : (match Tryz.prog.underlying 58 with | some (.struct fs) => placesOf Tryz.prog fs.toList | _ => none) = some [(0, 1)] := by kernel_rfl
  unfold aBuild
  split at hu
  · rename_i fs hh
    rw [hz, hh]
    simp [hu, aFill, setL, h1, h2, h3]
  · cases hu
theorem zero58 : aAlloc Tryz.prog 58 = fun s => some (.ref s.length 0, s ++ [(58, [.nils])]) := by
  have h : zeroOf Tryz.prog 58 = some (.agg [.nils]) := by kernel_rfl
  funext s
  simp [aAlloc, h]
theorem RowAt.solid {s : Heap} {v : AV} {A : Ar} (h : RowAt s v A) : v.cells = [v] ∧ v.solid = true := by
  rcases h with ⟨rfl, _⟩ | ⟨R, rows, rfl, _⟩ <;> exact ⟨rfl, rfl⟩
theorem kids_at {n : N} {c : AV} {R i : Nat} {h : Heap} {rows : List AV} (h4 : ∀ a ∈ rows, a.cells.length = 4) (hr : h[R]? = some (197, cellsOf rows)) (ha : rows[i]? = some (nodeA n c)) : aLoad false false 1 (.ref R (i * 4 + 3)) h = some (c.strip, h) := by
  refine ld hr (by decide) (v := c) ?_ (by decide)
  have hd := cells_at i _ h4 ha
  have : (cellsOf rows)[i * 4 + 3]? = ((cellsOf rows).drop (i * 4))[3]? := by rw [List.getElem?_drop]
  rw [this, hd]; rfl
theorem en120 : enterable Tryz.prog 120 = true := by kernel_rfl
theorem clone_loop {A : Ar} (hA : A.length < 900000) (hsm : small A) {p2 p3 R : Nat} (h23 : p2 ≠ p3) (h2R : p2 ≠ R) (h3R : p3 ≠ R) : ∀ (k i : Nat), A.length - i = k → i ≤ A.length → ∀ (h : Heap) (rows : List AV), h[p3]? = some (58, [.rs 197 4 R 0 A.length]) → h[p2]? = some (58, [.nils]) → h[R]? = some (197, cellsOf rows) → IsRow rows A →
    ∃ N h' rows', (∀ f, N ≤ f → ∀ r, k < r → ∀ n' e, e 12 = I i → e 11 = I A.length → e 3 = .ref p3 0 → e 2 = .ref p2 0 → aLoop (F64_L0 (den C f) n') r e h = some (.agg [.rs 197 4 R 0 A.length], h')) ∧ h'[R]? = some (197, cellsOf rows') ∧ IsRow rows' A ∧ h'.length = h.length ∧ ∀ x, x ≠ p2 → x ≠ R → h'[x]? = h[x]? := by
  intro k
  induction k with
  | zero =>
    intro i hk hi h rows e3 e2 eR hrow
    have l3 : aLoad false true 1 (.ref p3 0) h = some (.agg [.rs 197 4 R 0 A.length], h) := by
      rw [ldA (o := 0) e3 (by decide) (Nat.le_refl 1) (by decide)]; rfl
    have s2 : aStore 1 h (.ref p2 0) (.agg [.rs 197 4 R 0 A.length]) = some (h.set p2 (58, [.rs 197 4 R 0 A.length])) := by
      rw [ParF.st (n := 1) (o := 0) (v := .agg [.rs 197 4 R 0 A.length]) e2 (by decide) rfl rfl (Nat.le_refl 1)]; rfl
    have l2 : aLoad false true 1 (.ref p2 0) (h.set p2 (58, [.rs 197 4 R 0 A.length])) = some (.agg [.rs 197 4 R 0 A.length], h.set p2 (58, [.rs 197 4 R 0 A.length])) := by
      rw [ldA (o := 0) (gset_eq e2) (by decide) (Nat.le_refl 1) (by decide)]; rfl
    refine ⟨0, h.set p2 (58, [.rs 197 4 R 0 A.length]), rows, fun f hf r hr n' e h12 h11 h3 h2 => ?_, by rw [gset_ne h2R]; exact eR, hrow, List.length_set, fun x hx _ => gset_ne (fun e => hx e.symm)⟩
    obtain ⟨r, rfl⟩ : ∃ j, r = j + 1 := ⟨r - 1, by omega⟩
    have c : ¬ i < A.length := by omega
    rw [aLoop, F64_L0]
    simp -implicitDefEqProofs only [sL, h12, h11, h3, h2, c, l3, s2, l2]
  | succ k ih =>
    intro i hk hi h rows e3 e2 eR hrow
    have c : i < A.length := by omega
    obtain ⟨a, r1, r2⟩ := hrow.2 i _ (List.getElem?_eq_getElem c)
    obtain ⟨c0, c', rfl, ec, hc⟩ := id r2
    obtain ⟨d, hd, d1, d2, d3, d4, d5⟩ := copyI_run hc (hsm _ (List.getElem_mem c))
    obtain ⟨N1, q1⟩ := LexF.AC.at hd
    have hl := cells_len hrow.four
    rw [hrow.1] at hl
    have st0 : aStore 1 h (.ref R (i * 4 + 3)) d = some (h.set R (197, cellsOf (rows.set i (nodeA A[i] d)))) := by
      rw [ParF.st (n := 1) (v := d) eR (by decide) d2 d3 (by omega), d4, row_set i d hrow.four r1]
    obtain ⟨N2, h', rows', q2, k1, k2, k3, k4⟩ := ih (i + 1) (by omega) (by omega) (h.set R (197, cellsOf (rows.set i (nodeA A[i] d)))) _ (by rw [gset_ne (Ne.symm h3R)]; exact e3) (by rw [gset_ne (Ne.symm h2R)]; exact e2) (gset_eq eR) (hrow.set (List.getElem?_eq_getElem c) ⟨d, d.strip, rfl, rfl, d1⟩)
    refine ⟨N1 + N2, h', rows', fun f hf r hr n' e h12 h11 h3 h2 => ?_, k1, k2, by rw [k3, List.length_set], fun x hx hx2 => by rw [k4 x hx hx2, gset_ne (fun e => hx2 e.symm)]⟩
    obtain ⟨r, rfl⟩ : ∃ j, r = j + 1 := ⟨r - 1, by omega⟩
    have q1 := q1 f (by omega)
    have g := ParF.wadd1 (a := i) (by omega)
    have l3 : aLoad false false 1 (.ref p3 0) h = some (.rs 197 4 R 0 A.length, h) := by
      rw [ld (o := 0) (v := .rs 197 4 R 0 A.length) e3 (by decide) rfl (by decide)]; rfl
    have ix : aIndexAddr Tryz.prog 56 (.rs 197 4 R 0 A.length) (I i) = some (.ref R (i * 4)) := by simp [aIndexAddr, u56, sz197, c]
    have lc := kids_at hrow.four eR r1
    rw [ec] at lc
    have c1 := hc.strip.1
    have nr := hc.strip.2.1
    rw [aLoop, F64_L0]
    simp -implicitDefEqProofs only [sL, h12, h11, h3, h2, c, l3, ix, lc, c1, q1, st0, nr, strip_rs, kStore_ref, d64_5, g]
    exact q2 f (by omega) r (by omega) n' _ (by simp only [upds_at, upds_nil, upd_at, if_true]) ((upds_get _ _ _ rfl).trans h11) ((upds_get _ _ _ rfl).trans h3) ((upds_get _ _ _ rfl).trans h2)
theorem clone_run {v : AV} {A : Ar} (hv : IsA v A) (hA : A.length < 900000) (hsm : small A) (s : Heap) : ∃ N s' v', (∀ f, N ≤ f → aCallF Tryz.prog (den C f) 64 [.agg [v]] s = some (.agg [v'], s')) ∧ RowAt s' v' A ∧ s.length ≤ s'.length ∧ (∀ x, x < s.length → s'[x]? = s[x]?) ∧ ∀ R, rid v' = some R → s.length ≤ R := by
  obtain ⟨n1, n2⟩ := hv.noRef
  have hs : ∀ cs, (AV.agg cs).solid = true := fun _ => rfl
  rcases hv with ⟨rows, rfl, hrow, hne⟩ | ⟨rfl, rfl⟩
  · obtain ⟨rows', er, hrow'⟩ := hrow.stripped
    have hlen : 0 < rows.length := by rw [hrow.1]; exact List.length_pos_iff.2 hne
    let R := s.length + 1
    let h : Heap := s ++ [(58, [.nils])] ++ [(197, cellsOf rows')] ++ [(58, [.rs 197 4 R 0 A.length])]
    have hp3 : h[s.length + 2]? = some (58, [.rs 197 4 R 0 A.length]) := gat (by simp)
    have hpR : h[R]? = some (197, cellsOf rows') := by
      show (s ++ [(58, [AV.nils])] ++ [(197, cellsOf rows')] ++ _)[R]? = _
      rw [gapp_old (by simp [R])]
      exact gat (by simp [R])
    have hp2 : h[s.length]? = some (58, [.nils]) := by
      show (s ++ [(58, [AV.nils])] ++ [(197, cellsOf rows')] ++ _)[s.length]? = _
      rw [gapp_old (by simp), gapp_old (by simp)]
      exact gapp_new
    have hold : ∀ x, x < s.length → h[x]? = s[x]? := by
      intro x hx
      show (s ++ [(58, [AV.nils])] ++ [(197, cellsOf rows')] ++ _)[x]? = _
      rw [gapp_old (by simp; omega), gapp_old (by simp; omega), gapp_old hx]
    obtain ⟨N, h', rows2, q, k1, k2, k3, k4⟩ := clone_loop hA hsm (p2 := s.length) (p3 := s.length + 2) (R := R) (by omega) (by simp [R]) (by simp [R]) A.length 0 (by omega) (by omega) h rows' hp3 hp2 hpR hrow'
    refine ⟨N + A.length + 2, h', .rs 197 4 R 0 A.length, fun f hf => ?_, .inr ⟨R, rows2, rfl, k1, k2, hne⟩, by rw [k3]; simp [h], fun x hx => by rw [k4 x (by omega) (by simp [R]; omega), hold x hx], fun R' e => by cases e; simp [R]⟩
    obtain ⟨f, rfl⟩ : ∃ j, f = j + 1 := ⟨f - 1, by omega⟩
    have z1 : aAlloc Tryz.prog 58 s = some (.ref s.length 0, s ++ [(58, [.nils])]) := by rw [zero58]
    have cl : aCallF Tryz.prog (den C f) 120 [.sl 197 4 rows .sh] (s ++ [(58, [.nils])]) = some (.rs 197 4 R 0 A.length, s ++ [(58, [.nils])] ++ [(197, cellsOf rows')]) := by
      obtain ⟨f, rfl⟩ : ∃ j, f = j + 1 := ⟨f - 1, by omega⟩
      unfold aCallF
      rw [if_pos en120, den_ext (e := eClone) rfl]
      cases hr : rows with
      | nil => rw [hr] at hlen; simp at hlen
      | cons x xs =>
        have hx : xs.length + 1 = A.length := by rw [← hrow.1, hr]; rfl
        rw [hr] at er
        have hlt : xs.length < 900000 := by omega
        simp [eClone, hlt, er, hx, R]
    have b := build58 (v := .rs 197 4 R 0 A.length) rfl rfl rfl
    have z3 : aAlloc Tryz.prog 58 (s ++ [(58, [.nils])] ++ [(197, cellsOf rows')]) = some (.ref (s.length + 2) 0, s ++ [(58, [.nils])] ++ [(197, cellsOf rows')] ++ [(58, [.nils])]) := by rw [zero58]; simp
    have s3 : aStore 1 (s ++ [(58, [.nils])] ++ [(197, cellsOf rows')] ++ [(58, [.nils])]) (.ref (s.length + 2) 0) (.agg [.rs 197 4 R 0 A.length]) = some h := by
      have g : (s ++ [(58, [AV.nils])] ++ [(197, cellsOf rows')] ++ [(58, [AV.nils])])[s.length + 2]? = some (58, [.nils]) := gat (by simp)
      rw [ParF.st (n := 1) (o := 0) (v := .agg [.rs 197 4 R 0 A.length]) g (by decide) rfl rfl (by decide)]
      have := set_end (s ++ [(58, [AV.nils])] ++ [(197, cellsOf rows')]) (58, [AV.nils]) (58, [AV.rs 197 4 R 0 A.length])
      have hl2 : List.length ((s ++ [(58, [AV.nils])] ++ [(197, cellsOf rows')] : Heap)) = s.length + 2 := by simp
      rw [hl2] at this
      exact congrArg some this
    have l3 : aLoad false false 1 (.ref (s.length + 2) 0) h = some (.rs 197 4 R 0 A.length, h) := by
      rw [ld (o := 0) (v := .rs 197 4 R 0 A.length) hp3 (by decide) rfl (by decide)]; rfl
    have ln : aLen Tryz.prog 56 (.rs 197 4 R 0 A.length) = some (I A.length) := by simp [aLen, u56]
    unfold aCallF
    rw [if_pos en64, F64_eq, F64]
    simp -implicitDefEqProofs only [sL, hs, z1, strip_sh, cl, b, z3, s3, l3, ln]
    exact q f (by omega) f (by omega) f _ rfl rfl rfl rfl
  · refine ⟨2, s ++ [(58, [.nils])] ++ [(58, [.nils])], .nils, fun f hf => ?_, .inl ⟨rfl, rfl⟩, by simp, fun x hx => by rw [gapp_old (by simp; omega), gapp_old hx], nofun⟩
    obtain ⟨f, rfl⟩ : ∃ j, f = j + 2 := ⟨f - 2, by omega⟩
    have z1 : aAlloc Tryz.prog 58 s = some (.ref s.length 0, s ++ [(58, [.nils])]) := by rw [zero58]
    have cl : aCallF Tryz.prog (den C (f + 1)) 120 [.nils] (s ++ [(58, [.nils])]) = some (.nils, s ++ [(58, [.nils])]) := by
      unfold aCallF
      rw [if_pos en120, den_ext (e := eClone) rfl]
      rfl
    have b := build58 (v := .nils) rfl rfl rfl
    have z3 : aAlloc Tryz.prog 58 (s ++ [(58, [.nils])]) = some (.ref (s.length + 1) 0, s ++ [(58, [.nils])] ++ [(58, [.nils])]) := by rw [zero58]; simp
    have g : (s ++ [(58, [AV.nils])] ++ [(58, [AV.nils])])[s.length + 1]? = some (58, [.nils]) := gat (by simp)
    have g0 : (s ++ [(58, [AV.nils])] ++ [(58, [AV.nils])])[s.length]? = some (58, [.nils]) := by
      rw [gapp_old (by simp)]; exact gapp_new
    have setn : ∀ {h : Heap} {p : Nat}, h[p]? = some (58, [AV.nils]) → aStore 1 h (.ref p 0) (.agg [.nils]) = some h := by
      intro h p e
      rw [ParF.st (n := 1) (o := 0) (v := .agg [.nils]) e (by decide) rfl rfl (by decide)]
      congr 1
      obtain ⟨hl, he⟩ := List.getElem?_eq_some_iff.1 e
      show h.set p (58, [AV.nils]) = h
      rw [← he, List.set_getElem_self]
    have s3 := setn g
    have s2 := setn g0
    have l3 : aLoad false false 1 (.ref (s.length + 1) 0) (s ++ [(58, [.nils])] ++ [(58, [.nils])]) = some (.nils, s ++ [(58, [.nils])] ++ [(58, [.nils])]) := by
      rw [ld (o := 0) (v := .nils) g (by decide) rfl (by decide)]; rfl
    have lA : aLoad false true 1 (.ref (s.length + 1) 0) (s ++ [(58, [.nils])] ++ [(58, [.nils])]) = some (.agg [.nils], s ++ [(58, [.nils])] ++ [(58, [.nils])]) := by
      rw [ldA (o := 0) g (by decide) (by decide) (by decide)]; rfl
    have lB : aLoad false true 1 (.ref s.length 0) (s ++ [(58, [.nils])] ++ [(58, [.nils])]) = some (.agg [.nils], s ++ [(58, [.nils])] ++ [(58, [.nils])]) := by
      rw [ldA (o := 0) g0 (by decide) (by decide) (by decide)]; rfl
    have ln : aLen Tryz.prog 56 .nils = some (I 0) := by simp [aLen, u56]
    have key : ∀ r n' e, e 12 = I 0 → e 11 = I 0 → e 3 = .ref (s.length + 1) 0 → e 2 = .ref s.length 0 → aLoop (F64_L0 (den C (f + 1)) n') (r + 1) e (s ++ [(58, [.nils])] ++ [(58, [.nils])]) = some (.agg [.nils], s ++ [(58, [.nils])] ++ [(58, [.nils])]) := by
      intro r n' e h12 h11 h3 h2
      have zz : ¬ ((0 : Int) < 0) := by decide
      rw [aLoop, F64_L0]
      simp -implicitDefEqProofs only [sL, h12, h11, h3, h2, zz, lA, s2, lB]
    unfold aCallF
    rw [if_pos en64, F64_eq, F64]
    simp -implicitDefEqProofs only [sL, hs, z1, cl, b, z3, s3, l3, ln]
    exact key f (f + 1) _ rfl rfl rfl rfl
end GrnF
end

section
set_option maxRecDepth 100000
set_option maxHeartbeats 2000000
namespace GrnF
open Go Go.Abs Go.Proofs ParF Pm Gt
theorem bsN (k w : Int) (x : Bytes) (c : AV) : aBuildSlice Tryz.prog 56 1 [(0, .agg [I k, I w, .str x, c])] = some (.sl 197 4 [.agg [I k, I w, .str x, c]] .own) := by kernel_rfl
theorem bs76 (x : Nat) : aBuildSlice Tryz.prog 76 1 [(0, I x)] = some (.sl 3 1 [I x] .own) := by kernel_rfl
theorem bd197 (k w : Int) (x : Bytes) : aBuild Tryz.prog 197 [(0, I k), (1, I w), (2, .str x)] = some (.agg [I k, I w, .str x, .nils]) := by kernel_rfl
theorem ldT {s : Heap} {i o : Nat} {ty : TypeId} {cs : List AV} {v : AV} (h : s[i]? = some (ty, cs)) (ht : ty ≠ deadTy) (hv : cs[o]? = some v) : aLoad true false 1 (.ref i o) s = some (v, s.set i (ty, cs.set o v.strip)) := by
  simp [aLoad, aLoadT, h, hv, ht]
def accI (zs : List Nat) : AV := match zs with
  | [] => .nils
  | z :: r => .sl 3 1 (ints (z :: r)) .own
theorem accI_is (zs : List Nat) : IsI (accI zs).strip zs := by
  cases zs with
  | nil => exact .inr ⟨rfl, rfl⟩
  | cons t r => exact .inl rfl
theorem app76 (xs : List Nat) (x : Nat) (h : xs.length < 1000000) : aAppend Tryz.prog 76 76 (accI xs) (.sl 3 1 [I x] .own) = some (accI (xs ++ [x])) := by
  obtain ⟨i, h1, h2, h3, z, h4, h5⟩ := info3
  unfold aAppend
  rw [u76]
  simp only [h1, h2, srcOf, if_true, h4, h5, ne_eq, not_true, if_false, h3]
  cases xs with
  | nil =>
    simp only [accI, List.nil_append, List.length_cons, List.length_nil, List.map_cons, List.map_nil]
    rw [if_pos (by omega)]
  | cons b r =>
    simp only [accI, ints, List.length_map, List.length_cons, List.length_nil, List.map_cons, List.cons_append, List.map_append, List.map_nil] at *
    rw [if_pos ⟨trivial, trivial, by omega, by omega⟩]
theorem accI_solid (zs : List Nat) : (accI zs).solid = true ∧ (accI zs).cells = [accI zs] ∧ stCells (accI zs) = [accI zs] := by
  cases zs <;> exact ⟨rfl, rfl, rfl⟩
structure Stp (s s' : Heap) (O : Nat) (v v' : AV) : Prop where
  len : s.length ≤ s'.length
  fr : ∀ x, x < s.length → x ≠ O → rid v ≠ some x → s'[x]? = s[x]?
  rid : rid v' = rid v ∨ ∃ R, GrnF.rid v' = some R ∧ s.length ≤ R
theorem Stp.trans {s s' s'' : Heap} {O : Nat} {v v' v'' : AV} (h : Stp s s' O v v') (k : Stp s' s'' O v' v'') : Stp s s'' O v v'' := by
  refine ⟨Nat.le_trans h.len k.len, fun x hx h1 h2 => ?_, ?_⟩
  · rw [k.fr x (Nat.lt_of_lt_of_le hx h.len) h1 ?_, h.fr x hx h1 h2]
    rcases h.rid with e | ⟨R, e, hR⟩
    · rw [e]; exact h2
    · rw [e]; intro e'; cases e'; omega
  · rcases k.rid with e | ⟨R, e, hR⟩
    · rw [e]; exact h.rid
    · exact .inr ⟨R, e, Nat.le_trans h.len hR⟩
def InsAt (T : Tree) (a : AV) : Prop := ∀ (O : Nat) (v : AV) (A : Ar) (s : Heap), s[O]? = some (58, [v]) → RowAt s v A → rid v ≠ some O → Val A → smallA A → A.length + szT T < 900000 →
  ∃ N s' v', (∀ f, N ≤ f → aCall Tryz.prog (den C f) 65 [.ref O 0, a] s = some (I (ins A T).2, s')) ∧ s'[O]? = some (58, [v']) ∧ RowAt s' v' (ins A T).1 ∧ rid v' ≠ some O ∧ Stp s s' O v v'
theorem ins_tail {O q : Nat} {h : Heap} {v : AV} {A : Ar} {n : N} (eO : h[O]? = some (58, [v])) (hv : RowAt h v A) (hO : rid v ≠ some O) (hq : rid v ≠ some q) (hOq : O ≠ q) (hA : A.length < 900000) (hsm : smallA A)
    (eq : h[q]? = some (197, [I n.kind, I n.width, .str n.text, accI n.cs])) (i0 len : Nat) (hi0 : ¬ i0 < len) :
    ∃ N h' v', (∀ f, N ≤ f → ∀ r n' e, e 21 = I i0 → e 20 = I len → e 0 = .ref O 0 → e 5 = .ref q 0 → aLoop (F65_L0 (den C f) n') (r + 1) e h = some (I (tailI A n), h')) ∧
      h'[O]? = some (58, [v']) ∧ RowAt h' v' (tailA A n) ∧ rid v' ≠ some O ∧ h.length ≤ h'.length ∧ (∀ x, x < h.length → x ≠ O → rid v ≠ some x → h'[x]? = h[x]?) ∧ (rid v' = rid v ∨ ∃ R, rid v' = some R ∧ h.length ≤ R) := by
  have hN : IsN (.agg [I n.kind, I n.width, .str n.text, accI n.cs]) n := ⟨accI n.cs, _, rfl, rfl, accI_is n.cs⟩
  have hOl := glt eO
  have hql := glt eq
  obtain ⟨N, qi⟩ := index_run hv.arr hA hsm (.inl rfl) hN eq
  have lO : aLoad false false 1 (.ref O 0) h = some (v, h) := by
    rw [ld (o := 0) (v := v) eO (by decide) rfl (by decide), hv.strip]
  have nc : ∀ i o, aNilCheck (.ref i o) = some (.ref i o) := fun _ _ => rfl
  have hii : ¬ ((i0 : Int) < (len : Int)) := by omega
  cases hf : A.findIdx? (· == n) with
  | some i =>
    obtain ⟨t1, t2⟩ := tail_some hf
    rw [t1, t2]
    rw [hf] at qi
    have qi : ∀ f, N ≤ f → aCall Tryz.prog (den C f) 121 [v, .fn 122 [] [.ref q 0]] h = some (I i, h) := by
      intro f hf; have := qi f hf; simpa [ix] using this
    refine ⟨N, h, v, fun f hf r n' e h21 h20 h0 h5 => ?_, eO, hv, hO, Nat.le_refl _, fun _ _ _ _ => rfl, .inl rfl⟩
    have qi := qi f hf
    have z : (0 : Int) ≤ (i : Int) := by omega
    rw [aLoop, F65_L0]
    simp -implicitDefEqProofs only [sL, h21, h20, h0, h5, hii, nc, lO, hv.strip, qi, z]
  | none =>
    obtain ⟨t1, t2⟩ := tail_none hf
    rw [t1, t2]
    rw [hf] at qi
    obtain ⟨s1, p1, p2, p3, p4⟩ := push_node hv hA hN
    have eO1 : s1[O]? = some (58, [v]) := (p4 O hOl hO).trans eO
    have st0 : aStore 1 s1 (.ref O 0) (.rs 197 4 h.length 0 (A.length + 1)) = some (s1.set O (58, [(.rs 197 4 h.length 0 (A.length + 1))])) := by
      rw [ParF.st (n := 1) (o := 0) (v := (.rs 197 4 h.length 0 (A.length + 1))) eO1 (by decide) rfl rfl (Nat.le_refl 1)]; rfl
    have lO2 : aLoad false false 1 (.ref O 0) (s1.set O (58, [(.rs 197 4 h.length 0 (A.length + 1))])) = some ((.rs 197 4 h.length 0 (A.length + 1)), s1.set O (58, [(.rs 197 4 h.length 0 (A.length + 1))])) := by
      rw [ld (o := 0) (v := (.rs 197 4 h.length 0 (A.length + 1))) (gset_eq eO1) (by decide) rfl (by decide)]; rfl
    have lq : aLoad false true 4 (.ref q 0) h = some (.agg [I n.kind, I n.width, .str n.text, accI n.cs], h) := by
      rw [ldA (o := 0) eq (by decide) (Nat.le_refl 4) (by decide)]; rfl
    have ln : aLen Tryz.prog 56 (.rs 197 4 h.length 0 (A.length + 1)) = some (I (A.length + 1 : Nat)) := by simp [aLen, u56]
    have w1 : IntKind.i64.wrap (((A.length + 1 : Nat) : Int) - 1) = (A.length : Int) := ParF.wsub1 (by omega)
    have z : ¬ (0 : Int) ≤ -1 := by decide
    have hlen : (A ++ [n]).length = A.length + 1 := by simp
    rw [hlen] at p3
    have hne : h.length ≠ O := by omega
    refine ⟨N, s1.set O (58, [(.rs 197 4 h.length 0 (A.length + 1))]), (.rs 197 4 h.length 0 (A.length + 1)), fun f hf r n' e h21 h20 h0 h5 => ?_, gset_eq eO1, ?_, ?_, by rw [set_length, p2]; omega, fun x hx h1 h2 => by rw [gset_ne (fun e => h1 e.symm), p4 x hx h2], .inr ⟨h.length, rfl, Nat.le_refl _⟩⟩
    · have qi := qi f hf
      have kd : kLoad false (AV.ref O 0) = .get O := rfl
      have ka : ∃ o, appK v = .app o := by
        rcases hv with ⟨rfl, _⟩ | ⟨R, rows, rfl, _⟩ <;> exact ⟨_, rfl⟩
      obtain ⟨o, ka⟩ := ka
      rw [aLoop, F65_L0]
      simp -implicitDefEqProofs only [sL, h21, h20, h0, h5, hii, nc, lO, hv.strip, qi, ix, z, lq, bsN, p1, strip_rs, st0, kStore_ref, ka, d65_12, lO2, ln, w1]
    · exact p3.frame (fun R e => by cases e; rw [gset_ne (Ne.symm hne)])
    · show some h.length ≠ some O; exact fun e => hne (by injection e)
end GrnF
end

section
set_option maxRecDepth 100000
set_option maxHeartbeats 2000000
namespace GrnF
open Go Go.Abs Go.Proofs ParF Pm Gt
theorem RowAt.wid {s : Heap} {v : AV} {A : Ar} (h : RowAt s v A) {j : Nat} {n : N} (hn : A[j]? = some n) : ∃ R o, aIndexAddr Tryz.prog 56 v (I j) = some (.ref R o) ∧ aLoad false false 1 (.ref R (o + 1)) s = some (I n.width, s) := by
  rcases id h with ⟨rfl, rfl⟩ | ⟨R, rows, rfl, h2, h3, h4⟩
  · simp at hn
  · obtain ⟨adr, a, p, e1, e2, e3, e4, e5⟩ := h.arr.get j n hn
    have hi := (List.getElem?_eq_some_iff.1 hn).1
    have ix : aIndexAddr Tryz.prog 56 (.rs 197 4 R 0 A.length) (I j) = some (.ref R (j * 4)) := by simp [aIndexAddr, u56, sz197, hi]
    rw [ix] at e1
    cases e1
    cases e3
    exact ⟨R, j * 4, ix, e4⟩
theorem ins_loop {k : Nat} {x : Bytes} {cs : List Tree} {ch : AV} (hch : IsC cs ch) (ih : ∀ t ∈ cs, ∀ a, IsT t a → InsAt t a) (ho : okL cs = true) {A0 : Ar} (hA0 : Val A0) (hsm0 : smallA A0) (hlen : A0.length + (1 + szL cs) < 900000)
    (hw : x.length + (srcL cs).length < 900000000) {O q : Nat} (hOq : O ≠ q) : ∀ (m i : Nat), cs.length - i = m → i ≤ cs.length → ∀ (h : Heap) (v : AV), h[O]? = some (58, [v]) → RowAt h v (insL A0 (cs.take i)).1 → rid v ≠ some O → rid v ≠ some q →
    h[q]? = some (197, [I k, I (x.length + wOf (insL A0 (cs.take i)).1 (insL A0 (cs.take i)).2 : Nat), .str x, accI (insL A0 (cs.take i)).2]) →
    ∃ N h' v', (∀ f, N ≤ f → ∀ r, m < r → ∀ n' e, e 21 = I i → e 20 = I cs.length → e 19 = ch → e 0 = .ref O 0 → e 5 = .ref q 0 → aLoop (F65_L0 (den C f) n') r e h = some (I (ins A0 (.mk k x cs)).2, h')) ∧
      h'[O]? = some (58, [v']) ∧ RowAt h' v' (ins A0 (.mk k x cs)).1 ∧ rid v' ≠ some O ∧ h.length ≤ h'.length ∧ (∀ y, y < h.length → y ≠ O → y ≠ q → rid v ≠ some y → h'[y]? = h[y]?) ∧ (rid v' = rid v ∨ ∃ R, rid v' = some R ∧ h.length ≤ R) := by
  obtain ⟨hlenc, hat⟩ := hch.facts
  obtain ⟨c1, c2, c3⟩ := hch.strip
  have hcl := len_le_sz cs
  intro m
  induction m with
  | zero =>
    intro i hk hi h v eO hv hvO hvq eq
    have hi' : i = cs.length := by omega
    subst hi'
    rw [List.take_length] at hv eq
    obtain ⟨i1, ⟨B, i2, i3⟩, i4⟩ := insL_ok hA0 ho
    have hA : (insL A0 cs).1.length < 900000 := by rw [i2, List.length_append]; omega
    have hsm := insL_small (ts := cs) hsm0 (by omega)
    obtain ⟨N, h', v', q1, q2, q3, q4, q5, q6, q7⟩ := ins_tail (n := ⟨k, x.length + wOf (insL A0 cs).1 (insL A0 cs).2, x, (insL A0 cs).2⟩) eO hv hvO hvq hOq hA hsm eq cs.length cs.length (by omega)
    have e1 := congrArg Prod.snd (ins_mk2 A0 k x cs)
    have e2 := congrArg Prod.fst (ins_mk2 A0 k x cs)
    simp only at e1 e2
    rw [← e1] at q1
    rw [← e2] at q3
    refine ⟨N, h', v', fun f hf r hr n' e h21 h20 h19 h0 h5 => ?_, q2, q3, q4, q5, fun y hy h1 _ h3 => q6 y hy h1 h3, q7⟩
    obtain ⟨r, rfl⟩ : ∃ j, r = j + 1 := ⟨r - 1, by omega⟩
    exact q1 f hf r n' e h21 h20 h0 h5
  | succ m ihm =>
    intro i hk hi h v eO hv hvO hvq eq
    have c : i < cs.length := by omega
    obtain ⟨a, ha, hT⟩ := hat (List.getElem?_eq_getElem c)
    obtain ⟨a1, a2, a3, a4⟩ := hT.cells
    have hst : a.strip = a := by rw [a4]; rfl
    have hmem := List.getElem_mem c
    have htk : cs.take (i + 1) = cs.take i ++ [cs[i]] := by rw [List.take_succ, List.getElem?_eq_getElem c]; rfl
    have oki := okL_take ho i
    obtain ⟨i1, ⟨B, i2, i3⟩, i4⟩ := insL_ok hA0 oki
    have oks := okL_take ho (i + 1)
    obtain ⟨j1, ⟨B', j2, j3⟩, j4⟩ := insL_ok hA0 oks
    have hsn := insL_snoc A0 (cs.take i) cs[i]
    rw [← htk] at hsn
    have hz1 := szL_take cs (i + 1)
    have hz0 : szL (cs.take (i + 1)) = szL (cs.take i) + szT cs[i] := by rw [htk, szL_append, szL_one]
    have hsmi := insL_small (ts := cs.take i) hsm0 (by omega)
    have hsrc := srcL_take cs (i + 1)
    have hwid := rdL_width j1 j4
    have hjl : (insL A0 (cs.take i)).2.length = i := by rw [insL_len, List.length_take]; omega
    generalize hAi : insL A0 (cs.take i) = ri at *
    obtain ⟨Ai, js⟩ := ri
    simp only at *
    obtain ⟨k1, ⟨B2, k2, k3⟩, k4⟩ := ins_ok i1 (okL_of ho hmem)
    have hAl : Ai.length ≤ A0.length + szL (cs.take i) := by rw [i2, List.length_append]; omega
    -- the call
    obtain ⟨N1, s', v1, q1, q2, q3, q4, q5⟩ := ih _ hmem a hT O v Ai (h ++ [(52, a.cells)]) (by rw [gapp_old (glt eO)]; exact eO) (hv.frame fun R e => gapp_old (hv.lt R e)) hvO i1 hsmi (by omega)
    have hql := glt eq
    have eq1 : s'[q]? = some (197, [I k, I (x.length + wOf Ai js : Nat), .str x, accI js]) := by
      rw [q5.fr q (by rw [app_length]; omega) (Ne.symm hOq) hvq, gapp_old hql]; exact eq
    have hv1q : rid v1 ≠ some q := by
      rcases q5.rid with e | ⟨R, e, hR⟩
      · rw [e]; exact hvq
      · rw [e]; intro e'; cases e'; rw [app_length] at hR; omega
    generalize hj : (ins Ai cs[i]).2 = j at *
    generalize hA' : (ins Ai cs[i]).1 = A' at *
    have hjlt : j < A'.length := rd_lt k4
    have hnj : A'[j]? = some A'[j] := List.getElem?_eq_getElem hjlt
    let s2 : Heap := s'.set q (197, [I k, I (x.length + wOf Ai js : Nat), .str x, accI (js ++ [j])])
    have hrow2 : RowAt s2 v1 A' := q3.frame fun R e => gset_ne (fun e' => hv1q (by rw [e, e']))
    obtain ⟨R, o, g1, g2⟩ := hrow2.wid hnj
    have hww : wOf A' (js ++ [j]) = wOf Ai js + A'[j].width := by
      have w1 : wOf A' js = wOf Ai js := by rw [k2]; exact wOf_app Ai B2 js (rdL_lt i4)
      have w2 : (A'.getD j default).width = A'[j].width := by rw [List.getD_eq_getElem?_getD, hnj]; rfl
      rw [wOf_snoc, w1, w2]
    rw [hsn] at hwid
    simp only at hwid
    have hsum : x.length + (wOf Ai js + A'[j].width) < 900000000 := by rw [← hww]; omega
    let s3 : Heap := s'.set q (197, [I k, I (x.length + (wOf Ai js + A'[j].width) : Nat), .str x, accI (js ++ [j])])
    have eO3 : s3[O]? = some (58, [v1]) := by show (s'.set q _)[O]? = _; rw [gset_ne (Ne.symm hOq)]; exact q2
    have hrow3 : RowAt s3 v1 A' := q3.frame fun R e => gset_ne (fun e' => hv1q (by rw [e, e']))
    have eq3 : s3[q]? = some (197, [I k, I (x.length + wOf A' (js ++ [j]) : Nat), .str x, accI (js ++ [j])]) := by rw [hww]; exact gset_eq eq1
    obtain ⟨N2, h', v', p1, p2, p3, p4, p5, p6, p7⟩ := ihm (i + 1) (by omega) (by omega) s3 v1 eO3 (by rw [hsn]; exact hrow3) q4 hv1q (by rw [hsn]; exact eq3)
    have hl3 : s3.length = s'.length := List.length_set
    have hl5 := q5.len
    rw [app_length] at hl5
    refine ⟨N1 + N2, h', v', fun f hf r hr n' e h21 h20 h19 h0 h5 => ?_, p2, p3, p4, by omega, fun y hy h1 h2 h3 => ?_, ?_⟩
    · obtain ⟨r, rfl⟩ : ∃ t, r = t + 1 := ⟨r - 1, by omega⟩
      have q1 := q1 f (by omega)
      have lda : ∀ s, aLoad false true 3 (.box a.cells 0) s = some (a, s) := fun s => by
        rw [aLoad_agg _ _ _ _ _ (by omega), List.drop_zero, List.take_of_length_le (by omega), ← a4]
      have z52 : aAlloc Tryz.prog 52 h = some (.ref h.length 0, h ++ [(52, [I 0, .str [], .nils])]) := by rw [zero52]
      have st52 := store_new (s := h) hT
      have ld52 := load52 h a a1 a4
      have gw := ParF.wadd1 (a := i) (by omega)
      have lT : aLoad true false 1 (.ref q 3) s' = some (accI js, s'.set q (197, [I k, I (x.length + wOf Ai js : Nat), .str x, (accI js).strip])) := ldT (o := 3) (v := accI js) eq1 (by decide) rfl
      have ap := app76 js j (by omega)
      obtain ⟨ac1, ac2, ac3⟩ := accI_solid (js ++ [j])
      have st3 : aStore 1 (s'.set q (197, [I k, I (x.length + wOf Ai js : Nat), .str x, (accI js).strip])) (.ref q 3) (accI (js ++ [j])) = some s2 := by
        rw [ParF.st (n := 1) (o := 3) (v := accI (js ++ [j])) (ty := 197) (cs := [I k, I (x.length + wOf Ai js : Nat), .str x, (accI js).strip]) (gset_eq eq1) (by decide) ac1 (by rw [ac2]; rfl) (Nat.le_refl 4), ac3, List.set_set]; rfl
      have l1 : aLoad false false 1 (.ref q 1) s2 = some (I (x.length + wOf Ai js : Nat), s2) := ld (o := 1) (v := I (x.length + wOf Ai js : Nat)) (gset_eq eq1) (by decide) rfl (by decide)
      have eO2 : s2[O]? = some (58, [v1]) := by show (s'.set q _)[O]? = _; rw [gset_ne (Ne.symm hOq)]; exact q2
      have lO : aLoad false false 1 (.ref O 0) s2 = some (v1, s2) := by
        rw [ld (o := 0) (v := v1) eO2 (by decide) rfl (by decide), q3.strip]
      have nc : ∀ i o, aNilCheck (.ref i o) = some (.ref i o) := fun _ _ => rfl
      have w2 : IntKind.i64.wrap (((x.length + wOf Ai js : Nat) : Int) + (A'[j].width : Int)) = ((x.length + (wOf Ai js + A'[j].width) : Nat) : Int) := by rw [wrap64] <;> omega
      have st1 : aStore 1 s2 (.ref q 1) (I (x.length + (wOf Ai js + A'[j].width) : Nat)) = some s3 := by
        rw [ParF.st (n := 1) (o := 1) (v := I (x.length + (wOf Ai js + A'[j].width) : Nat)) (ty := 197) (cs := [I k, I (x.length + wOf Ai js : Nat), .str x, accI (js ++ [j])]) (gset_eq eq1) (by decide) rfl rfl (show 2 ≤ 4 from by omega)]
        show some ((s'.set q _).set q _) = _
        rw [List.set_set]; rfl
      rw [aLoop, F65_L0]
      simp -implicitDefEqProofs only [sL, h21, h20, h19, h0, h5, c, c1, ha, lda, z52, st52, ld52, hst, q1, lT, bs76, ap, st3, l1, nc, lO, g1, g2, w2, st1, kStore_ref, d65_7, gw]
      exact p1 f (by omega) r (by omega) n' _ (by simp only [upds_at, upds_nil, upd_at, if_true]) ((upds_get _ _ _ rfl).trans h20) ((upds_get _ _ _ rfl).trans h19) ((upds_get _ _ _ rfl).trans h0) ((upds_get _ _ _ rfl).trans h5)
    · have hr1 : rid v1 ≠ some y := by
        rcases q5.rid with e | ⟨R, e, hR⟩
        · rw [e]; exact h3
        · rw [e]; intro e'; cases e'; rw [app_length] at hR; omega
      rw [p6 y (by omega) h1 h2 hr1]
      show (s'.set q _)[y]? = _
      rw [gset_ne (Ne.symm h2), q5.fr y (by rw [app_length]; omega) h1 h3, gapp_old hy]
    · rcases p7 with e | ⟨R, e, hR⟩
      · rw [e]
        rcases q5.rid with e | ⟨R, e, hR⟩
        · exact .inl e
        · rw [app_length] at hR; exact .inr ⟨R, e, by omega⟩
      · exact .inr ⟨R, e, by omega⟩
theorem insert_run : ∀ (n : Nat) (T : Tree) (a : AV), szT T ≤ n → IsT T a → okT T = true → (srcT T).length < 900000000 → InsAt T a := by
  intro n
  induction n with
  | zero => intro T a hz; cases T; rw [szT_mk] at hz; omega
  | succ n ih =>
    intro T a hz hT ho hsrc O v A s eO hv hvO hA hsm hsz
    obtain ⟨a1, a2, a3, a4⟩ := hT.cells
    have hsol : a.solid = true := by rw [a4]; rfl
    have hst : a.strip = a := by rw [a4]; rfl
    cases hT with
    | mk k x cs ch hch =>
    rw [szT_mk] at hz hsz
    rw [srcT, List.length_append] at hsrc
    rw [okT, Bool.and_eq_true] at ho
    obtain ⟨hlenc, hat⟩ := hch.facts
    obtain ⟨c1, c2, c3⟩ := hch.strip
    let q := s.length
    let h : Heap := s ++ [(197, [I k, I x.length, .str x, .nils])]
    have hOl := glt eO
    have eO' : h[O]? = some (58, [v]) := by show (s ++ _)[O]? = _; rw [gapp_old hOl]; exact eO
    have hrq : rid v ≠ some q := fun e => by have := hv.lt _ e; simp [q] at this
    obtain ⟨N, h', v', q1, q2, q3, q4, q5, q6, q7⟩ := ins_loop (k := k) (x := x) hch (fun t ht b hb => ih t b (by have := szL_mem t ht; omega) hb (okL_of ho.2 ht) (by
        have : ∀ (cs : List Tree) (t : Tree), t ∈ cs → (srcT t).length ≤ (srcL cs).length := by
          intro cs t
          induction cs with
          | nil => intro h; cases h
          | cons c cs ih =>
            intro h
            rw [srcL, List.length_append]
            rcases List.mem_cons.1 h with rfl | h
            · omega
            · have := ih h; omega
        have := this cs t ht; omega)) ho.2 hA hsm (by omega) (by omega) (O := O) (q := q) (by simp [q]; omega) cs.length 0 (by omega) (by omega) h v eO' (by rw [List.take_zero, insL_nil]; exact hv.frame fun R e => gapp_old (hv.lt R e)) hvO hrq (by rw [List.take_zero, insL_nil]; exact gapp_new)
    refine ⟨N + cs.length + 2, h', v', fun f hf => ?_, q2, q3, q4, ⟨by have : h.length = s.length + 1 := app_length _ _; omega, fun y hy h1 h2 => ?_, ?_⟩⟩
    · obtain ⟨f, rfl⟩ : ∃ j, f = j + 1 := ⟨f - 1, by omega⟩
      have z : aAlloc Tryz.prog 197 s = some (.ref s.length 0, s ++ [(197, [I 0, I 0, .str [], .nils])]) := by rw [zero197]
      have p : aStore 4 (s ++ [(197, [I 0, I 0, .str [], .nils])]) (.ref s.length 0) (.agg [I k, I x.length, .str x, .nils]) = some (s ++ [(197, [I k, I x.length, .str x, .nils])]) := put197 s (n := ⟨k, x.length, x, []⟩) _ (c := .nils) (c' := .nils) rfl rfl
      unfold aCall
      rw [if_pos en65, if_neg (by rw [noRefL_cons, noRefL_cons]; simp [AV.noRef]), F65_eq, F65]
      simp -implicitDefEqProofs only [sL, LexF.len9, bd197, z, p, c1, hlenc]
      exact q1 f (by omega) f (by omega) f _ rfl rfl rfl rfl rfl
    · have hy' : y < h.length := by have : h.length = s.length + 1 := app_length _ _; omega
      rw [q6 y hy' h1 (by simp [q]; omega) h2]
      exact gapp_old hy
    · rcases q7 with e | ⟨R, e, hR⟩
      · exact .inl e
      · have : h.length = s.length + 1 := app_length _ _
        exact .inr ⟨R, e, by omega⟩
end GrnF
end

section
set_option maxRecDepth 100000
set_option maxHeartbeats 2000000
namespace GrnF
open Go Go.Abs Go.Proofs ParF Pm Gt
def ChAt (h : Heap) (ch : AV) (cs : List Tree) : Prop := (ch = .nils ∧ cs = []) ∨ ∃ R rows, ch = .rs 52 3 R 0 cs.length ∧ h[R]? = some (52, cellsOf rows) ∧ IsL cs rows ∧ cs ≠ []
theorem ChAt.frame {s s' : Heap} {v : AV} {A : List Tree} (h : ChAt s v A) (k : ∀ R, rid v = some R → s'[R]? = s[R]?) : ChAt s' v A := by
  rcases h with h | ⟨R, rows, rfl, h2, h3⟩
  · exact .inl h
  · exact .inr ⟨R, rows, rfl, (k R rfl).trans h2, h3⟩
theorem ChAt.strip {s : Heap} {v : AV} {A : List Tree} (h : ChAt s v A) : v.strip = v := by
  rcases h with ⟨rfl, _⟩ | ⟨R, rows, rfl, _⟩ <;> rfl
theorem ChAt.lt {s : Heap} {v : AV} {A : List Tree} (h : ChAt s v A) : ∀ R, rid v = some R → R < s.length := by
  rcases h with ⟨rfl, _⟩ | ⟨R, rows, rfl, h2, h3⟩
  · nofun
  · intro R' e; cases e; exact glt h2
theorem ChAt.app {s : Heap} {v : AV} {A : List Tree} (h : ChAt s v A) : ∃ o, appK v = .app o := by
  rcases h with ⟨rfl, _⟩ | ⟨R, rows, rfl, _⟩ <;> exact ⟨_, rfl⟩
theorem i52 : ∃ i zv, Tryz.prog.info? 52 = some i ∧ i.size = 3 ∧ i.zero = some zv ∧ zv.cells.size = 3 ∧ i.bytes ≤ 48 := by
  have h := info52
  cases hi : Tryz.prog.info? 52 with
  | none => rw [hi] at h; cases h
  | some i =>
    rw [hi] at h
    simp only [Option.map_some, Option.some.injEq, Prod.mk.injEq, decide_eq_true_eq] at h
    obtain ⟨h1, h2, h3⟩ := h
    cases hz : i.zero with
    | none => rw [hz] at h2; cases h2
    | some zv =>
      rw [hz] at h2
      simp only [Option.map_some, Option.some.injEq] at h2
      exact ⟨i, zv, rfl, h1, hz, h2, h3⟩
theorem appT_nil (s : Heap) {a : AV} (h4 : a.cells.length = 3) : aRsAppend Tryz.prog 50 50 .nils (.sl 52 3 [a] .own) s = some (.rs 52 3 s.length 0 1, s ++ [(52, a.cells.map AV.strip)]) := by
  obtain ⟨i, zv, hi, h1, hz, h2, h3⟩ := i52
  have hb : bound i 1 := ⟨by omega, by omega⟩
  have e : cellsOf [a] = a.cells := by show a.cells ++ [] = _; rw [List.append_nil]
  simp [aRsAppend, under50, hi, srcOf, h1, hz, h2, hb, deadTy, e]
theorem appT_rs {s : Heap} {id len : Nat} {cs : List AV} {a : AV} (h4 : a.cells.length = 3) (h : s[id]? = some (52, cs)) (hl : len * 3 ≤ cs.length) (hne : cs ≠ []) (hn : len < 1000000000) :
    aRsAppend Tryz.prog 50 50 (.rs 52 3 id 0 len) (.sl 52 3 [a] .own) s = some (.rs 52 3 s.length 0 (len + 1), kill s id ++ [(52, cs.take (len * 3) ++ a.cells.map AV.strip)]) := by
  obtain ⟨i, zv, hi, h1, hz, h2, h3⟩ := i52
  have hb : bound i (len + 1) := ⟨by
    have : (2 * (len + 1) + 768) * i.bytes ≤ (2 * (len + 1) + 768) * 48 := Nat.mul_le_mul_left _ h3
    omega, by omega⟩
  have e : cellsOf [a] = a.cells := by show a.cells ++ [] = _; rw [List.append_nil]
  simp [aRsAppend, under50, hi, srcOf, h1, hz, h2, hb, deadTy, e, h, hl, hne]
theorem push_tree {s : Heap} {v : AV} {cs : List Tree} (h : ChAt s v cs) (hA : cs.length < 900000000) {a : AV} {t : Tree} (ha : IsT t a) :
    ∃ s1, aRsAppend Tryz.prog 50 50 v (.sl 52 3 [a] .own) s = some (.rs 52 3 s.length 0 (cs.length + 1), s1) ∧ s1.length = s.length + 1 ∧ ChAt s1 (.rs 52 3 s.length 0 (cs ++ [t]).length) (cs ++ [t]) ∧ ∀ x, x < s.length → rid v ≠ some x → s1[x]? = s[x]? := by
  obtain ⟨a1, a2, a3, a4⟩ := ha.cells
  rcases h with ⟨rfl, rfl⟩ | ⟨R, rows, rfl, h2, h3, hne⟩
  · refine ⟨_, appT_nil s a1, app_length _ _, .inr ⟨s.length, [a], rfl, ?_, .cons _ _ _ _ ha .nil, by simp⟩, fun x hx _ => gapp_old hx⟩
    rw [gapp_new, a2]; show _ = some (52, a.cells ++ []); rw [List.append_nil]
  · obtain ⟨r1, r2, r3, r4⟩ := h3.cells
    have hne' : cellsOf rows ≠ [] := by
      intro e
      rw [e] at r1
      have : cs.length = 0 := by simp at r1; omega
      exact hne (List.length_eq_zero_iff.1 this)
    have e1 := appT_rs (len := cs.length) a1 h2 (by omega) hne' (by omega)
    rw [List.take_of_length_le (by omega), a2] at e1
    refine ⟨_, e1, by rw [app_length, kill_length], .inr ⟨s.length, rows ++ [a], rfl, ?_, h3.snoc ha, by simp⟩, fun x hx hn => ?_⟩
    · have := gapp_new (s := kill s R) (x := (52, cellsOf rows ++ a.cells))
      rw [kill_length] at this
      rw [cellsOf_snoc]; exact this
    · rw [gapp_old (by rw [kill_length]; exact hx), gkill_ne (fun e => hn (by rw [e]; rfl))]
theorem pub_ch {h : Heap} {ch : AV} {cs : List Tree} (hc : ChAt h ch cs) (k : Nat) (x : Bytes) : ∃ a h', aPub (.agg [I k, .str x, ch]) h = some (a, h') ∧ IsT (.mk k x cs) a ∧ h'.length = h.length ∧ ∀ y, rid ch ≠ some y → h'[y]? = h[y]? := by
  rcases hc with ⟨rfl, rfl⟩ | ⟨R, rows, rfl, h2, h3, hne⟩
  · exact ⟨_, h, rfl, .mk _ _ _ _ .nil, rfl, fun _ _ => rfl⟩
  · obtain ⟨r1, r2, r3, r4⟩ := h3.cells
    have tk : (cellsOf rows).take (cs.length * 3) = cellsOf rows := List.take_of_length_le (by omega)
    refine ⟨.agg [I k, .str x, .sl 52 3 rows .sh], kill h R, ?_, .mk _ _ _ _ (.sl _ _ h3), kill_length _ _, fun y hy => gkill_ne (fun e => hy (by rw [e]; rfl))⟩
    have p1 : aPub1 (.rs 52 3 R 0 cs.length) h = some (.sl 52 3 rows .sh, kill h R) := by
      unfold aPub1
      simp only [h2, tk, r3, r2, r4]
      rw [if_pos ⟨trivial, by decide, by decide, by omega, trivial⟩]
    have e1 : aPub1 (I k) h = some (I k, h) := rfl
    have e2 : aPub1 (.str x) h = some (.str x, h) := rfl
    simp only [aPub, aPubL, e1, e2, p1]
theorem bsT (k : Int) (x : Bytes) (c : AV) : aBuildSlice Tryz.prog 50 1 [(0, .agg [I k, .str x, c])] = some (.sl 52 3 [.agg [I k, .str x, c]] .own) := by kernel_rfl
theorem bd52 (k : Int) (x : Bytes) : aBuild Tryz.prog 52 [(0, I k), (1, .str x)] = some (.agg [I k, .str x, .nils]) := by kernel_rfl
theorem noRef_ref (i o : Nat) : (AV.ref i o).noRef = false := (rfl)
theorem bld_J (i : Nat) (hi : i < 1000000000) {D : Den} {n' : Nat} {k0 : Env → Heap → Ans} {e : Env} {s : Heap} {r : Ans} (h : e 29 = I i)
    (H : ∀ e', e' 29 = I (i + 1 : Nat) → e' 28 = e 28 → e' 27 = e 27 → e' 2 = e 2 → e' 8 = e 8 → e' 6 = e 6 → e' 3 = e 3 → k0 e' s = r) : F66_J1 D n' k0 e s = r := by
  have g := ParF.wadd1 (a := i) (by omega)
  rw [F66_J1]
  simp -implicitDefEqProofs only [sL, h, g]
  exact H _ (by simp only [upds_at, upds_nil, upd_at, if_true]) (upds_get _ _ _ rfl) (upds_get _ _ _ rfl) (upds_get _ _ _ rfl) (upds_get _ _ _ rfl) (upds_get _ _ _ rfl) (upds_get _ _ _ rfl)
def BldAt (v : AV) (T : Tree) (i : Nat) : Prop := ∀ (l left : Nat) (s : Heap), s[l]? = some (3, [I left]) → szT T ≤ left → left < 900000000 →
  ∃ N s' a, (∀ f, N ≤ f → aCall Tryz.prog (den C f) 66 [.agg [v], I i, .ref l 0] s = some (a, s')) ∧ IsT T a ∧ s'[l]? = some (3, [I (left - szT T : Nat)]) ∧ s.length ≤ s'.length ∧ ∀ x, x < s.length → x ≠ l → s'[x]? = s[x]?
theorem bld_loop {v : AV} (hv1 : v.noRef = true) (hv2 : v.strip = v) {A : Ar} {k : Nat} {x : Bytes} : ∀ (cs : List Tree) {js : List Nat} {c : AV} (hc : IsI c js) (hlen : cs.length = js.length) (hb : szL cs < 900000000) (ih : ∀ (i : Nat) (h : i < cs.length) (h' : i < js.length), BldAt v cs[i] js[i])
    {l p6 p8 left : Nat} (hl : szL cs ≤ left) (hleft : left < 900000000) (n86 : p8 ≠ p6) (n8l : p8 ≠ l) (n6l : p6 ≠ l), ∀ (m i : Nat), cs.length - i = m → i ≤ cs.length → ∀ (h : Heap) (ch : AV),
    h[l]? = some (3, [I (left - szL (cs.take i) : Nat)]) → h[p8]? = some (52, [I k, .str x, ch]) → ChAt h ch (cs.take i) → h[p6]? = some (52, [I 0, .str [], .nils]) → rid ch ≠ some l → rid ch ≠ some p6 → rid ch ≠ some p8 →
    ∃ N h' a, (∀ f, N ≤ f → ∀ r, m < r → ∀ n' e, e 29 = I i → e 28 = I js.length → e 27 = c → e 2 = .ref l 0 → e 8 = .ref p8 0 → e 6 = .ref p6 0 → e 3 = .box [v] 0 → aLoop (F66_L0 (den C f) n') r e h = some (a, h')) ∧ IsT (.mk k x cs) a ∧
      h'[l]? = some (3, [I (left - szL cs : Nat)]) ∧ h.length ≤ h'.length ∧ ∀ y, y < h.length → y ≠ l → y ≠ p8 → y ≠ p6 → rid ch ≠ some y → h'[y]? = h[y]? := by
  intro cs js c hc hlen hb ih l p6 p8 left hl hleft n86 n8l n6l m
  obtain ⟨c1, c2, c3⟩ := hc.strip
  have hcl := len_le_sz cs
  induction m with
  | zero =>
    intro i hk hi h ch el e8 hch e6 rl r6 r8
    have hi' : i = cs.length := by omega
    subst hi'
    rw [List.take_length] at hch el
    obtain ⟨a, h1, p1, p2, p3, p4⟩ := pub_ch hch k x
    obtain ⟨a1, a2, a3, a4⟩ := p2.cells
    have hst : a.strip = a := by rw [a4]; rfl
    have hsol : a.solid = true := by rw [a4]; rfl
    have hstc : stCells a = a.cells := by rw [a4]; exact a2
    have e61 : h1[p6]? = some (52, [I 0, .str [], .nils]) := by rw [p4 p6 r6]; exact e6
    have lA : aLoad false true 3 (.ref p8 0) h = some (.agg [I k, .str x, ch], h) := by
      rw [ldA (o := 0) e8 (by decide) (Nat.le_refl 3) (by decide)]; rfl
    have pb : pubR (some (AV.agg [I k, .str x, ch], h)) = some (a, h1) := by simp [pubR, p1]
    have st6 : aStore 3 h1 (.ref p6 0) a = some (h1.set p6 (52, a.cells)) := by
      rw [ParF.st (n := 3) (o := 0) (v := a) e61 (by decide) hsol a1 (Nat.le_refl 3), hstc]
      have := setL_end [] a.cells [I 0, .str [], .nils] (by rw [a1]; rfl)
      rw [List.nil_append, List.nil_append] at this
      rw [show setL [I 0, .str [], .nils] 0 a.cells = a.cells from this]
    have l6 : aLoad false true 3 (.ref p6 0) (h1.set p6 (52, a.cells)) = some (a, h1.set p6 (52, a.cells)) := by
      rw [ldA (o := 0) (gset_eq e61) (by decide) (by omega) (by decide), List.drop_zero, List.take_of_length_le (by omega), ← a4]
    refine ⟨0, h1.set p6 (52, a.cells), a, fun f hf r hr n' e h29 h28 h27 h2 h8 h6 h3 => ?_, p2, ?_, by rw [List.length_set, p3]; exact Nat.le_refl _, fun y hy h1' h2' h3' h4' => ?_⟩
    · obtain ⟨r, rfl⟩ : ∃ j, r = j + 1 := ⟨r - 1, by omega⟩
      have cc : ¬ ((cs.length : Int) < (js.length : Int)) := by omega
      rw [aLoop, F66_L0]
      simp -implicitDefEqProofs only [sL, h29, h28, h27, h2, h8, h6, h3, cc, lA, pb, hst, st6, l6]
    · rw [gset_ne n6l, p4 l rl]; exact el
    · rw [gset_ne (Ne.symm h3'), p4 y h4']
  | succ m ihm =>
    intro i hk hi h ch el e8 hch e6 rl r6 r8
    have cI : i < cs.length := by omega
    have cJ : i < js.length := by omega
    have htk : cs.take (i + 1) = cs.take i ++ [cs[i]] := by rw [List.take_succ, List.getElem?_eq_getElem cI]; rfl
    have hz0 : szL (cs.take (i + 1)) = szL (cs.take i) + szT cs[i] := by rw [htk, szL_append, szL_one]
    have hz1 := szL_take cs (i + 1)
    have hlt := glt el
    have h8t := glt e8
    obtain ⟨N1, s', a, q1, q2, q3, q4, q5⟩ := ih i cI cJ l (left - szL (cs.take i)) h el (by omega) (by omega)
    obtain ⟨a1, a2, a3, a4⟩ := q2.cells
    have hch' : ChAt s' ch (cs.take i) := hch.frame fun R e => q5 R (hch.lt R e) (fun e' => rl (by rw [e, e']))
    obtain ⟨s1, p1, p2, p3, p4⟩ := push_tree hch' (by rw [List.length_take]; omega) q2
    rw [← htk] at p3
    have hlt' : (cs.take (i + 1)).length = (cs.take i).length + 1 := by rw [htk, List.length_append]; rfl
    rw [hlt'] at p3
    have e81 : s1[p8]? = some (52, [I k, .str x, ch]) := by rw [p4 p8 (by omega) r8, q5 p8 h8t n8l]; exact e8
    have el1 : s1[l]? = some (3, [I (left - szL (cs.take (i + 1)) : Nat)]) := by
      rw [p4 l (by omega) rl, q3, hz0, Nat.sub_sub]
    have e61 : s1[p6]? = some (52, [I 0, .str [], .nils]) := by rw [p4 p6 (by have := glt e6; omega) r6, q5 p6 (glt e6) n6l]; exact e6
    have st8 : aStore 1 s1 (.ref p8 2) (.rs 52 3 s'.length 0 ((cs.take i).length + 1)) = some (s1.set p8 (52, [I k, .str x, .rs 52 3 s'.length 0 ((cs.take i).length + 1)])) := by
      rw [ParF.st (n := 1) (o := 2) (v := .rs 52 3 s'.length 0 ((cs.take i).length + 1)) (ty := 52) (cs := [I k, .str x, ch]) e81 (by decide) rfl rfl (Nat.le_refl 3)]; rfl
    have nl : s'.length ≠ l := by omega
    have n6 : s'.length ≠ p6 := by have := glt e6; omega
    have n8 : s'.length ≠ p8 := by omega
    obtain ⟨N2, h', b, k1, k2, k3, k4, k5⟩ := ihm (i + 1) (by omega) (by omega) (s1.set p8 (52, [I k, .str x, .rs 52 3 s'.length 0 ((cs.take i).length + 1)])) (.rs 52 3 s'.length 0 ((cs.take i).length + 1)) (by rw [gset_ne n8l]; exact el1) (gset_eq e81) (p3.frame fun R e => by cases e; rw [gset_ne (Ne.symm n8)])
      (by rw [gset_ne n86]; exact e61) (fun e => nl (by injection e)) (fun e => n6 (by injection e)) (fun e => n8 (by injection e))
    refine ⟨N1 + N2, h', b, fun f hf r hr n' e h29 h28 h27 h2 h8 h6 h3 => ?_, k2, k3, by rw [List.length_set, p2] at k4; omega, fun y hy y1 y2 y3 y4 => ?_⟩
    · obtain ⟨r, rfl⟩ : ∃ t, r = t + 1 := ⟨r - 1, by omega⟩
      have q1 := q1 f (by omega)
      have ix := hc.at (List.getElem?_eq_getElem cJ)
      have cc : (i : Int) < (js.length : Int) := by omega
      have ll : aLoad false false 1 (.ref l 0) h = some (I (left - szL (cs.take i) : Nat), h) := ld (o := 0) (v := I (left - szL (cs.take i) : Nat)) el (by decide) rfl (by decide)
      have z : (0 : Int) ≤ ((left - szL (cs.take i) : Nat) : Int) := by omega
      have nc : ∀ i o, aNilCheck (.ref i o) = some (.ref i o) := fun _ _ => rfl
      have l8 : aLoad false false 1 (.ref p8 2) h = some (ch, h) := by
        rw [ld (o := 2) (v := ch) e8 (by decide) rfl (by decide), hch.strip]
      have lv : ∀ s : Heap, aLoad false true 1 (.box [v] 0) s = some (.agg [v], s) := fun s => rfl
      have bs : aBuildSlice Tryz.prog 50 1 [(0, a)] = some (.sl 52 3 [a] .own) := by
        generalize cs[i] = t at q2
        cases q2 with
        | mk k' x' cs' c' hc' => exact bsT k' x' c'
      obtain ⟨o, ka⟩ := hch.app
      have gw := ParF.wadd1 (a := i) (by omega)
      have hkept : ∀ g ∈ [p8], ∀ l0 ∈ [kept h s'], (l0 : List Nat).contains g = true := by
        intro g hg l0 hl0
        rw [List.mem_singleton] at hg hl0
        subst hg; subst hl0
        exact kept_of h8t (q5 _ h8t n8l)
      rw [aLoop, F66_L0]
      simp -implicitDefEqProofs only [sL, h29, h28, h27, h2, h8, h6, h3, cc, ix, nc, ll, z, l8, lv, hv1, hv2, q1, bs, p1, strip_rs, st8, kStore_ref, ka, noRef_ref, Bool.and_false, Bool.false_and, Bool.true_and, Bool.false_eq_true, if_false, d66_8 p8 hkept]
      refine bld_J i (by omega) ((upds_get _ _ _ rfl).trans h29) fun E E1 E2 E3 E4 E5 E6 E7 => ?_
      exact k1 f (by omega) r (by omega) n' _ E1 (E2.trans ((upds_get _ _ _ rfl).trans h28)) (E3.trans ((upds_get _ _ _ rfl).trans h27)) (E4.trans ((upds_get _ _ _ rfl).trans h2)) (E5.trans ((upds_get _ _ _ rfl).trans h8)) (E6.trans ((upds_get _ _ _ rfl).trans h6)) (E7.trans ((upds_get _ _ _ rfl).trans h3))
    · have hne : rid (.rs 52 3 s'.length 0 ((cs.take i).length + 1)) ≠ some y := by
        intro e
        have e : s'.length = y := Option.some.inj e
        omega
      rw [k5 y (by rw [List.length_set, p2]; omega) y1 y2 y3 hne, gset_ne (Ne.symm y2), p4 y (by omega) y4, q5 y hy y1]
end GrnF
end

section
set_option maxRecDepth 100000
set_option maxHeartbeats 2000000
namespace GrnF
open Go Go.Abs Go.Proofs ParF Pm Gt
theorem rdL_get {A : Ar} : ∀ {ts : List Tree} {js : List Nat}, rdL A ts js → ts.length = js.length ∧ ∀ (i : Nat) (h : i < ts.length) (h' : i < js.length), rd A ts[i] js[i]
  | [], js, h => by rw [rdL_nil] at h; subst h; exact ⟨rfl, fun i h => by simp at h⟩
  | t :: ts, js, h => by
    rw [rdL_cons] at h
    obtain ⟨j, r, rfl, h2, h3⟩ := h
    obtain ⟨k1, k2⟩ := rdL_get h3
    refine ⟨by rw [List.length_cons, List.length_cons, k1], fun i h h' => ?_⟩
    cases i with
    | zero => exact h2
    | succ i => exact k2 i (by simpa using h) (by simpa using h')
theorem put52z (s : Heap) (k : Int) (x : Bytes) (c : AV) (hc : c.strip = c) : aStore 3 (s ++ [(52, [I 0, .str [], .nils])]) (.ref s.length 0) (.agg [I k, .str x, c]) = some (s ++ [(52, [I k, .str x, c])]) := by
  have hst : stCells (.agg [I k, .str x, c]) = [I k, .str x, c] := by show [(I k).strip, (AV.str x).strip, c.strip] = _; rw [hc]; rfl
  rw [ParF.st (n := 3) (o := 0) (v := .agg [I k, .str x, c]) (ty := 52) (cs := [I 0, .str [], .nils]) gapp_new (by decide) rfl rfl (Nat.le_refl 3), hst, set_end]; rfl
theorem build_run {v : AV} {A : Ar} (hv : IsA v A) : ∀ (n : Nat) (T : Tree), szT T ≤ n → ∀ i, rd A T i → BldAt v T i := by
  obtain ⟨v1, v2⟩ := hv.noRef
  intro n
  induction n with
  | zero => intro T hz; cases T; rw [szT_mk] at hz; omega
  | succ n ih =>
    intro T hz i hr l left s el hle hlt
    cases T with
    | mk k x cs =>
    rw [szT_mk] at hz hle
    rw [rd_mk] at hr
    obtain ⟨nd, hn, rfl, rfl, hrl⟩ := hr
    obtain ⟨g1, g2⟩ := rdL_get hrl
    have hll := glt el
    let s1 : Heap := s ++ [(52, [I 0, .str [], .nils])]
    let s2 : Heap := s1.set l (3, [I (left - 1 : Nat)])
    have l1 : s1.length = s.length + 1 := app_length _ _
    have l2 : s2.length = s.length + 1 := by show (s1.set _ _).length = _; rw [List.length_set, l1]
    have el1 : s1[l]? = some (3, [I left]) := by show (s ++ _)[l]? = _; rw [gapp_old hll]; exact el
    -- the node
    obtain ⟨adr, a, p, ix, la, _, _, hN⟩ := (hv.arr s2).get i nd hn
    have hrows : ∃ rows, v = .sl 197 4 rows .sh ∧ IsRow rows A := row_is hv (fun e => by rw [e] at hn; simp at hn)
    obtain ⟨rows, rfl, hrow⟩ := hrows
    obtain ⟨a, r1, r2⟩ := hrow.2 i nd hn
    obtain ⟨c0, c, rfl, ec, hc⟩ := id r2
    obtain ⟨c1, c2, c3⟩ := hc.strip
    let h : Heap := s2 ++ [(197, (nodeA nd c).cells)] ++ [(52, [I nd.kind, .str nd.text, .nils])]
    have lh : h.length = s.length + 3 := by show (s2 ++ _ ++ _).length = _; rw [app_length, app_length, l2]
    have e6 : h[s.length]? = some (52, [I 0, .str [], .nils]) := by
      show (s2 ++ _ ++ _)[s.length]? = _
      rw [gapp_old (by rw [app_length, l2]; omega), gapp_old (by rw [l2]; omega)]
      show (s1.set _ _)[s.length]? = _
      rw [gset_ne (by omega)]; exact gapp_new
    have e8 : h[s.length + 2]? = some (52, [I nd.kind, .str nd.text, .nils]) := gat (by rw [app_length, l2])
    have elh : h[l]? = some (3, [I (left - 1 - szL (cs.take 0) : Nat)]) := by
      show (s2 ++ _ ++ _)[l]? = _
      rw [gapp_old (by rw [app_length, l2]; omega), gapp_old (by rw [l2]; omega), List.take_zero, szL]
      exact gset_eq el1
    obtain ⟨N, h', b, q1, q2, q3, q4, q5⟩ := bld_loop v1 v2 (A := A) (k := nd.kind) (x := nd.text) cs hc g1 (by omega) (fun i hi hi' => ih cs[i] (by have := szL_mem _ (List.getElem_mem hi); omega) _ (g2 i hi hi'))
      (l := l) (p6 := s.length) (p8 := s.length + 2) (left := left - 1) (by omega) (by omega) (by omega) (by omega) (by omega) cs.length 0 (by omega) (by omega) h .nils elh e8 (.inl ⟨rfl, by rw [List.take_zero]⟩) e6 nofun nofun nofun
    refine ⟨N + cs.length + 2, h', b, fun f hf => ?_, q2, by rw [q3, szT_mk, Nat.sub_sub], by omega, fun y hy h1 => ?_⟩
    · obtain ⟨f, rfl⟩ : ∃ j, f = j + 1 := ⟨f - 1, by omega⟩
      have z6 : aAlloc Tryz.prog 52 s = some (.ref s.length 0, s1) := by rw [zero52]
      have nc : ∀ i o, aNilCheck (.ref i o) = some (.ref i o) := fun _ _ => rfl
      have ll : aLoad false false 1 (.ref l 0) s1 = some (I left, s1) := ld (o := 0) (v := I left) el1 (by decide) rfl (by decide)
      have w1 : IntKind.i64.wrap ((left : Int) - 1) = ((left - 1 : Nat) : Int) := by rw [wrap64] <;> omega
      have sl : aStore 1 s1 (.ref l 0) (I (left - 1 : Nat)) = some s2 := by
        rw [ParF.st (n := 1) (o := 0) (v := I (left - 1 : Nat)) (ty := 3) (cs := [I left]) el1 (by decide) rfl rfl (Nat.le_refl 1)]; rfl
      have gx : aIndexAddr Tryz.prog 56 (.sl 197 4 rows .sh) (I i) = some (.box (nodeA nd c0).cells 0) := by simp [aIndexAddr, u56, sz197, r1]
      have gl : ∀ s : Heap, aLoad false true 4 (.box (nodeA nd c0).cells 0) s = some (nodeA nd c0, s) := fun s => rfl
      have z7 : aAlloc Tryz.prog 197 s2 = some (.ref (s.length + 1) 0, s2 ++ [(197, [I 0, I 0, .str [], .nils])]) := by rw [zero197]; show some (AV.ref s2.length 0, _) = _; rw [l2]
      have p7 : aStore 4 (s2 ++ [(197, [I 0, I 0, .str [], .nils])]) (.ref (s.length + 1) 0) (nodeA nd c0) = some (s2 ++ [(197, (nodeA nd c).cells)]) := by
        have := put197 s2 (n := nd) [I 0, I 0, .str [], .nils] ec rfl
        rw [l2] at this; exact this
      have e7 : (s2 ++ [(197, (nodeA nd c).cells)])[s.length + 1]? = some (197, (nodeA nd c).cells) := gat (by rw [l2])
      have lk : aLoad false false 1 (.ref (s.length + 1) 0) (s2 ++ [(197, (nodeA nd c).cells)]) = some (I nd.kind, s2 ++ [(197, (nodeA nd c).cells)]) := ld (o := 0) (v := I nd.kind) e7 (by decide) rfl (by decide)
      have lx : aLoad false false 1 (.ref (s.length + 1) 2) (s2 ++ [(197, (nodeA nd c).cells)]) = some (.str nd.text, s2 ++ [(197, (nodeA nd c).cells)]) := ld (o := 2) (v := .str nd.text) e7 (by decide) rfl (by decide)
      have z8 : aAlloc Tryz.prog 52 (s2 ++ [(197, (nodeA nd c).cells)]) = some (.ref (s.length + 2) 0, s2 ++ [(197, (nodeA nd c).cells)] ++ [(52, [I 0, .str [], .nils])]) := by rw [zero52]; show some (AV.ref (s2 ++ _).length 0, _) = _; rw [app_length, l2]
      have p8 : aStore 3 (s2 ++ [(197, (nodeA nd c).cells)] ++ [(52, [I 0, .str [], .nils])]) (.ref (s.length + 2) 0) (.agg [I nd.kind, .str nd.text, .nils]) = some h := by
        have := put52z (s2 ++ [(197, (nodeA nd c).cells)]) nd.kind nd.text .nils rfl
        rw [app_length, l2] at this; exact this
      have lc : aLoad false false 1 (.ref (s.length + 1) 3) h = some (c, h) := by
        have e7' : h[s.length + 1]? = some (197, (nodeA nd c).cells) := by
          show (s2 ++ _ ++ _)[s.length + 1]? = _
          rw [gapp_old (by rw [app_length, l2]; omega)]; exact e7
        rw [ld (o := 3) (v := c) e7' (by decide) rfl (by decide), c1]
      have sn : (nodeA nd c0).strip = nodeA nd c0 := rfl
      have bxs : ∀ cs, (AV.agg cs).solid = true := fun _ => rfl
      unfold aCall
      rw [if_pos en66, if_neg (by rw [noRefL_cons, noRefL_cons, noRefL_cons, noRef_ref]; simp), F66_eq, F66]
      simp -implicitDefEqProofs only [sL, bxs, z6, nc, ll, w1, sl, strip_sh, gx, gl, z7, sn, p7, lk, lx, bd52, z8, p8, lc, hc.len, c1]
      exact q1 f (by omega) f (by omega) f _ rfl rfl rfl rfl rfl rfl rfl
    · rw [q5 y (by omega) h1 (by omega) (by omega) nofun]
      show (s2 ++ _ ++ _)[y]? = _
      rw [gapp_old (by rw [app_length, l2]; omega), gapp_old (by rw [l2]; omega)]
      show (s1.set _ _)[y]? = _
      rw [gset_ne (fun e => h1 e.symm)]
      exact gapp_old hy
theorem pub_row {h : Heap} {v : AV} {A : Ar} (hv : RowAt h v A) (hne : A ≠ []) : ∃ v' h', aPub (.agg [v]) h = some (.agg [v'], h') ∧ IsA v' A ∧ h'.length = h.length ∧ ∀ y, rid v ≠ some y → h'[y]? = h[y]? := by
  rcases hv with ⟨rfl, rfl⟩ | ⟨R, rows, rfl, h2, h3, _⟩
  · exact absurd rfl hne
  · obtain ⟨rows', er, hr'⟩ := h3.stripped
    have hl := cells_len h3.four
    rw [h3.1] at hl
    have tk : (cellsOf rows).take (A.length * 4) = cellsOf rows := List.take_of_length_le (by omega)
    have hp : (cellsOf rows).all plainC = true := by
      have : ∀ a ∈ rows, a.cells.all plainC = true := by
        intro a ha
        obtain ⟨i, hi⟩ := List.mem_iff_getElem?.1 ha
        have hlt : i < A.length := by rw [← h3.1]; exact (List.getElem?_eq_some_iff.1 hi).1
        obtain ⟨b, h1, h2⟩ := h3.2 i _ (List.getElem?_eq_getElem hlt)
        rw [hi] at h1; cases h1
        exact h2.facts.2.2.2.1
      clear tk hl er hr' h3 h2
      induction rows with
      | nil => rfl
      | cons x rows ih =>
        show (x.cells ++ cellsOf rows).all plainC = true
        rw [List.all_append, this x (List.mem_cons_self ..), ih fun a ha => this a (List.mem_cons_of_mem _ ha)]; rfl
    have hch : chunks 4 A.length (cellsOf rows') = rows' := by
      have h1 := hr'.1
      have : ∀ (A : Ar) (rows' : List AV), IsRow rows' A → chunks 4 A.length (cellsOf rows') = rows' := by
        intro A
        induction A with
        | nil =>
          intro rows' h
          have e : rows' = [] := List.length_eq_zero_iff.1 h.1
          subst e; rfl
        | cons n A ih =>
          intro rows' h
          cases rows' with
          | nil => have := h.1; simp at this
          | cons a rows' =>
            obtain ⟨b, e1, e2⟩ := h.2 0 n rfl
            have e1 : a = b := by simpa using e1
            subst e1
            obtain ⟨f1, f2, f3, f4, f5, f6⟩ := e2.facts
            have hr : IsRow rows' A := ⟨by have := h.1; simpa using this, fun i m hm => by have := h.2 (i + 1) m (by simpa using hm); simpa using this⟩
            have e : cellsOf (a :: rows') = a.cells ++ cellsOf rows' := rfl
            rw [List.length_cons, chunks, if_neg (by decide), e, List.take_append_of_le_length (by omega), List.take_of_length_le (by omega), List.drop_append_of_le_length (by omega), List.drop_of_length_le (by omega), List.nil_append, ih _ hr, ← f5]
      exact this A rows' hr'
    refine ⟨.sl 197 4 rows' .sh, kill h R, ?_, .inl ⟨rows', rfl, hr', hne⟩, kill_length _ _, fun y hy => gkill_ne (fun e => hy (by rw [e]; rfl))⟩
    have p1 : aPub1 (.rs 197 4 R 0 A.length) h = some (.sl 197 4 rows' .sh, kill h R) := by
      unfold aPub1
      simp only [h2, tk, er, hp, hch]
      rw [if_pos ⟨trivial, by decide, by decide, by omega, trivial⟩]
    simp only [aPub, aPubL, p1]
theorem IsA.noRefA {v : AV} {A : Ar} (h : IsA v A) : noRefL [.agg [v]] = true := by rw [noRefL_cons, noRefL_nil, noRef_agg, noRefL_cons, noRefL_nil, h.noRef.1]; rfl
theorem tail_ne (A : Ar) (n : N) : tailA A n ≠ [] := by
  unfold tailA
  split
  · rename_i i h
    intro e; rw [e] at h; cases h
  · simp
theorem Insert_at {v : AV} {A : Ar} (hv : IsA v A) (hF : Fits A) (hV : Val A) (h4 : A.length ≤ 4000) {T : Tree} {a : AV} (hT : IsT T a) (ho : okT T = true) (hsz : szT T ≤ 4000) (hlen : (ins A T).1.length ≤ 4000) (hdp : dpT T ≤ 200) (hsrc : (srcT T).length < 900000000) :
    ∃ v', IsA v' (ins A T).1 ∧ AC C 23 [.agg [v], a] (.tup [.agg [v'], I (ins A T).2, I 0]) := by
  obtain ⟨v1, v2⟩ := hv.noRef
  obtain ⟨a1, a2, a3, a4⟩ := hT.cells
  have hst : a.strip = a := by rw [a4]; rfl
  have hsol : a.solid = true := by rw [a4]; rfl
  obtain ⟨N1, q1⟩ := LexF.AC.at (validate_run hv hF hV h4)
  obtain ⟨N3, q3⟩ := LexF.AC.at (tree_run (szT T) T a (Nat.le_refl _) hT ho (by omega))
  let s1 : Heap := [(58, [.nils]), (3, [I 4000])]
  obtain ⟨N2, q2⟩ := exc_run (szT T) T a (Nat.le_refl _) hT 1 1 4000 s1 rfl (by omega) (by omega) (by omega)
  let s2 : Heap := [(58, [.nils]), (3, [I (4000 - szT T : Nat)])]
  obtain ⟨N4, s3, w, q4, r4, l4, f4, d4⟩ := clone_run hv hF.len hF.cs s2
  let O := s3.length
  let s4 : Heap := s3 ++ [(58, [w])]
  have hrw : rid w ≠ some O := fun e => by have := r4.lt _ e; simp [O] at this
  have r4' : RowAt s4 w A := r4.frame fun R e => gapp_old (r4.lt R e)
  obtain ⟨N5, s5, w', q5, e5, r5, n5, t5⟩ := insert_run (szT T) T a (Nat.le_refl _) hT ho hsrc O w A s4 gapp_new r4' hrw hV hF.cs (by omega)
  obtain ⟨k1, ⟨B, k2, k3⟩, k4⟩ := ins_ok hV ho
  have hne : (ins A T).1 ≠ [] := by intro e; rw [e] at k4; have := rd_lt k4; simp at this
  obtain ⟨v', s6, p6, i6, l6, f6⟩ := pub_row r5 hne
  have ws := r4.strip
  have w's := r5.strip
  have sl1 := r4.solid
  refine ⟨v', i6, .intro en23 (by rw [noRefL_cons, noRefL_cons, noRefL_nil, noRef_agg, noRefL_cons, noRefL_nil, v1, hT.noRef]; rfl) ?_ ⟨N1 + N2 + N3 + N4 + N5 + 1, fun f hf => ?_⟩⟩
  · rw [noRef_tup, noRefL_cons, noRefL_cons, noRefL_cons, noRefL_nil, noRef_agg, noRefL_cons, noRefL_nil, i6.noRef.1]; rfl
  have q1 := q1 f (by omega)
  have q2 : aCall Tryz.prog (den C f) 62 [a, I 1, .ref 1 0] s1 = _ := q2 f (by omega)
  have q3 := q3 f (by omega)
  have q4 := q4 f (by omega)
  have q5 := q5 f (by omega)
  have bxs : ∀ cs, (AV.agg cs).solid = true := fun _ => rfl
  have z0 : aAlloc Tryz.prog 58 [] = some (.ref 0 0, [(58, [.nils])]) := by rw [zero58]; rfl
  have lv : ∀ s : Heap, aLoad false true 1 (.box [v] 0) s = some (.agg [v], s) := fun s => rfl
  have zz : ((0 : Int) != 0) = false := rfl
  have z3 : aAlloc Tryz.prog 3 [(58, [.nils])] = some (.ref 1 0, [(58, [.nils]), (3, [I 0])]) := by
    have h : zeroOf Tryz.prog 3 = some (I 0) := by kernel_rfl
    simp [aAlloc, h]
  have st3 : aStore 1 [(58, [.nils]), (3, [I 0])] (.ref 1 0) (I 4000) = some s1 := rfl
  have la : ∀ s : Heap, aLoad false true 3 (.box a.cells 0) s = some (a, s) := fun s => by
    rw [aLoad_agg _ _ _ _ _ (by omega), List.drop_zero, List.take_of_length_le (by omega), ← a4]
  have es2 : s1.set 1 (3, [I (4000 - szT T : Nat)]) = s2 := rfl
  rw [es2] at q2
  have z58 : aAlloc Tryz.prog 58 s3 = some (.ref O 0, s3 ++ [(58, [.nils])]) := by rw [zero58]
  have st58 : aStore 1 (s3 ++ [(58, [.nils])]) (.ref O 0) (.agg [w]) = some s4 := by
    have hstc : stCells (.agg [w]) = [w] := by show [w.strip] = _; rw [ws]
    rw [ParF.st (n := 1) (o := 0) (v := .agg [w]) (ty := 58) (cs := [.nils]) gapp_new (by decide) rfl rfl (Nat.le_refl 1), hstc]
    exact congrArg some (set_end s3 _ _)
  have lO : aLoad false false 1 (.ref O 0) s5 = some (w', s5) := by
    rw [ld (o := 0) (v := w') e5 (by decide) rfl (by decide), w's]
  have lA : aLoad false true 1 (.ref O 0) s5 = some (.agg [w'], s5) := by
    rw [ldA (o := 0) e5 (by decide) (Nat.le_refl 1) (by decide)]; rfl
  have ln := r5.arr.len
  have zl : ¬ ((4000 : Int) < ((ins A T).1.length : Int)) := by omega
  have pb : pubR (some (AV.agg [w'], s5)) = some (.agg [v'], s6) := by simp [pubR, p6]
  have h0O : (0 : Nat) ≠ O := by simp [O]; have : s2.length = 2 := rfl; omega
  have e50 : s5[0]? = some (58, [.nils]) := by
    have hl2 : s2.length = 2 := rfl
    have h1 : rid w ≠ some 0 := fun e => by have := d4 _ e; omega
    rw [t5.fr 0 (by show 0 < (s3 ++ _).length; rw [app_length]; omega) h0O h1]
    show (s3 ++ _)[0]? = _
    rw [gapp_old (by omega), f4 0 (by omega)]; rfl
  have e60 : s6[0]? = some (58, [.nils]) := by
    rw [f6 0 ?_]; exact e50
    rcases t5.rid with e | ⟨R, e, hR⟩
    · rw [e]; intro e'; have := d4 _ e'; have hl2 : s2.length = 2 := rfl; omega
    · rw [e]; intro e'; cases e'; have : s4.length = s3.length + 1 := app_length _ _; omega
  have st0 : aStore 1 s6 (.ref 0 0) (.agg [v']) = some (s6.set 0 (58, [v'])) := by
    have hstc : stCells (.agg [v']) = [v'] := by show [v'.strip] = _; rw [i6.noRef.2]
    rw [ParF.st (n := 1) (o := 0) (v := .agg [v']) (ty := 58) (cs := [.nils]) e60 (by decide) rfl rfl (Nat.le_refl 1), hstc]; rfl
  have l0 : aLoad false true 1 (.ref 0 0) (s6.set 0 (58, [v'])) = some (.agg [v'], s6.set 0 (58, [v'])) := by
    rw [ldA (o := 0) (gset_eq e60) (by decide) (Nat.le_refl 1) (by decide)]; rfl
  have hbx : aBox false 52 a [] = some (.box a.cells 0, []) := aBox_f _ _ _ hsol
  refine ⟨s6.set 0 (58, [v']), ?_⟩
  rw [F23_eq, F23]
  simp -implicitDefEqProofs only [sL, bxs, hbx, z0, lv, q1, zz, z3, st3, la, hst, q2, q3, q4, z58, st58, q5, lO, ln, zl, lA, pb, st0, l0, List.map_cons, List.map_nil]
theorem Insert_run {v : AV} {A : Ar} (hv : IsA v A) (hF : Fits A) (hV : Val A) (h4 : A.length ≤ 4000) {T : Tree} {a : AV} (hT : IsT T a) (ho : okT T = true) (hsz : A.length + szT T ≤ 4000) (hdp : dpT T ≤ 200) (hsrc : (srcT T).length < 900000000) :
    ∃ v', IsA v' (ins A T).1 ∧ AC C 23 [.agg [v], a] (.tup [.agg [v'], I (ins A T).2, I 0]) := by
  refine Insert_at hv hF hV h4 hT ho (by omega) ?_ hdp hsrc
  obtain ⟨k1, ⟨B, k2, k3⟩, k4⟩ := ins_ok hV ho
  rw [k2, List.length_append]; omega
end GrnF
end

section
set_option maxRecDepth 100000
set_option maxHeartbeats 2000000
namespace GrnF
open Go Go.Abs Go.Proofs ParF Pm Gt
theorem putS (pre : Heap) (k : Int) {a : AV} {T : Tree} (hT : IsT T a) : aStore 3 (pre ++ [(52, [I 0, .str [], .nils])]) (.ref pre.length 0) a = some (pre ++ [(52, a.cells)]) := store_new hT
theorem Tree_run {v : AV} {A : Ar} (hv : IsA v A) (hF : Fits A) (hV : Val A) (h4 : A.length ≤ 4000) {T : Tree} {i : Nat} (hr : rd A T i) (hsz : szT T ≤ 4000) : ∃ b, IsT T b ∧ AC C 24 [.agg [v], I i] (.tup [b, I 0]) := by
  obtain ⟨v1, v2⟩ := hv.noRef
  have hi := rd_lt hr
  let z52 : TypeId × List AV := (52, [I 0, .str [], .nils])
  let s1 : Heap := [z52, (3, [I 4000])]
  obtain ⟨N1, q1⟩ := LexF.AC.at (validate_run hv hF hV h4)
  obtain ⟨N2, s2, b, q2, hT, e1, l2, f2⟩ := build_run hv (szT T) T (Nat.le_refl _) i hr 1 4000 s1 rfl hsz (by omega)
  obtain ⟨b1, b2, b3, b4⟩ := hT.cells
  have hst : b.strip = b := by rw [b4]; rfl
  refine ⟨b, hT, .intro en24 (by rw [noRefL_cons, noRefL_cons, noRefL_nil, noRef_agg, noRefL_cons, noRefL_nil, v1]; rfl) (by rw [noRef_tup, noRefL_cons, noRefL_cons, noRefL_nil, hT.noRef]; rfl) ⟨N1 + N2 + 1, fun f hf => ?_⟩⟩
  have q1 := q1 f (by omega)
  have q2 := q2 f (by omega)
  have bxs : ∀ cs, (AV.agg cs).solid = true := fun _ => rfl
  have z0 : aAlloc Tryz.prog 52 [] = some (.ref 0 0, [z52]) := by rw [zero52]; rfl
  have lv : ∀ s : Heap, aLoad false true 1 (.box [v] 0) s = some (.agg [v], s) := fun s => rfl
  have zz : ((0 : Int) != 0) = false := rfl
  have z1 : ¬ ((i : Int) < 0) := by omega
  have z2 : ¬ ((A.length : Int) ≤ (i : Int)) := by omega
  have ln := (hv.arr [z52]).len
  have z3 : aAlloc Tryz.prog 3 [z52] = some (.ref 1 0, [z52, (3, [I 0])]) := by
    have h : zeroOf Tryz.prog 3 = some (I 0) := by kernel_rfl
    simp [aAlloc, h]
  have st3 : aStore 1 [z52, (3, [I 0])] (.ref 1 0) (I 4000) = some s1 := rfl
  have z8 : aAlloc Tryz.prog 52 s2 = some (.ref s2.length 0, s2 ++ [z52]) := by rw [zero52]
  have st8 : aStore 3 (s2 ++ [z52]) (.ref s2.length 0) b = some (s2 ++ [(52, b.cells)]) := store_new hT
  have hl : s1.length = 2 := rfl
  have e1' : (s2 ++ [(52, b.cells)])[1]? = some (3, [I (4000 - szT T : Nat)]) := by rw [gapp_old (by omega)]; exact e1
  have l3 : aLoad false false 1 (.ref 1 0) (s2 ++ [(52, b.cells)]) = some (I (4000 - szT T : Nat), s2 ++ [(52, b.cells)]) := ld (o := 0) (v := I (4000 - szT T : Nat)) e1' (by decide) rfl (by decide)
  have z4 : ¬ (((4000 - szT T : Nat) : Int) < 0) := by omega
  have l8 : aLoad false true 3 (.ref s2.length 0) (s2 ++ [(52, b.cells)]) = some (b, s2 ++ [(52, b.cells)]) := load52 s2 b b1 b4
  have e0 : (s2 ++ [(52, b.cells)])[0]? = some z52 := by rw [gapp_old (by omega), f2 0 (by omega) (by omega)]; rfl
  have hsol : b.solid = true := by rw [b4]; rfl
  have hstc : stCells b = b.cells := by rw [b4]; exact b2
  have st0 : aStore 3 (s2 ++ [(52, b.cells)]) (.ref 0 0) b = some ((s2 ++ [(52, b.cells)]).set 0 (52, b.cells)) := by
    rw [ParF.st (n := 3) (o := 0) (v := b) (ty := 52) (cs := [I 0, .str [], .nils]) e0 (by decide) hsol b1 (Nat.le_refl 3), hstc]
    have := setL_end [] b.cells [I 0, .str [], .nils] (by rw [b1]; rfl)
    rw [List.nil_append, List.nil_append] at this
    rw [show setL [I 0, .str [], .nils] 0 b.cells = b.cells from this]
  have l0 : aLoad false true 3 (.ref 0 0) ((s2 ++ [(52, b.cells)]).set 0 (52, b.cells)) = some (b, (s2 ++ [(52, b.cells)]).set 0 (52, b.cells)) := by
    rw [ldA (o := 0) (gset_eq e0) (by decide) (by omega) (by decide), List.drop_zero, List.take_of_length_le (by omega), ← b4]
  refine ⟨(s2 ++ [(52, b.cells)]).set 0 (52, b.cells), ?_⟩
  rw [F24_eq, F24]
  simp -implicitDefEqProofs only [sL, bxs, z0, lv, q1, zz, z1, z2, v2, ln, z3, st3, q2, z8, hst, st8, l3, z4, l8, st0, l0, List.map_cons, List.map_nil]
def wide (A : Ar) : Prop := ∀ n ∈ A, n.width < 900000000
mutual
theorem ins_wide : ∀ {t : Tree} {A : Ar}, Val A → okT t = true → wide A → (srcT t).length < 900000000 → wide (ins A t).1
  | .mk k x cs, A, hV, ho, hA, hs => by
    rw [okT, Bool.and_eq_true] at ho
    rw [srcT, List.length_append] at hs
    have h1 := insL_wide hV ho.2 hA (by omega)
    obtain ⟨j1, ⟨B, j2, j3⟩, j4⟩ := insL_ok hV ho.2
    have hw := rdL_width j1 j4
    rw [ins_mk]
    split
    · exact h1
    · intro n hn
      rcases List.mem_append.1 hn with hn | hn
      · exact h1 n hn
      · rw [List.mem_singleton] at hn; subst hn
        show x.length + wOf (insL A cs).1 (insL A cs).2 < _
        omega
theorem insL_wide : ∀ {ts : List Tree} {A : Ar}, Val A → okL ts = true → wide A → (srcL ts).length < 900000000 → wide (insL A ts).1
  | [], A, hV, ho, hA, hs => by rw [insL_nil]; exact hA
  | t :: ts, A, hV, ho, hA, hs => by
    rw [okL, Bool.and_eq_true] at ho
    rw [srcL, List.length_append] at hs
    rw [insL_cons]
    exact insL_wide (ins_ok hV ho.1).1 ho.2 (ins_wide hV ho.1 hA (by omega)) (by omega)
end
theorem ins_fits {A : Ar} {T : Tree} (hF : Fits A) (hV : Val A) (ho : okT T = true) (hsz : A.length + szT T ≤ 4000) (hsrc : (srcT T).length < 900000000) : Fits (ins A T).1 ∧ Val (ins A T).1 ∧ (ins A T).1.length ≤ A.length + szT T ∧ rd (ins A T).1 T (ins A T).2 := by
  obtain ⟨k1, ⟨B, k2, k3⟩, k4⟩ := ins_ok hV ho
  have hl : (ins A T).1.length ≤ A.length + szT T := by rw [k2, List.length_append]; omega
  exact ⟨⟨by omega, ins_small hF.cs (by omega), ins_wide hV ho hF.w hsrc⟩, k1, hl, k4⟩
theorem fits_nil : Fits [] := ⟨by decide, (fun n hn => by cases hn), (fun n hn => by cases hn)⟩
structure Parsed (l : List UInt8) (T : Tree) : Prop where
  file : IsFile (LexF.tokz l) T
  ok : okT T = true
  src : srcT T = l
  sz : szT T ≤ 24 * l.length + 1
  dp : dpT T ≤ 7 + 2 * l.length
theorem parsed_of {l : List UInt8} {T : Tree} (h : IsFile (LexF.tokz l) T) : Parsed l T := by
  obtain ⟨h1, h2, h3, cs, h4⟩ := isFile_facts h
  refine ⟨h, h1, h2, h3, ?_⟩
  obtain ⟨t', es, k1, k2, k3, k4, k5⟩ := h
  have hlt := LexF.tokz_length l
  rw [k3, dpT_mk, dpL_append]
  have := dpL_leaf t'
  omega
theorem parse_at (l : List UInt8) (hl : l.length ≤ 2000) : ∃ T a, Parsed l T ∧ IsT T a ∧ AC C 21 [.str l] (.tup [a, I 0]) := by
  obtain ⟨T, a, hF, hT, hp⟩ := parse_run l hl (fun t ht => by have := tokz_kind l.length l (Nat.le_refl _) t ht; omega)
  exact ⟨T, a, parsed_of hF, hT, hp⟩
end GrnF
end

section
set_option maxRecDepth 100000
set_option maxHeartbeats 2000000
namespace GrnF
open Go Go.Abs Go.Proofs ParF Pm Gt
theorem nil_is : IsA .nils [] := .inr ⟨rfl, rfl⟩
theorem bd58 : aBuild Tryz.prog 58 [] = some (.agg [.nils]) := by kernel_rfl
theorem ldx {s : Heap} {i : Nat} {a : AV} (h : s[i]? = some (52, a.cells)) (h1 : a.cells.length = 3) (h4 : a = .agg a.cells) : aLoad false true 3 (.ref i 0) s = some (a, s) := by
  rw [ldA (o := 0) h (by decide) (by omega) (by decide), List.drop_zero, List.take_of_length_le (by omega), ← h4]
theorem ldv {s : Heap} {i : Nat} {v : AV} (h : s[i]? = some (58, [v])) : aLoad false true 1 (.ref i 0) s = some (.agg [v], s) := by
  rw [ldA (o := 0) h (by decide) (Nat.le_refl 1) (by decide)]; rfl
theorem ldw {s : Heap} {i : Nat} {v : AV} (h : s[i]? = some (58, [v])) (hs : v.strip = v) : aLoad false false 1 (.ref i 0) s = some (v, s) := by
  rw [ld (o := 0) (v := v) h (by decide) rfl (by decide), hs]
theorem stv (s : Heap) {v : AV} (hs : v.strip = v) : aStore 1 (s ++ [(58, [.nils])]) (.ref s.length 0) (.agg [v]) = some (s ++ [(58, [v])]) := by
  have hstc : stCells (.agg [v]) = [v] := by show [v.strip] = _; rw [hs]
  rw [ParF.st (n := 1) (o := 0) (v := .agg [v]) (ty := 58) (cs := [.nils]) gapp_new (by decide) rfl rfl (Nat.le_refl 1), hstc]
  exact congrArg some (set_end s _ _)
theorem al52 (s : Heap) : aAlloc Tryz.prog 52 s = some (.ref s.length 0, s ++ [(52, [I 0, .str [], .nils])]) := by rw [zero52]
theorem al58 (s : Heap) : aAlloc Tryz.prog 58 s = some (.ref s.length 0, s ++ [(58, [.nils])]) := by rw [zero58]
theorem roundTrip_run (l : List UInt8) : AC C 4 [.str l] (.bool true) := by
  have hl : (l.take 80).length ≤ 80 := by rw [List.length_take]; omega
  obtain ⟨T, a, hP, hT, hp⟩ := parse_at (l.take 80) (by omega)
  have hsz := hP.sz
  have hdp := hP.dp
  have hsr : (srcT T).length < 900000000 := by rw [hP.src]; omega
  obtain ⟨f1, f2, f3, f4⟩ := ins_fits fits_nil val_nil hP.ok (by show 0 + _ ≤ _; omega) hsr
  obtain ⟨v1, i1, r1⟩ := Insert_run nil_is fits_nil val_nil (by decide) hT hP.ok (by show 0 + _ ≤ _; omega) (by omega) hsr
  generalize hA : (ins [] T).1 = A at *
  generalize hi : (ins [] T).2 = i at *
  have f3 : A.length ≤ 0 + szT T := f3
  obtain ⟨b, hb, r2⟩ := Tree_run i1 f1 f2 (by omega) f4 (by omega)
  obtain ⟨v2, i2, r3⟩ := Insert_run i1 f1 f2 (by omega) hT hP.ok (by omega) (by omega) hsr
  have hag := ins_again f2 f4
  rw [hag] at i2 r3
  have r4 := validate_run i1 f1 f2 (by omega)
  have r5 := same_run (szT T) T T b a (Nat.le_refl _) hb hT (by omega)
  rw [(eqT_iff T T).2 rfl] at r5
  obtain ⟨N0, q0⟩ := LexF.AC.at ex20
  obtain ⟨N1, q1⟩ := LexF.AC.at (LexF.short_run l 80)
  obtain ⟨N2, q2⟩ := LexF.AC.at hp
  obtain ⟨N3, q3⟩ := LexF.AC.at r1
  obtain ⟨N4, q4⟩ := LexF.AC.at r2
  obtain ⟨N5, q5⟩ := LexF.AC.at r3
  obtain ⟨N6, q6⟩ := LexF.AC.at r4
  obtain ⟨N7, q7⟩ := LexF.AC.at r5
  obtain ⟨a1, a2, a3, a4⟩ := hT.cells
  obtain ⟨b1, b2, b3, b4⟩ := hb.cells
  have hst : a.strip = a := by rw [a4]; rfl
  have hstb : b.strip = b := by rw [b4]; rfl
  have s1 := i1.noRef.2
  have s2 := i2.noRef.2
  let hp1 : Heap := [(52, a.cells)]
  let hp2 : Heap := [(52, a.cells), (58, [v1])]
  let hp3 : Heap := [(52, a.cells), (58, [v1]), (52, b.cells)]
  let hp4 : Heap := [(52, a.cells), (58, [v1]), (52, b.cells), (58, [v2])]
  refine .intro en4 rfl rfl ⟨N0 + N1 + N2 + N3 + N4 + N5 + N6 + N7, fun f hf => ⟨hp4, ?_⟩⟩
  have q0 := q0 f (by omega)
  have q1 : ∀ s, aCall Tryz.prog (den C f) 22 [.str l, I 80] s = some (.str (l.take 80), s) := q1 f (by omega)
  have q2 := q2 f (by omega)
  have q3 := q3 f (by omega)
  have q4 := q4 f (by omega)
  have q5 := q5 f (by omega)
  have q6 := q6 f (by omega)
  have q7 := q7 f (by omega)
  have z0 : aAlloc Tryz.prog 52 [] = some (.ref 0 0, [(52, [I 0, .str [], .nils])]) := al52 []
  have t0 : aStore 3 [(52, [I 0, .str [], .nils])] (.ref 0 0) a = some hp1 := store_new (s := []) hT
  have z1 : aAlloc Tryz.prog 58 hp1 = some (.ref 1 0, hp1 ++ [(58, [.nils])]) := al58 hp1
  have t1 : aStore 1 (hp1 ++ [(58, [.nils])]) (.ref 1 0) (.agg [v1]) = some hp2 := stv hp1 s1
  have z2 : aAlloc Tryz.prog 52 hp2 = some (.ref 2 0, hp2 ++ [(52, [I 0, .str [], .nils])]) := al52 hp2
  have t2 : aStore 3 (hp2 ++ [(52, [I 0, .str [], .nils])]) (.ref 2 0) b = some hp3 := store_new (s := hp2) hb
  have z3 : aAlloc Tryz.prog 58 hp3 = some (.ref 3 0, hp3 ++ [(58, [.nils])]) := al58 hp3
  have t3 : aStore 1 (hp3 ++ [(58, [.nils])]) (.ref 3 0) (.agg [v2]) = some hp4 := stv hp3 s2
  have l10 : aLoad false true 3 (.ref 0 0) hp1 = some (a, hp1) := ldx rfl a1 a4
  have l21 : aLoad false true 1 (.ref 1 0) hp2 = some (.agg [v1], hp2) := ldv rfl
  have l31 : aLoad false true 1 (.ref 1 0) hp3 = some (.agg [v1], hp3) := ldv rfl
  have l30 : aLoad false true 3 (.ref 0 0) hp3 = some (a, hp3) := ldx rfl a1 a4
  have l42 : aLoad false true 3 (.ref 2 0) hp4 = some (b, hp4) := ldx rfl b1 b4
  have l40 : aLoad false true 3 (.ref 0 0) hp4 = some (a, hp4) := ldx rfl a1 a4
  have l43 : aLoad false false 1 (.ref 3 0) hp4 = some (v2, hp4) := ldw rfl s2
  have l41 : aLoad false false 1 (.ref 1 0) hp4 = some (v1, hp4) := ldw rfl s1
  have l41b : aLoad false true 1 (.ref 1 0) hp4 = some (.agg [v1], hp4) := ldv rfl
  have n1 := (i1.arr []).len
  have n2 := (i2.arr []).len
  have e0 : ((0 : Int) == 0) = true := rfl
  have ei : ((i : Int) == (i : Int)) = true := by simp
  have eA : ((A.length : Int) == (A.length : Int)) = true := by simp
  rw [F4_eq, F4]
  simp -implicitDefEqProofs only [sL, q0, q1, q2, hst, hstb, z0, t0, bd58, l10, q3, z1, t1, l21, q4, z2, t2, l31, l30, q5, z3, t3, e0, l42, l40, q7, ei, l43, l41, n1, n2, eA, l41b, q6]
end GrnF
end

section
set_option maxRecDepth 100000
set_option maxHeartbeats 2000000
namespace GrnF
open Go Go.Abs Go.Proofs ParF Pm Gt
theorem eqB (x y : Bool) : aBin Tryz.prog .eql 4 (.bool x) (.bool y) = some (.bool (x == y)) := by
  have u : Tryz.prog.underlying 4 = some .bool := by kernel_rfl
  have : aEq Tryz.prog 6 4 (.bool x) (.bool y) = some (x == y) := by simp [aEq, u]
  simp [aBin, this, eqOp]
theorem identity_run (l m : List UInt8) : AC C 5 [.str l, .str m] (.bool true) := by
  have hl : (l.take 80).length ≤ 80 := by rw [List.length_take]; omega
  have hm : (m.take 80).length ≤ 80 := by rw [List.length_take]; omega
  obtain ⟨T, a, hP, hT, hp⟩ := parse_at (l.take 80) (by omega)
  obtain ⟨U, b, hQ, hU, hq⟩ := parse_at (m.take 80) (by omega)
  have hsz := hP.sz
  have hdp := hP.dp
  have hsr : (srcT T).length < 900000000 := by rw [hP.src]; omega
  have hsz2 := hQ.sz
  have hdp2 := hQ.dp
  have hsr2 : (srcT U).length < 900000000 := by rw [hQ.src]; omega
  obtain ⟨f1, f2, f3, f4⟩ := ins_fits fits_nil val_nil hP.ok (by show 0 + _ ≤ _; omega) hsr
  obtain ⟨v1, i1, r1⟩ := Insert_run nil_is fits_nil val_nil (by decide) hT hP.ok (by show 0 + _ ≤ _; omega) (by omega) hsr
  generalize hA : (ins [] T).1 = A at *
  generalize hi : (ins [] T).2 = i at *
  have f3 : A.length ≤ 0 + szT T := f3
  obtain ⟨g1, g2, g3, g4⟩ := ins_fits f1 f2 hQ.ok (by omega) hsr2
  obtain ⟨v2, i2, r3⟩ := Insert_run i1 f1 f2 (by omega) hU hQ.ok (by omega) (by omega) hsr2
  have hpre : ∃ B, (ins A U).1 = A ++ B := by obtain ⟨_, ⟨B, e, _⟩, _⟩ := ins_ok f2 hQ.ok; exact ⟨B, e⟩
  obtain ⟨B, hB⟩ := hpre
  have f4' : rd (ins A U).1 T i := by rw [hB]; exact rd_app _ _ _ _ f4
  generalize hj : (ins A U).2 = j at *
  have key : ((i : Int) == (j : Int)) = eqT T U := by
    rw [Bool.eq_iff_iff, eqT_iff]
    constructor
    · intro h
      have h : (i : Int) = (j : Int) := eq_of_beq h
      have h : i = j := by omega
      subst h
      exact rd_fun f4' g4
    · intro h
      subst h
      have := rd_inj g2 f4' g4
      subst this; simp
  have r5 := same_run (szT T) T U a b (Nat.le_refl _) hT hU (by omega)
  obtain ⟨N0, q0⟩ := LexF.AC.at ex20
  obtain ⟨N1, q1⟩ := LexF.AC.at (LexF.short_run l 80)
  obtain ⟨N1b, q1b⟩ := LexF.AC.at (LexF.short_run m 80)
  obtain ⟨N2, q2⟩ := LexF.AC.at hp
  obtain ⟨N2b, q2b⟩ := LexF.AC.at hq
  obtain ⟨N3, q3⟩ := LexF.AC.at r1
  obtain ⟨N5, q5⟩ := LexF.AC.at r3
  obtain ⟨N7, q7⟩ := LexF.AC.at r5
  obtain ⟨a1, a2, a3, a4⟩ := hT.cells
  obtain ⟨b1, b2, b3, b4⟩ := hU.cells
  have hst : a.strip = a := by rw [a4]; rfl
  have hstb : b.strip = b := by rw [b4]; rfl
  have s1 := i1.noRef.2
  have s2 := i2.noRef.2
  let hp1 : Heap := [(52, a.cells)]
  let hp2 : Heap := [(52, a.cells), (52, b.cells)]
  let hp3 : Heap := [(52, a.cells), (52, b.cells), (58, [v1])]
  let hp4 : Heap := [(52, a.cells), (52, b.cells), (58, [v1]), (58, [v2])]
  refine .intro en5 rfl rfl ⟨N0 + N1 + N1b + N2 + N2b + N3 + N5 + N7, fun f hf => ⟨hp4, ?_⟩⟩
  have q0 := q0 f (by omega)
  have q1 : ∀ s, aCall Tryz.prog (den C f) 22 [.str l, I 80] s = some (.str (l.take 80), s) := q1 f (by omega)
  have q1b : ∀ s, aCall Tryz.prog (den C f) 22 [.str m, I 80] s = some (.str (m.take 80), s) := q1b f (by omega)
  have q2 := q2 f (by omega)
  have q2b := q2b f (by omega)
  have q3 := q3 f (by omega)
  have q5 := q5 f (by omega)
  have q7 := q7 f (by omega)
  have z0 : aAlloc Tryz.prog 52 [] = some (.ref 0 0, [(52, [I 0, .str [], .nils])]) := al52 []
  have t0 : aStore 3 [(52, [I 0, .str [], .nils])] (.ref 0 0) a = some hp1 := store_new (s := []) hT
  have z2 : aAlloc Tryz.prog 52 hp1 = some (.ref 1 0, hp1 ++ [(52, [I 0, .str [], .nils])]) := al52 hp1
  have t2 : aStore 3 (hp1 ++ [(52, [I 0, .str [], .nils])]) (.ref 1 0) b = some hp2 := store_new (s := hp1) hU
  have z1 : aAlloc Tryz.prog 58 hp2 = some (.ref 2 0, hp2 ++ [(58, [.nils])]) := al58 hp2
  have t1 : aStore 1 (hp2 ++ [(58, [.nils])]) (.ref 2 0) (.agg [v1]) = some hp3 := stv hp2 s1
  have z3 : aAlloc Tryz.prog 58 hp3 = some (.ref 3 0, hp3 ++ [(58, [.nils])]) := al58 hp3
  have t3 : aStore 1 (hp3 ++ [(58, [.nils])]) (.ref 3 0) (.agg [v2]) = some hp4 := stv hp3 s2
  have l20 : aLoad false true 3 (.ref 0 0) hp2 = some (a, hp2) := ldx rfl a1 a4
  have l32 : aLoad false true 1 (.ref 2 0) hp3 = some (.agg [v1], hp3) := ldv rfl
  have l31 : aLoad false true 3 (.ref 1 0) hp3 = some (b, hp3) := ldx rfl b1 b4
  have l40 : aLoad false true 3 (.ref 0 0) hp4 = some (a, hp4) := ldx rfl a1 a4
  have l41 : aLoad false true 3 (.ref 1 0) hp4 = some (b, hp4) := ldx rfl b1 b4
  have e0 : ((0 : Int) == 0) = true := rfl
  have ee : (eqT T U == eqT T U) = true := by simp
  rw [F5_eq, F5]
  simp -implicitDefEqProofs only [sL, q0, q1, q1b, q2, q2b, hst, hstb, z0, t0, z2, t2, bd58, l20, q3, z1, t1, l32, l31, q5, z3, t3, e0, key, l40, l41, q7, eqB, ee]
theorem mod_run (x : Int) (m : Nat) (h0 : 0 < m) (hm : m < 1000000) : ∃ r : Nat, r < m ∧ AC C 27 [I x, I m] (I r) := by
  have hne : ¬ ((m : Int) = 0) := by omega
  have b1 := Int.tmod_lt_of_pos x (show (0 : Int) < (m : Int) by omega)
  have b2 : -(m : Int) < x.tmod m := by
    have := Int.tmod_lt_of_pos (-x) (show (0 : Int) < (m : Int) by omega)
    rw [Int.neg_tmod] at this; omega
  have hr : aBin Tryz.prog .rem 3 (I x) (I m) = some (I (x.tmod m)) := by
    have hne' : m ≠ 0 := by omega
    simp [aBin, intBin, hne']
  by_cases hz : x.tmod m < 0
  · refine ⟨(x.tmod m + m).toNat, by omega, .intro en27 rfl rfl ⟨0, fun f hf => ⟨[], ?_⟩⟩⟩
    have w : IntKind.i64.wrap (x.tmod m + (m : Int)) = ((x.tmod m + m).toNat : Int) := by rw [wrap64] <;> omega
    rw [F27_eq, F27]
    simp -implicitDefEqProofs only [sL, hr, hz, w]
    try rw [F27_J0]
    try simp -implicitDefEqProofs only [sL, upds_at, upds_nil, upd_at, if_true]
    try rfl
  · refine ⟨(x.tmod m).toNat, by omega, .intro en27 rfl rfl ⟨0, fun f hf => ⟨[], ?_⟩⟩⟩
    have w : ((x.tmod m).toNat : Int) = x.tmod m := by omega
    rw [F27_eq, F27, w]
    simp -implicitDefEqProofs only [sL, hr, hz]
    try rfl
theorem sl_take {s : List UInt8} {i : Nat} (h1 : i ≤ s.length) : aSl Tryz.prog 9 (.str s) none (some (I i)) none = some (.str (s.take i)) := LexF.subTake h1
theorem sl_drop {s : List UInt8} {i : Nat} (h1 : i ≤ s.length) : aSl Tryz.prog 9 (.str s) (some (I i)) none none = some (.str (s.drop i)) := by
  simp [aSl, LexF.under9, aSubstr, aBound, h1]
theorem splice_run (l t : List UInt8) (a b : Nat) (hab : a ≤ l.length) (hbl : b ≤ l.length) (hs : l.length + t.length < 1000000) : AC C 28 [.str l, .agg [I a, I b, .str t]] (.str (l.take a ++ t ++ l.drop b)) := by
  refine .intro en28 (by simp [noRefL, AV.noRef]) rfl ⟨0, fun f hf => ⟨[], ?_⟩⟩
  have e1 := sl_take hab
  have e2 := sl_drop hbl
  have e3 := str_add Tryz.prog 9 (a := l.take a) (b := t) (by rw [List.length_take]; omega)
  have e4 := str_add Tryz.prog 9 (a := l.take a ++ t) (b := l.drop b) (by rw [List.length_append, List.length_take, List.length_drop]; omega)
  rw [F28_eq, F28]
  simp -implicitDefEqProofs only [sL, e1, e2, e3, e4, d28_1]
end GrnF
end
