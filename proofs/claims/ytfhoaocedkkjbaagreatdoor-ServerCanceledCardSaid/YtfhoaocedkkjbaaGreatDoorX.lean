/- ExtI0, InsK, DelK -/
import Derived.Test.YtfhoaocedkkjbaaGreatDoorB
import Derived.Test.YtfhoaocedkkjbaaGreatDoorD
import Derived.Shelf.Spec.SlicesInsertGrow
import Derived.Shelf.RegionOpenPlain
import Derived.WalkKit
import Derived.Deep.RegionLaw
import Derived.Lib.Walk
import Derived.Lib.SliceRun
set_option linter.all false

section
namespace Go.Proofs
open Go Go.Lib Go.RowKit
theorem run_copy_z {P : Program} (w : World) (dT sT ty elem : TypeId) (z : Nat) (b o dLen dCap : Nat) (a : Addr) (sLen sCap : Nat) (cs : List Value)
    (hu : P.underlying dT = some (.slice elem)) (hs : (P.info? elem).map (·.size) = some z) (hn : cs.length = Nat.min sLen dLen * z)
    (hsrc : ∀ j v, cs[j]? = some v → w.cell? (a.add j) = some v) (hc : ∀ j, j < cs.length → (w.cell? ⟨b, o + j, none⟩).isSome = true) (hf : ∀ j, j < cs.length → w.frozen? ⟨b, o + j, none⟩ = false) (h1 : ∀ v ∈ cs, v.oneCell' = true) :
    (Builtin.copy_ #[dT, sT] ty #[.slice (some ⟨b, o, none⟩) dLen dCap, .slice (some a) sLen sCap]).run P w = .ok (goInt (Nat.min sLen dLen)) (w.setCells b o cs) := by
  have hl := run_loadCells_list (P := P) w a cs hsrc
  have hst := run_storeCells_cells (P := P) b o cs 0 w (by simpa using hc) (by simpa using hf) h1
  cases hq : P.info? elem with
  | none => simp [hq] at hs
  | some i =>
    have hi : i.size = z := by simpa [hq] using hs
    simp [Builtin.copy_, run_underlying hu, Builtin.lenOf, Builtin.firstCells, sizeOf, typeInfo, hq, hi, ← hn, hl, hst]
theorem run_overlaps_unfrozen {P : Program} (w : World) (tS tR e : TypeId) (ht : P.underlying tS = some (.slice e)) (size : Nat) (hz : ∀ w, (Go.sizeOf e).run P w = .ok size w)
    (a b : Addr) (la ca lb cb : Nat) (hne : a.block ≠ b.block) (tA tB : TypeId) (kA kB : Nat)
    (hsa : w.shape? a.block = some (tA, kA)) (hsb : w.shape? b.block = some (tB, kB)) (hkA : kA ≠ 0) (hkB : kB ≠ 0)
    (hfb : w.frozen? b = false) (hfe : w.frozen? { block := b.block, off := kB } = false) :
    (Extern.SlicesOverlaps.overlaps #[tS, tS] #[tR] #[.slice (some a) la ca, .slice (some b) lb cb]).run P w = .ok (.bool false) w := by
  have hnb : (a.block != b.block) = true := by simpa using hne
  have hnb' : (a.block == b.block) = false := by simpa using hne
  change Sem.run P (α := Value) (do
    let some t := (#[tS, tS] : Array TypeId)[0]? | stuck "slices.overlaps: no parameter types"
    let .slice elem ← underlying t | stuck "slices.overlaps: slice type expected"
    let size ← sizeOf elem
    match (some a : Option Addr), (some b : Option Addr) with
    | some a, some b =>
      if la = 0 ∨ lb = 0 ∨ size = 0 then pure (Value.bool false)
      else if a.block != b.block && (← frozen a) && (← frozen b) then unsupported .addressObserved
      else do
        if a.block != b.block then do
          noView a; noView b
          if ← mayBeOne a b then return Value.bool ((← choose _) == 1)
        pure (Value.bool (a.block == b.block && a.off < b.off + lb * size && b.off < a.off + la * size))
    | _, _ => pure (Value.bool false)) w = _
  by_cases h0 : la = 0 ∨ lb = 0 ∨ size = 0
  · simp [run_underlying ht, hz, h0]
  · cases kB with
    | zero => exact absurd rfl hkB
    | succ kB =>
      cases kA with
      | zero => exact absurd rfl hkA
      | succ kA =>
        cases hfa : w.frozen? a <;> cases hfa2 : w.frozen? { block := a.block, off := kA + 1 } <;>
        simp [run_underlying ht, hz, h0, hnb, hnb', frozen, noView, viewAt, mayBeOne, stringish, shape, Sem.run, hsa, hsb, hfa, hfa2, hfb, hfe]
end Go.Proofs
end

section
namespace Go.Proofs
open Go Go.Lib Go.RowKit
theorem ins_u66 : Tryz.prog.underlying 46 = some (.slice 45) := by kernel_rfl
theorem ins_z66 : (Tryz.prog.info? 45).map (·.size) = some 2 := by kernel_rfl
set_option maxHeartbeats 4000000 in
set_option maxRecDepth 100000 in
theorem ins_end66 (base : Option Addr) (n c : Nat) (A : Addr) (vc : Nat) (q : Value) (w w' : World) (hn : n < 1000000) (hb : base = none → n = 0)
    (hap : ∀ ty, (Builtin.append_ #[46, 46] ty #[.slice base n c, .slice (some A) 1 vc]).run Tryz.prog w = .ok q w') :
    Calls Tryz.prog 66 #[.slice base n c, .int .i64 n, .slice (some A) 1 vc] w fun e w2 => e = .returned q ∧ w2 = w' := by
  have mixed : Tryz.prog.follows Departure.mixedOrders = true := by kernel_rfl
  have hz1 : ¬ ((1 : Int) = 0) := by omega
  cases base with
  | none =>
    cases hb rfl
    go_enter Tryz.func66, Tryz.ntmps66
    go_wp2_with (at_builtin; refine Lib.wpList_append_run _ rfl _ _ _ _ rfl _ _ rfl rfl _ _ (hap _) ?_)
    all_goals (go_ret; exact ⟨rfl, rfl⟩)
  | some a =>
    go_enter Tryz.func66, Tryz.ntmps66
    go_wp2_with (at_builtin; refine Lib.wpList_append_run _ rfl _ _ _ _ rfl _ _ rfl rfl _ _ (hap _) ?_)
    all_goals (go_ret; exact ⟨rfl, rfl⟩)
set_option maxHeartbeats 4000000 in
set_option maxRecDepth 100000 in
theorem ins_shift66 (b off n c i vb voff vc : Nat) (cs vs : List Value) (w : World) (hi : i < n) (hroom : n + 1 ≤ c) (hn : n < 1000000) (hvb : vb ≠ b)
    (hcl : cs.length = (n - i) * 2) (hvl : vs.length = 2)
    (hcs : ∀ j v, cs[j]? = some v → w.cell? ⟨b, off + i * 2 + j, none⟩ = some v) (hsp : ∀ j, j < (n + 1) * 2 → (w.cell? ⟨b, off + j, none⟩).isSome = true) (hfz : ∀ j, w.frozen? ⟨b, j, none⟩ = false)
    (hvs : ∀ j v, vs[j]? = some v → w.cell? ⟨vb, voff + j, none⟩ = some v) (h1c : ∀ v ∈ cs, v.oneCell' = true) (h1v : ∀ v ∈ vs, v.oneCell' = true)
    (tA tB : TypeId) (kA kB : Nat) (hsa : w.shape? vb = some (tA, kA)) (hsb : w.shape? b = some (tB, kB)) (hkA : kA ≠ 0) (hkB : kB ≠ 0) :
    Calls Tryz.prog 66 #[.slice (some ⟨b, off, none⟩) n c, .int .i64 i, .slice (some ⟨vb, voff, none⟩) 1 vc] w fun e w' =>
      e = .returned (.slice (some ⟨b, off, none⟩) (n + 1) c) ∧ w' = (w.drew.setCells b (off + (i + 1) * 2) cs).setCells b (off + i * 2) vs := by
  have mixed : Tryz.prog.follows Departure.mixedOrders = true := by kernel_rfl
  have hz1 : ¬ ((1 : Int) = 0) := by omega
  have hz2 : ¬ ((i : Int) = (n : Int)) := by omega
  have hov : ∀ lb cb, (callFunc 84 #[.slice (some ⟨vb, voff, none⟩) 1 vc, .slice (some ⟨b, off + (i + 1) * 2, none⟩) lb cb]).run Tryz.prog w = .ok (.value (.bool false)) w := fun lb cb => by
    rw [run_callFunc_extern Tryz.func84 (by kernel_rfl) (by kernel_rfl) (by kernel_rfl) (e := Extern.SlicesOverlaps.overlaps #[46, 46] #[4]) (by kernel_rfl),
      run_overlaps_unfrozen w 46 4 45 ins_u66 2 Tryz.sizeOf45 ⟨vb, voff, none⟩ ⟨b, off + (i + 1) * 2, none⟩ 1 vc lb cb hvb tA tB kA kB hsa hsb hkA hkB (hfz _) (hfz _)]
    rfl
  have hcp1 : ∀ ty dc sc, (Builtin.copy_ #[46, 46] ty #[.slice (some ⟨b, off + (i + 1) * 2, none⟩) (n - i) dc, .slice (some ⟨b, off + i * 2, none⟩) (n + 1 - i) sc]).run Tryz.prog w.drew = .ok (goInt (Nat.min (n + 1 - i) (n - i))) (w.drew.setCells b (off + (i + 1) * 2) cs) := fun ty dc sc =>
    run_copy_z w.drew _ _ ty 45 2 b (off + (i + 1) * 2) (n - i) dc ⟨b, off + i * 2, none⟩ (n + 1 - i) sc cs ins_u66 ins_z66 (by rw [hcl]; congr 1; simp only [Nat.min_def]; split <;> omega)
      (fun j v hj => by rw [Addr.add_lit]; exact hcs j v hj)
      (fun j hj => by rw [Nat.add_assoc]; exact hsp _ (by rw [hcl] at hj; omega)) (fun j hj => hfz _) h1c
  obtain ⟨W1, hW1⟩ : ∃ W1, W1 = w.drew.setCells b (off + (i + 1) * 2) cs := ⟨_, rfl⟩
  have hsp1 : ∀ k, k < (n + 1) * 2 → (W1.cell? ⟨b, off + k, none⟩).isSome = true := fun k hk => by
    rw [hW1]
    exact isSome_setCells b _ _ _ (fun j hj => by rw [Nat.add_assoc]; exact hsp _ (by rw [hcl] at hj; omega)) _ (hsp k hk)
  have hmin : Nat.min 1 (n + 1 - i) = 1 := by simp only [Nat.min_def]; split <;> omega
  have hcp2 : ∀ (W : World), (∀ x, W.cell? x = W1.cell? x) → (∀ x, W.frozen? x = W1.frozen? x) → ∀ ty dc, (Builtin.copy_ #[46, 46] ty #[.slice (some ⟨b, off + i * 2, none⟩) (n + 1 - i) dc, .slice (some ⟨vb, voff, none⟩) 1 vc]).run Tryz.prog W = .ok (goInt (Nat.min 1 (n + 1 - i))) (W.setCells b (off + i * 2) vs) := fun W hWc hWf ty dc =>
    run_copy_z W _ _ ty 45 2 b (off + i * 2) (n + 1 - i) dc ⟨vb, voff, none⟩ 1 vc vs ins_u66 ins_z66 (by rw [hvl, hmin])
      (fun j v hj => by
        rw [Addr.add_lit, hWc, hW1, World.cell?_setCells_out b _ _ _ _ (fun h _ => absurd h hvb)]
        exact hvs j v hj)
      (fun j hj => by rw [hWc, Nat.add_assoc]; exact hsp1 _ (by rw [hvl] at hj; omega)) (fun j hj => by rw [hWf, hW1, World.frozen?_setCells]; exact hfz _) h1v
  rw [← hW1] at hcp1
  have hb1 : (0 : Int) ≤ (i : Int) + 1 := by omega
  have hin : i ≤ n := by omega
  have hb2 : ¬ (c = i + 1) := by omega
  have hb3 : (i : Int) ≤ (n : Int) + 1 := by omega
  have hb4 : ¬ (c = i) := by omega
  have hw1 : IntKind.i64.wrap ((i : Int) + 1) = (i : Int) + 1 := by rw [IntKind.wrap_i64]; omega
  clear hmin hcs hsp hfz hvs h1c h1v hsp1 hcl hvl
  skip
  go_enter Tryz.func66, Tryz.ntmps66
  go_wp2_with (simp only [hov])
  go_region_law_o (refine step_copy_runI rfl _ _ 46 46 rfl _ _ (by simp [Act.eval, Act.put]) (by simp [Act.eval, Act.put]) (hcp1 _ _ _) ?_)
  all_goals (go_wp2_with (at_builtin; refine wpList_copy_runI _ rfl _ _ 46 46 rfl _ _ rfl rfl (hcp2 _ (fun _ => rfl) (fun _ => rfl) _ _) ?_))
  all_goals go_ret
  all_goals first | exact ⟨rfl, rfl⟩ | exact ⟨rfl, by rw [hW1]⟩ | exact ⟨rfl, by simp only [Nat.mul_one]⟩
set_option maxHeartbeats 4000000 in
set_option maxRecDepth 100000 in
theorem ins_grow66 (b off n c i vb voff vc : Nat) (os cs vs : List Value) (w : World) (hi : i < n) (hnc : n ≤ c) (hroom : c < n + 1) (hn : n < 1000000) (hvb : vb ≠ b) (z : Value) (i0 : TypeInfo) (hi0 : Tryz.prog.info? 45 = some i0) (hz0 : i0.zero = some z) (hzs : i0.size = 2) (hzb : i0.bytes ≤ 1000) (hzc : z.cells.size = 2)
    (hol : os.length = i * 2) (hcl : cs.length = (n - i) * 2) (hvl : vs.length = 2)
    (hos : ∀ j v, os[j]? = some v → w.cell? ⟨b, off + j, none⟩ = some v) (hcs : ∀ j v, cs[j]? = some v → w.cell? ⟨b, off + i * 2 + j, none⟩ = some v)
    (hvs : ∀ j v, vs[j]? = some v → w.cell? ⟨vb, voff + j, none⟩ = some v) (h1c : ∀ v ∈ cs, v.oneCell' = true) (h1v : ∀ v ∈ vs, v.oneCell' = true) :
    Calls Tryz.prog 66 #[.slice (some ⟨b, off, none⟩) n c, .int .i64 i, .slice (some ⟨vb, voff, none⟩) 1 vc] w fun e w' =>
      e = .returned (.slice (some ⟨w.heap.size, 0, none⟩) (n + 1) (grownCap w (n + 1) c 45)) ∧
      w' = (((w.alloc (.cells (os.toArray ++ Builtin.zeroCells z.cells (n + 1 - i) ++ Builtin.zeroCells z.cells (grownCap w (n + 1) c 45 - (n + 1))) 45)).drew.setCells w.heap.size (i * 2) vs).drew).setCells w.heap.size ((i + 1) * 2) cs := by
  have mixed : Tryz.prog.follows Departure.mixedOrders = true := by kernel_rfl
  have hz1 : ¬ ((1 : Int) = 0) := by omega
  have hz2 : ¬ ((i : Int) = (n : Int)) := by omega
  have hbw : b < w.heap.size := block_lt_of_cell (hcs 0 _ (List.getElem?_eq_getElem (by omega)))
  have hvw : vb < w.heap.size := block_lt_of_cell (hvs 0 _ (List.getElem?_eq_getElem (by omega)))
  have hold : (Builtin.firstCells i0.size i (.slice (some ⟨b, off, none⟩) i c)).run Tryz.prog w.drew = .ok os.toArray w.drew := by
    rw [hzs]
    exact run_firstCells_some w.drew 2 i ⟨b, off, none⟩ i c os hol (fun j v hj => by
      rw [Addr.add_lit]; exact hos j v hj)
  have hik : i + (n + 1 - i) = n + 1 := by omega
  have hbig : (n + 1) * i0.bytes ≤ 140737488355328 := Nat.le_trans (Nat.mul_le_mul (show n + 1 ≤ 1000000 by omega) hzb) (by decide)
  have hrz : ∀ ty, (Builtin.append_ #[46, 3] ty #[.slice (some ⟨b, off, none⟩) i c, .int .i64 ((n : Int) + 1 - (i : Int))]).run Tryz.prog w =
      .ok (.slice (some ⟨w.heap.size, 0, none⟩) (n + 1) (grownCap w (n + 1) c 45)) (w.drew.alloc (.cells (os.toArray ++ Builtin.zeroCells z.cells (n + 1 - i) ++ Builtin.zeroCells z.cells (grownCap w (n + 1) c 45 - (n + 1))) 45)) := fun ty => by
    have hf : Builtin.nextslicecap (n + 1) c * i0.bytes ≤ 281474976710656 := growslice_fits (need := n + 1) (old := c) (bytes := i0.bytes) hroom hbig
    have hf2 : (n + 1 - i) * i0.bytes ≤ 281474976710656 := Nat.le_trans (Nat.mul_le_mul_right _ (by omega)) (Nat.le_trans hbig (by decide))
    have hf3 : 0 < i0.size := by omega
    have hf4 : ((i + (n + 1 - i) : Nat) : Int) ≤ 9223372036854775807 := by omega
    have h := Lib.run_append_grow_zeros (P := Tryz.prog) w 46 3 ty 45 i0 z .i64 .i64 ins_u66 Tryz.underlying3 hi0 hz0 (some ⟨b, off, none⟩) i c os hold (n + 1 - i) (by omega) hf3 (by omega) hf4 hf2 (by rw [hik]; exact hf)
    rw [hik] at h
    rw [show (n : Int) + 1 - (i : Int) = ((n + 1 - i : Nat) : Int) by omega]
    exact h
  obtain ⟨G, hG⟩ : ∃ G, G = grownCap w (n + 1) c 45 := ⟨_, rfl⟩
  obtain ⟨ROW, hROW⟩ : ∃ ROW : Array Value, ROW = os.toArray ++ Builtin.zeroCells z.cells (n + 1 - i) ++ Builtin.zeroCells z.cells (G - (n + 1)) := ⟨_, rfl⟩
  rw [← hG] at hrz ⊢
  rw [← hROW] at hrz ⊢
  have hRl : (n + 1) * 2 ≤ ROW.size := by
    rw [hROW]
    simp [Builtin.zeroCells, hzc, hol]
    omega
  obtain ⟨W1, hW1⟩ : ∃ W1, W1 = w.drew.alloc (.cells ROW 45) := ⟨_, rfl⟩
  rw [← hW1] at hrz
  have hN : ∀ j, j < (n + 1) * 2 → (W1.cell? ⟨w.heap.size, j, none⟩).isSome = true := fun j hj => by
    rw [hW1, World.cell?_alloc_at (w := w.drew) ROW _ w.heap.size j rfl, Array.getElem?_eq_getElem (by omega)]; rfl
  have hNf : ∀ j, W1.frozen? ⟨w.heap.size, j, none⟩ = false := fun j => by rw [hW1]; exact World.frozen?_alloc_at (w := w.drew) ROW _ w.heap.size j rfl
  have hOb : ∀ j v, w.cell? ⟨b, j, none⟩ = some v → W1.cell? ⟨b, j, none⟩ = some v := fun j v h => by rw [hW1, World.cell?_alloc_past (w := w.drew) _ b j hbw]; exact h
  have hOv : ∀ j v, w.cell? ⟨vb, j, none⟩ = some v → W1.cell? ⟨vb, j, none⟩ = some v := fun j v h => by rw [hW1, World.cell?_alloc_past (w := w.drew) _ vb j hvw]; exact h
  have hmin : Nat.min 1 (n + 1 - i) = 1 := by simp only [Nat.min_def]; split <;> omega
  have hcpA : ∀ (W : World), (∀ x, W.cell? x = W1.cell? x) → (∀ x, W.frozen? x = W1.frozen? x) → ∀ ty dc, (Builtin.copy_ #[46, 46] ty #[.slice (some ⟨w.heap.size, i * 2, none⟩) (n + 1 - i) dc, .slice (some ⟨vb, voff, none⟩) 1 vc]).run Tryz.prog W = .ok (goInt (Nat.min 1 (n + 1 - i))) (W.setCells w.heap.size (i * 2) vs) := fun W hWc hWf ty dc =>
    run_copy_z W _ _ ty 45 2 w.heap.size (i * 2) (n + 1 - i) dc ⟨vb, voff, none⟩ 1 vc vs ins_u66 ins_z66 (by rw [hvl, hmin])
      (fun j v hj => by rw [Addr.add_lit, hWc]; exact hOv _ v (hvs j v hj))
      (fun j hj => by rw [hWc]; exact hN _ (by rw [hvl] at hj; omega)) (fun j hj => by rw [hWf]; exact hNf _) h1v
  have hGn : n + 1 ≤ G := by rw [hG]; exact grownCap_ge w _ _ _
  have hG63 : G ≤ 9223372036854775807 := by
    have := grownCap_le_maxLen w (n + 1) c 45 (by unfold maxLen; omega)
    rw [← hG] at this
    unfold maxLen at this
    omega
  have hGi : ¬ (G = i) := by omega
  have hGim : ¬ (G = i + 1) := by omega
  have hci : ¬ (c = i) := by omega
  have hbN : b ≠ w.heap.size := by omega
  have hcpB : ∀ (W : World), (∀ x, W.cell? x = (W1.setCells w.heap.size (i * 2) vs).cell? x) → (∀ x, W.frozen? x = (W1.setCells w.heap.size (i * 2) vs).frozen? x) → ∀ ty dc sc, (Builtin.copy_ #[46, 46] ty #[.slice (some ⟨w.heap.size, (i + 1) * 2, none⟩) (n - i) dc, .slice (some ⟨b, off + i * 2, none⟩) (n - i) sc]).run Tryz.prog W = .ok (goInt (Nat.min (n - i) (n - i))) (W.setCells w.heap.size ((i + 1) * 2) cs) := fun W hWc hWf ty dc sc =>
    run_copy_z W _ _ ty 45 2 w.heap.size ((i + 1) * 2) (n - i) dc ⟨b, off + i * 2, none⟩ (n - i) sc cs ins_u66 ins_z66 (by rw [hcl, show Nat.min (n - i) (n - i) = n - i from Nat.min_self _])
      (fun j v hj => by
        rw [Addr.add_lit, hWc, World.cell?_setCells_out _ _ _ _ _ (fun h _ => absurd h hbN)]
        exact hOb _ v (hcs j v hj))
      (fun j hj => by rw [hWc]; exact isSome_setCells _ vs (i * 2) W1 (fun t ht => hN _ (by rw [hvl] at ht; omega)) _ (hN _ (by rw [hcl] at hj; omega)))
      (fun j hj => by rw [hWf, World.frozen?_setCells]; exact hNf _) h1c
  subst hW1
  have hw1 : IntKind.i64.wrap ((i : Int) + 1) = (i : Int) + 1 := by rw [IntKind.wrap_i64]; omega
  have hb1 : (0 : Int) ≤ (i : Int) + 1 := by omega
  have hin : i ≤ n := by omega
  have hic : i ≤ c := by omega
  have hiG : i ≤ G := by omega
  have hin1 : i ≤ n + 1 := by omega
  have hb3 : (i : Int) ≤ (n : Int) + 1 := by omega
  have hz3 : (c : Int) < (n : Int) + 1 := by omega
  have hE1 : ∀ x, ((w.alloc (.cells ROW 45)).drew).cell? x = (w.drew.alloc (.cells ROW 45)).cell? x := fun x => rfl
  have hE2 : ∀ x, ((w.alloc (.cells ROW 45)).drew).frozen? x = (w.drew.alloc (.cells ROW 45)).frozen? x := fun x => rfl
  have hF1 : ∀ x, (((w.alloc (.cells ROW 45)).drew.setCells w.heap.size (i * 2) vs).drew).cell? x = ((w.drew.alloc (.cells ROW 45)).setCells w.heap.size (i * 2) vs).cell? x := fun x => rfl
  have hF2 : ∀ x, (((w.alloc (.cells ROW 45)).drew.setCells w.heap.size (i * 2) vs).drew).frozen? x = ((w.drew.alloc (.cells ROW 45)).setCells w.heap.size (i * 2) vs).frozen? x := fun x => rfl
  clear hold hROW hG hRl hmin hos hcs hvs h1c h1v hcl hvl hol hzb hbig hN hNf hOb hOv hik hroom
  skip
  go_enter Tryz.func66, Tryz.ntmps66
  go_wp2_with (first
    | (at_builtin; refine Lib.wpList_append_run _ rfl _ _ _ _ rfl _ _ rfl rfl _ _ (hrz _) ?_)
    | (at_builtin; refine wpList_copy_runI _ rfl _ _ 46 46 rfl _ _ rfl rfl (hcpA _ hE1 hE2 _ _) ?_))
  go_region_law_o (refine step_copy_runI rfl _ _ 46 46 rfl (.slice (some ⟨w.heap.size, (i + 1) * 2, none⟩) (n - i) (G - (i + 1))) (.slice (some ⟨b, off + i * 2, none⟩) (n - i) (c - i)) (by simp [Act.eval, Act.put]) (by simp [Act.eval, Act.put]) (hcpB _ hF1 hF2 3 (G - (i + 1)) (c - i)) ?_)
  all_goals go_wp2
  all_goals go_ret
  all_goals first | exact ⟨rfl, rfl⟩ | exact ⟨rfl, by simp only [Nat.mul_one]⟩
theorem ins_u67 : Tryz.prog.underlying 59 = some (.slice 3) := by kernel_rfl
theorem ins_z67 : (Tryz.prog.info? 3).map (·.size) = some 1 := by kernel_rfl
set_option maxHeartbeats 4000000 in
set_option maxRecDepth 100000 in
theorem ins_end67 (base : Option Addr) (n c : Nat) (A : Addr) (vc : Nat) (q : Value) (w w' : World) (hn : n < 1000000) (hb : base = none → n = 0)
    (hap : ∀ ty, (Builtin.append_ #[59, 59] ty #[.slice base n c, .slice (some A) 1 vc]).run Tryz.prog w = .ok q w') :
    Calls Tryz.prog 67 #[.slice base n c, .int .i64 n, .slice (some A) 1 vc] w fun e w2 => e = .returned q ∧ w2 = w' := by
  have mixed : Tryz.prog.follows Departure.mixedOrders = true := by kernel_rfl
  have hz1 : ¬ ((1 : Int) = 0) := by omega
  cases base with
  | none =>
    cases hb rfl
    go_enter Tryz.func67, Tryz.ntmps67
    go_wp2_with (at_builtin; refine Lib.wpList_append_run _ rfl _ _ _ _ rfl _ _ rfl rfl _ _ (hap _) ?_)
    all_goals (go_ret; exact ⟨rfl, rfl⟩)
  | some a =>
    go_enter Tryz.func67, Tryz.ntmps67
    go_wp2_with (at_builtin; refine Lib.wpList_append_run _ rfl _ _ _ _ rfl _ _ rfl rfl _ _ (hap _) ?_)
    all_goals (go_ret; exact ⟨rfl, rfl⟩)
set_option maxHeartbeats 4000000 in
set_option maxRecDepth 100000 in
theorem ins_shift67 (b off n c i vb voff vc : Nat) (cs vs : List Value) (w : World) (hi : i < n) (hroom : n + 1 ≤ c) (hn : n < 1000000) (hvb : vb ≠ b)
    (hcl : cs.length = (n - i) * 1) (hvl : vs.length = 1)
    (hcs : ∀ j v, cs[j]? = some v → w.cell? ⟨b, off + i * 1 + j, none⟩ = some v) (hsp : ∀ j, j < (n + 1) * 1 → (w.cell? ⟨b, off + j, none⟩).isSome = true) (hfz : ∀ j, w.frozen? ⟨b, j, none⟩ = false)
    (hvs : ∀ j v, vs[j]? = some v → w.cell? ⟨vb, voff + j, none⟩ = some v) (h1c : ∀ v ∈ cs, v.oneCell' = true) (h1v : ∀ v ∈ vs, v.oneCell' = true)
    (tA tB : TypeId) (kA kB : Nat) (hsa : w.shape? vb = some (tA, kA)) (hsb : w.shape? b = some (tB, kB)) (hkA : kA ≠ 0) (hkB : kB ≠ 0) :
    Calls Tryz.prog 67 #[.slice (some ⟨b, off, none⟩) n c, .int .i64 i, .slice (some ⟨vb, voff, none⟩) 1 vc] w fun e w' =>
      e = .returned (.slice (some ⟨b, off, none⟩) (n + 1) c) ∧ w' = (w.drew.setCells b (off + (i + 1) * 1) cs).setCells b (off + i * 1) vs := by
  have mixed : Tryz.prog.follows Departure.mixedOrders = true := by kernel_rfl
  have hz1 : ¬ ((1 : Int) = 0) := by omega
  have hz2 : ¬ ((i : Int) = (n : Int)) := by omega
  have hov : ∀ lb cb, (callFunc 86 #[.slice (some ⟨vb, voff, none⟩) 1 vc, .slice (some ⟨b, off + (i + 1) * 1, none⟩) lb cb]).run Tryz.prog w = .ok (.value (.bool false)) w := fun lb cb => by
    rw [run_callFunc_extern Tryz.func86 (by kernel_rfl) (by kernel_rfl) (by kernel_rfl) (e := Extern.SlicesOverlaps.overlaps #[59, 59] #[4]) (by kernel_rfl),
      run_overlaps_unfrozen w 59 4 3 ins_u67 1 Tryz.sizeOf3 ⟨vb, voff, none⟩ ⟨b, off + (i + 1) * 1, none⟩ 1 vc lb cb hvb tA tB kA kB hsa hsb hkA hkB (hfz _) (hfz _)]
    rfl
  have hcp1 : ∀ ty dc sc, (Builtin.copy_ #[59, 59] ty #[.slice (some ⟨b, off + (i + 1) * 1, none⟩) (n - i) dc, .slice (some ⟨b, off + i * 1, none⟩) (n + 1 - i) sc]).run Tryz.prog w.drew = .ok (goInt (Nat.min (n + 1 - i) (n - i))) (w.drew.setCells b (off + (i + 1) * 1) cs) := fun ty dc sc =>
    run_copy_z w.drew _ _ ty 3 1 b (off + (i + 1) * 1) (n - i) dc ⟨b, off + i * 1, none⟩ (n + 1 - i) sc cs ins_u67 ins_z67 (by rw [hcl]; congr 1; simp only [Nat.min_def]; split <;> omega)
      (fun j v hj => by rw [Addr.add_lit]; exact hcs j v hj)
      (fun j hj => by rw [Nat.add_assoc]; exact hsp _ (by rw [hcl] at hj; omega)) (fun j hj => hfz _) h1c
  obtain ⟨W1, hW1⟩ : ∃ W1, W1 = w.drew.setCells b (off + (i + 1) * 1) cs := ⟨_, rfl⟩
  have hsp1 : ∀ k, k < (n + 1) * 1 → (W1.cell? ⟨b, off + k, none⟩).isSome = true := fun k hk => by
    rw [hW1]
    exact isSome_setCells b _ _ _ (fun j hj => by rw [Nat.add_assoc]; exact hsp _ (by rw [hcl] at hj; omega)) _ (hsp k hk)
  have hmin : Nat.min 1 (n + 1 - i) = 1 := by simp only [Nat.min_def]; split <;> omega
  have hcp2 : ∀ (W : World), (∀ x, W.cell? x = W1.cell? x) → (∀ x, W.frozen? x = W1.frozen? x) → ∀ ty dc, (Builtin.copy_ #[59, 59] ty #[.slice (some ⟨b, off + i * 1, none⟩) (n + 1 - i) dc, .slice (some ⟨vb, voff, none⟩) 1 vc]).run Tryz.prog W = .ok (goInt (Nat.min 1 (n + 1 - i))) (W.setCells b (off + i * 1) vs) := fun W hWc hWf ty dc =>
    run_copy_z W _ _ ty 3 1 b (off + i * 1) (n + 1 - i) dc ⟨vb, voff, none⟩ 1 vc vs ins_u67 ins_z67 (by rw [hvl, hmin])
      (fun j v hj => by
        rw [Addr.add_lit, hWc, hW1, World.cell?_setCells_out b _ _ _ _ (fun h _ => absurd h hvb)]
        exact hvs j v hj)
      (fun j hj => by rw [hWc, Nat.add_assoc]; exact hsp1 _ (by rw [hvl] at hj; omega)) (fun j hj => by rw [hWf, hW1, World.frozen?_setCells]; exact hfz _) h1v
  rw [← hW1] at hcp1
  have hb1 : (0 : Int) ≤ (i : Int) + 1 := by omega
  have hin : i ≤ n := by omega
  have hb2 : ¬ (c = i + 1) := by omega
  have hb3 : (i : Int) ≤ (n : Int) + 1 := by omega
  have hb4 : ¬ (c = i) := by omega
  have hw1 : IntKind.i64.wrap ((i : Int) + 1) = (i : Int) + 1 := by rw [IntKind.wrap_i64]; omega
  clear hmin hcs hsp hfz hvs h1c h1v hsp1 hcl hvl
  simp only [Nat.mul_one] at hov hcp1 hcp2
  go_enter Tryz.func67, Tryz.ntmps67
  go_wp2_with (simp only [hov])
  go_region_law_o (refine step_copy_runI rfl _ _ 59 59 rfl _ _ (by simp [Act.eval, Act.put]) (by simp [Act.eval, Act.put]) (hcp1 _ _ _) ?_)
  all_goals (go_wp2_with (at_builtin; refine wpList_copy_runI _ rfl _ _ 59 59 rfl _ _ rfl rfl (hcp2 _ (fun _ => rfl) (fun _ => rfl) _ _) ?_))
  all_goals go_ret
  all_goals first | exact ⟨rfl, rfl⟩ | exact ⟨rfl, by rw [hW1]⟩ | exact ⟨rfl, by simp only [Nat.mul_one]⟩
set_option maxHeartbeats 4000000 in
set_option maxRecDepth 100000 in
theorem ins_grow67 (b off n c i vb voff vc : Nat) (os cs vs : List Value) (w : World) (hi : i < n) (hnc : n ≤ c) (hroom : c < n + 1) (hn : n < 1000000) (hvb : vb ≠ b) (z : Value) (i0 : TypeInfo) (hi0 : Tryz.prog.info? 3 = some i0) (hz0 : i0.zero = some z) (hzs : i0.size = 1) (hzb : i0.bytes ≤ 1000) (hzc : z.cells.size = 1)
    (hol : os.length = i * 1) (hcl : cs.length = (n - i) * 1) (hvl : vs.length = 1)
    (hos : ∀ j v, os[j]? = some v → w.cell? ⟨b, off + j, none⟩ = some v) (hcs : ∀ j v, cs[j]? = some v → w.cell? ⟨b, off + i * 1 + j, none⟩ = some v)
    (hvs : ∀ j v, vs[j]? = some v → w.cell? ⟨vb, voff + j, none⟩ = some v) (h1c : ∀ v ∈ cs, v.oneCell' = true) (h1v : ∀ v ∈ vs, v.oneCell' = true) :
    Calls Tryz.prog 67 #[.slice (some ⟨b, off, none⟩) n c, .int .i64 i, .slice (some ⟨vb, voff, none⟩) 1 vc] w fun e w' =>
      e = .returned (.slice (some ⟨w.heap.size, 0, none⟩) (n + 1) (grownCap w (n + 1) c 3)) ∧
      w' = (((w.alloc (.cells (os.toArray ++ Builtin.zeroCells z.cells (n + 1 - i) ++ Builtin.zeroCells z.cells (grownCap w (n + 1) c 3 - (n + 1))) 3)).drew.setCells w.heap.size (i * 1) vs).drew).setCells w.heap.size ((i + 1) * 1) cs := by
  have mixed : Tryz.prog.follows Departure.mixedOrders = true := by kernel_rfl
  have hz1 : ¬ ((1 : Int) = 0) := by omega
  have hz2 : ¬ ((i : Int) = (n : Int)) := by omega
  have hbw : b < w.heap.size := block_lt_of_cell (hcs 0 _ (List.getElem?_eq_getElem (by omega)))
  have hvw : vb < w.heap.size := block_lt_of_cell (hvs 0 _ (List.getElem?_eq_getElem (by omega)))
  have hold : (Builtin.firstCells i0.size i (.slice (some ⟨b, off, none⟩) i c)).run Tryz.prog w.drew = .ok os.toArray w.drew := by
    rw [hzs]
    exact run_firstCells_some w.drew 1 i ⟨b, off, none⟩ i c os hol (fun j v hj => by
      rw [Addr.add_lit]; exact hos j v hj)
  have hik : i + (n + 1 - i) = n + 1 := by omega
  have hbig : (n + 1) * i0.bytes ≤ 140737488355328 := Nat.le_trans (Nat.mul_le_mul (show n + 1 ≤ 1000000 by omega) hzb) (by decide)
  have hrz : ∀ ty, (Builtin.append_ #[59, 3] ty #[.slice (some ⟨b, off, none⟩) i c, .int .i64 ((n : Int) + 1 - (i : Int))]).run Tryz.prog w =
      .ok (.slice (some ⟨w.heap.size, 0, none⟩) (n + 1) (grownCap w (n + 1) c 3)) (w.drew.alloc (.cells (os.toArray ++ Builtin.zeroCells z.cells (n + 1 - i) ++ Builtin.zeroCells z.cells (grownCap w (n + 1) c 3 - (n + 1))) 3)) := fun ty => by
    have hf : Builtin.nextslicecap (n + 1) c * i0.bytes ≤ 281474976710656 := growslice_fits (need := n + 1) (old := c) (bytes := i0.bytes) hroom hbig
    have hf2 : (n + 1 - i) * i0.bytes ≤ 281474976710656 := Nat.le_trans (Nat.mul_le_mul_right _ (by omega)) (Nat.le_trans hbig (by decide))
    have hf3 : 0 < i0.size := by omega
    have hf4 : ((i + (n + 1 - i) : Nat) : Int) ≤ 9223372036854775807 := by omega
    have h := Lib.run_append_grow_zeros (P := Tryz.prog) w 59 3 ty 3 i0 z .i64 .i64 ins_u67 Tryz.underlying3 hi0 hz0 (some ⟨b, off, none⟩) i c os hold (n + 1 - i) (by omega) hf3 (by omega) hf4 hf2 (by rw [hik]; exact hf)
    rw [hik] at h
    rw [show (n : Int) + 1 - (i : Int) = ((n + 1 - i : Nat) : Int) by omega]
    exact h
  obtain ⟨G, hG⟩ : ∃ G, G = grownCap w (n + 1) c 3 := ⟨_, rfl⟩
  obtain ⟨ROW, hROW⟩ : ∃ ROW : Array Value, ROW = os.toArray ++ Builtin.zeroCells z.cells (n + 1 - i) ++ Builtin.zeroCells z.cells (G - (n + 1)) := ⟨_, rfl⟩
  rw [← hG] at hrz ⊢
  rw [← hROW] at hrz ⊢
  have hRl : (n + 1) * 1 ≤ ROW.size := by
    rw [hROW]
    simp [Builtin.zeroCells, hzc, hol]
    omega
  obtain ⟨W1, hW1⟩ : ∃ W1, W1 = w.drew.alloc (.cells ROW 3) := ⟨_, rfl⟩
  rw [← hW1] at hrz
  have hN : ∀ j, j < (n + 1) * 1 → (W1.cell? ⟨w.heap.size, j, none⟩).isSome = true := fun j hj => by
    rw [hW1, World.cell?_alloc_at (w := w.drew) ROW _ w.heap.size j rfl, Array.getElem?_eq_getElem (by omega)]; rfl
  have hNf : ∀ j, W1.frozen? ⟨w.heap.size, j, none⟩ = false := fun j => by rw [hW1]; exact World.frozen?_alloc_at (w := w.drew) ROW _ w.heap.size j rfl
  have hOb : ∀ j v, w.cell? ⟨b, j, none⟩ = some v → W1.cell? ⟨b, j, none⟩ = some v := fun j v h => by rw [hW1, World.cell?_alloc_past (w := w.drew) _ b j hbw]; exact h
  have hOv : ∀ j v, w.cell? ⟨vb, j, none⟩ = some v → W1.cell? ⟨vb, j, none⟩ = some v := fun j v h => by rw [hW1, World.cell?_alloc_past (w := w.drew) _ vb j hvw]; exact h
  have hmin : Nat.min 1 (n + 1 - i) = 1 := by simp only [Nat.min_def]; split <;> omega
  have hcpA : ∀ (W : World), (∀ x, W.cell? x = W1.cell? x) → (∀ x, W.frozen? x = W1.frozen? x) → ∀ ty dc, (Builtin.copy_ #[59, 59] ty #[.slice (some ⟨w.heap.size, i * 1, none⟩) (n + 1 - i) dc, .slice (some ⟨vb, voff, none⟩) 1 vc]).run Tryz.prog W = .ok (goInt (Nat.min 1 (n + 1 - i))) (W.setCells w.heap.size (i * 1) vs) := fun W hWc hWf ty dc =>
    run_copy_z W _ _ ty 3 1 w.heap.size (i * 1) (n + 1 - i) dc ⟨vb, voff, none⟩ 1 vc vs ins_u67 ins_z67 (by rw [hvl, hmin])
      (fun j v hj => by rw [Addr.add_lit, hWc]; exact hOv _ v (hvs j v hj))
      (fun j hj => by rw [hWc]; exact hN _ (by rw [hvl] at hj; omega)) (fun j hj => by rw [hWf]; exact hNf _) h1v
  have hGn : n + 1 ≤ G := by rw [hG]; exact grownCap_ge w _ _ _
  have hG63 : G ≤ 9223372036854775807 := by
    have := grownCap_le_maxLen w (n + 1) c 3 (by unfold maxLen; omega)
    rw [← hG] at this
    unfold maxLen at this
    omega
  have hGi : ¬ (G = i) := by omega
  have hGim : ¬ (G = i + 1) := by omega
  have hci : ¬ (c = i) := by omega
  have hbN : b ≠ w.heap.size := by omega
  have hcpB : ∀ (W : World), (∀ x, W.cell? x = (W1.setCells w.heap.size (i * 1) vs).cell? x) → (∀ x, W.frozen? x = (W1.setCells w.heap.size (i * 1) vs).frozen? x) → ∀ ty dc sc, (Builtin.copy_ #[59, 59] ty #[.slice (some ⟨w.heap.size, (i + 1) * 1, none⟩) (n - i) dc, .slice (some ⟨b, off + i * 1, none⟩) (n - i) sc]).run Tryz.prog W = .ok (goInt (Nat.min (n - i) (n - i))) (W.setCells w.heap.size ((i + 1) * 1) cs) := fun W hWc hWf ty dc sc =>
    run_copy_z W _ _ ty 3 1 w.heap.size ((i + 1) * 1) (n - i) dc ⟨b, off + i * 1, none⟩ (n - i) sc cs ins_u67 ins_z67 (by rw [hcl, show Nat.min (n - i) (n - i) = n - i from Nat.min_self _])
      (fun j v hj => by
        rw [Addr.add_lit, hWc, World.cell?_setCells_out _ _ _ _ _ (fun h _ => absurd h hbN)]
        exact hOb _ v (hcs j v hj))
      (fun j hj => by rw [hWc]; exact isSome_setCells _ vs (i * 1) W1 (fun t ht => hN _ (by rw [hvl] at ht; omega)) _ (hN _ (by rw [hcl] at hj; omega)))
      (fun j hj => by rw [hWf, World.frozen?_setCells]; exact hNf _) h1c
  subst hW1
  have hw1 : IntKind.i64.wrap ((i : Int) + 1) = (i : Int) + 1 := by rw [IntKind.wrap_i64]; omega
  have hb1 : (0 : Int) ≤ (i : Int) + 1 := by omega
  have hin : i ≤ n := by omega
  have hic : i ≤ c := by omega
  have hiG : i ≤ G := by omega
  have hin1 : i ≤ n + 1 := by omega
  have hb3 : (i : Int) ≤ (n : Int) + 1 := by omega
  have hz3 : (c : Int) < (n : Int) + 1 := by omega
  have hE1 : ∀ x, ((w.alloc (.cells ROW 3)).drew).cell? x = (w.drew.alloc (.cells ROW 3)).cell? x := fun x => rfl
  have hE2 : ∀ x, ((w.alloc (.cells ROW 3)).drew).frozen? x = (w.drew.alloc (.cells ROW 3)).frozen? x := fun x => rfl
  have hF1 : ∀ x, (((w.alloc (.cells ROW 3)).drew.setCells w.heap.size (i * 1) vs).drew).cell? x = ((w.drew.alloc (.cells ROW 3)).setCells w.heap.size (i * 1) vs).cell? x := fun x => rfl
  have hF2 : ∀ x, (((w.alloc (.cells ROW 3)).drew.setCells w.heap.size (i * 1) vs).drew).frozen? x = ((w.drew.alloc (.cells ROW 3)).setCells w.heap.size (i * 1) vs).frozen? x := fun x => rfl
  clear hold hROW hG hRl hmin hos hcs hvs h1c h1v hcl hvl hol hzb hbig hN hNf hOb hOv hik hroom
  simp only [Nat.mul_one] at hcpA hcpB hF1 hF2
  go_enter Tryz.func67, Tryz.ntmps67
  go_wp2_with (first
    | (at_builtin; refine Lib.wpList_append_run _ rfl _ _ _ _ rfl _ _ rfl rfl _ _ (hrz _) ?_)
    | (at_builtin; refine wpList_copy_runI _ rfl _ _ 59 59 rfl _ _ rfl rfl (hcpA _ hE1 hE2 _ _) ?_))
  go_region_law_o (refine step_copy_runI rfl _ _ 59 59 rfl (.slice (some ⟨w.heap.size, i + 1, none⟩) (n - i) (G - (i + 1))) (.slice (some ⟨b, off + i, none⟩) (n - i) (c - i)) (by simp [Act.eval, Act.put]) (by simp [Act.eval, Act.put]) (hcpB _ hF1 hF2 3 (G - (i + 1)) (c - i)) ?_)
  all_goals go_wp2
  all_goals go_ret
  all_goals first | exact ⟨rfl, rfl⟩ | exact ⟨rfl, by simp only [Nat.mul_one]⟩
end Go.Proofs
end

section
namespace Go.Proofs
open Go Go.Lib Go.RowKit
theorem run_clear_one {P : Program} (w : World) (t e ty : TypeId) (z : Value) (ht : P.underlying t = some (.slice e)) (hv : ∀ w, (zeroValue e).run P w = .ok z w) (b o c : Nat) (h1 : ∀ v ∈ z.cells.toList, v.oneCell' = true)
    (hc : ∀ j, j < z.cells.toList.length → (w.cell? ⟨b, o + j, none⟩).isSome = true) (hf : ∀ j, j < z.cells.toList.length → w.frozen? ⟨b, o + j, none⟩ = false) :
    (Builtin.clear_ #[t] ty #[.slice (some ⟨b, o, none⟩) 1 c]).run P w = .ok (.tuple #[]) (w.setCells b o z.cells.toList) := by
  have hzc : (Builtin.zeroCells z.cells 1).toList = z.cells.toList := by
    unfold Builtin.zeroCells
    apply List.ext_getElem?
    intro i
    simp
    by_cases hi : i < z.cells.size
    · simp [hi, Nat.mod_eq_of_lt hi]
    · simp [hi]
  have hst := run_storeCells_cells (P := P) b o z.cells.toList 0 w (by simpa using hc) (by simpa using hf) h1
  simp only [Nat.add_zero] at hst
  simp [Builtin.clear_, run_underlying ht, hv, hzc, hst]
set_option maxHeartbeats 4000000 in
set_option maxRecDepth 1000000 in
theorem del_walk68 (b off cap len i : Nat) (news : List Value) (w : World) (hlt : i + 1 ≤ len) (hcap : len ≤ cap) (hm : len < 1000000) (i0 : TypeInfo) (hi0 : Tryz.prog.info? 45 = some i0) (hz0 : i0.size = 2) (zv : Value) (hzv : ∀ w, (zeroValue 45).run Tryz.prog w = .ok zv w) (zs : List Value) (hzs : zv.cells.toList = zs) (hzl : zs.length = 2) (hz1 : ∀ v ∈ zs, v.oneCell' = true)
    (hlen : news.length = (len - (i + 1)) * 2) (hc : ∀ j u, news[j]? = some u → w.cell? ⟨b, off + (i + 1) * 2 + j, none⟩ = some u) (h1 : ∀ v ∈ news, v.oneCell' = true)
    (hsp : ∀ j, j < len * 2 → (w.cell? ⟨b, off + j, none⟩).isSome = true) (hf : ∀ j, w.frozen? ⟨b, j, none⟩ = false) :
    Calls Tryz.prog 68 #[.slice (some ⟨b, off, none⟩) len cap, .int .i64 i, .int .i64 ((i : Int) + 1)] w fun e w' =>
      e = .returned (.slice (some ⟨b, off, none⟩) (len - 1) cap) ∧ w' = (w.drew.setCells b (off + i * 2) news).setCells b (off + (len - 1) * 2) zs := by
  obtain ⟨j, hj⟩ : ∃ j, j = i + 1 := ⟨_, rfl⟩
  rw [show ((i : Int) + 1) = ((j : Nat) : Int) by omega]
  have hne : ¬ ((i : Int) = (j : Int)) := by omega
  obtain ⟨A, hA, hsrc⟩ : ∃ A : Addr, (if cap = j then some (⟨b, off, none⟩ : Addr) else some ⟨b, off + j * 2, none⟩) = some A ∧ Hid (∀ t u, news[t]? = some u → w.drew.cell? (A.add t) = some u) := by
    by_cases h : cap = j
    · refine ⟨⟨b, off, none⟩, by simp [h], fun t u hu => ?_⟩
      have h0 : news.length = 0 := by rw [hlen, show len - (i + 1) = 0 by omega]
      rw [List.length_eq_zero_iff.1 h0] at hu
      simp at hu
    · refine ⟨⟨b, off + j * 2, none⟩, by simp [h], fun t u hu => ?_⟩
      rw [Addr.add_lit, hj]
      exact hc t u hu
  have s1 : Hid (news.length = (len - j) * 2) := by rw [hj]; exact hlen
  have s2 : Hid (∀ u ∈ news, u.oneCell' = true) := h1
  have s3 : Hid (∀ t, t < news.length → (w.drew.cell? ⟨b, off + i * 2 + t, none⟩).isSome = true ∧ w.drew.frozen? ⟨b, off + i * 2 + t, none⟩ = false) := by
    intro t ht
    rw [hlen] at ht
    rw [Nat.add_assoc]
    exact ⟨hsp _ (by omega), hf _⟩
  obtain ⟨W1, hW1⟩ : ∃ W1, W1 = w.drew.setCells b (off + i * 2) news := ⟨_, rfl⟩
  have hsp1 : ∀ j, j < len * 2 → (W1.cell? ⟨b, off + j, none⟩).isSome = true := fun j hj => by
    rw [hW1]
    exact isSome_setCells b news (off + i * 2) w.drew (fun t ht => by rw [Nat.add_assoc]; exact hsp _ (by rw [hlen] at ht; omega)) (off + j) (hsp j hj)
  have hcl : ∀ ty, (Builtin.clear_ #[46] ty #[.slice (some ⟨b, off + (i + (len - j)) * 2, none⟩) (len - (i + (len - j))) (cap - (i + (len - j)))]).run Tryz.prog W1 = .ok (.tuple #[]) (W1.setCells b (off + (i + (len - j)) * 2) zs) := fun ty => by
    rw [show len - (i + (len - j)) = 1 by omega]
    subst hzs
    exact run_clear_one W1 46 45 ty zv (by kernel_rfl) hzv b _ _ hz1 (fun t ht => by rw [Nat.add_assoc]; exact hsp1 _ (by rw [hzl] at ht; omega)) (fun t ht => by rw [hW1, World.frozen?_setCells]; exact hf _)
  have hW : Hid (W1 = w.drew.setCells b (off + i * 2) news) := hW1
  have hic : i ≤ cap := by omega
  have hjc : j ≤ cap := by omega
  have hij : i ≤ j := by omega
  have hjl : j ≤ len := by omega
  have hlj : i + (len - j) ≤ len := by omega
  have hlc : i + (len - j) ≤ cap := by omega
  have hne2 : ¬ (cap = i + (len - j)) := by omega
  have hfin : len - 1 = i + (len - j) := by omega
  rw [hfin]
  have mixed : Tryz.prog.follows Departure.mixedOrders = true := by kernel_rfl
  clear hW1 hf hc h1 hsp hlen hsp1 hfin hlt
  clear hj hzv hzs hzl hz1
  go_enter Tryz.func68, Tryz.ntmps68
  go_wp2_with fail
  go_region_law_o (refine step_append_room rfl (.tmp 22) (.tmp 25) 46 rfl 45 i0 2 (by kernel_rfl) hi0 hz0 b off i cap (by simp [Act.eval, Act.put]) A (len - j) (cap - j) news (by simp [Act.eval, Act.put]) s1.out hsrc.out s2.out (by omega) s3.out ?_; rw [← hW.out])
  go_wp2
  go_ret
  refine ⟨rfl, ?_⟩
  rw [hW.out]
set_option maxHeartbeats 4000000 in
set_option maxRecDepth 1000000 in
theorem del_walk69 (b off cap len i : Nat) (news : List Value) (w : World) (hlt : i + 1 ≤ len) (hcap : len ≤ cap) (hm : len < 1000000) (i0 : TypeInfo) (hi0 : Tryz.prog.info? 3 = some i0) (hz0 : i0.size = 1) (zv : Value) (hzv : ∀ w, (zeroValue 3).run Tryz.prog w = .ok zv w) (zs : List Value) (hzs : zv.cells.toList = zs) (hzl : zs.length = 1) (hz1 : ∀ v ∈ zs, v.oneCell' = true)
    (hlen : news.length = (len - (i + 1)) * 1) (hc : ∀ j u, news[j]? = some u → w.cell? ⟨b, off + (i + 1) * 1 + j, none⟩ = some u) (h1 : ∀ v ∈ news, v.oneCell' = true)
    (hsp : ∀ j, j < len * 1 → (w.cell? ⟨b, off + j, none⟩).isSome = true) (hf : ∀ j, w.frozen? ⟨b, j, none⟩ = false) :
    Calls Tryz.prog 69 #[.slice (some ⟨b, off, none⟩) len cap, .int .i64 i, .int .i64 ((i : Int) + 1)] w fun e w' =>
      e = .returned (.slice (some ⟨b, off, none⟩) (len - 1) cap) ∧ w' = (w.drew.setCells b (off + i * 1) news).setCells b (off + (len - 1) * 1) zs := by
  obtain ⟨j, hj⟩ : ∃ j, j = i + 1 := ⟨_, rfl⟩
  rw [show ((i : Int) + 1) = ((j : Nat) : Int) by omega]
  have hne : ¬ ((i : Int) = (j : Int)) := by omega
  obtain ⟨A, hA, hsrc⟩ : ∃ A : Addr, (if cap = j then some (⟨b, off, none⟩ : Addr) else some ⟨b, off + j * 1, none⟩) = some A ∧ Hid (∀ t u, news[t]? = some u → w.drew.cell? (A.add t) = some u) := by
    by_cases h : cap = j
    · refine ⟨⟨b, off, none⟩, by simp [h], fun t u hu => ?_⟩
      have h0 : news.length = 0 := by rw [hlen, show len - (i + 1) = 0 by omega]
      rw [List.length_eq_zero_iff.1 h0] at hu
      simp at hu
    · refine ⟨⟨b, off + j * 1, none⟩, by simp [h], fun t u hu => ?_⟩
      rw [Addr.add_lit, hj]
      exact hc t u hu
  have s1 : Hid (news.length = (len - j) * 1) := by rw [hj]; exact hlen
  have s2 : Hid (∀ u ∈ news, u.oneCell' = true) := h1
  have s3 : Hid (∀ t, t < news.length → (w.drew.cell? ⟨b, off + i * 1 + t, none⟩).isSome = true ∧ w.drew.frozen? ⟨b, off + i * 1 + t, none⟩ = false) := by
    intro t ht
    rw [hlen] at ht
    rw [Nat.add_assoc]
    exact ⟨hsp _ (by omega), hf _⟩
  obtain ⟨W1, hW1⟩ : ∃ W1, W1 = w.drew.setCells b (off + i * 1) news := ⟨_, rfl⟩
  have hsp1 : ∀ j, j < len * 1 → (W1.cell? ⟨b, off + j, none⟩).isSome = true := fun j hj => by
    rw [hW1]
    exact isSome_setCells b news (off + i * 1) w.drew (fun t ht => by rw [Nat.add_assoc]; exact hsp _ (by rw [hlen] at ht; omega)) (off + j) (hsp j hj)
  have hcl : ∀ ty, (Builtin.clear_ #[59] ty #[.slice (some ⟨b, off + (i + (len - j)) * 1, none⟩) (len - (i + (len - j))) (cap - (i + (len - j)))]).run Tryz.prog W1 = .ok (.tuple #[]) (W1.setCells b (off + (i + (len - j)) * 1) zs) := fun ty => by
    rw [show len - (i + (len - j)) = 1 by omega]
    subst hzs
    exact run_clear_one W1 59 3 ty zv (by kernel_rfl) hzv b _ _ hz1 (fun t ht => by rw [Nat.add_assoc]; exact hsp1 _ (by rw [hzl] at ht; omega)) (fun t ht => by rw [hW1, World.frozen?_setCells]; exact hf _)
  have hW : Hid (W1 = w.drew.setCells b (off + i * 1) news) := hW1
  have hic : i ≤ cap := by omega
  have hjc : j ≤ cap := by omega
  have hij : i ≤ j := by omega
  have hjl : j ≤ len := by omega
  have hlj : i + (len - j) ≤ len := by omega
  have hlc : i + (len - j) ≤ cap := by omega
  have hne2 : ¬ (cap = i + (len - j)) := by omega
  have hfin : len - 1 = i + (len - j) := by omega
  rw [hfin]
  have mixed : Tryz.prog.follows Departure.mixedOrders = true := by kernel_rfl
  clear hW1 hf hc h1 hsp hlen hsp1 hfin hlt
  clear hj hzv hzs hzl hz1
  simp only [Nat.mul_one] at hA hcl
  go_enter Tryz.func69, Tryz.ntmps69
  go_wp2_with fail
  go_region_law_o (refine step_append_room rfl (.tmp 22) (.tmp 25) 59 rfl 3 i0 1 (by kernel_rfl) hi0 hz0 b off i cap (by simp [Act.eval, Act.put]) A (len - j) (cap - j) news (by simp [Act.eval, Act.put]) s1.out hsrc.out s2.out (by omega) s3.out ?_; rw [← hW.out])
  go_wp2
  go_ret
  refine ⟨rfl, ?_⟩
  rw [hW.out]
  simp only [Nat.mul_one]
set_option maxHeartbeats 4000000 in
set_option maxRecDepth 1000000 in
theorem del_walk71 (b off cap len i : Nat) (news : List Value) (w : World) (hlt : i + 1 ≤ len) (hcap : len ≤ cap) (hm : len < 1000000) (i0 : TypeInfo) (hi0 : Tryz.prog.info? 33 = some i0) (hz0 : i0.size = 5) (zv : Value) (hzv : ∀ w, (zeroValue 33).run Tryz.prog w = .ok zv w) (zs : List Value) (hzs : zv.cells.toList = zs) (hzl : zs.length = 5) (hz1 : ∀ v ∈ zs, v.oneCell' = true)
    (hlen : news.length = (len - (i + 1)) * 5) (hc : ∀ j u, news[j]? = some u → w.cell? ⟨b, off + (i + 1) * 5 + j, none⟩ = some u) (h1 : ∀ v ∈ news, v.oneCell' = true)
    (hsp : ∀ j, j < len * 5 → (w.cell? ⟨b, off + j, none⟩).isSome = true) (hf : ∀ j, w.frozen? ⟨b, j, none⟩ = false) :
    Calls Tryz.prog 71 #[.slice (some ⟨b, off, none⟩) len cap, .int .i64 i, .int .i64 ((i : Int) + 1)] w fun e w' =>
      e = .returned (.slice (some ⟨b, off, none⟩) (len - 1) cap) ∧ w' = (w.drew.setCells b (off + i * 5) news).setCells b (off + (len - 1) * 5) zs := by
  obtain ⟨j, hj⟩ : ∃ j, j = i + 1 := ⟨_, rfl⟩
  rw [show ((i : Int) + 1) = ((j : Nat) : Int) by omega]
  have hne : ¬ ((i : Int) = (j : Int)) := by omega
  obtain ⟨A, hA, hsrc⟩ : ∃ A : Addr, (if cap = j then some (⟨b, off, none⟩ : Addr) else some ⟨b, off + j * 5, none⟩) = some A ∧ Hid (∀ t u, news[t]? = some u → w.drew.cell? (A.add t) = some u) := by
    by_cases h : cap = j
    · refine ⟨⟨b, off, none⟩, by simp [h], fun t u hu => ?_⟩
      have h0 : news.length = 0 := by rw [hlen, show len - (i + 1) = 0 by omega]
      rw [List.length_eq_zero_iff.1 h0] at hu
      simp at hu
    · refine ⟨⟨b, off + j * 5, none⟩, by simp [h], fun t u hu => ?_⟩
      rw [Addr.add_lit, hj]
      exact hc t u hu
  have s1 : Hid (news.length = (len - j) * 5) := by rw [hj]; exact hlen
  have s2 : Hid (∀ u ∈ news, u.oneCell' = true) := h1
  have s3 : Hid (∀ t, t < news.length → (w.drew.cell? ⟨b, off + i * 5 + t, none⟩).isSome = true ∧ w.drew.frozen? ⟨b, off + i * 5 + t, none⟩ = false) := by
    intro t ht
    rw [hlen] at ht
    rw [Nat.add_assoc]
    exact ⟨hsp _ (by omega), hf _⟩
  obtain ⟨W1, hW1⟩ : ∃ W1, W1 = w.drew.setCells b (off + i * 5) news := ⟨_, rfl⟩
  have hsp1 : ∀ j, j < len * 5 → (W1.cell? ⟨b, off + j, none⟩).isSome = true := fun j hj => by
    rw [hW1]
    exact isSome_setCells b news (off + i * 5) w.drew (fun t ht => by rw [Nat.add_assoc]; exact hsp _ (by rw [hlen] at ht; omega)) (off + j) (hsp j hj)
  have hcl : ∀ ty, (Builtin.clear_ #[57] ty #[.slice (some ⟨b, off + (i + (len - j)) * 5, none⟩) (len - (i + (len - j))) (cap - (i + (len - j)))]).run Tryz.prog W1 = .ok (.tuple #[]) (W1.setCells b (off + (i + (len - j)) * 5) zs) := fun ty => by
    rw [show len - (i + (len - j)) = 1 by omega]
    subst hzs
    exact run_clear_one W1 57 33 ty zv (by kernel_rfl) hzv b _ _ hz1 (fun t ht => by rw [Nat.add_assoc]; exact hsp1 _ (by rw [hzl] at ht; omega)) (fun t ht => by rw [hW1, World.frozen?_setCells]; exact hf _)
  have hW : Hid (W1 = w.drew.setCells b (off + i * 5) news) := hW1
  have hic : i ≤ cap := by omega
  have hjc : j ≤ cap := by omega
  have hij : i ≤ j := by omega
  have hjl : j ≤ len := by omega
  have hlj : i + (len - j) ≤ len := by omega
  have hlc : i + (len - j) ≤ cap := by omega
  have hne2 : ¬ (cap = i + (len - j)) := by omega
  have hfin : len - 1 = i + (len - j) := by omega
  rw [hfin]
  have mixed : Tryz.prog.follows Departure.mixedOrders = true := by kernel_rfl
  clear hW1 hf hc h1 hsp hlen hsp1 hfin hlt
  clear hj hzv hzs hzl hz1
  go_enter Tryz.func71, Tryz.ntmps71
  go_wp2_with fail
  go_region_law_o (refine step_append_room rfl (.tmp 22) (.tmp 25) 57 rfl 33 i0 5 (by kernel_rfl) hi0 hz0 b off i cap (by simp [Act.eval, Act.put]) A (len - j) (cap - j) news (by simp [Act.eval, Act.put]) s1.out hsrc.out s2.out (by omega) s3.out ?_; rw [← hW.out])
  go_wp2
  go_ret
  refine ⟨rfl, ?_⟩
  rw [hW.out]
end Go.Proofs
end
