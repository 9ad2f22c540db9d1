/- CacM, CacN, CacO -/
import Derived.Test.YtfhoaocedkkjbaaGreatDoorE
import Derived.Test.YtfhoaocedkkjbaaGreatDoorQ
import Derived.Shelf.SlSortCmp.NoneTotal
set_option linter.all false

section
namespace Srv
open Go Go.Abs Go.Proofs
section
variable {W0 : World} {L : Lay} {ow : Owns} {s : Heap} {w w' : World}
theorem st_over (h : St W0 L ow s w) (hb : RowKit.Below w.heap.size w w') : St W0 L ow s w' := by
  refine h.move (.refl L) rfl (fun b hx => ⟨rfl, fun _ => rfl, hb.block b (h.used b (by intro e; rw [e] at hx; cases hx))⟩) (fun b o v hS => ?_) (fun b hu => Nat.lt_of_lt_of_le (h.used b hu) hb.size) h.base (h.below.trans (hb.mono h.below.size))
  rw [cell?_of_heap (hb.block b (imm_lt h hS))]
  exact h.imm b o v hS
structure Qr where
  k : K3
  R : Nat
  u : Int
def Qr.on (s : Heap) (q : Qr) : Prop := ∃ c0 c1 c2 c3 c4 c5, s[q.R]? = some (163, [c0, c1, c2, c3, c4, c5, .int .i64 q.u])
def qml (ql : List Qr) : ML := ql.map fun q => (q.k, .ref q.R 0)
theorem resKeys_inv : ∀ {kvs : List AV} {l : List (Int × AV)}, resKeys s kvs = some l → ∃ ql : List Qr, kvs = flat (qml ql) ∧ l = ql.map (fun q => (q.u, Kv q.k)) ∧ ∀ q ∈ ql, q.on s
  | [], l, h => by cases h; exact ⟨[], rfl, rfl, nofun⟩
  | [a], l, h => by simp [resKeys] at h
  | k :: v :: t, l, h => by
    unfold resKeys at h
    split at h
    · rename_i h0; cases h0
    · rename_i k' r t' e
      cases e
      split at h
      · rename_i c0 c1 c2 c3 c4 c5 u hr
        split at h
        · rename_i a b c
          rw [Option.map_eq_some_iff] at h
          obtain ⟨l', h1, rfl⟩ := h
          obtain ⟨ql, rfl, rfl, h4⟩ := resKeys_inv h1
          refine ⟨⟨(a, b, c), r, u⟩ :: ql, rfl, rfl, fun q hq => ?_⟩
          rcases List.mem_cons.1 hq with rfl | hq
          · exact ⟨_, _, _, _, _, _, hr⟩
          · exact h4 q hq
        · cases h
      · cases h
    · cases h
theorem look_q : ∀ {ql : List Qr}, (ql.map (·.k)).Nodup → ∀ q ∈ ql, mlook (qml ql) q.k = some (.ref q.R 0)
  | x :: ql, h, q, hq => by
    rw [List.map_cons, List.nodup_cons] at h
    rcases List.mem_cons.1 hq with rfl | hq
    · simp [qml, mlook]
    · have hne : x.k ≠ q.k := fun e => h.1 (by rw [e]; exact List.mem_map_of_mem hq)
      have := look_q h.2 q hq
      simp only [qml, List.map_cons, mlook] at this ⊢
      rw [if_neg (by first | exact hne | exact fun e => hne e.symm)]
      exact this
theorem z161 : zeroOf Tryz.prog 161 = some .nilp := by kernel_rfl
theorem look_run (h : St W0 L ow s w) {rm : Nat} {ql : List Qr} (hM : s[rm]? = some (mapTy, .undef :: flat (qml ql))) (hk : (ql.map (·.k)).Nodup) (hon : ∀ q ∈ ql, q.on s) {q : Qr} (hq : q ∈ ql) (hb : RowKit.Below w.heap.size w w') :
    (Instr.lookup 118 (.map (some (L.loc rm))) (key3 q.k) false).run Tryz.prog w' = .ok (.pointer (some ⟨L.loc q.R, L.bs q.R, none⟩)) w' ∧ w'.cell? ⟨L.loc q.R, L.bs q.R + 6, none⟩ = some (.int .i64 q.u) ∧ (L.loc q.R) < w.heap.size := by
  have h' := st_over h hb
  have hg := mGet und118 z161 hM q.k false
  rw [look_q hk q hq] at hg
  have hlm : L.live rm = true := by rw [h.live]; exact has_of hM (by simp)
  obtain ⟨c0, c1, c2, c3, c4, c5, hR⟩ := hon q hq
  have hlr : L.live q.R = true := by rw [h.live]; exact has_of hR (by simp)
  have hkv : Rel L (Kv q.k) (key3 q.k) := .agg _ [.int .i64 q.k.1, .int .i64 q.k.2.1, .int .i64 q.k.2.2] (.cons _ _ _ _ (.int _ _) (.cons _ _ _ _ (.int _ _) (.cons _ _ _ _ (.int _ _) .nil))) (by intro v hv; simp at hv; rcases hv with rfl | rfl | rfl <;> rfl)
  obtain ⟨u, h1, h2, _⟩ := mapGet_ok h' hg (.mr rm hlm) hkv
  have h2 : Rel L (.ref q.R 0) u := h2
  cases h2 with
  | ref _ _ hid =>
    have O := h'.obj q.R _ hR (by simp) (show (163 : Nat) ≠ deadTy by decide)
    obtain ⟨vs, js, ⟨fz, ps, hp, hh⟩, hrl, h3, h4, h5⟩ := O.cells (show (163 : Nat) ≠ mapTy by decide)
    refine ⟨h1, ?_, h.used _ (by rw [(h.obj q.R _ hR (by simp) (show (163 : Nat) ≠ deadTy by decide)).own]; simp)⟩
    have hlen := hrl.length
    cases hrl with
    | cons _ v0 _ _ _ t0 => cases t0 with
      | cons _ v1 _ _ _ t1 => cases t1 with
        | cons _ v2 _ _ _ t2 => cases t2 with
          | cons _ v3 _ _ _ t3 => cases t3 with
            | cons _ v4 _ _ _ t4 => cases t4 with
              | cons _ v5 _ _ _ t5 => cases t5 with
                | cons _ v6 _ _ h6 t6 =>
                  cases h6
                  exact cellsAt (k := 6) hp hh rfl
end
end Srv
end

section
namespace Go.Proofs
open Go Go.RowKit Go.Sort Go.Lib
section
variable {α : Type} [Inhabited α] (enc : α → List Value) (k : Nat)
theorem flat_get (hk : ∀ x, (enc x).length = k) : ∀ (l : List α) (j : Nat), j < l.length * k → (l.flatMap enc)[j]? = (enc l[j / k]!)[j % k]?
  | [], j, h => by simp at h
  | x :: l, j, h => by
    have hx := hk x
    have k0 : 0 < k := by
      rcases Nat.eq_zero_or_pos k with e | e
      · rw [e] at h; simp at h
      · exact e
    rw [List.flatMap_cons]
    by_cases hj : j < k
    · rw [List.getElem?_append_left (by omega), Nat.div_eq_of_lt hj, Nat.mod_eq_of_lt hj]; rfl
    · have h1 : (j - k) / k = j / k - 1 := by
        have := Nat.sub_mul_div j k 1
        rw [Nat.mul_one] at this; exact this
      have h2 : (j - k) % k = j % k := (Nat.mod_eq_sub_mod (by omega)).symm
      have h3 : 1 ≤ j / k := (Nat.le_div_iff_mul_le k0).2 (by omega)
      rw [List.getElem?_append_right (by omega), hx, flat_get hk l (j - k) (by rw [List.length_cons, Nat.add_mul, Nat.one_mul] at h; omega), h1, h2]
      obtain ⟨m, hm⟩ : ∃ m, j / k = m + 1 := ⟨j / k - 1, by omega⟩
      rw [hm]; rfl
theorem flatK_get (hk : ∀ x, (enc x).length = k) (d : Array α) (j : Nat) (h : j < d.size * k) : (d.toList.flatMap enc)[j]? = some (flatK enc k d)[j]! := by
  have k0 : 0 < k := by
    rcases Nat.eq_zero_or_pos k with e | e
    · rw [e] at h; simp at h
    · exact e
  rw [flat_get enc k hk d.toList j (by simpa using h), get_flatK enc k d j h]
  have hm : j % k < (enc d[j / k]!).length := by rw [hk]; exact Nat.mod_lt _ k0
  have e : d.toList[j / k]! = d[j / k]! := by
    rw [List.getElem!_eq_getElem?_getD, Array.getElem!_eq_getD, Array.getD_eq_getD_getElem?, Array.getElem?_toList]
  rw [e, List.getElem?_eq_getElem hm, List.getElem!_eq_getElem?_getD, List.getElem?_eq_getElem hm]; rfl
theorem holdsK_of_block (hk : ∀ x, (enc x).length = k) {W : World} {gb : Nat} {cur : Array Value} {e : TypeId} (hb : W.heap[gb]? = some (.cells cur e (0, 0))) (d : Array α) (ht : cur.toList.take (d.size * k) = d.toList.flatMap enc) : HoldsK enc k W gb 0 d := by
  intro j hj
  rw [size_flatK] at hj
  refine ⟨?_, by simp [World.frozen?, hb]⟩
  have h1 := flatK_get enc k hk d j hj
  rw [← ht, List.getElem?_take_of_lt hj] at h1
  simp only [World.cell?, hb, Nat.zero_add]
  simp only [Option.isSome_none, Bool.false_eq_true, if_false]
  rw [← Array.getElem?_toList, h1]
  rfl
theorem holdsK_cells (hk : ∀ x, (enc x).length = k) {W : World} {gb : Nat} {d : Array α} (h : HoldsK enc k W gb 0 d) (j : Nat) (v : Value) (hv : (d.toList.flatMap enc)[j]? = some v) : W.cell? ⟨gb, j, none⟩ = some v := by
  have hl : (d.toList.flatMap enc).length = d.size * k := by
    rw [← Array.length_toList]
    generalize d.toList = l
    induction l with
    | nil => simp
    | cons x l ih => rw [List.flatMap_cons, List.length_append, ih, hk, List.length_cons, Nat.add_mul, Nat.one_mul, Nat.add_comm]
  have hj : j < d.size * k := by have := (List.getElem?_eq_some_iff.1 hv).1; omega
  have h1 := flatK_get enc k hk d j hj
  have h2 := (h j (by rw [size_flatK]; exact hj)).1
  rw [Nat.zero_add] at h2
  rw [h2, ← hv, h1]; rfl
theorem grownBy_sortedK {w : World} {g n : Nat} {os : Array Obj} (d : Array α) : w.grownBy (sortWorldK enc k w g 0 n d os) (some g) := by
  refine ⟨rfl, rfl, rfl, by simp [sortWorldK, putRowK, Sort.ahead], fun j hj hne => ?_⟩
  unfold sortWorldK
  rw [heap_grow_old _ _ (by simpa [putRowK, Sort.ahead] using hj)]
  have : g ≠ j := fun e => hne (by rw [e])
  simp [putRowK, putRow, mapBlock, Sort.ahead, Array.getElem?_modify, this]
end
end Go.Proofs
namespace Srv
open Go Go.Abs Go.Proofs
section
variable {W0 : World} {L : Lay} {ow : Owns} {s : Heap} {w w' : World}
theorem relC_at {g : Nat} : ∀ {cs : List AV} {vs : List Value} (o : Nat), RelL L cs vs → (∀ v ∈ vs, oneC v = true) → (∀ j v, vs[j]? = some v → L.S g (o + j) = some v) → RelC L g o cs
  | _, _, o, .nil, _, _ => .nil _ _
  | _, _, o, .cons a v _ _ h t, h1, h2 => .cons _ _ _ _ v (h2 0 v rfl) (h1 v (by simp)) h (relC_at (o + 1) t (fun u hu => h1 u (by simp [hu])) fun j u hj => by
      have := h2 (j + 1) u (by simpa using hj)
      rwa [show o + 1 + j = o + (j + 1) by omega])
theorem new_below (h : St W0 L ow s w) (hm : L.m = false) (hb : RowKit.Below w.heap.size w w') {g : Nat} (hg : w.heap.size ≤ g) {ty : TypeId} {z : Nat} {xs : List AV} {vs : List Value} {cap : Nat} (hr : RelL L (cellsOf xs) vs) (h1 : ∀ v ∈ vs, oneC v = true)
    (hz : ∀ x ∈ xs, x.cells.length = z) (hcap : xs.length ≤ cap) (hc : ∀ j v, vs[j]? = some v → w'.cell? ⟨g, j, none⟩ = some v) :
    Res W0 L ow w (.sl ty z xs .sh) s (.slice (some ⟨g, 0, none⟩) xs.length cap) w' := by
  have hle : L.le (L.new g vs.length vs) := ⟨fun b o v e => by simp only [Lay.new]; rw [if_neg (by have := imm_lt h e; omega)]; exact e, fun _ h => h, fun _ _ => rfl, fun _ _ => rfl, fun _ _ => rfl, rfl⟩
  have hS : ∀ b, b < w.heap.size → ∀ o, (L.new g vs.length vs).S b o = L.S b o := fun b hb o => by simp only [Lay.new]; rw [if_neg (by omega)]
  have hx : Ext L ow w (L.new g vs.length vs) ow w' := ⟨hle, fun b hb' => by
    have hlt := h.used b (by rw [hb']; simp)
    exact ⟨hb', hS b hlt, hb.block b hlt⟩, ⟨hb.os, hb.tape, hb.output, hb.size, fun e => by rw [hm] at e; cases e⟩⟩
  refine ⟨L.new g vs.length vs, ow, hx, ?_, ?_, .of_not rfl⟩
  · refine h.move hle rfl (fun b hb' => ?_) (fun b o v hSv => ?_) (fun b hu => Nat.lt_of_lt_of_le (h.used b hu) hb.size) h.base (h.below_ext hx)
    · have hlt := h.used b (by intro e; rw [e] at hb'; cases hb')
      exact ⟨rfl, hS b hlt, hb.block b hlt⟩
    · by_cases e : b = g
      · subst e
        simp only [Lay.new, if_true] at hSv
        split at hSv
        · exact hc o v hSv
        · cases hSv
      · simp only [Lay.new] at hSv
        rw [if_neg e] at hSv
        rw [cell?_of_heap (hb.block b (imm_lt h hSv))]
        exact h.imm b o v hSv
  · exact Rel.sl g 0 ty z xs .sh cap (relC_at 0 (hr.mono hle) h1 fun j v hj => by
      simp only [Lay.new, if_true, Nat.zero_add]
      rw [if_pos (List.getElem?_eq_some_iff.1 hj).1]; exact hj) hz ⟨hcap, nofun⟩
end
end Srv
end

section
namespace Go.Proofs
open Go Go.RowKit Go.Maps Go.Lib Go.Sort
set_option maxHeartbeats 1000000 in
theorem cmp93 (W : World) (Bd D d0 b r1 o1 r2 o2 : Nat) (k1 k2 : Int × Int × Int) (u1 u2 : Int)
    (hBd : W.cell? ⟨Bd, 0, none⟩ = some (.pointer (some ⟨D, d0, none⟩))) (hdb : W.cell? ⟨D, d0 + 2, none⟩ = some (.map (some b)))
    (hl1 : ∀ W', RowKit.Below W.heap.size W W' → (Instr.lookup 118 (.map (some b)) (key3 k1) false).run Tryz.prog W' = .ok (.pointer (some ⟨r1, o1, none⟩)) W' ∧ W'.cell? ⟨r1, o1 + 6, none⟩ = some (.int .i64 u1))
    (hl2 : ∀ W', RowKit.Below W.heap.size W W' → (Instr.lookup 118 (.map (some b)) (key3 k2) false).run Tryz.prog W' = .ok (.pointer (some ⟨r2, o2, none⟩)) W' ∧ W'.cell? ⟨r2, o2 + 6, none⟩ = some (.int .i64 u2))
    (hu1 : 0 ≤ u1 ∧ u1 < 1000000000) (hu2 : 0 ≤ u2 ∧ u2 < 1000000000) :
    Calls Tryz.prog 93 #[key3 k1, key3 k2, .pointer (some ⟨Bd, 0, none⟩)] W fun e w' => e = .returned (.int .i64 (u1 - u2)) ∧ ∃ q os', w' = grow (W.drewN q) os' := by
  obtain ⟨a1, b1, c1⟩ := k1
  obtain ⟨a2, b2, c2⟩ := k2
  have mixed : Tryz.prog.follows Departure.mixedOrders = true := by kernel_rfl
  unfold key3 at hl1 hl2 ⊢
  simp only at hl1 hl2 ⊢
  obtain ⟨V, hV⟩ : ∃ V, (W.alloc (.cells #[.int .i64 a1, .int .i64 b1, .int .i64 c1] 79)).alloc (.cells #[.int .i64 a2, .int .i64 b2, .int .i64 c2] 79) = V := ⟨_, rfl⟩
  have hbV : RowKit.Below W.heap.size W V := by rw [← hV]; exact ((RowKit.Below.refl _ W).alloc (Nat.le_refl _) _).alloc (by simp) _
  have hbD : RowKit.Below W.heap.size W V.drew := ⟨hbV.os, hbV.tape, hbV.output, hbV.size, hbV.block⟩
  obtain ⟨q1, q2⟩ := hl1 V.drew hbD
  obtain ⟨q3, q4⟩ := hl2 V.drew hbD
  have hsz : V.heap.size = W.heap.size + 2 := by rw [← hV]; simp
  have x1 : ∀ j u, [Value.int .i64 a1, .int .i64 b1, .int .i64 c1][j]? = some u → V.drew.cell? ⟨W.heap.size, j, none⟩ = some u := fun j u hj => by
    show V.cell? _ = _
    rw [← hV]
    have : (W.alloc (.cells #[.int .i64 a1, .int .i64 b1, .int .i64 c1] 79)).cell? ⟨W.heap.size, j, none⟩ = some u := by
      rw [World.cell?_alloc_at (w := W) _ _ W.heap.size j rfl]; simpa using hj
    rw [← this]
    have h1 : W.heap.size < (W.alloc (.cells #[.int .i64 a1, .int .i64 b1, .int .i64 c1] 79)).heap.size := by simp
    simp only [World.cell?, RowKit.Below.heap_alloc _ _ _ h1]
  have x2 : ∀ j u, [Value.int .i64 a2, .int .i64 b2, .int .i64 c2][j]? = some u → V.drew.cell? ⟨W.heap.size + 1, j, none⟩ = some u := fun j u hj => by
    show V.cell? _ = _
    rw [← hV, World.cell?_alloc_at (w := W.alloc (.cells #[.int .i64 a1, .int .i64 b1, .int .i64 c1] 79)) _ _ (W.heap.size + 1) j (by simp)]; simpa using hj
  have x10 := x1 0 _ rfl
  have x11 := x1 1 _ rfl
  have x12 := x1 2 _ rfl
  have x20 := x2 0 _ rfl
  have x21 := x2 1 _ rfl
  have x22 := x2 2 _ rfl
  have y1 : V.drew.cell? ⟨Bd, 0, none⟩ = some (.pointer (some ⟨D, d0, none⟩)) := by
    have := World.block_lt_of_cell? W (a := _) hBd
    rw [← hBd]; exact Go.Abs.cell?_of_heap (hbD.block _ this) _
  have y2 : V.drew.cell? ⟨D, d0 + 2, none⟩ = some (.map (some b)) := by
    have := World.block_lt_of_cell? W (a := _) hdb
    rw [← hdb]; exact Go.Abs.cell?_of_heap (hbD.block _ this) _
  have hw : IntKind.i64.wrap (u1 - u2) = u1 - u2 := Go.Abs.wrap64 (by omega) (by omega)
  clear hl1 hl2 hbV hbD hBd hdb x1 x2
  go_enter Tryz.func93, Tryz.ntmps93
  go_wp2
  go_region
  go_wp2
  go_ret
  exact ⟨rfl, 1, _, by rw [← hV, alloc_eq_grow, alloc_eq_grow, grow_grow]; rfl⟩
end Go.Proofs
end
