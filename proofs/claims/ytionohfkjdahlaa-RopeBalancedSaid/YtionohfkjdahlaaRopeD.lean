/- What copyCheck and String owe the abstract machine. -/
import Derived.Test.YtionohfkjdahlaaRopeB
import Derived.Test.YtionohfkjdahlaaRopeC
set_option linter.all false
namespace RopeF
open Go Go.Abs Go.Proofs

theorem relL2 {L : Lay} {a b : AV} {vs : List Value} (h : RelL L [a, b] vs) : ∃ u v, vs = [u, v] ∧ Rel L a u ∧ Rel L b v := by
  cases h with
  | cons _ u _ _ h1 t => cases t with
    | cons _ v _ _ h2 t2 => cases t2; exact ⟨u, v, rfl, h1, h2⟩
theorem relL1 {L : Lay} {a : AV} {vs : List Value} (h : RelL L [a] vs) : ∃ u, vs = [u] ∧ Rel L a u := by
  cases h with
  | cons _ u _ _ h1 t => cases t; exact ⟨u, rfl, h1⟩

theorem cell_at {w : World} {b : Nat} {vs : List Value} {ty : TypeId} {fz : Nat × Nat} (h : w.heap[b]? = some (.cells vs.toArray ty fz)) (o : Nat) : w.cell? ⟨b, o, none⟩ = vs[o]? := by
  simp [World.cell?, h]

theorem sz50 : szOf Try.prog 50 = some 1 := by kernel_rfl

theorem spec_check (W0 : World) (args : List AV) (s : Heap) (v : AV) (s' : Heap) (h : bCheck 53 args s = some (v, s')) : CallSpec C W0 30 args s v s' := by
  intro L ow w cargs hg hst hargs
  unfold bCheck at h
  split at h
  · rename_i id
    obtain ⟨u, rfl, hu⟩ := relL1 hargs
    cases hu with
    | ref _ _ hid =>
    split at h
    · rename_i t b hs
      split at h
      · rename_i ht
        subst ht
        cases h
        have O := hst.obj id _ hs (by simp)
        obtain ⟨vs, ⟨fz, hh⟩, hrel, h1, h2⟩ := O.cells
        obtain ⟨u1, u2, rfl, k1, k2⟩ := relL2 hrel
        cases k1
        have hlt : id < s.length := (List.getElem?_eq_some_iff.1 hs).1
        have hres : aStore 1 s (.ref id 0) (.ref id 0) = some (s.set id (53, [.ref id 0, b])) := by
          simp [aStore, AV.solid, AV.cells, hs, setL, stCells]
        obtain ⟨w', r1, r2, r3⟩ := store_full hst sz50 hres (.ref id 0 hid) (.ref id 0 hid) (.of_not rfl)
        have hw' := r3 id 0 [.pointer (some ⟨L.loc id, 0, none⟩)] rfl rfl
        refine (check_fresh (L.loc id) w ?_ ?_ ?_).mono ?_
        · rw [cell_at hh]; rfl
        · simp [World.shape?, hh]
        · exact O.melt 0
        · rintro e w2 ⟨rfl, rfl⟩
          refine ⟨_, rfl, ?_⟩
          obtain ⟨L', ow', x1, x2, _, _⟩ := r2
          have e : w.setCell ⟨L.loc id, 0, none⟩ (.pointer (some ⟨L.loc id, 0, none⟩)) = w' := by rw [hw']; rfl
          rw [e]
          exact ⟨L', ow', x1, x2, .tup [] [] .nil, trivial⟩
      · cases h
    · rename_i t id' b hs
      split at h
      · rename_i e
        cases h
        subst e
        have O := hst.obj id' _ hs (by simp)
        obtain ⟨vs, ⟨fz, hh⟩, hrel, h1, h2⟩ := O.cells
        obtain ⟨u1, u2, rfl, k1, k2⟩ := relL2 hrel
        cases k1
        refine (check_used (L.loc id') w ?_).mono ?_
        · rw [cell_at hh]; rfl
        · rintro e w2 ⟨rfl, rfl⟩
          exact ⟨_, rfl, .same hst (.tup [] [] .nil) (fun _ _ _ _ => trivial)⟩
      · cases h
    · cases h
  · cases h

theorem asBytes_cons {x : AV} {xs : List AV} {bs : List UInt8} (h : asBytes (x :: xs) = some bs) : ∃ n r, x = .int .u8 n ∧ 0 ≤ n ∧ n < 256 ∧ asBytes xs = some r ∧ bs = UInt8.ofNat n.toNat :: r := by
  unfold asBytes at h
  split at h
  · rename_i e; cases e
  · rename_i n r e
    cases e
    split at h
    · rename_i hn
      rw [Option.map_eq_some_iff] at h
      obtain ⟨r, h1, rfl⟩ := h
      exact ⟨n, r, rfl, hn.1, hn.2, h1, rfl⟩
    · cases h
  · cases h
theorem asBytes_len : ∀ {xs : List AV} {bs : List UInt8}, asBytes xs = some bs → bs.length = xs.length
  | [], bs, h => by cases h; rfl
  | x :: xs, bs, h => by
    obtain ⟨n, r, rfl, _, _, h1, rfl⟩ := asBytes_cons h
    simp [asBytes_len h1]

theorem asBytes_cell {L : Lay} {w : World} (himm : ∀ b o v, L.S b o = some v → w.cell? ⟨b, o, none⟩ = some v) {g : Nat} : ∀ {xs : List AV} {bs : List UInt8} {o : Nat}, asBytes xs = some bs → RelC L g o (cellsOf xs) →
    ∀ j x, bs[j]? = some x → w.cell? ⟨g, o + j, none⟩ = some (.int .u8 x.toNat)
  | [], bs, o, h, hr, j, x, hj => by cases h; simp at hj
  | y :: xs, bs, o, h, hr, j, x, hj => by
    obtain ⟨n, r, rfl, hn0, hn1, h1, rfl⟩ := asBytes_cons h
    have hr' : RelC L g o (.int .u8 n :: cellsOf xs) := hr
    cases hr' with
    | cons _ _ _ _ v hs hv hrel t =>
      cases hrel
      cases j with
      | zero =>
        simp at hj
        subst hj
        rw [Nat.add_zero, himm _ _ _ hs]
        congr 2
        simp
        omega
      | succ j =>
        simp at hj
        have := asBytes_cell himm h1 t j x hj
        rw [show o + (j + 1) = o + 1 + j by omega]
        exact this

theorem freeze_other {w : World} {g b : Nat} (n : Nat) (h : b ≠ g) : (w.freeze ⟨g, 0, none⟩ n).heap[b]? = w.heap[b]? := by
  unfold World.freeze
  split
  · rfl
  · simp only [Array.getElem?_modify]
    rw [if_neg (fun e => h e.symm)]
theorem freeze_same {w : World} {g : Nat} (n : Nat) : Same w (w.freeze ⟨g, 0, none⟩ n) := by
  unfold World.freeze
  split
  · exact .refl w
  · exact ⟨rfl, rfl, rfl, by simp⟩
theorem freeze_cell {w : World} {g : Nat} (n o : Nat) : (w.freeze ⟨g, 0, none⟩ n).cell? ⟨g, o, none⟩ = w.cell? ⟨g, o, none⟩ := by
  unfold World.freeze
  split
  · rfl
  · simp only [World.cell?, Array.getElem?_modify, if_true]
    cases hh : w.heap[g]? with
    | none => rfl
    | some x => cases x <;> rfl

theorem spec_string (W0 : World) (args : List AV) (s : Heap) (v : AV) (s' : Heap) (h : bString 5 args s = some (v, s')) : CallSpec C W0 21 args s v s' := by
  intro L ow w cargs hg hst hargs
  unfold bString at h
  split at h
  · rename_i id
    obtain ⟨u, rfl, hu⟩ := relL1 hargs
    cases hu with
    | ref _ _ hid =>
    split at h
    · rename_i t a hs
      cases h
      have O := hst.obj id _ hs (by simp)
      obtain ⟨vs, ⟨fz, hh⟩, hrel, h1, h2⟩ := O.cells
      obtain ⟨u1, u2, rfl, k1, k2⟩ := relL2 hrel
      cases k2
      refine (string_nil_walk (L.loc id) w ?_).mono ?_
      · rw [cell_at hh]; rfl
      · rintro e w2 ⟨rfl, rfl⟩
        exact ⟨_, rfl, L, ow, drew_ext, drew_st hst, .str [], trivial⟩
    · rename_i t a ty xs hs
      split at h
      · rename_i hty
        subst hty
        split at h
        · rename_i b0 bs hb
          split at h
          case isFalse => cases h
          rename_i hbig
          cases h
          have O := hst.obj id _ hs (by simp)
          obtain ⟨vs, ⟨fz, hh⟩, hrel, h1, h2⟩ := O.cells
          obtain ⟨u1, u2, rfl, k1, k2⟩ := relL2 hrel
          have hlt : id < s.length := (List.getElem?_eq_some_iff.1 hs).1
          cases k2 with
          | sl g o _ _ _ _ cap hc hz hcap =>
          obtain ⟨o1, ⟨c, fz2, o2, o3, o4⟩, o5⟩ := h2 1 _ _ rfl rfl
          simp only at o1 o2 o3 o4
          subst o3
          have hlen := asBytes_len hb
          have hne : L.loc id ≠ g := by intro e; rw [← e, O.own] at o1; cases o1
          have hlt' : g < w.heap.size := hst.used _ (by rw [o1]; simp)
          refine (string_walk (L.loc id) g cap (b0 :: bs) u1 w ?_ c fz2 o2 ?_ (by simp) (by omega) (by omega) ?_).mono ?_
          · rw [cell_at hh, hlen]; rfl
          · intro j x hx
            have := asBytes_cell hst.imm hb hc j x hx
            rwa [Nat.zero_add] at this
          · simp only [List.length_cons]; omega
          · rintro e w2 ⟨rfl, rfl⟩
            have ho : ∀ b, b ≠ g → (w.drew.freeze ⟨g, 0, none⟩ (b0 :: bs).length).heap[b]? = w.heap[b]? := fun b hb => freeze_other _ hb
            have hsame : Same w (w.drew.freeze ⟨g, 0, none⟩ (b0 :: bs).length) := Same.trans (b := w.drew) ⟨rfl, rfl, rfl, Nat.le_refl _⟩ (freeze_same _)
            have hx : Ext L ow w L ow (w.drew.freeze ⟨g, 0, none⟩ (b0 :: bs).length) := ⟨.refl L, fun b hb => ⟨hb, fun _ => rfl, ho b (by intro e; rw [e, o1] at hb; cases hb)⟩, hsame⟩
            refine ⟨_, rfl, L, ow, hx, ⟨fun i => by rw [hst.live, has_set (has_of hs (by simp)) (by simp)], fun b o x hS => ?_, fun id' ds hds hds' => ?_, fun b hb => Nat.lt_of_lt_of_le (hst.used b hb) hsame.size, hst.base, hst.below_ext hx⟩, .str _, trivial⟩
            · by_cases e : b = g
              · subst e; rw [freeze_cell]; exact hst.imm _ _ _ hS
              · rw [cell?_of_heap (ho b e)]; exact hst.imm b o x hS
            · by_cases e' : id' = id
              · subst e'
                rw [List.getElem?_set_self hlt] at hds
                cases hds
                refine ⟨O.own, O.S, ⟨[u1, _], ⟨fz, by rw [ho _ hne]; exact hh⟩, .cons _ _ _ _ k1 (.cons _ _ _ _ (.sl g 0 _ _ _ .sh cap hc hz ⟨hcap.1, nofun⟩) .nil), h1, ?_⟩, fun o => by rw [frozen?_of_heap (ho _ hne)]; exact O.melt o⟩
                intro k b q hb' hq
                match k, hb', hq with
                | 0, hb', hq =>
                  exact (h2 0 b q hb' hq).move fun c' hc' => ⟨hc', fun _ => rfl, ho c' (by intro e; rw [e, o1] at hc'; cases hc')⟩
                | 1, hb', hq =>
                  simp at hb'
                  subst hb'
                  exact .of_not rfl
                | k + 2, hb', hq => simp at hb'
              · rw [List.getElem?_set_ne (fun e => e' e.symm)] at hds
                have hidlt : L.live id' = true := by rw [hst.live]; exact has_of hds hds'
                refine (hst.obj id' ds hds hds').move (.refl L) hidlt (fun b hb' => ⟨rfl, fun _ => rfl, ho b ?_⟩)
                intro e; rw [e, o1] at hb'
                rcases hb' with hb' | ⟨k, hb'⟩
                · cases hb'
                · injection hb' with hb'; exact e' hb'.symm
        · cases h
      · cases h
    · cases h
  · cases h
end RopeF
