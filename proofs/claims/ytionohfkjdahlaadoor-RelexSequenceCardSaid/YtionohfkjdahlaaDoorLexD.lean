/- The contracts of strings.IndexByte, HasPrefix, Fields as the abstract machine wants them. -/
import Derived.Test.YtionohfkjdahlaaDoorLexC
import Derived.Test.YtionohfkjdahlaaDoorRelB
import Derived.Test.YtionohfkjdahlaaDoorLexS
import Derived.WalkSmall
import Derived.Lib.AppendIntMem
set_option linter.all false
namespace LexF
open Go Go.Abs Go.Proofs

theorem relL2 {L : Lay} {a b : AV} {vs : List Value} (h : RelL L [a, b] vs) : ∃ u v, vs = [u, v] ∧ Rel L a u ∧ Rel L b v := by
  cases h with
  | cons _ _ _ _ h t => cases t with
    | cons _ _ _ _ h' t' => cases t'; exact ⟨_, _, rfl, h, h'⟩
theorem relL1 {L : Lay} {a : AV} {vs : List Value} (h : RelL L [a] vs) : ∃ u, vs = [u] ∧ Rel L a u := by
  cases h with
  | cons _ _ _ _ h t => cases t; exact ⟨_, rfl, h⟩
theorem bytes_list (a : List UInt8) : (⟨a.toArray⟩ : ByteArray).data.toList = a := by simp
theorem bytes_size (a : List UInt8) : (⟨a.toArray⟩ : ByteArray).size = a.length := by show a.toArray.size = _; simp
theorem relL_strs (L : Lay) : ∀ xs : List (List UInt8), RelL L (xs.map .str) (xs.map fun l => Value.string ⟨l.toArray⟩)
  | [] => .nil
  | x :: xs => .cons _ _ _ _ (.str x) (relL_strs L xs)
theorem cellsOf_strs (xs : List (List UInt8)) : cellsOf (xs.map AV.str) = xs.map .str := by
  induction xs with
  | nil => rfl
  | cons x xs ih => show [_] ++ cellsOf (xs.map AV.str) = _; rw [ih]; rfl

/-- A new slice of strings. -/
theorem new_strs {W0 : World} {L : Lay} {ow : Owns} {s : Heap} {w : World} (h : St W0 L ow s w) (xs : List (List UInt8)) :
    Res W0 L ow w (.sl 9 1 (xs.map .str) .sh) s (.slice (some ⟨w.heap.size, 0, none⟩) xs.length xs.length) (w.alloc (.cells (xs.map fun l => Value.string ⟨l.toArray⟩).toArray 9)) := by
  refine ⟨L.new w.heap.size (xs.map fun l => Value.string ⟨l.toArray⟩).length (xs.map fun l => Value.string ⟨l.toArray⟩), newOw ow w.heap.size .free, new_ext h _ _ _ _, new_st h _ _ _ _, ?_, .of_not rfl⟩
  have hr := Rel.sl (L := L.new w.heap.size (xs.map fun l => Value.string ⟨l.toArray⟩).length (xs.map fun l => Value.string ⟨l.toArray⟩)) w.heap.size 0 9 1 (xs.map .str) .sh xs.length
    (new_relC h (by rw [List.take_length, cellsOf_strs]; exact relL_strs L xs) (by
      intro v hv
      rw [List.take_length] at hv
      obtain ⟨l, _, rfl⟩ := List.mem_map.1 hv
      rfl)) (by intro x hx; obtain ⟨l, _, rfl⟩ := List.mem_map.1 hx; rfl) ⟨by simp, nofun⟩
  simp only [List.length_map] at hr ⊢
  exact hr

theorem cell_at {w : World} {b : Nat} {vs : List Value} {ty : TypeId} {fz : Nat × Nat} (h : w.heap[b]? = some (.cells vs.toArray ty fz)) (o : Nat) : w.cell? ⟨b, o, none⟩ = vs[o]? := by
  simp [World.cell?, h]

theorem sz50 : szOf Tryd.prog 72 = some 1 := by kernel_rfl

theorem spec_check (W0 : World) (args : List AV) (s : Heap) (v : AV) (s' : Heap) (h : bCheck 75 args s = some (v, s')) : CallSpec C W0 66 args s v s' := by
  intro L ow w cargs hg hst hargs
  unfold bCheck at h
  split at h
  · rename_i id
    obtain ⟨u, rfl, hu⟩ := relL1 hargs
    cases hu with
    | ref _ _ hid =>
    split at h
    · rename_i t b hs
      split at h
      · rename_i ht
        subst ht
        cases h
        have O := hst.obj id _ hs (by simp)
        obtain ⟨vs, ⟨fz, hh⟩, hrel, h1, h2⟩ := O.cells
        obtain ⟨u1, u2, rfl, k1, k2⟩ := relL2 hrel
        cases k1
        have hlt : id < s.length := (List.getElem?_eq_some_iff.1 hs).1
        have hres : aStore 1 s (.ref id 0) (.ref id 0) = some (s.set id (75, [.ref id 0, b])) := by
          simp [aStore, AV.solid, AV.cells, hs, setL, stCells]
        obtain ⟨w', r1, r2, r3⟩ := store_full hst sz50 hres (.ref id 0 hid) (.ref id 0 hid) (.of_not rfl)
        have hw' := r3 id 0 [.pointer (some ⟨L.loc id, 0, none⟩)] rfl rfl
        refine (check_fresh (L.loc id) w ?_ ?_ ?_).mono ?_
        · rw [cell_at hh]; rfl
        · simp [World.shape?, hh]
        · exact O.melt 0
        · rintro e w2 ⟨rfl, rfl⟩
          refine ⟨_, rfl, ?_⟩
          obtain ⟨L', ow', x1, x2, _, _⟩ := r2
          have e : w.setCell ⟨L.loc id, 0, none⟩ (.pointer (some ⟨L.loc id, 0, none⟩)) = w' := by rw [hw']; rfl
          rw [e]
          exact ⟨L', ow', x1, x2, .tup [] [] .nil, trivial⟩
      · cases h
    · rename_i t id' b hs
      split at h
      · rename_i e
        cases h
        subst e
        have O := hst.obj id' _ hs (by simp)
        obtain ⟨vs, ⟨fz, hh⟩, hrel, h1, h2⟩ := O.cells
        obtain ⟨u1, u2, rfl, k1, k2⟩ := relL2 hrel
        cases k1
        refine (check_used (L.loc id') w ?_).mono ?_
        · rw [cell_at hh]; rfl
        · rintro e w2 ⟨rfl, rfl⟩
          exact ⟨_, rfl, .same hst (.tup [] [] .nil) (fun _ _ _ _ => trivial)⟩
      · cases h
    · cases h
  · cases h

theorem asBytes_cons {x : AV} {xs : List AV} {bs : List UInt8} (h : asBytes (x :: xs) = some bs) : ∃ n r, x = .int .u8 n ∧ 0 ≤ n ∧ n < 256 ∧ asBytes xs = some r ∧ bs = UInt8.ofNat n.toNat :: r := by
  unfold asBytes at h
  split at h
  · rename_i e; cases e
  · rename_i n r e
    cases e
    split at h
    · rename_i hn
      rw [Option.map_eq_some_iff] at h
      obtain ⟨r, h1, rfl⟩ := h
      exact ⟨n, r, rfl, hn.1, hn.2, h1, rfl⟩
    · cases h
  · cases h
theorem asBytes_len : ∀ {xs : List AV} {bs : List UInt8}, asBytes xs = some bs → bs.length = xs.length
  | [], bs, h => by cases h; rfl
  | x :: xs, bs, h => by
    obtain ⟨n, r, rfl, _, _, h1, rfl⟩ := asBytes_cons h
    simp [asBytes_len h1]

theorem asBytes_cell {L : Lay} {w : World} (himm : ∀ b o v, L.S b o = some v → w.cell? ⟨b, o, none⟩ = some v) {g : Nat} : ∀ {xs : List AV} {bs : List UInt8} {o : Nat}, asBytes xs = some bs → RelC L g o (cellsOf xs) →
    ∀ j x, bs[j]? = some x → w.cell? ⟨g, o + j, none⟩ = some (.int .u8 x.toNat)
  | [], bs, o, h, hr, j, x, hj => by cases h; simp at hj
  | y :: xs, bs, o, h, hr, j, x, hj => by
    obtain ⟨n, r, rfl, hn0, hn1, h1, rfl⟩ := asBytes_cons h
    have hr' : RelC L g o (.int .u8 n :: cellsOf xs) := hr
    cases hr' with
    | cons _ _ _ _ v hs hv hrel t =>
      cases hrel
      cases j with
      | zero =>
        simp at hj
        subst hj
        rw [Nat.add_zero, himm _ _ _ hs]
        congr 2
        simp
        omega
      | succ j =>
        simp at hj
        have := asBytes_cell himm h1 t j x hj
        rw [show o + (j + 1) = o + 1 + j by omega]
        exact this

theorem freeze_other {w : World} {g b : Nat} (n : Nat) (h : b ≠ g) : (w.freeze ⟨g, 0, none⟩ n).heap[b]? = w.heap[b]? := by
  unfold World.freeze
  split
  · rfl
  · simp only [Array.getElem?_modify]
    rw [if_neg (fun e => h e.symm)]
theorem freeze_same {w : World} {g : Nat} (n : Nat) : Same w (w.freeze ⟨g, 0, none⟩ n) := by
  unfold World.freeze
  split
  · exact .refl w
  · exact ⟨rfl, rfl, rfl, by simp⟩
theorem freeze_cell {w : World} {g : Nat} (n o : Nat) : (w.freeze ⟨g, 0, none⟩ n).cell? ⟨g, o, none⟩ = w.cell? ⟨g, o, none⟩ := by
  unfold World.freeze
  split
  · rfl
  · simp only [World.cell?, Array.getElem?_modify, if_true]
    cases hh : w.heap[g]? with
    | none => rfl
    | some x => cases x <;> rfl

theorem spec_string (W0 : World) (args : List AV) (s : Heap) (v : AV) (s' : Heap) (h : bString 5 args s = some (v, s')) : CallSpec C W0 54 args s v s' := by
  intro L ow w cargs hg hst hargs
  unfold bString at h
  split at h
  · rename_i id
    obtain ⟨u, rfl, hu⟩ := relL1 hargs
    cases hu with
    | ref _ _ hid =>
    split at h
    · rename_i t a hs
      cases h
      have O := hst.obj id _ hs (by simp)
      obtain ⟨vs, ⟨fz, hh⟩, hrel, h1, h2⟩ := O.cells
      obtain ⟨u1, u2, rfl, k1, k2⟩ := relL2 hrel
      cases k2
      refine (string_nil_walk (L.loc id) w ?_).mono ?_
      · rw [cell_at hh]; rfl
      · rintro e w2 ⟨rfl, rfl⟩
        exact ⟨_, rfl, L, ow, drew_ext, drew_st hst, .str [], trivial⟩
    · rename_i t a ty xs hs
      split at h
      · rename_i hty
        subst hty
        split at h
        · rename_i b0 bs hb
          split at h
          case isFalse => cases h
          rename_i hbig
          cases h
          have O := hst.obj id _ hs (by simp)
          obtain ⟨vs, ⟨fz, hh⟩, hrel, h1, h2⟩ := O.cells
          obtain ⟨u1, u2, rfl, k1, k2⟩ := relL2 hrel
          have hlt : id < s.length := (List.getElem?_eq_some_iff.1 hs).1
          cases k2 with
          | sl g o _ _ _ _ cap hc hz hcap =>
          obtain ⟨o1, ⟨c, fz2, o2, o3, o4⟩, o5⟩ := h2 1 _ _ rfl rfl
          simp only at o1 o2 o3 o4
          subst o3
          have hlen := asBytes_len hb
          have hne : L.loc id ≠ g := by intro e; rw [← e, O.own] at o1; cases o1
          have hlt' : g < w.heap.size := hst.used _ (by rw [o1]; simp)
          refine (string_walk (L.loc id) g cap (b0 :: bs) u1 w ?_ c fz2 o2 ?_ (by simp) (by omega) (by omega) ?_).mono ?_
          · rw [cell_at hh, hlen]; rfl
          · intro j x hx
            have := asBytes_cell hst.imm hb hc j x hx
            rwa [Nat.zero_add] at this
          · simp only [List.length_cons]; omega
          · rintro e w2 ⟨rfl, rfl⟩
            have ho : ∀ b, b ≠ g → (w.drew.freeze ⟨g, 0, none⟩ (b0 :: bs).length).heap[b]? = w.heap[b]? := fun b hb => freeze_other _ hb
            have hsame : Same w (w.drew.freeze ⟨g, 0, none⟩ (b0 :: bs).length) := Same.trans (b := w.drew) ⟨rfl, rfl, rfl, Nat.le_refl _⟩ (freeze_same _)
            have hx : Ext L ow w L ow (w.drew.freeze ⟨g, 0, none⟩ (b0 :: bs).length) := ⟨.refl L, fun b hb => ⟨hb, fun _ => rfl, ho b (by intro e; rw [e, o1] at hb; cases hb)⟩, hsame⟩
            refine ⟨_, rfl, L, ow, hx, ⟨fun i => by rw [hst.live, has_set (has_of hs (by simp)) (by simp)], fun b o x hS => ?_, fun id' ds hds hds' => ?_, fun b hb => Nat.lt_of_lt_of_le (hst.used b hb) hsame.size, hst.base, hst.below_ext hx⟩, .str _, trivial⟩
            · by_cases e : b = g
              · subst e; rw [freeze_cell]; exact hst.imm _ _ _ hS
              · rw [cell?_of_heap (ho b e)]; exact hst.imm b o x hS
            · by_cases e' : id' = id
              · subst e'
                rw [List.getElem?_set_self hlt] at hds
                cases hds
                refine ⟨O.own, O.S, ⟨[u1, _], ⟨fz, by rw [ho _ hne]; exact hh⟩, .cons _ _ _ _ k1 (.cons _ _ _ _ (.sl g 0 _ _ _ .sh cap hc hz ⟨hcap.1, nofun⟩) .nil), h1, ?_⟩, fun o => by rw [frozen?_of_heap (ho _ hne)]; exact O.melt o⟩
                intro k b q hb' hq
                match k, hb', hq with
                | 0, hb', hq =>
                  exact (h2 0 b q hb' hq).move fun c' hc' => ⟨hc', fun _ => rfl, ho c' (by intro e; rw [e, o1] at hc'; cases hc')⟩
                | 1, hb', hq =>
                  simp at hb'
                  subst hb'
                  exact .of_not rfl
                | k + 2, hb', hq => simp at hb'
              · rw [List.getElem?_set_ne (fun e => e' e.symm)] at hds
                have hidlt : L.live id' = true := by rw [hst.live]; exact has_of hds hds'
                refine (hst.obj id' ds hds hds').move (.refl L) hidlt (fun b hb' => ⟨rfl, fun _ => rfl, ho b ?_⟩)
                intro e; rw [e, o1] at hb'
                rcases hb' with hb' | ⟨k, hb'⟩
                · cases hb'
                · injection hb' with hb'; exact e' hb'.symm
        · cases h
      · cases h
    · cases h
  · cases h

/-- New blocks alone. -/
theorem below_res {W0 : World} {L : Lay} {ow : Owns} {s : Heap} {w w' : World} (h : St W0 L ow s w) (hb : RowKit.Below w.heap.size w w') {r : AV} {v : Value} (hr : Rel L r v) (hn : NoOwn r v) : Res W0 L ow w r s v w' := by
  have hx : Ext L ow w L ow w' := ⟨.refl L, fun b hf => ⟨hf, fun _ => rfl, hb.block b (h.used b (by rw [hf]; simp))⟩, ⟨hb.os, hb.tape, hb.output, hb.size⟩⟩
  refine ⟨L, ow, hx, h.move (.refl L) rfl (fun b he => ⟨rfl, fun _ => rfl, hb.block b (h.used b (by intro e; rw [e] at he; cases he))⟩) (fun b o v hS => ?_) (fun b hu => Nat.lt_of_lt_of_le (h.used b hu) hb.size) h.base (h.below_ext hx), hr, hn _ _ _ _⟩
  rw [cell?_of_heap (hb.block b (imm_lt h hS))]
  exact h.imm b o v hS

theorem asInts_cons {x : AV} {xs : List AV} {zs : List Int} (h : asInts (x :: xs) = some zs) : ∃ z r, x = .int .i64 z ∧ asInts xs = some r ∧ zs = z :: r := by
  unfold asInts at h
  split at h
  · rename_i e; cases e
  · rename_i e; cases e
    rw [Option.map_eq_some_iff] at h
    obtain ⟨r, h1, rfl⟩ := h
    exact ⟨_, r, rfl, h1, rfl⟩
  · cases h
theorem asInts_len : ∀ {xs : List AV} {zs : List Int}, asInts xs = some zs → zs.length = xs.length
  | [], zs, h => by cases h; rfl
  | x :: xs, zs, h => by
    obtain ⟨z, r, rfl, h1, rfl⟩ := asInts_cons h
    simp [asInts_len h1]
theorem asInts_cell {L : Lay} {w : World} (himm : ∀ b o v, L.S b o = some v → w.cell? ⟨b, o, none⟩ = some v) {g : Nat} : ∀ {xs : List AV} {zs : List Int} {o : Nat}, asInts xs = some zs → RelC L g o (cellsOf xs) →
    ∀ j, j < zs.length → w.cell? ⟨g, o + j, none⟩ = some (.int .i64 (zs.getD j 0))
  | [], zs, o, h, hr, j, hj => by cases h; simp at hj
  | y :: xs, zs, o, h, hr, j, hj => by
    obtain ⟨z, r, rfl, h1, rfl⟩ := asInts_cons h
    have hr' : RelC L g o (.int .i64 z :: cellsOf xs) := hr
    cases hr' with
    | cons _ _ _ _ v hs hv hrel t =>
      cases hrel
      cases j with
      | zero => rw [Nat.add_zero, himm _ _ _ hs]; rfl
      | succ j =>
        have := asInts_cell himm h1 t j (by simpa using hj)
        rw [show o + (j + 1) = o + 1 + j by omega, this]
        rfl

def SpTab (w : World) : Prop := Lib.TabIs Tryd.prog w "strings.asciiSpace" .u8 Lib.asciiSpaceTab

theorem ext_ok (W0 : World) (hT : SpTab W0) (g : FuncId) (e : List AV → Heap → Option (AV × Heap)) (args : List AV) (s : Heap) (v : AV) (s' : Heap) (he : C.ext g = some e) (h : e args s = some (v, s')) : CallSpec C W0 g args s v s' := by
  have he' : (if g = 51 then some eIndex else if g = 42 then some ePrefix else if g = 63 then some eFields else if g = 66 then some (bCheck 75) else if g = 54 then some (bString 5) else if g = 55 then some eBin else none) = some e := he
  intro L ow w cargs hg hst hargs
  split at he'
  · rename_i hg'; subst hg'; cases he'
    unfold eIndex at h
    split at h
    · rename_i a c
      cases h
      obtain ⟨u1, u2, rfl, k1, k2⟩ := relL2 hargs
      cases k1; cases k2
      refine (Tryd.strings_IndexByte ⟨a.toArray⟩ c w).mono ?_
      rintro e w' ⟨rfl, rfl⟩
      rw [bytes_list]
      exact ⟨_, rfl, .same hst (.int _ _) (.of_not rfl)⟩
    · cases h
  · split at he'
    · rename_i hg'; subst hg'; cases he'
      unfold ePrefix at h
      split at h
      · rename_i a b
        cases h
        obtain ⟨u1, u2, rfl, k1, k2⟩ := relL2 hargs
        cases k1; cases k2
        refine (Tryd.strings_HasPrefix ⟨a.toArray⟩ ⟨b.toArray⟩ w).mono ?_
        rintro e w' ⟨rfl, rfl⟩
        rw [bytes_list, bytes_list]
        exact ⟨_, rfl, .same hst (.bool _) (.of_not rfl)⟩
      · cases h
    · split at he'
      · rename_i hg'; subst hg'; cases he'
        unfold eFields at h
        split at h
        · rename_i a
          split at h
          · rename_i hc
            cases h
            obtain ⟨u1, rfl, k1⟩ := relL1 hargs
            cases k1
            have hs := Lib.tabBelow_of_tabIs hT w hst.below
            refine (Tryd.strings_Fields ⟨a.toArray⟩ w (by rw [bytes_size]; omega) (fun j b hb => ?_) hs).mono ?_
            · rw [bytes_list] at hb
              have := List.all_eq_true.1 hc.2 b (List.mem_of_getElem? hb)
              simpa using this
            · rintro e w' ⟨rfl, rfl⟩
              rw [bytes_list]
              exact ⟨_, rfl, new_strs hst (Lib.fields a)⟩
          · cases h
        · cases h
      · split at he'
        · rename_i hg'; subst hg'; cases he'
          exact spec_check W0 args s v s' h L ow w cargs hg hst hargs
        · split at he'
          · rename_i hg'; subst hg'; cases he'
            exact spec_string W0 args s v s' h L ow w cargs hg hst hargs
          · split at he'
            · rename_i hg'; subst hg'; cases he'
              unfold eBin at h
              split at h
              · rename_i xs x
                split at h
                · rename_i zs hz
                  split at h
                  · rename_i hc
                    cases h
                    obtain ⟨u1, u2, rfl, k1, k2⟩ := relL2 hargs
                    cases k2
                    cases k1 with
                    | sl b o _ _ _ _ cap hcells hz1 hcap =>
                    have hlen := asInts_len hz
                    rw [← hlen]
                    refine (Tryd.slices_BinarySearch_int b o zs.length cap zs x w (Nat.le_refl _) (by omega) (asInts_cell hst.imm hz hcells) (by rw [List.take_length]; exact hc.1)).mono ?_
                    rintro e w' ⟨rfl, q, rfl⟩
                    rw [List.take_length]
                    exact ⟨_, rfl, below_res hst (Go.below_drewN (RowKit.Below.refl _ _) q) (.tup _ _ (.cons _ _ _ _ (.int _ _) (.cons _ _ _ _ (.bool _) .nil))) (.of_not rfl)⟩
                  · cases h
                · cases h
              · cases h
                obtain ⟨u1, u2, rfl, k1, k2⟩ := relL2 hargs
                cases k2; cases k1
                refine (Tryd.slices_BinarySearch_int_empty none 0 _ w).mono ?_
                rintro e w' ⟨rfl, rfl⟩
                exact ⟨_, rfl, .same hst (.tup _ _ (.cons _ _ _ _ (.int _ _) (.cons _ _ _ _ (.bool _) .nil))) (.of_not rfl)⟩
              · cases h
            · cases he'
end LexF
