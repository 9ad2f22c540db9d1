/- The contracts of strings.IndexByte, HasPrefix, Fields as the abstract machine wants them. -/
import Derived.Test.YtionohfkjdahlaaDoorLexC
import Derived.Test.YtionohfkjdahlaaDoorLexS
import Derived.Lib.AppendIntMem
set_option linter.all false
namespace LexF
open Go Go.Abs Go.Proofs

theorem relL2 {L : Lay} {a b : AV} {vs : List Value} (h : RelL L [a, b] vs) : ∃ u v, vs = [u, v] ∧ Rel L a u ∧ Rel L b v := by
  cases h with
  | cons _ _ _ _ h t => cases t with
    | cons _ _ _ _ h' t' => cases t'; exact ⟨_, _, rfl, h, h'⟩
theorem relL1 {L : Lay} {a : AV} {vs : List Value} (h : RelL L [a] vs) : ∃ u, vs = [u] ∧ Rel L a u := by
  cases h with
  | cons _ _ _ _ h t => cases t; exact ⟨_, rfl, h⟩
theorem bytes_list (a : List UInt8) : (⟨a.toArray⟩ : ByteArray).data.toList = a := by simp
theorem bytes_size (a : List UInt8) : (⟨a.toArray⟩ : ByteArray).size = a.length := by show a.toArray.size = _; simp
theorem relL_strs (L : Lay) : ∀ xs : List (List UInt8), RelL L (xs.map .str) (xs.map fun l => Value.string ⟨l.toArray⟩)
  | [] => .nil
  | x :: xs => .cons _ _ _ _ (.str x) (relL_strs L xs)
theorem cellsOf_strs (xs : List (List UInt8)) : cellsOf (xs.map AV.str) = xs.map .str := by
  induction xs with
  | nil => rfl
  | cons x xs ih => show [_] ++ cellsOf (xs.map AV.str) = _; rw [ih]; rfl

/-- A new slice of strings. -/
theorem new_strs {W0 : World} {L : Lay} {ow : Owns} {s : Heap} {w : World} (h : St W0 L ow s w) (xs : List (List UInt8)) :
    Res W0 L ow w (.sl 9 1 (xs.map .str) .sh) s (.slice (some ⟨w.heap.size, 0, none⟩) xs.length xs.length) (w.alloc (.cells (xs.map fun l => Value.string ⟨l.toArray⟩).toArray 9)) := by
  refine ⟨L.new w.heap.size (xs.map fun l => Value.string ⟨l.toArray⟩).length (xs.map fun l => Value.string ⟨l.toArray⟩), newOw ow w.heap.size .free, new_ext h _ _ _ _, new_st h _ _ _ _, ?_, .of_not rfl⟩
  have hr := Rel.sl (L := L.new w.heap.size (xs.map fun l => Value.string ⟨l.toArray⟩).length (xs.map fun l => Value.string ⟨l.toArray⟩)) w.heap.size 0 9 1 (xs.map .str) .sh xs.length
    (new_relC h (by rw [List.take_length, cellsOf_strs]; exact relL_strs L xs) (by
      intro v hv
      rw [List.take_length] at hv
      obtain ⟨l, _, rfl⟩ := List.mem_map.1 hv
      rfl)) (by intro x hx; obtain ⟨l, _, rfl⟩ := List.mem_map.1 hx; rfl) ⟨by simp, nofun⟩
  simp only [List.length_map] at hr ⊢
  exact hr

def SpTab (w : World) : Prop := Lib.TabIs Tryd.prog w "strings.asciiSpace" .u8 Lib.asciiSpaceTab

theorem ext_ok (W0 : World) (hT : SpTab W0) (g : FuncId) (e : List AV → Heap → Option (AV × Heap)) (args : List AV) (s : Heap) (v : AV) (s' : Heap) (he : C.ext g = some e) (h : e args s = some (v, s')) : CallSpec C W0 g args s v s' := by
  have he' : (if g = 51 then some eIndex else if g = 42 then some ePrefix else if g = 63 then some eFields else none) = some e := he
  intro L ow w cargs hg hst hargs
  split at he'
  · rename_i hg'; subst hg'; cases he'
    unfold eIndex at h
    split at h
    · rename_i a c
      cases h
      obtain ⟨u1, u2, rfl, k1, k2⟩ := relL2 hargs
      cases k1; cases k2
      refine (Tryd.strings_IndexByte ⟨a.toArray⟩ c w).mono ?_
      rintro e w' ⟨rfl, rfl⟩
      rw [bytes_list]
      exact ⟨_, rfl, .same hst (.int _ _) (.of_not rfl)⟩
    · cases h
  · split at he'
    · rename_i hg'; subst hg'; cases he'
      unfold ePrefix at h
      split at h
      · rename_i a b
        cases h
        obtain ⟨u1, u2, rfl, k1, k2⟩ := relL2 hargs
        cases k1; cases k2
        refine (Tryd.strings_HasPrefix ⟨a.toArray⟩ ⟨b.toArray⟩ w).mono ?_
        rintro e w' ⟨rfl, rfl⟩
        rw [bytes_list, bytes_list]
        exact ⟨_, rfl, .same hst (.bool _) (.of_not rfl)⟩
      · cases h
    · split at he'
      · rename_i hg'; subst hg'; cases he'
        unfold eFields at h
        split at h
        · rename_i a
          split at h
          · rename_i hc
            cases h
            obtain ⟨u1, rfl, k1⟩ := relL1 hargs
            cases k1
            have hs := Lib.tabBelow_of_tabIs hT w hst.below
            refine (Tryd.strings_Fields ⟨a.toArray⟩ w (by rw [bytes_size]; omega) (fun j b hb => ?_) hs).mono ?_
            · rw [bytes_list] at hb
              have := List.all_eq_true.1 hc.2 b (List.mem_of_getElem? hb)
              simpa using this
            · rintro e w' ⟨rfl, rfl⟩
              rw [bytes_list]
              exact ⟨_, rfl, new_strs hst (Lib.fields a)⟩
          · cases h
        · cases h
      · cases he'
end LexF
