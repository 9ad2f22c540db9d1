/- The contracts of strings.Count, LastIndexByte, DecodeRuneInString as the abstract machine wants them. -/
import Derived.Test.YtionohfkjdahlaaDoorPosC
import Derived.Test.YtionohfkjdahlaaDoorPosS
set_option linter.all false
namespace PosF
open Go Go.Abs Go.Proofs

theorem relL2 {L : Lay} {a b : AV} {vs : List Value} (h : RelL L [a, b] vs) : ∃ u v, vs = [u, v] ∧ Rel L a u ∧ Rel L b v := by
  cases h with
  | cons _ _ _ _ h t => cases t with
    | cons _ _ _ _ h' t' => cases t'; exact ⟨_, _, rfl, h, h'⟩
theorem relL1 {L : Lay} {a : AV} {vs : List Value} (h : RelL L [a] vs) : ∃ u, vs = [u] ∧ Rel L a u := by
  cases h with
  | cons _ _ _ _ h t => cases t; exact ⟨_, rfl, h⟩

/-- New blocks alone. -/
theorem below_res {W0 : World} {L : Lay} {ow : Owns} {s : Heap} {w w' : World} (h : St W0 L ow s w) (hb : RowKit.Below w.heap.size w w') {r : AV} {v : Value} (hr : Rel L r v) (hn : NoOwn r v) : Res W0 L ow w r s v w' := by
  have hx : Ext L ow w L ow w' := ⟨.refl L, fun b hf => ⟨hf, fun _ => rfl, hb.block b (h.used b (by rw [hf]; simp))⟩, ⟨hb.os, hb.tape, hb.output, hb.size⟩⟩
  refine ⟨L, ow, hx, h.move (.refl L) rfl (fun b he => ⟨rfl, fun _ => rfl, hb.block b (h.used b (by intro e; rw [e] at he; cases he))⟩) (fun b o v hS => ?_) (fun b hu => Nat.lt_of_lt_of_le (h.used b hu) hb.size) h.base (h.below_ext hx), hr, hn _ _ _ _⟩
  rw [cell?_of_heap (hb.block b (imm_lt h hS))]
  exact h.imm b o v hS

theorem tabs_below {W0 w : World} (hT : Lib.Utf8Tabs 1 2 W0) (hb : RowKit.Below W0.heap.size W0 w) : Lib.Utf8Tabs 1 2 w := by
  have key : ∀ {b o : Nat} {v : Value}, W0.cell? ⟨b, o, none⟩ = some v → w.cell? ⟨b, o, none⟩ = some v := by
    intro b o v h
    rw [cell?_of_heap (hb.block b (World.block_lt_of_cell? W0 (a := ⟨b, o, none⟩) h))]
    exact h
  exact ⟨fun i hi => key (hT.1 i hi), fun i hi => ⟨key (hT.2 i hi).1, key (hT.2 i hi).2⟩⟩

theorem bytes_list (a : List UInt8) : (⟨a.toArray⟩ : ByteArray).data.toList = a := by simp
theorem bytes_size (a : List UInt8) : (⟨a.toArray⟩ : ByteArray).size = a.length := by show a.toArray.size = _; simp

theorem ext_ok (W0 : World) (hT : Lib.Utf8Tabs 1 2 W0) (g : FuncId) (e : List AV → Heap → Option (AV × Heap)) (args : List AV) (s : Heap) (v : AV) (s' : Heap) (he : C.ext g = some e) (h : e args s = some (v, s')) : CallSpec C W0 g args s v s' := by
  have he' : (if g = 37 then some eCount else if g = 38 then some eLast else if g = 39 then some eDecode else none) = some e := he
  intro L ow w cargs hg hst hargs
  split at he'
  · rename_i hg'; subst hg'; cases he'
    unfold eCount at h
    split at h
    · rename_i a c
      cases h
      obtain ⟨u1, u2, rfl, k1, k2⟩ := relL2 hargs
      cases k1; cases k2
      refine (Tryd.strings_Count_one ⟨a.toArray⟩ c w).mono ?_
      rintro e w' ⟨rfl, rfl⟩
      rw [bytes_list]
      exact ⟨_, rfl, .same hst (.int _ _) (.of_not rfl)⟩
    · cases h
  · split at he'
    · rename_i hg'; subst hg'; cases he'
      unfold eLast at h
      split at h
      · rename_i a c
        split at h
        · rename_i hl
          cases h
          obtain ⟨u1, u2, rfl, k1, k2⟩ := relL2 hargs
          cases k1; cases k2
          refine (Tryd.strings_LastIndexByte ⟨a.toArray⟩ c (by rw [bytes_size]; omega) w).mono ?_
          rintro e w' ⟨rfl, rfl⟩
          exact ⟨_, rfl, .same hst (.int _ _) (.of_not rfl)⟩
        · cases h
      · cases h
    · split at he'
      · rename_i hg'; subst hg'; cases he'
        unfold eDecode at h
        split at h
        · rename_i a
          cases h
          obtain ⟨u1, rfl, k1⟩ := relL1 hargs
          cases k1
          refine (Tryd.utf8_DecodeRuneInString ⟨a.toArray⟩ w (tabs_below hT hst.below)).mono ?_
          rintro e w' ⟨rfl, hb⟩
          exact ⟨_, rfl, below_res hst hb (.tup _ _ (.cons _ _ _ _ (.int _ _) (.cons _ _ _ _ (.int _ _) .nil))) (.of_not rfl)⟩
        · cases h
      · cases he'
end PosF
