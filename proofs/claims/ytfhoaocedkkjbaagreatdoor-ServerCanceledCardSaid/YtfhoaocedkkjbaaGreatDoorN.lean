/- ExtN -/
import Derived.Test.YtfhoaocedkkjbaaGreatDoorY
import Derived.Test.YtfhoaocedkkjbaaGreatDoorM
set_option linter.all false

section
namespace Srv
open Go Go.Abs Go.Proofs
def SpTab (w : World) : Prop := Lib.TabIs Tryz.prog w "strings.asciiSpace" .u8 Lib.asciiSpaceTab
theorem spec_index (W0 : World) (args : List AV) (s : Heap) (v : AV) (s' : Heap) (h : eIndex args s = some (v, s')) : CallSpec C W0 134 args s v s' := by
  intro L ow w cargs hg hst hargs
  unfold eIndex at h
  split at h
  · rename_i a c
    cases h
    obtain ⟨u1, u2, rfl, k1, k2⟩ := relL2 hargs
    cases k1; cases k2
    refine (Tryz.strings_IndexByte ⟨a.toArray⟩ c w).mono ?_
    rintro e w' ⟨rfl, rfl⟩
    rw [bytes_list]
    exact ⟨_, rfl, .same hst (.int _ _) (.of_not rfl)⟩
  · cases h
theorem spec_prefix (W0 : World) (args : List AV) (s : Heap) (v : AV) (s' : Heap) (h : ePrefix args s = some (v, s')) : CallSpec C W0 125 args s v s' := by
  intro L ow w cargs hg hst hargs
  unfold ePrefix at h
  split at h
  · rename_i a b
    cases h
    obtain ⟨u1, u2, rfl, k1, k2⟩ := relL2 hargs
    cases k1; cases k2
    refine (Tryz.strings_HasPrefix ⟨a.toArray⟩ ⟨b.toArray⟩ w).mono ?_
    rintro e w' ⟨rfl, rfl⟩
    rw [bytes_list, bytes_list]
    exact ⟨_, rfl, .same hst (.bool _) (.of_not rfl)⟩
  · cases h
theorem spec_fields (W0 : World) (hT : SpTab W0) (args : List AV) (s : Heap) (v : AV) (s' : Heap) (h : eFields args s = some (v, s')) : CallSpec C W0 154 args s v s' := by
  intro L ow w cargs hg hst hargs
  unfold eFields at h
  split at h
  · rename_i a
    split at h
    · rename_i hc
      cases h
      obtain ⟨u1, rfl, k1⟩ := relL1 hargs
      cases k1
      have hs := Lib.tabBelow_of_tabIs hT w hst.below
      refine (Tryz.strings_Fields ⟨a.toArray⟩ w (by rw [bytes_size]; omega) (fun j b hb => ?_) hs).mono ?_
      · rw [bytes_list] at hb
        have := List.all_eq_true.1 hc.2 b (List.mem_of_getElem? hb)
        simpa using this
      · rintro e w' ⟨rfl, rfl⟩
        rw [bytes_list]
        exact ⟨_, rfl, new_strs hst (Lib.fields a)⟩
    · cases h
  · cases h
def Cached75 : Prop := ∀ (W0 : World) (args : List AV) (s : Heap) (v : AV) (s' : Heap), eCached args s = some (v, s') → CallSpec C W0 75 args s v s'
theorem ext_ok (K75 : Cached75) (W0 : World) (hT : SpTab W0) (g : FuncId) (e : Den → List AV → Heap → Option (AV × Heap)) (D : Den) (args : List AV) (s : Heap) (v : AV) (s' : Heap) (he : C.ext g = some e) (hD : DOK C W0 D) (h : e D args s = some (v, s')) (hn : ∀ a ∈ args, a.isOwn = false) : CallSpec C W0 g args s v s' := by
  have he' : extOf g = some e := he
  unfold extOf at he'
  by_cases h134 : g = 134
  · rw [if_pos h134] at he'; subst h134; cases he'; exact spec_index W0 args s v s' h
  rw [if_neg h134] at he'
  by_cases h125 : g = 125
  · rw [if_pos h125] at he'; subst h125; cases he'; exact spec_prefix W0 args s v s' h
  rw [if_neg h125] at he'
  by_cases h154 : g = 154
  · rw [if_pos h154] at he'; subst h154; cases he'; exact spec_fields W0 hT args s v s' h
  rw [if_neg h154] at he'
  by_cases h77 : g = 77
  · rw [if_pos h77] at he'; subst h77; cases he'; exact spec_check W0 args s v s' h
  rw [if_neg h77] at he'
  by_cases h45 : g = 45
  · rw [if_pos h45] at he'; subst h45; cases he'; exact spec_string W0 args s v s' h
  rw [if_neg h45] at he'
  by_cases h66 : g = 66
  · rw [if_pos h66] at he'; subst h66; cases he'; exact spec66 W0 args s v s' h
  rw [if_neg h66] at he'
  by_cases h67 : g = 67
  · rw [if_pos h67] at he'; subst h67; cases he'; exact spec67 W0 args s v s' h
  rw [if_neg h67] at he'
  by_cases h68 : g = 68
  · rw [if_pos h68] at he'; subst h68; cases he'; exact spec68 W0 args s v s' h
  rw [if_neg h68] at he'
  by_cases h69 : g = 69
  · rw [if_pos h69] at he'; subst h69; cases he'; exact spec69 W0 args s v s' h
  rw [if_neg h69] at he'
  by_cases h71 : g = 71
  · rw [if_pos h71] at he'; subst h71; cases he'; exact spec71 W0 args s v s' h
  rw [if_neg h71] at he'
  by_cases h65 : g = 65
  · rw [if_pos h65] at he'; subst h65; cases he'; exact spec65 W0 args s v s' h
  rw [if_neg h65] at he'
  by_cases h75 : g = 75
  · rw [if_pos h75] at he'; subst h75; cases he'; exact K75 W0 args s v s' h
  rw [if_neg h75] at he'
  by_cases h90 : g = 90
  · rw [if_pos h90] at he'; subst h90; cases he'; exact spec_get W0 hD args s v s' h hn
  rw [if_neg h90] at he'
  cases he'
end Srv
end
