/- ParRow -/
import Derived.Test.YtkikcleofaeigaaGreatDoorX
import Derived.Test.YtkikcleofaeigaaGreatDoorL
import Derived.Test.YtkikcleofaeigaaGreatDoorRows
import Derived.ProofKit
import Derived.SizedLaws
import Derived.Lib.LaidU8
import Derived.Lay
import Derived.SevenTiedAt
import Derived.Stop.Joined
set_option linter.all false

section
namespace ParF
open Go Go.Abs Go.Proofs
def lay0 (W : World) : Lay := { S := fun b o => W.cell? ⟨b, o, none⟩, live := fun _ => false, loc := fun _ => 0 }
def ow0 (W : World) : Owns := fun b => if b < W.heap.size then .frame else .free
theorem st0 (W : World) : St W (lay0 W) (ow0 W) [] W where
  live := fun id => by simp [lay0, has]
  imm := fun b o v h => h
  obj := fun id cs h _ => by simp at h
  used := fun b h => by unfold ow0 at h; split at h; assumption; exact absurd rfl h
  base := fun b h => by simp [ow0, h]
  below := RowKit.Below.refl _ _
theorem run_true {g : FuncId} {args : List AV} (h : AC C g args (.bool true)) (hn : ∀ a ∈ args, a.isOwn = false) (W : World) (hT : SpTab W) {cargs : List Value} (ha : RelL (lay0 W) args cargs) :
    Calls Tryz.prog g cargs.toArray W fun e W' => e = .returned (.bool true) ∧ RowKit.Below W.heap.size W W' := by
  obtain ⟨N, q⟩ := LexF.AC.at h
  have q := q N (Nat.le_refl _) []
  have D : DOK C W (den C N) := den_ok (fun g cs e => by cases e) (by kernel_rfl) (fun g e args s v s' h1 h2 _ => ext_ok W hT g e args s v s' h1 h2) N
  refine (aCall_ok (C := C) (fun g cs e => by cases e) D q hn (fun g cs e => by cases e) (st0 W) ha).2.mono ?_
  rintro e W' ⟨cv, rfl, L', ow', hx, hs, hr, _⟩
  cases hr
  exact ⟨rfl, hs.below⟩
theorem rel_bytes {L : Lay} (s : ByteArray) : Rel L (.str s.data.toList) (.string s) := by
  have h := Rel.str (L := L) s.data.toList
  have e : (⟨s.data.toList.toArray⟩ : ByteArray) = s := by cases s; simp
  rw [e] at h
  exact h
open Go.Proofs.YtkikcleofaeigaaGreatDoor in
def laidP : List (String × DataW Unit) := [("unicode.White_Space", Rows.laid_unicode_White_Space), ("strings.asciiSpace", Rows.laid_strings_asciiSpace)]
open Go.Proofs.YtkikcleofaeigaaGreatDoor in
def laidQ : List (String × DataW Unit) := [("math/bits.deBruijn32tab", Rows.laid_math_bits_deBruijn32tab), ("math/bits.deBruijn64tab", Rows.laid_math_bits_deBruijn64tab), ("internal/strconv.uint64pow10", Rows.laid_internal_strconv_uint64pow10), ("strconv.ErrRange", Rows.laid_strconv_ErrRange), ("strconv.ErrSyntax", Rows.laid_strconv_ErrSyntax), ("unicode.White_Space", Rows.laid_unicode_White_Space), ("strings.asciiSpace", Rows.laid_strings_asciiSpace)]
theorem space_eq : (Go.Proofs.YtkikcleofaeigaaGreatDoor.Rows.laid_strings_asciiSpace : DataW Unit) = Lib.tabData .u8 Lib.asciiSpaceTab := by kernel_rfl
theorem under3r : Tryz.prog.underlying 3 = some (.int .i64) := by kernel_rfl
theorem under9r : Tryz.prog.underlying 9 = some .string := by kernel_rfl
theorem underTab : Tryz.prog.underlying 280 = some (.array 256 5) := by kernel_rfl
theorem under5r : Tryz.prog.underlying 5 = some (.int .u8) := by kernel_rfl
theorem tab_of {W : World} (h : laidMetH Tryz.prog laidP W) : SpTab W := by
  rw [MakeChecks.laidMetH_plain _ _ _ (by kernel_rfl)] at h
  have h3 : Lib.VarReads Tryz.prog W "strings.asciiSpace" (Lib.tabData .u8 Lib.asciiSpaceTab) := space_eq ▸ Lib.laidMet.reads h (.tail _ (.head _))
  obtain ⟨g, t, cs, fuel, p, hg, hty, hvar, hd⟩ := h3
  obtain rfl := Option.some.inj ((show Tryz.prog.globalNamed "strings.asciiSpace" = some 1 by kernel_rfl).symm.trans hg)
  obtain rfl := Option.some.inj ((show (Tryz.prog.globals[1]?).map (·.type) = some 280 by kernel_rfl).symm.trans hty)
  unfold SpTab Lib.TabIs
  rw [hvar, ← Lib.cells_of_tab underTab under5r (by kernel_rfl) (by kernel_rfl) hd]
theorem tab_ofQ {W : World} (h : laidMetH Tryz.prog laidQ W) : SpTab W := by
  rw [MakeChecks.laidMetH_plain _ _ _ (by kernel_rfl)] at h
  have h3 : Lib.VarReads Tryz.prog W "strings.asciiSpace" (Lib.tabData .u8 Lib.asciiSpaceTab) := space_eq ▸ Lib.laidMet.reads h (.tail _ (.tail _ (.tail _ (.tail _ (.tail _ (.tail _ (.head _)))))))
  obtain ⟨g, t, cs, fuel, p, hg, hty, hvar, hd⟩ := h3
  obtain rfl := Option.some.inj ((show Tryz.prog.globalNamed "strings.asciiSpace" = some 1 by kernel_rfl).symm.trans hg)
  obtain rfl := Option.some.inj ((show (Tryz.prog.globals[1]?).map (·.type) = some 280 by kernel_rfl).symm.trans hty)
  unfold SpTab Lib.TabIs
  rw [hvar, ← Lib.cells_of_tab underTab under5r (by kernel_rfl) (by kernel_rfl) hd]
end ParF
end
