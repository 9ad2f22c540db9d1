/- The lexer: what its rows need. -/
import Derived.Test.YtionohfkjdahlaaDoorLexD
import Derived.Test.YtionohfkjdahlaaDoorLexG
import Derived.Test.YtionohfkjdahlaaDoorRows
import Derived.ProofKit
import Derived.SizedLaws
import Derived.Lib.LaidU8
import Derived.Lay
import Derived.SevenTiedAt
import Derived.Stop.Joined
set_option linter.all false
namespace LexF
open Go Go.Abs Go.Proofs

/-- The world that a call begins in: what stands there is known. -/
def lay0 (W : World) : Lay := { S := fun b o => W.cell? ⟨b, o, none⟩, live := fun _ => false, loc := fun _ => 0 }
def ow0 (W : World) : Owns := fun b => if b < W.heap.size then .frame else .free
theorem st0 (W : World) : St W (lay0 W) (ow0 W) [] W where
  live := fun id => by simp [lay0, has]
  imm := fun b o v h => h
  obj := fun id cs h _ => by simp at h
  used := fun b h => by unfold ow0 at h; split at h; assumption; exact absurd rfl h
  base := fun b h => by simp [ow0, h]
  below := RowKit.Below.refl _ _

/-- What the abstract machine answers true, the program answers true. -/
theorem run_true {g : FuncId} {args : List AV} (h : AC C g args (.bool true)) (hn : ∀ a ∈ args, a.isOwn = false) (W : World) (hT : SpTab W) {cargs : List Value} (ha : RelL (lay0 W) args cargs) :
    Calls Tryd.prog g cargs.toArray W fun e W' => e = .returned (.bool true) ∧ RowKit.Below W.heap.size W W' := by
  obtain ⟨N, q⟩ := AC.at h
  have q := q N (Nat.le_refl _) []
  have D : DOK C W (den C N) := den_ok (fun g cs e => by cases e) (by kernel_rfl) (fun g e args s v s' h1 h2 _ => ext_ok W hT g e args s v s' h1 h2) N
  refine (aCall_ok (C := C) (fun g cs e => by cases e) D q hn (fun g cs e => by cases e) (st0 W) ha).2.mono ?_
  rintro e W' ⟨cv, rfl, L', ow', hx, hs, hr, _⟩
  cases hr
  exact ⟨rfl, hs.below⟩

theorem rel_bytes {L : Lay} (s : ByteArray) : Rel L (.str s.data.toList) (.string s) := by
  have h := Rel.str (L := L) s.data.toList
  have e : (⟨s.data.toList.toArray⟩ : ByteArray) = s := by cases s; simp
  rw [e] at h
  exact h

open Go.Proofs.YtionohfkjdahlaaDoor in
def laidP : List (String × DataW Unit) := [("unicode.White_Space", Rows.laid_unicode_White_Space), ("strings.asciiSpace", Rows.laid_strings_asciiSpace)]
theorem space_eq : (Go.Proofs.YtionohfkjdahlaaDoor.Rows.laid_strings_asciiSpace : DataW Unit) = Lib.tabData .u8 Lib.asciiSpaceTab := by kernel_rfl
theorem under3 : Tryd.prog.underlying 3 = some (.int .i64) := by kernel_rfl
theorem under90 : Tryd.prog.underlying 90 = some (.array 256 5) := by kernel_rfl
theorem under5 : Tryd.prog.underlying 5 = some (.int .u8) := by kernel_rfl
/-- What the rows list is what strings.Fields wants. -/
theorem tab_of {W : World} (h : laidMetH Tryd.prog laidP W) : SpTab W := by
  rw [MakeChecks.laidMetH_plain _ _ _ (by kernel_rfl)] at h
  have h3 : Lib.VarReads Tryd.prog W "strings.asciiSpace" (Lib.tabData .u8 Lib.asciiSpaceTab) := space_eq ▸ Lib.laidMet.reads h (.tail _ (.head _))
  obtain ⟨g, t, cs, fuel, p, hg, hty, hvar, hd⟩ := h3
  obtain rfl := Option.some.inj ((show Tryd.prog.globalNamed "strings.asciiSpace" = some 3 by kernel_rfl).symm.trans hg)
  obtain rfl := Option.some.inj ((show (Tryd.prog.globals[3]?).map (·.type) = some 90 by kernel_rfl).symm.trans hty)
  unfold SpTab Lib.TabIs
  rw [hvar, ← Lib.cells_of_tab under90 under5 (by kernel_rfl) (by kernel_rfl) hd]
end LexF
