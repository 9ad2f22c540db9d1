/- Positions: what all three rows need. -/
import Derived.Test.YtionohfkjdahlaaDoorPosD
import Derived.Test.YtionohfkjdahlaaDoorPosB
import Derived.Test.YtionohfkjdahlaaDoorRows
import Derived.ProofKit
import Derived.SizedLaws
import Derived.PinnedBridge
import Derived.Lib.LaidU8
import Derived.Lay
import Derived.SevenTiedAt
import Derived.Stop.Joined
set_option linter.all false
namespace PosF
open Go Go.Abs Go.Proofs

/-- The world that a call begins in: what stands there is known. -/
def lay0 (W : World) : Lay := { S := fun b o => W.cell? ⟨b, o, none⟩, live := fun _ => false, loc := fun _ => 0 }
def ow0 (W : World) : Owns := fun b => if b < W.heap.size then .frame else .free
theorem st0 (W : World) : St W (lay0 W) (ow0 W) [] W where
  live := fun id => by simp [lay0, has]
  imm := fun b o v h => h
  obj := fun id cs h _ => by simp at h
  used := fun b h => by unfold ow0 at h; split at h; assumption; exact absurd rfl h
  base := fun b h => by simp [ow0, h]
  below := RowKit.Below.refl _ _

/-- What the abstract machine answers true, the program answers true. -/
theorem run_true {g : FuncId} {args : List AV} (h : AC C g args (.bool true)) (hn : ∀ a ∈ args, a.isOwn = false) (W : World) (hT : Lib.Utf8Tabs 1 2 W) {cargs : List Value} (ha : RelL (lay0 W) args cargs) :
    Calls Tryd.prog g cargs.toArray W fun e W' => e = .returned (.bool true) ∧ RowKit.Below W.heap.size W W' := by
  obtain ⟨N, q⟩ := AC.at h
  have q := q N (Nat.le_refl _) []
  have D : DOK C W (den C N) := den_ok (fun g cs e => by cases e) (by kernel_rfl) (fun g e args s v s' h1 h2 _ => ext_ok W hT g e args s v s' h1 h2) N
  refine (aCall_ok (C := C) (fun g cs e => by cases e) D q hn (fun g cs e => by cases e) (st0 W) ha).2.mono ?_
  rintro e W' ⟨cv, rfl, L', ow', hx, hs, hr, _⟩
  cases hr
  exact ⟨rfl, hs.below⟩

theorem rel_bytes {L : Lay} (s : ByteArray) : Rel L (.str s.data.toList) (.string s) := by
  have h := Rel.str (L := L) s.data.toList
  have e : (⟨s.data.toList.toArray⟩ : ByteArray) = s := by cases s; simp
  rw [e] at h
  exact h

open Go.Proofs.YtionohfkjdahlaaDoor in
def laidP : List (String × DataW Unit) := [("unicode/utf8.acceptRanges", Rows.laid_unicode_utf8_acceptRanges), ("unicode/utf8.first", Rows.laid_unicode_utf8_first)]
theorem accept_eq : (Go.Proofs.YtionohfkjdahlaaDoor.Rows.laid_unicode_utf8_acceptRanges : DataW Unit) = Lib.acceptData := by kernel_rfl
theorem under3 : Tryd.prog.underlying 3 = some (.int .i64) := by kernel_rfl
theorem u8x : U8Extra Tryd.prog Tryd.lays260_ren := ⟨by kernel_rfl, by kernel_rfl, by kernel_rfl, by kernel_rfl, by kernel_rfl, by kernel_rfl, by kernel_rfl⟩
/-- What the rows list is what the decoder wants. -/
theorem tabs_of {W : World} (h : laidMetH Tryd.prog laidP W) : Lib.Utf8Tabs 1 2 W := by
  rw [MakeChecks.laidMetH_plain _ _ _ (by kernel_rfl)] at h
  have h3 : Lib.VarReads Tryd.prog W "unicode/utf8.first" Lib.firstData := Pinned.utf8First_eq ▸ Lib.laidMet.reads h (.tail _ (.head _))
  have h4 : Lib.VarReads Tryd.prog W "unicode/utf8.acceptRanges" Lib.acceptData := accept_eq ▸ Lib.laidMet.reads h (.head _)
  exact utf8Tabs_of_reads Tryd.lays260 u8x h3 h4
end PosF
