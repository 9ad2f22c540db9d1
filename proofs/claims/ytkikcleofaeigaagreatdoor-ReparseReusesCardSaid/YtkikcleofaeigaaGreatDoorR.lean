/- ParRow, ParEd -/
import Derived.Test.YtkikcleofaeigaaGreatDoorX
import Derived.Test.YtkikcleofaeigaaGreatDoorL
import Derived.Test.YtkikcleofaeigaaGreatDoorRows
import Derived.ProofKit
import Derived.SizedLaws
import Derived.Lib.LaidU8
import Derived.Lay
import Derived.SevenTiedAt
import Derived.Stop.Joined
set_option linter.all false

section
namespace ParF
open Go Go.Abs Go.Proofs
def lay0 (W : World) : Lay := { S := fun b o => W.cell? ⟨b, o, none⟩, live := fun _ => false, loc := fun _ => 0 }
def ow0 (W : World) : Owns := fun b => if b < W.heap.size then .frame else .free
theorem st0 (W : World) : St W (lay0 W) (ow0 W) [] W where
  live := fun id => by simp [lay0, has]
  imm := fun b o v h => h
  obj := fun id cs h _ => by simp at h
  used := fun b h => by unfold ow0 at h; split at h; assumption; exact absurd rfl h
  base := fun b h => by simp [ow0, h]
  below := RowKit.Below.refl _ _
theorem run_true {g : FuncId} {args : List AV} (h : AC C g args (.bool true)) (hn : ∀ a ∈ args, a.isOwn = false) (W : World) (hT : SpTab W) {cargs : List Value} (ha : RelL (lay0 W) args cargs) :
    Calls Tryz.prog g cargs.toArray W fun e W' => e = .returned (.bool true) ∧ RowKit.Below W.heap.size W W' := by
  obtain ⟨N, q⟩ := LexF.AC.at h
  have q := q N (Nat.le_refl _) []
  have D : DOK C W (den C N) := den_ok (fun g cs e => by cases e) (by kernel_rfl) (fun g e args s v s' h1 h2 _ => ext_ok W hT g e args s v s' h1 h2) N
  refine (aCall_ok (C := C) (fun g cs e => by cases e) D q hn (fun g cs e => by cases e) (st0 W) ha).2.mono ?_
  rintro e W' ⟨cv, rfl, L', ow', hx, hs, hr, _⟩
  cases hr
  exact ⟨rfl, hs.below⟩
theorem rel_bytes {L : Lay} (s : ByteArray) : Rel L (.str s.data.toList) (.string s) := by
  have h := Rel.str (L := L) s.data.toList
  have e : (⟨s.data.toList.toArray⟩ : ByteArray) = s := by cases s; simp
  rw [e] at h
  exact h
open Go.Proofs.YtkikcleofaeigaaGreatDoor in
def laidP : List (String × DataW Unit) := [("unicode.White_Space", Rows.laid_unicode_White_Space), ("strings.asciiSpace", Rows.laid_strings_asciiSpace)]
open Go.Proofs.YtkikcleofaeigaaGreatDoor in
theorem space_eq : (Go.Proofs.YtkikcleofaeigaaGreatDoor.Rows.laid_strings_asciiSpace : DataW Unit) = Lib.tabData .u8 Lib.asciiSpaceTab := by kernel_rfl
theorem under3r : Tryz.prog.underlying 3 = some (.int .i64) := by kernel_rfl
theorem under9r : Tryz.prog.underlying 9 = some .string := by kernel_rfl
theorem underTab : Tryz.prog.underlying 280 = some (.array 256 5) := by kernel_rfl
theorem under5r : Tryz.prog.underlying 5 = some (.int .u8) := by kernel_rfl
theorem tab_of {W : World} (h : laidMetH Tryz.prog laidP W) : SpTab W := by
  rw [MakeChecks.laidMetH_plain _ _ _ (by kernel_rfl)] at h
  have h3 : Lib.VarReads Tryz.prog W "strings.asciiSpace" (Lib.tabData .u8 Lib.asciiSpaceTab) := space_eq ▸ Lib.laidMet.reads h (.tail _ (.head _))
  obtain ⟨g, t, cs, fuel, p, hg, hty, hvar, hd⟩ := h3
  obtain rfl := Option.some.inj ((show Tryz.prog.globalNamed "strings.asciiSpace" = some 1 by kernel_rfl).symm.trans hg)
  obtain rfl := Option.some.inj ((show (Tryz.prog.globals[1]?).map (·.type) = some 280 by kernel_rfl).symm.trans hty)
  unfold SpTab Lib.TabIs
  rw [hvar, ← Lib.cells_of_tab underTab under5r (by kernel_rfl) (by kernel_rfl) hd]
end ParF
end

section
set_option maxRecDepth 100000
namespace ParF
open Go Go.Abs Go.Proofs
noncomputable def fs67 : Array Field := match Tryz.prog.underlying 67 with | some (.struct fs) => fs | _ => #[]
theorem under67 : Tryz.prog.underlying 67 = some (.struct fs67) := by kernel_rfl
theorem fields67 : fs67.toList.map (fun f => (f.type, f.offset)) = [(3, 0), (3, 1), (9, 2)] := by kernel_rfl
theorem cells3r : Tryz.prog.cellsOf 3 = 1 := by kernel_rfl
theorem cells9r : Tryz.prog.cellsOf 9 = 1 := by kernel_rfl
theorem cells67r : Tryz.prog.cellsOf 67 = 3 := by kernel_rfl
section
variable {H : Type} {enc : TypeId × Value → H} {w : World} {base : Nat} {spare : Nat → Bool} {held : Bool}
abbrev Raw := Int × Int × ByteArray
abbrev Raw.dat {H : Type} (x : Raw) : DataW H := .agg [.lit (.int .i64 x.1), .lit (.int .i64 x.2.1), .lit (.string x.2.2.data.toList)]
theorem edit_of {fuel : Nat} {cs : List Value} {x : DataW H × List MemPlace} (h : DataW.trod enc Tryz.prog w base spare held fuel 67 cs = some x) :
    ∃ r : Raw, cs = [.int .i64 r.1, .int .i64 r.2.1, .string r.2.2] ∧ x.1 = Raw.dat r := by
  obtain ⟨xs, n, _, rfl, hl, hlen, hf⟩ := DataW.trod_struct under67 h
  have h3 : cs.length = 3 := hl.trans cells67r
  match cs, h3 with
  | [v0, v1, v2], _ =>
  have key : ∀ (i : Nat) (ty : TypeId) (off : Nat), [(3, 0), (3, 1), (9, 2)][i]? = some (ty, off) → DataW.trod enc Tryz.prog w base spare held n ty (([v0, v1, v2].drop off).take (Tryz.prog.cellsOf ty)) = xs[i]? := by
    intro i ty off hi
    rw [← fields67, List.getElem?_map] at hi
    obtain ⟨f, hf1, hf2⟩ := Option.map_eq_some_iff.1 hi
    cases hf2
    exact hf i f (by simpa using hf1)
  have hs : xs.length = 3 := by rw [hlen]; simpa using congrArg List.length fields67
  match xs, hs with
  | [y0, y1, y2], _ =>
  have k0 := key 0 3 0 rfl
  have k1 := key 1 3 1 rfl
  have k2 := key 2 9 2 rfl
  rw [cells3r] at k0 k1
  rw [cells9r] at k2
  obtain ⟨a, e0, r0, _⟩ := DataW.trod_int under3r (by simpa using k0)
  obtain ⟨b, e1, r1, _⟩ := DataW.trod_int under3r (by simpa using k1)
  obtain ⟨s, e2, r2, _⟩ := DataW.trod_string under9r (by simpa using k2)
  simp only [List.cons.injEq, and_true] at e0 e1 e2
  subst e0; subst e1; subst e2; subst r0; subst r1; subst r2
  exact ⟨(a, b, s), rfl, rfl⟩
def Raw.val (r : Raw) : Value := .agg #[.int .i64 r.1, .int .i64 r.2.1, .string r.2.2]
theorem edit_val {v : Value} {fuel : Nat} {x : DataW H × List MemPlace} (h : DataW.trod enc Tryz.prog w base spare held fuel 67 v.cells.toList = some x) : ∃ r : Raw, v = r.val := by
  obtain ⟨r, e, _⟩ := edit_of h
  refine ⟨r, ?_⟩
  cases v with
  | agg cs =>
    show Value.agg cs = _
    have : cs = #[.int .i64 r.1, .int .i64 r.2.1, .string r.2.2] := Array.toList_inj.1 e
    rw [this]; rfl
  | _ => exact absurd (congrArg List.length e) (by simp [Value.cells])
end
abbrev Raw.av (r : Raw) : AV := .agg [.int .i64 r.1, .int .i64 r.2.1, .str r.2.2.data.toList]
theorem rel_edit {L : Lay} (r : Raw) : Rel L (.agg [.int .i64 r.1, .int .i64 r.2.1, .str r.2.2.data.toList]) r.val :=
  .agg _ [.int .i64 r.1, .int .i64 r.2.1, .string r.2.2] (.cons _ _ _ _ (.int _ _) (.cons _ _ _ _ (.int _ _) (.cons _ _ _ _ (rel_bytes _) .nil))) (by intro v hv; simp at hv; rcases hv with rfl | rfl | rfl <;> rfl)
end ParF
end
