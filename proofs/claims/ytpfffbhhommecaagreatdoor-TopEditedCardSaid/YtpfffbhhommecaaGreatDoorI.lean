/- SrvRow -/
import Derived.Test.YtpfffbhhommecaaGreatDoorG
import Derived.Test.YtpfffbhhommecaaGreatDoorH
import Derived.LaidLaws
import Derived.Test.YtpfffbhhommecaaGreatDoorRows
import Derived.ProofKit
import Derived.SizedLaws
import Derived.Lib.LaidU8
import Derived.Lay
import Derived.SevenTiedAt
import Derived.Stop.Joined
import Derived.Deep.Slices
set_option linter.all false

section
set_option maxRecDepth 100000
namespace Srv
open Go Go.Abs Go.Proofs RopeF
def lay0 (W : World) : Lay := { S := fun b o => W.cell? ⟨b, o, none⟩, live := fun _ => false, loc := fun _ => 0 }
def ow0 (W : World) : Owns := fun b => if b < W.heap.size then .frame else .free
theorem st0 (W : World) : St W (lay0 W) (ow0 W) [] W where
  live := fun id => by simp [lay0, has]
  imm := fun b o v h => h
  obj := fun id cs h _ => by simp at h
  used := fun b h => by unfold ow0 at h; split at h; assumption; exact absurd rfl h
  base := fun b h => by simp [ow0, h]
  below := RowKit.Below.refl _ _
theorem run_true {g : FuncId} {args : List AV} (h : AC C g args (.bool true)) (hn : ∀ a ∈ args, a.isOwn = false) (W : World) (hT : SpTab W) {cargs : List Value} (ha : RelL (lay0 W) args cargs) :
    Calls Tryz.prog g cargs.toArray W fun e W' => e = .returned (.bool true) ∧ RowKit.Below W.heap.size W W' := by
  obtain ⟨N, q⟩ := AC.at h
  have q := q N (Nat.le_refl _) []
  have D : DOK C W (den C N) := den_ok (fun g cs e => by cases e) (by kernel_rfl) (fun g e args s v s' h1 h2 _ => ext_ok W hT g e args s v s' h1 h2) N
  refine (aCall_ok (C := C) (fun g cs e => by cases e) D q hn ⟨fun g cs e => (by cases e), rfl⟩ (st0 W) ha).2.mono ?_
  rintro e W' ⟨cv, rfl, L', ow', hx, hs, hr, _⟩
  cases hr
  exact ⟨rfl, hs.below⟩
theorem rel_bytes {L : Lay} (s : ByteArray) : Rel L (.str s.data.toList) (.string s) := by
  have h := Rel.str (L := L) s.data.toList
  have e : (⟨s.data.toList.toArray⟩ : ByteArray) = s := by cases s; simp
  rw [e] at h
  exact h
open Go.Proofs.YtpfffbhhommecaaGreatDoor in
def laidP : List (String × DataW Unit) := [("unicode.White_Space", Rows.laid_unicode_White_Space), ("strings.asciiSpace", Rows.laid_strings_asciiSpace)]
theorem space_eq : (Go.Proofs.YtpfffbhhommecaaGreatDoor.Rows.laid_strings_asciiSpace : DataW Unit) = Lib.tabData .u8 Lib.asciiSpaceTab := by kernel_rfl
theorem under3r : Tryz.prog.underlying 3 = some (.int .i64) := by kernel_rfl
theorem under9r : Tryz.prog.underlying 9 = some .string := by kernel_rfl
theorem underTab : Tryz.prog.underlying 227 = some (.array 256 5) := by kernel_rfl
theorem under5r : Tryz.prog.underlying 5 = some (.int .u8) := by kernel_rfl
theorem tab_of {W : World} (h : laidMetH Tryz.prog laidP W) : SpTab W := by
  rw [MakeChecks.laidMetH_plain _ _ _ (by kernel_rfl)] at h
  have h3 : Lib.VarReads Tryz.prog W "strings.asciiSpace" (Lib.tabData .u8 Lib.asciiSpaceTab) := space_eq ▸ Lib.laidMet.reads h (.tail _ (.head _))
  obtain ⟨g, t, cs, fuel, p, hg, hty, hvar, hd⟩ := h3
  obtain rfl := Option.some.inj ((show Tryz.prog.globalNamed "strings.asciiSpace" = some 1 by kernel_rfl).symm.trans hg)
  obtain rfl := Option.some.inj ((show (Tryz.prog.globals[1]?).map (·.type) = some 227 by kernel_rfl).symm.trans hty)
  unfold SpTab Lib.TabIs
  rw [hvar, ← Lib.cells_of_tab underTab under5r (by kernel_rfl) (by kernel_rfl) hd]
noncomputable def fs70 : Array Field := match Tryz.prog.underlying 70 with | some (.struct fs) => fs | _ => #[]
theorem under70 : Tryz.prog.underlying 70 = some (.struct fs70) := by kernel_rfl
theorem fields70 : fs70.toList.map (fun f => (f.type, f.offset)) = [(3, 0), (3, 1), (9, 2)] := by kernel_rfl
theorem cells3r : Tryz.prog.cellsOf 3 = 1 := by kernel_rfl
theorem cells9r : Tryz.prog.cellsOf 9 = 1 := by kernel_rfl
theorem cells70r : Tryz.prog.cellsOf 70 = 3 := by kernel_rfl
section
variable {H : Type} {enc : TypeId × Value → H} {w : World} {base : Nat} {spare : Nat → Bool} {held : Bool}
abbrev Raw := Int × Int × ByteArray
abbrev Raw.ed (x : Raw) : Ed := ⟨x.1, x.2.1, x.2.2.data.toList⟩
abbrev Raw.dat {H : Type} (x : Raw) : DataW H := .agg [.lit (.int .i64 x.1), .lit (.int .i64 x.2.1), .lit (.string x.2.2.data.toList)]
theorem edit_of {fuel : Nat} {cs : List Value} {x : DataW H × List MemPlace} (h : DataW.trod enc Tryz.prog w base spare held fuel 70 cs = some x) :
    ∃ r : Raw, cs = [.int .i64 r.1, .int .i64 r.2.1, .string r.2.2] ∧ x.1 = Raw.dat r := by
  obtain ⟨xs, n, _, rfl, hl, hlen, hf⟩ := DataW.trod_struct under70 h
  have h3 : cs.length = 3 := hl.trans cells70r
  match cs, h3 with
  | [v0, v1, v2], _ =>
  have key : ∀ (i : Nat) (ty : TypeId) (off : Nat), [(3, 0), (3, 1), (9, 2)][i]? = some (ty, off) → DataW.trod enc Tryz.prog w base spare held n ty (([v0, v1, v2].drop off).take (Tryz.prog.cellsOf ty)) = xs[i]? := by
    intro i ty off hi
    rw [← fields70, List.getElem?_map] at hi
    obtain ⟨f, hf1, hf2⟩ := Option.map_eq_some_iff.1 hi
    cases hf2
    exact hf i f (by simpa using hf1)
  have hs : xs.length = 3 := by rw [hlen]; simpa using congrArg List.length fields70
  match xs, hs with
  | [y0, y1, y2], _ =>
  have k0 := key 0 3 0 rfl
  have k1 := key 1 3 1 rfl
  have k2 := key 2 9 2 rfl
  rw [cells3r] at k0 k1
  rw [cells9r] at k2
  obtain ⟨a, e0, r0, _⟩ := DataW.trod_int under3r (by simpa using k0)
  obtain ⟨b, e1, r1, _⟩ := DataW.trod_int under3r (by simpa using k1)
  obtain ⟨s, e2, r2, _⟩ := DataW.trod_string under9r (by simpa using k2)
  simp only [List.cons.injEq, and_true] at e0 e1 e2
  subst e0; subst e1; subst e2; subst r0; subst r1; subst r2
  exact ⟨(a, b, s), rfl, rfl⟩
theorem open_edits {fuel : Nat} {cs : List Value} {x : DataW H × List MemPlace} (h : DataW.trod enc Tryz.prog w base spare held fuel 22 cs = some x) :
    (cs = [.slice none 0 0] ∧ x = (.nil, [])) ∨
    ∃ (a : Addr) (len cap : Nat) (E : Nat → Raw) (sp : List (DataW H)), cs = [.slice (some a) len cap] ∧ len ≤ cap ∧ x.1 = .slice ((List.range len).map fun i => Raw.dat (E i)) sp ∧
      ∀ i, i < len → w.cell? (a.add (i * 3)) = some (.int .i64 (E i).1) ∧ w.cell? (a.add (i * 3 + 1)) = some (.int .i64 (E i).2.1) ∧ w.cell? (a.add (i * 3 + 2)) = some (.string (E i).2.2) := by
  rcases Go.Deep.open_slice under44 h with h0 | ⟨a, len, cap, m, n, D, Pl, rfl, hb, hl, hm, hmm, rfl, hx⟩
  · exact Or.inl h0
  right
  rw [cells70r] at hx
  have hle : len ≤ m := by rw [hmm]; split <;> omega
  obtain ⟨E, hE⟩ := Go.Deep.choose_lt (α := Raw) (n := len) (p := fun i r => (w.cell? (a.add (i * 3)) = some (.int .i64 r.1) ∧ w.cell? (a.add (i * 3 + 1)) = some (.int .i64 r.2.1) ∧ w.cell? (a.add (i * 3 + 2)) = some (.string r.2.2)) ∧ D i = Raw.dat r) (fun i hi => by
    obtain ⟨cs', h1, h2⟩ := hx i (by omega)
    obtain ⟨r, rfl, hd⟩ := edit_of h2
    obtain ⟨_, _, hc⟩ := World.cells?_some h1
    have c0 := hc 0 (by omega)
    have c1 := hc 1 (by omega)
    have c2 := hc 2 (by omega)
    rw [Go.Deep.add_add] at c0 c1 c2
    exact ⟨r, ⟨by simpa using c0, by simpa using c1, by simpa using c2⟩, hd⟩)
  refine ⟨a, len, cap, E, (List.range (m - len)).map fun j => D (len + j), rfl, hl, ?_, fun i hi => (hE i hi).1⟩
  show DataW.slice _ _ = _
  congr 1
  exact List.map_congr_left fun i hi => (hE i (List.mem_range.1 hi)).2
theorem mem_weightsAll {P : Program} {e : TypeId} {n : Nat} {d : DataW H} : ∀ {ds : List (DataW H)}, d ∈ ds → n ∈ d.weights P e → n ∈ DataW.weightsAll P e ds
  | [], h, _ => by simp at h
  | x :: xs, h, hn => by
    simp only [DataW.weightsAll, List.mem_append]
    rcases List.mem_cons.1 h with rfl | h
    · exact .inl hn
    · exact .inr (mem_weightsAll h hn)
theorem types70 : fs70.toList.map (·.type) = [3, 3, 9] := by kernel_rfl
theorem edits_weight {es sp : List (DataW H)} {r : Raw} (h : Raw.dat r ∈ es) : r.2.2.data.toList.length ∈ (DataW.slice es sp).weights Tryz.prog 22 := by
  simp only [DataW.weights, under44, List.mem_cons, List.mem_append]
  refine .inr (.inl (mem_weightsAll h ?_))
  simp [DataW.weights, under70, types70, DataW.weightsEach]
end
theorem relC_eds {W : World} {b : Nat} : ∀ (l : List Raw) (o : Nat), (∀ i (hi : i < l.length), W.cell? ⟨b, o + i * 3, none⟩ = some (.int .i64 l[i].1) ∧ W.cell? ⟨b, o + i * 3 + 1, none⟩ = some (.int .i64 l[i].2.1) ∧ W.cell? ⟨b, o + i * 3 + 2, none⟩ = some (.string l[i].2.2)) →
    RelC (lay0 W) b o (cellsOf (eds (l.map Raw.ed)))
  | [], o, _ => .nil _ _
  | r :: l, o, h => by
    obtain ⟨h0, h1, h2⟩ := h 0 (by simp)
    simp only [Nat.zero_mul, Nat.add_zero, List.getElem_cons_zero] at h0 h1 h2
    refine .cons _ _ _ _ _ h0 rfl (.int _ _) (.cons _ _ _ _ _ h1 rfl (.int _ _) (.cons _ _ _ _ _ h2 rfl (rel_bytes _) (relC_eds l (o + 3) fun i hi => ?_)))
    have := h (i + 1) (by simp; omega)
    rw [show o + (i + 1) * 3 = o + 3 + i * 3 by omega] at this
    simpa using this
theorem rel_eds {W : World} {b o cap : Nat} (l : List Raw) (hl : l.length ≤ cap) (h : ∀ i (hi : i < l.length), W.cell? ⟨b, o + i * 3, none⟩ = some (.int .i64 l[i].1) ∧ W.cell? ⟨b, o + i * 3 + 1, none⟩ = some (.int .i64 l[i].2.1) ∧ W.cell? ⟨b, o + i * 3 + 2, none⟩ = some (.string l[i].2.2)) :
    Rel (lay0 W) (.sl 70 3 (eds (l.map Raw.ed)) .sh) (.slice (some ⟨b, o, none⟩) l.length cap) := by
  have := Rel.sl (L := lay0 W) b o 70 3 (eds (l.map Raw.ed)) .sh cap (relC_eds l o h) (by intro x hx; simp only [eds, List.mem_map] at hx; obtain ⟨y, _, rfl⟩ := hx; rfl) ⟨by simpa using hl, nofun⟩
  simpa using this
end Srv
end
