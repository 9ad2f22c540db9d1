/- Slices of edits that stand in the world. -/
import Derived.Test.YtionohfkjdahlaaDoorLexRow
import Derived.Test.YtionohfkjdahlaaDoorRelX
import Derived.Deep.Slices
set_option linter.all false
set_option maxRecDepth 100000
namespace LexF
open Go Go.Abs Go.Proofs

noncomputable def fs65 : Array Field := match Tryd.prog.underlying 48 with | some (.struct fs) => fs | _ => #[]
theorem under65 : Tryd.prog.underlying 48 = some (.struct fs65) := by kernel_rfl
theorem fields65 : fs65.toList.map (fun f => (f.type, f.offset)) = [(3, 0), (3, 1), (9, 2)] := by kernel_rfl
theorem cells3 : Tryd.prog.cellsOf 3 = 1 := by kernel_rfl
theorem cells9 : Tryd.prog.cellsOf 9 = 1 := by kernel_rfl
theorem cells65 : Tryd.prog.cellsOf 48 = 3 := by kernel_rfl

section
variable {H : Type} {enc : TypeId × Value → H} {w : World} {base : Nat} {spare : Nat → Bool} {held : Bool}

/-- An edit as it stands in three cells. -/
abbrev Raw := Int × Int × ByteArray
abbrev Raw.ed (x : Raw) : EdF.Ed := ⟨x.1, x.2.1, x.2.2.data.toList⟩
abbrev Raw.dat {H : Type} (x : Raw) : DataW H := .agg [.lit (.int .i64 x.1), .lit (.int .i64 x.2.1), .lit (.string x.2.2.data.toList)]

theorem edit_of {fuel : Nat} {cs : List Value} {x : DataW H × List MemPlace} (h : DataW.trod enc Tryd.prog w base spare held fuel 48 cs = some x) :
    ∃ r : Raw, cs = [.int .i64 r.1, .int .i64 r.2.1, .string r.2.2] ∧ x.1 = Raw.dat r := by
  obtain ⟨xs, n, _, rfl, hl, hlen, hf⟩ := DataW.trod_struct under65 h
  have h3 : cs.length = 3 := hl.trans cells65
  match cs, h3 with
  | [v0, v1, v2], _ =>
  have key : ∀ (i : Nat) (ty : TypeId) (off : Nat), [(3, 0), (3, 1), (9, 2)][i]? = some (ty, off) → DataW.trod enc Tryd.prog w base spare held n ty (([v0, v1, v2].drop off).take (Tryd.prog.cellsOf ty)) = xs[i]? := by
    intro i ty off hi
    rw [← fields65, List.getElem?_map] at hi
    obtain ⟨f, hf1, hf2⟩ := Option.map_eq_some_iff.1 hi
    cases hf2
    exact hf i f (by simpa using hf1)
  have hs : xs.length = 3 := by rw [hlen]; simpa using congrArg List.length fields65
  match xs, hs with
  | [y0, y1, y2], _ =>
  have k0 := key 0 3 0 rfl
  have k1 := key 1 3 1 rfl
  have k2 := key 2 9 2 rfl
  rw [cells3] at k0 k1
  rw [cells9] at k2
  obtain ⟨a, e0, r0, _⟩ := DataW.trod_int under3 (by simpa using k0)
  obtain ⟨b, e1, r1, _⟩ := DataW.trod_int under3 (by simpa using k1)
  obtain ⟨s, e2, r2, _⟩ := DataW.trod_string under9 (by simpa using k2)
  simp only [List.cons.injEq, and_true] at e0 e1 e2
  subst e0; subst e1; subst e2; subst r0; subst r1; subst r2
  exact ⟨(a, b, s), rfl, rfl⟩

theorem open_edits {fuel : Nat} {cs : List Value} {x : DataW H × List MemPlace} (h : DataW.trod enc Tryd.prog w base spare held fuel 46 cs = some x) :
    (cs = [.slice none 0 0] ∧ x = (.nil, [])) ∨
    ∃ (a : Addr) (len cap : Nat) (E : Nat → Raw) (sp : List (DataW H)), cs = [.slice (some a) len cap] ∧ len ≤ cap ∧ x.1 = .slice ((List.range len).map fun i => Raw.dat (E i)) sp ∧
      ∀ i, i < len → w.cell? (a.add (i * 3)) = some (.int .i64 (E i).1) ∧ w.cell? (a.add (i * 3 + 1)) = some (.int .i64 (E i).2.1) ∧ w.cell? (a.add (i * 3 + 2)) = some (.string (E i).2.2) := by
  rcases Go.Deep.open_slice EdF.under44 h with h0 | ⟨a, len, cap, m, n, D, Pl, rfl, hb, hl, hm, hmm, rfl, hx⟩
  · exact Or.inl h0
  right
  rw [cells65] at hx
  have hle : len ≤ m := by rw [hmm]; split <;> omega
  obtain ⟨E, hE⟩ := Go.Deep.choose_lt (α := Raw) (n := len) (p := fun i r => (w.cell? (a.add (i * 3)) = some (.int .i64 r.1) ∧ w.cell? (a.add (i * 3 + 1)) = some (.int .i64 r.2.1) ∧ w.cell? (a.add (i * 3 + 2)) = some (.string r.2.2)) ∧ D i = Raw.dat r) (fun i hi => by
    obtain ⟨cs', h1, h2⟩ := hx i (by omega)
    obtain ⟨r, rfl, hd⟩ := edit_of h2
    obtain ⟨_, _, hc⟩ := World.cells?_some h1
    have c0 := hc 0 (by omega)
    have c1 := hc 1 (by omega)
    have c2 := hc 2 (by omega)
    rw [Go.Deep.add_add] at c0 c1 c2
    exact ⟨r, ⟨by simpa using c0, by simpa using c1, by simpa using c2⟩, hd⟩)
  refine ⟨a, len, cap, E, (List.range (m - len)).map fun j => D (len + j), rfl, hl, ?_, fun i hi => (hE i hi).1⟩
  show DataW.slice _ _ = _
  congr 1
  exact List.map_congr_left fun i hi => (hE i (List.mem_range.1 hi)).2


end

theorem relC_eds {W : World} {b : Nat} : ∀ (l : List Raw) (o : Nat), (∀ i (hi : i < l.length), W.cell? ⟨b, o + i * 3, none⟩ = some (.int .i64 l[i].1) ∧ W.cell? ⟨b, o + i * 3 + 1, none⟩ = some (.int .i64 l[i].2.1) ∧ W.cell? ⟨b, o + i * 3 + 2, none⟩ = some (.string l[i].2.2)) →
    RelC (lay0 W) b o (cellsOf (EdF.eds (l.map Raw.ed)))
  | [], o, _ => .nil _ _
  | r :: l, o, h => by
    obtain ⟨h0, h1, h2⟩ := h 0 (by simp)
    simp only [Nat.zero_mul, Nat.add_zero, List.getElem_cons_zero] at h0 h1 h2
    refine .cons _ _ _ _ _ h0 rfl (.int _ _) (.cons _ _ _ _ _ h1 rfl (.int _ _) (.cons _ _ _ _ _ h2 rfl (rel_bytes _) (relC_eds l (o + 3) fun i hi => ?_)))
    have := h (i + 1) (by simp; omega)
    rw [show o + (i + 1) * 3 = o + 3 + i * 3 by omega] at this
    simpa using this

theorem rel_eds {W : World} {b o cap : Nat} (l : List Raw) (hl : l.length ≤ cap) (h : ∀ i (hi : i < l.length), W.cell? ⟨b, o + i * 3, none⟩ = some (.int .i64 l[i].1) ∧ W.cell? ⟨b, o + i * 3 + 1, none⟩ = some (.int .i64 l[i].2.1) ∧ W.cell? ⟨b, o + i * 3 + 2, none⟩ = some (.string l[i].2.2)) :
    Rel (lay0 W) (.sl 48 3 (EdF.eds (l.map Raw.ed)) .sh) (.slice (some ⟨b, o, none⟩) l.length cap) := by
  have := Rel.sl (L := lay0 W) b o 48 3 (EdF.eds (l.map Raw.ed)) .sh cap (relC_eds l o h) (by intro x hx; simp only [EdF.eds, List.mem_map] at hx; obtain ⟨y, _, rfl⟩ := hx; rfl) ⟨by simpa using hl, nofun⟩
  simpa using this
end LexF
