/- RopeConcat: the row. -/
import Derived.Test.YtionohfkjdahlaaRopeD
import Derived.Test.YtionohfkjdahlaaRopeZ
import Derived.Test.YtionohfkjdahlaaRows
import Derived.ProofKit
import Derived.SizedLaws
set_option linter.all false
namespace RopeF
open Go Go.Abs Go.Proofs


/-- The world that a call begins in: what stands there is known. -/
def lay0 (W : World) : Lay := { S := fun b o => W.cell? ⟨b, o, none⟩, live := fun _ => false, loc := fun _ => 0 }
def ow0 (W : World) : Owns := fun b => if b < W.heap.size then .frame else .free
theorem st0 (W : World) : St W (lay0 W) (ow0 W) [] W where
  live := fun id => by simp [lay0, has]
  imm := fun b o v h => h
  obj := fun id cs h _ => by simp at h
  used := fun b h => by unfold ow0 at h; split at h; assumption; exact absurd rfl h
  base := fun b h => by simp [ow0, h]
  below := RowKit.Below.refl _ _

theorem ext_ok (W0 : World) (g : FuncId) (e : List AV → Heap → Option (AV × Heap)) (args : List AV) (s : Heap) (v : AV) (s' : Heap) (he : C.ext g = some e) (h : e args s = some (v, s')) : CallSpec C W0 g args s v s' := by
  have he' : (if g = 30 then some (bCheck 53) else if g = 21 then some (bString 5) else none) = some e := he
  split at he'
  · rename_i h30; subst h30; cases he'; exact spec_check W0 args s v s' h
  · split at he'
    · rename_i h21; subst h21; cases he'; exact spec_string W0 args s v s' h
    · cases he'

/-- What the abstract machine answers true, the program answers true. -/
theorem run_true {g : FuncId} {args : List AV} (h : AC C g args (.bool true)) (hn : ∀ a ∈ args, a.isOwn = false) (W : World) {cargs : List Value} (ha : RelL (lay0 W) args cargs) :
    Calls Try.prog g cargs.toArray W fun e W' => e = .returned (.bool true) ∧ RowKit.Below W.heap.size W W' := by
  obtain ⟨N, q⟩ := AC.at h
  have q := q N (Nat.le_refl _) []
  have D : DOK C W (den C N) := den_ok (fun g cs e => by cases e) (by kernel_rfl) (fun g e args s v s' h1 h2 _ => ext_ok W g e args s v s' h1 h2) N
  refine (aCall_ok (C := C) (fun g cs e => by cases e) D q hn (fun g cs e => by cases e) (st0 W) ha).2.mono ?_
  rintro e W' ⟨cv, rfl, L', ow', hx, hs, hr, _⟩
  cases hr
  exact ⟨rfl, hs.below⟩

theorem rel_bytes {L : Lay} (s : ByteArray) : Rel L (.str s.data.toList) (.string s) := by
  have h := Rel.str (L := L) s.data.toList
  have e : (⟨s.data.toList.toArray⟩ : ByteArray) = s := by cases s; simp
  rw [e] at h
  exact h

theorem relC_strs {W : World} {b : Nat} : ∀ (ss : List ByteArray) (o : Nat), (∀ i, i < ss.length → W.cell? ⟨b, o + i, none⟩ = some (.string (ss.getD i ByteArray.empty))) → RelC (lay0 W) b o (strs (ss.map (·.data.toList)))
  | [], o, _ => .nil _ _
  | s :: ss, o, h => by
    refine .cons _ _ _ _ (.string s) ?_ rfl (rel_bytes s) (relC_strs ss (o + 1) fun i hi => ?_)
    · have := h 0 (by simp)
      show W.cell? ⟨b, o, none⟩ = _
      simpa using this
    · have := h (i + 1) (by simp; omega)
      rw [show o + 1 + i = o + (i + 1) by omega, this]
      simp

theorem cellsOf_strs (xs : List (List UInt8)) : cellsOf (strs xs) = strs xs := by
  induction xs with
  | nil => rfl
  | cons x xs ih => show [_] ++ cellsOf (strs xs) = _; rw [ih]; rfl

/-- A slice of strings that stands in the world. -/
theorem rel_strs {W : World} {b o len cap : Nat} {ss : List ByteArray} (hl : len ≤ cap) (hz : ss.length = len) (h : ∀ i, i < ss.length → W.cell? ⟨b, o + i, none⟩ = some (.string (ss.getD i ByteArray.empty))) :
    Rel (lay0 W) (.sl 9 1 (strs (ss.map (·.data.toList))) .sh) (.slice (some ⟨b, o, none⟩) len cap) := by
  have hlen : (strs (ss.map (·.data.toList))).length = len := by simp [hz]
  have := Rel.sl (L := lay0 W) b o 9 1 (strs (ss.map (·.data.toList))) .sh cap (by rw [cellsOf_strs]; exact relC_strs ss o h) (by intro x hx; simp only [strs, List.mem_map] at hx; obtain ⟨y, _, rfl⟩ := hx; rfl) ⟨by omega, nofun⟩
  rwa [hlen] at this
end RopeF
