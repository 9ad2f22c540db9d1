/- RopeApply answers true at every string and every slice of edits; the slice reads as it did. -/
import Derived.Test.YtionohfkjdahlaaRopeRow
import Derived.Test.YtionohfkjdahlaaRopeQ
import Derived.Deep.Slices
set_option linter.all false
namespace RopeF
open Go Go.Abs Go.Proofs

noncomputable def fs65 : Array Field := match Try.prog.underlying 65 with | some (.struct fs) => fs | _ => #[]
theorem under65 : Try.prog.underlying 65 = some (.struct fs65) := by kernel_rfl
theorem fields65 : fs65.toList.map (fun f => (f.type, f.offset)) = [(3, 0), (3, 1), (9, 2)] := by kernel_rfl
theorem under3 : Try.prog.underlying 3 = some (.int .i64) := by kernel_rfl
theorem cells3 : Try.prog.cellsOf 3 = 1 := by kernel_rfl
theorem cells9 : Try.prog.cellsOf 9 = 1 := by kernel_rfl
theorem cells65 : Try.prog.cellsOf 65 = 3 := by kernel_rfl

section
variable {H : Type} {enc : TypeId × Value → H} {w : World} {base : Nat} {spare : Nat → Bool} {held : Bool}

/-- An edit as it stands in three cells. -/
abbrev Raw := Int × Int × ByteArray
abbrev Raw.ed (x : Raw) : Ed := ⟨x.1, x.2.1, x.2.2.data.toList⟩
abbrev Raw.dat {H : Type} (x : Raw) : DataW H := .agg [.lit (.int .i64 x.1), .lit (.int .i64 x.2.1), .lit (.string x.2.2.data.toList)]

theorem edit_of {fuel : Nat} {cs : List Value} {x : DataW H × List MemPlace} (h : DataW.trod enc Try.prog w base spare held fuel 65 cs = some x) :
    ∃ r : Raw, cs = [.int .i64 r.1, .int .i64 r.2.1, .string r.2.2] ∧ x.1 = Raw.dat r := by
  obtain ⟨xs, n, _, rfl, hl, hlen, hf⟩ := DataW.trod_struct under65 h
  have h3 : cs.length = 3 := hl.trans cells65
  match cs, h3 with
  | [v0, v1, v2], _ =>
  have key : ∀ (i : Nat) (ty : TypeId) (off : Nat), [(3, 0), (3, 1), (9, 2)][i]? = some (ty, off) → DataW.trod enc Try.prog w base spare held n ty (([v0, v1, v2].drop off).take (Try.prog.cellsOf ty)) = xs[i]? := by
    intro i ty off hi
    rw [← fields65, List.getElem?_map] at hi
    obtain ⟨f, hf1, hf2⟩ := Option.map_eq_some_iff.1 hi
    cases hf2
    exact hf i f (by simpa using hf1)
  have hs : xs.length = 3 := by rw [hlen]; simpa using congrArg List.length fields65
  match xs, hs with
  | [y0, y1, y2], _ =>
  have k0 := key 0 3 0 rfl
  have k1 := key 1 3 1 rfl
  have k2 := key 2 9 2 rfl
  rw [cells3] at k0 k1
  rw [cells9] at k2
  obtain ⟨a, e0, r0, _⟩ := DataW.trod_int under3 (by simpa using k0)
  obtain ⟨b, e1, r1, _⟩ := DataW.trod_int under3 (by simpa using k1)
  obtain ⟨s, e2, r2, _⟩ := DataW.trod_string under9 (by simpa using k2)
  simp only [List.cons.injEq, and_true] at e0 e1 e2
  subst e0; subst e1; subst e2; subst r0; subst r1; subst r2
  exact ⟨(a, b, s), rfl, rfl⟩

theorem open_edits {fuel : Nat} {cs : List Value} {x : DataW H × List MemPlace} (h : DataW.trod enc Try.prog w base spare held fuel 44 cs = some x) :
    (cs = [.slice none 0 0] ∧ x = (.nil, [])) ∨
    ∃ (a : Addr) (len cap : Nat) (E : Nat → Raw) (sp : List (DataW H)), cs = [.slice (some a) len cap] ∧ len ≤ cap ∧ x.1 = .slice ((List.range len).map fun i => Raw.dat (E i)) sp ∧
      ∀ i, i < len → w.cell? (a.add (i * 3)) = some (.int .i64 (E i).1) ∧ w.cell? (a.add (i * 3 + 1)) = some (.int .i64 (E i).2.1) ∧ w.cell? (a.add (i * 3 + 2)) = some (.string (E i).2.2) := by
  rcases Go.Deep.open_slice under44 h with h0 | ⟨a, len, cap, m, n, D, Pl, rfl, hb, hl, hm, hmm, rfl, hx⟩
  · exact Or.inl h0
  right
  rw [cells65] at hx
  have hle : len ≤ m := by rw [hmm]; split <;> omega
  obtain ⟨E, hE⟩ := Go.Deep.choose_lt (α := Raw) (n := len) (p := fun i r => (w.cell? (a.add (i * 3)) = some (.int .i64 r.1) ∧ w.cell? (a.add (i * 3 + 1)) = some (.int .i64 r.2.1) ∧ w.cell? (a.add (i * 3 + 2)) = some (.string r.2.2)) ∧ D i = Raw.dat r) (fun i hi => by
    obtain ⟨cs', h1, h2⟩ := hx i (by omega)
    obtain ⟨r, rfl, hd⟩ := edit_of h2
    obtain ⟨_, _, hc⟩ := World.cells?_some h1
    have c0 := hc 0 (by omega)
    have c1 := hc 1 (by omega)
    have c2 := hc 2 (by omega)
    rw [Go.Deep.add_add] at c0 c1 c2
    exact ⟨r, ⟨by simpa using c0, by simpa using c1, by simpa using c2⟩, hd⟩)
  refine ⟨a, len, cap, E, (List.range (m - len)).map fun j => D (len + j), rfl, hl, ?_, fun i hi => (hE i hi).1⟩
  show DataW.slice _ _ = _
  congr 1
  exact List.map_congr_left fun i hi => (hE i (List.mem_range.1 hi)).2

theorem mem_weightsAll {P : Program} {e : TypeId} {n : Nat} {d : DataW H} : ∀ {ds : List (DataW H)}, d ∈ ds → n ∈ d.weights P e → n ∈ DataW.weightsAll P e ds
  | [], h, _ => by simp at h
  | x :: xs, h, hn => by
    simp only [DataW.weightsAll, List.mem_append]
    rcases List.mem_cons.1 h with rfl | h
    · exact .inl hn
    · exact .inr (mem_weightsAll h hn)

theorem types65 : fs65.toList.map (·.type) = [3, 3, 9] := by kernel_rfl
theorem edits_weight {es sp : List (DataW H)} {r : Raw} (h : Raw.dat r ∈ es) : r.2.2.data.toList.length ∈ (DataW.slice es sp).weights Try.prog 44 := by
  simp only [DataW.weights, under44, List.mem_cons, List.mem_append]
  refine .inr (.inl (mem_weightsAll h ?_))
  simp [DataW.weights, under65, types65, DataW.weightsEach]
end

theorem relC_eds {W : World} {b : Nat} : ∀ (l : List Raw) (o : Nat), (∀ i (hi : i < l.length), W.cell? ⟨b, o + i * 3, none⟩ = some (.int .i64 l[i].1) ∧ W.cell? ⟨b, o + i * 3 + 1, none⟩ = some (.int .i64 l[i].2.1) ∧ W.cell? ⟨b, o + i * 3 + 2, none⟩ = some (.string l[i].2.2)) →
    RelC (lay0 W) b o (cellsOf (eds (l.map Raw.ed)))
  | [], o, _ => .nil _ _
  | r :: l, o, h => by
    obtain ⟨h0, h1, h2⟩ := h 0 (by simp)
    simp only [Nat.zero_mul, Nat.add_zero, List.getElem_cons_zero] at h0 h1 h2
    refine .cons _ _ _ _ _ h0 rfl (.int _ _) (.cons _ _ _ _ _ h1 rfl (.int _ _) (.cons _ _ _ _ _ h2 rfl (rel_bytes _) (relC_eds l (o + 3) fun i hi => ?_)))
    have := h (i + 1) (by simp; omega)
    rw [show o + (i + 1) * 3 = o + 3 + i * 3 by omega] at this
    simpa using this

theorem rel_eds {W : World} {b o cap : Nat} (l : List Raw) (hl : l.length ≤ cap) (h : ∀ i (hi : i < l.length), W.cell? ⟨b, o + i * 3, none⟩ = some (.int .i64 l[i].1) ∧ W.cell? ⟨b, o + i * 3 + 1, none⟩ = some (.int .i64 l[i].2.1) ∧ W.cell? ⟨b, o + i * 3 + 2, none⟩ = some (.string l[i].2.2)) :
    Rel (lay0 W) (.sl 65 3 (eds (l.map Raw.ed)) .sh) (.slice (some ⟨b, o, none⟩) l.length cap) := by
  have := Rel.sl (L := lay0 W) b o 65 3 (eds (l.map Raw.ed)) .sh cap (relC_eds l o h) (by intro x hx; simp only [eds, List.mem_map] at hx; obtain ⟨y, _, rfl⟩ := hx; rfl) ⟨by simpa using hl, nofun⟩
  simpa using this
end RopeF
namespace Go.Proofs.Ytionohfkjdahlaa
open Go.ChangeShapes Go.WideShapes Go.ChangeAt Go.RowKit

theorem Try.own : ownKnob Try.prog.godebug = none := by kernel_rfl
theorem Try.laidOut : laidOutB Try.prog = true := by kernel_rfl

theorem spot_none {P : Program} {W : World} {base : Nat} {t e : TypeId} {a : Addr} {len cap : Nat} (ht : P.underlying t = some (.slice e)) (h : Value.okWide P W .any base t (.slice (some a) len cap)) : a.spot = none := by
  simp only [Value.okWide, ht, Cell.okWide, Cell.ok] at h
  exact h.2.2.2.1

set_option maxRecDepth 100000 in
theorem ropeApply_lifted (os : Os) (started : os.Started) (H : Type) (enc : TypeId × Value → H) :
    ReturnsInHanded {} Try.checked os 6 .any (Rows.ropeApplySpec.pre6 enc Try.prog Try.f6 Rows.ropeApplyRow.domain false) (Rows.ropeApplySpec.post enc Try.prog Try.f6 false true false false) := by
  refine returnsInHanded_of_change_sized (C := Try.checked) Try.own started (by kernel_rfl) Try.func6
    (ChangeSpec.witness6 (enc := enc) (C := Try.checked) false ⟨#[], #[.string ⟨#[]⟩, .slice none 0 0], []⟩ 8 (by kernel_rfl) (by kernel_rfl) (by kernel_rfl) (by kernel_rfl)) ?_
  intro W base args ds gs before hval0 hW _ hsz0 _
  have hval : ∀ (j : Nat) t v, Try.f6.params[j]? = some t → args[j]? = some v → Value.okWide Try.prog W .any base t v := hval0
  have hW' := hW
  obtain ⟨p, q, hA0, hV, rfl, _, _⟩ := hW
  have hA : DataW.TrodAll enc Try.prog W 0 (fun _ => true) true Try.f6.params.toList args.toList ds p := hA0
  rw [Try.params6] at hA hval
  obtain ⟨v0, v1, d0, d1, p0, p1, rfl, rfl, rfl, h0, h1⟩ := trodAll_two hA
  obtain ⟨rfl, rfl⟩ := trodVars_none hV
  have hok := hval 1 44 v1 rfl rfl
  obtain ⟨a1, len, cap, rfl⟩ := okWide_slice RopeF.under44 hok
  have h0k := h0
  have h1k := h1
  obtain ⟨fuel, hf⟩ := h1
  obtain ⟨fuel0, hf0⟩ := h0
  obtain ⟨src, hsrc⟩ := okWide_string RopeF.under9 (hval 0 9 v0 rfl rfl)
  subst hsrc
  clear hA0 hval0
  simp only [List.append_nil] at hW'
  have hlt : ∀ x ∈ p0 ++ p1, x.block < W.heap.size := fun x hx => by simpa using hW'.lt x hx
  have fin : ∀ (W' : World), Below W.heap.size W W' →
      Rows.ropeApplySpec.post enc Try.checked.prog Try.f6 false true false false W #[.string src, .slice a1 len cap] (.bool true) W' := by
    intro W' hnx
    refine ⟨_, _, _, [] ++ [], p0 ++ p1, [], hW', ?_, ?_, by rfl, hnx.frame _, fun h => by cases h⟩
    · exact trodAll_mk1 (shut_bool Try.underlying4 true)
    · exact trodAll_mk2 (Below.trod Try.laidOut (by kernel_rfl) (of_decide_eq_true (by kernel_rfl)) h0k hnx (fun x hx => hlt x (List.mem_append_left _ hx)))
        (Below.trod Try.laidOut (by kernel_rfl) (of_decide_eq_true (by kernel_rfl)) h1k hnx (fun x hx => hlt x (List.mem_append_right _ hx)))
  have main : ∀ v xs, RopeF.IsE v xs → (∀ x ∈ xs, x.t.length ≤ 140737488355328) → Go.Abs.Rel (RopeF.lay0 W) v (.slice a1 len cap) →
      Calls Try.checked.prog 6 #[.string src, .slice a1 len cap] W fun e W' => ∃ v, e = Ending.returned v ∧ Rows.ropeApplySpec.post enc Try.checked.prog Try.f6 false true false false W #[.string src, .slice a1 len cap] v W' := by
    intro v xs hs ht hr
    refine (RopeF.run_true (RopeF.RopeApply_run src.data.toList v xs hs ht) (fun a ha => ?_) W (.cons _ _ _ _ (RopeF.rel_bytes src) (.cons _ _ _ _ hr .nil))).mono fun e W' ⟨he, hw⟩ => ⟨_, he, fin W' hw⟩
    simp only [List.mem_cons, List.not_mem_nil, or_false] at ha
    rcases ha with rfl | rfl
    · rfl
    · rcases hs with rfl | ⟨_, rfl⟩ <;> rfl
  rcases RopeF.open_edits hf with ⟨hcs, hx⟩ | ⟨a, len', cap', E, sp, hcs, hl, hx, hcell⟩
  · simp [Value.cells] at hcs
    obtain ⟨rfl, rfl, rfl⟩ := hcs
    exact main _ [] (.inr ⟨rfl, rfl⟩) (by simp) .nils
  · simp [Value.cells] at hcs
    obtain ⟨rfl, rfl, rfl⟩ := hcs
    obtain ⟨b, off, spot⟩ := a
    have hspot : spot = none := spot_none RopeF.under44 hok
    subst hspot
    simp only at hx
    subst hx
    have hlen : ((List.range len).map E).length = len := by simp
    have hr := RopeF.rel_eds (W := W) (b := b) (o := off) (cap := cap) ((List.range len).map E) (by simpa using hl) (fun i hi => by
      have := hcell i (by simpa using hi)
      rw [add_plain, add_plain, add_plain] at this
      simpa [Nat.add_assoc] using this)
    rw [hlen] at hr
    refine main _ _ (.inl rfl) (fun x hx => ?_) hr
    simp only [List.mem_map] at hx
    obtain ⟨r, ⟨i, hi, rfl⟩, rfl⟩ := hx
    have hw := List.all_eq_true.1 hsz0 _ (DataW.weights_mem_each (j := 1) (t := 44) (by kernel_rfl) rfl _ (RopeF.edits_weight (List.mem_map.2 ⟨i, hi, rfl⟩)))
    have hrb := reachBytes_lt
    have hw' : (E i).2.2.data.toList.length ≤ reachBytes := by simpa using hw
    show (E i).2.2.data.toList.length ≤ _
    omega

theorem RopeApply_holds : Rows.RopeApplySaid :=
  OpenClaim.holds_of_wide 6 Try.f6 rfl rfl rfl rfl rfl rfl rfl ⟨rfl, rfl, rfl, rfl, rfl⟩ rfl rfl rfl rfl rfl (by kernel_rfl) Try.func6 (by kernel_rfl)
    (of_decide_eq_true (by kernel_rfl)) (by unfold Func.isWrapper; first | (rw [if_pos (by decide +kernel)]; kernel_rfl) | (rw [if_neg (by decide +kernel)]; exact ⟨rfl, rfl⟩))
    (fun os started H enc _ => ropeApply_lifted os started H enc)

#print axioms RopeApply_holds
end Go.Proofs.Ytionohfkjdahlaa
