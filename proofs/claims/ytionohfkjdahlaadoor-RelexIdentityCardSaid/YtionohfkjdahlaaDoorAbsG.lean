/- Stores and appends. -/
import Derived.Test.YtionohfkjdahlaaDoorAbsF
namespace Go.Abs
open Go

theorem oneC_eq (v : Value) : v.oneCell' = oneC v := by cases v <;> rfl

def setL {α : Type} : List α → Nat → List α → List α
  | l, _, [] => l
  | l, o, v :: r => setL (l.set o v) (o + 1) r

theorem setL_length {α : Type} : ∀ (r l : List α) (o : Nat), (setL l o r).length = l.length
  | [], _, _ => rfl
  | v :: r, l, o => by rw [setL, setL_length r]; simp

theorem RelL.setL {L : Lay} : ∀ {as : List AV} {vs : List Value}, RelL L as vs → ∀ {cs : List AV} {us : List Value} (o : Nat), RelL L cs us → RelL L (Abs.setL cs o as) (Abs.setL us o vs)
  | _, _, .nil, _, _, _, k => k
  | _, _, .cons a v as vs h t, _, _, o, k => RelL.setL t (o + 1) (k.set o h)

theorem setL_mem {α : Type} : ∀ (r l : List α) (o : Nat) (x : α), x ∈ setL l o r → x ∈ l ∨ x ∈ r
  | [], _, _, _, h => .inl h
  | v :: r, l, o, x, h => by
    rcases setL_mem r (l.set o v) (o + 1) x h with h | h
    · rcases List.mem_or_eq_of_mem_set h with h | h
      · exact .inl h
      · exact .inr (by simp [h])
    · exact .inr (by simp [h])

theorem setL_out {α : Type} : ∀ (r l : List α) (o k : Nat), k < o ∨ o + r.length ≤ k → (setL l o r)[k]? = l[k]?
  | [], _, _, _, _ => rfl
  | v :: r, l, o, k, h => by
    rw [setL, setL_out r _ _ k (by simp at h; omega), List.getElem?_set_ne (by simp at h; omega)]

theorem setL_in {α : Type} : ∀ (r l : List α) (o j : Nat), o + r.length ≤ l.length → j < r.length → (setL l o r)[o + j]? = r[j]?
  | v :: r, l, o, 0, h, _ => by
    rw [setL, setL_out r _ _ _ (by omega)]
    simp at h
    simp [List.getElem?_set_self (show o < l.length by omega)]
  | v :: r, l, o, j + 1, h, hj => by
    rw [setL, show o + (j + 1) = o + 1 + j by omega, setL_in r _ _ j (by simp at h ⊢; omega) (by simpa using hj)]
    simp

theorem setCells_heap_other {b k : Nat} (h : k ≠ b) : ∀ (vs : List Value) (o : Nat) (w : World), (w.setCells b o vs).heap[k]? = w.heap[k]?
  | [], _, _ => rfl
  | v :: r, o, w => by rw [World.setCells, setCells_heap_other h r]; exact RowKit.Below.heap_setCell _ _ _ _ h

theorem setCells_heap_size (b : Nat) : ∀ (vs : List Value) (o : Nat) (w : World), (w.setCells b o vs).heap.size = w.heap.size
  | [], _, _ => rfl
  | v :: r, o, w => by rw [World.setCells, setCells_heap_size b r]; simp

theorem setCells_heap_same {b : Nat} {e : TypeId} {fz : Nat × Nat} : ∀ (vs : List Value) (o : Nat) (w : World) (c : List Value), w.heap[b]? = some (.cells c.toArray e fz) →
    (w.setCells b o vs).heap[b]? = some (.cells (setL c o vs).toArray e fz)
  | [], _, _, _, h => h
  | v :: r, o, w, c, h => by
    rw [World.setCells, setL]
    refine setCells_heap_same r (o + 1) _ (c.set o v) ?_
    simp only [World.setCell, Array.getElem?_modify, if_true, h, Option.map_some]
    simp

theorem setCells_same (b : Nat) : ∀ (vs : List Value) (o : Nat) (w : World), Same w (w.setCells b o vs)
  | [], _, w => .refl w
  | v :: r, o, w => (Same.trans (b := w.setCell ⟨b, o, none⟩ v) ⟨rfl, rfl, rfl, by simp⟩ (setCells_same b r (o + 1) _))

/-- The cells that a value fills when it is stored. -/
def stCells : AV → List AV
  | .agg cs => cs.map AV.strip
  | v => [v]

/-- store, through a pointer to a variable of the call's own -/
def aStore (n : Nat) (s : Heap) (x v : AV) : Option Heap :=
  match x with
  | .ref id off => if v.solid = true ∧ v.cells.length = n then match s[id]? with
    | some cs => if off + n ≤ cs.2.length then some (s.set id (cs.1, setL cs.2 off (stCells v))) else none
    | none => none
    else none
  | _ => none

def argTo (ow : Owns) (p : Place) : Owns := fun b => match ow b with | .arg => p | q => q

theorem stCells_rel {L : Lay} {a : AV} {v : Value} (h : Rel L a v) (hs : a.solid = true) : ∃ vs : List Value, v.cells = vs.toArray ∧ RelL L (stCells a) vs ∧ (∀ u ∈ vs, oneC u = true) ∧
    ((∀ x ∈ stCells a, x.isOwn = false) ∨ (stCells a = [a] ∧ vs = [v])) := by
  obtain ⟨vs, h1, h2, h3⟩ := rel_cells h hs
  cases a with
  | agg cs => exact ⟨vs, h1, h2.strip, h3, .inl (fun x hx => by obtain ⟨y, _, rfl⟩ := List.mem_map.1 hx; exact strip_isOwn y)⟩
  | _ =>
    refine ⟨vs, h1, h2, h3, .inr ⟨rfl, ?_⟩⟩
    cases h <;> first
      | (simp [Value.cells] at h1; apply List.toArray_inj; simpa using h1.symm)
      | simp [AV.solid] at hs

theorem setL_ne {α : Type} : ∀ {xs : List α} (_ : xs ≠ []) (off : Nat) (ys : List α), setL xs off ys ≠ [] := by
  intro xs h off ys e
  have h0 : (setL xs off ys).length = xs.length := setL_length ys xs off
  rw [e] at h0
  exact h (List.length_eq_zero_iff.1 h0.symm)

theorem store_full {P : Program} {W0 : World} {L : Lay} {ow : Owns} {s s' : Heap} {w : World} (h : St W0 L ow s w) {t : TypeId} {n : Nat} (hz : szOf P t = some n) {x a : AV} (hr : aStore n s x a = some s') {u v : Value}
    (hx : Rel L x u) (hv : Rel L a v) (ho : OwnAt L ow w .arg a v) : ∃ w', (Instr.storeAt t u v).run P w = .ok () w' ∧ Res W0 L ow w .undef s' undef w' ∧ ∀ id off us, x = .ref id off → v.cells = List.toArray us → w' = w.setCells (L.loc id) off us := by
  unfold aStore at hr
  split at hr
  · rename_i id off
    split at hr
    · rename_i hsol
      split at hr
      · rename_i cs hcs
        split at hr
        · rename_i hle
          cases hr
          obtain ⟨us, hu1, hu2, hu3, hu4⟩ := stCells_rel hv hsol.1
          have hul : us.length = n := by
            have e1 : (stCells a).length = a.cells.length := by cases a <;> simp [stCells, AV.cells]
            rw [← hu2.length, e1, hsol.2]
          have hne : cs.2 ≠ [] := by cases hx with | ref _ _ hid => exact h.at hid hcs
          have O := h.obj id cs hcs hne
          obtain ⟨vs, ⟨fz, hh⟩, hrel, h1, h2⟩ := O.cells
          have hlen := hrel.length
          cases hx with
          | ref _ _ hid =>
            have hlt : L.loc id < w.heap.size := h.used _ (by rw [O.own]; simp)
            have hst := run_storeCells_cells (P := P) (L.loc id) off us 0 w (fun j hj => by
                have : off + j < vs.length := by omega
                simp [World.cell?, hh, this]) (fun j hj => O.melt _) (fun q hq => by rw [oneC_eq]; exact hu3 q hq)
            simp only [Nat.add_zero] at hst
            refine ⟨w.setCells (L.loc id) off us, ?_, ⟨L, argTo ow (.cell id off), ?_, ?_, .undef _, trivial⟩, fun id' off' us' e1 e2 => by cases e1; rw [hu1] at e2; rw [List.toArray_inj e2]⟩
            · have hsz : v.cells.size = n := by rw [hu1]; simpa using hul
              simp [Instr.storeAt, Instr.sureAddr, storeVar, run_szOf hz, hsz]
              rw [hu1]
              simpa using hst
            · refine ⟨.refl L, fun b hb => ⟨by simp [argTo, hb], fun _ => rfl, ?_⟩, setCells_same _ _ _ _⟩
              exact setCells_heap_other (by intro e; rw [e, O.own] at hb; cases hb) _ _ _
            · have hother : ∀ b, b ≠ L.loc id → (w.setCells (L.loc id) off us).heap[b]? = w.heap[b]? := fun b hb => setCells_heap_other hb _ _ _
              have hx' : Ext L ow w L (argTo ow (.cell id off)) (w.setCells (L.loc id) off us) := ⟨.refl L, fun b hb => ⟨by simp [argTo, hb], fun _ => rfl, hother b (by intro e; rw [e, O.own] at hb; cases hb)⟩, setCells_same _ _ _ _⟩
              refine ⟨fun i => by rw [h.live, has_set (has_of hcs hne) (setL_ne hne _ _)], fun b o x hS => ?_, fun id' ds hds hds' => ?_, fun b hb => ?_, fun b hb => ?_, h.below_ext hx'⟩
              · rw [cell?_of_heap (hother b (by intro e; rw [e, O.S] at hS; cases hS))]
                exact h.imm b o x hS
              · by_cases e' : id' = id
                · subst e'
                  have hidlt : id' < s.length := (List.getElem?_eq_some_iff.1 hcs).1
                  rw [List.getElem?_set_self hidlt] at hds
                  cases hds
                  refine ⟨by simp [argTo, O.own], O.S, ⟨setL vs off us, ⟨fz, setCells_heap_same us off w vs hh⟩, hu2.setL off hrel, fun q hq => (setL_mem us vs off q hq).elim (h1 q) (hu3 q), ?_⟩, fun o => by rw [World.frozen?_setCells]; exact O.melt o⟩
                  intro k b q hb hq
                  have hsl : (stCells a).length = us.length := hu2.length
                  by_cases hk : k < off ∨ off + us.length ≤ k
                  · rw [setL_out _ _ _ _ (by rw [hsl]; exact hk)] at hb
                    rw [setL_out _ _ _ _ hk] at hq
                    exact (h2 k b q hb hq).move fun c hc => ⟨by simp [argTo, hc], fun _ => rfl, hother c (by intro e; rw [e, O.own] at hc; cases hc)⟩
                  · obtain ⟨j, hj⟩ : ∃ j, k = off + j := ⟨k - off, by omega⟩
                    subst hj
                    rw [setL_in _ _ _ _ (by rw [hsl]; omega) (by rw [hsl]; omega)] at hb
                    rw [setL_in _ _ _ _ (by omega) (by omega)] at hq
                    rcases hu4 with hu4 | ⟨e1, e2⟩
                    · exact .of_not (hu4 b (List.mem_of_getElem? hb))
                    · rw [e1] at hb; rw [e2] at hq
                      have hj0 : j = 0 := by have := (List.getElem?_eq_some_iff.1 hb).1; simp at this; omega
                      subst hj0
                      simp at hb hq
                      subst hb; subst hq
                      exact ho.move fun c hc => ⟨by simp [argTo, hc], fun _ => rfl, hother c (by intro e; rw [e, O.own] at hc; cases hc)⟩
                · rw [List.getElem?_set_ne (fun e => e' e.symm)] at hds
                  have hidlt : L.live id' = true := by rw [h.live]; exact has_of hds hds'
                  refine (h.obj id' ds hds hds').move (.refl L) hidlt (fun b hb => ⟨?_, fun _ => rfl, hother b ?_⟩)
                  · rcases hb with hb | ⟨k, hb⟩ <;> simp [argTo, hb]
                  · intro e; rw [e, O.own] at hb
                    rcases hb with hb | ⟨k, hb⟩
                    · injection hb with hb; exact e' hb.symm
                    · cases hb
              · rw [setCells_heap_size]
                refine h.used b (fun e => hb ?_)
                simp [argTo, e]
              · simp [argTo, h.base b hb]
        · cases hr
      · cases hr
    · cases hr
  · cases hr


theorem store_ok {P : Program} {W0 : World} {L : Lay} {ow : Owns} {s s' : Heap} {w : World} (h : St W0 L ow s w) {t : TypeId} {n : Nat} (hz : szOf P t = some n) {x a : AV} (hr : aStore n s x a = some s') {u v : Value}
    (hx : Rel L x u) (hv : Rel L a v) (ho : OwnAt L ow w .arg a v) : ∃ w', (Instr.storeAt t u v).run P w = .ok () w' ∧ Res W0 L ow w .undef s' undef w' := by
  obtain ⟨w', h1, h2, _⟩ := store_full h hz hr hx hv ho
  exact ⟨w', h1, h2⟩

end Go.Abs
