/- Operations that make or change memory. -/
import Derived.Test.YtionohfkjdahlaaDoorAbsE
import Derived.Laws.Build
import Derived.Laws.IdiomCopy
namespace Go.Abs
open Go

/-- What an operation leaves: a value that stands for r, in a world in which the variables are s'. -/
def Res (W0 : World) (L : Lay) (ow : Owns) (w : World) (r : AV) (s' : Heap) (v : Value) (w' : World) : Prop :=
  ∃ L' ow', Ext L ow w L' ow' w' ∧ St W0 L' ow' s' w' ∧ Rel L' r v ∧ OwnAt L' ow' w' .ret r v

theorem Res.same {W0 : World} {L : Lay} {ow : Owns} {s : Heap} {w : World} (h : St W0 L ow s w) {r : AV} {v : Value} (hr : Rel L r v) (hn : NoOwn r v) : Res W0 L ow w r s v w :=
  ⟨L, ow, .refl _ _ _, h, hr, hn _ _ _ _⟩

section alloc
variable {W0 : World} {L : Lay} {ow : Owns} {s : Heap} {w : World}

theorem imm_lt (h : St W0 L ow s w) {b o : Nat} {v : Value} (e : L.S b o = some v) : b < w.heap.size :=
  World.block_lt_of_cell? w (a := ⟨b, o, none⟩) (h.imm b o v e)

/-- A new block: of its cells the first k no longer change; it is p's. -/
def Lay.new (L : Lay) (size k : Nat) (vs : List Value) : Lay := { L with S := fun b o => if b = size then (if o < k then vs[o]? else none) else L.S b o }
def newOw (ow : Owns) (size : Nat) (p : Place) : Owns := fun b => if b = size then p else ow b

theorem new_le (h : St W0 L ow s w) (k : Nat) (vs : List Value) : L.le (L.new w.heap.size k vs) :=
  ⟨fun b o v e => by simp only [Lay.new]; rw [if_neg (by have := imm_lt h e; omega)]; exact e, fun _ h => h, fun _ _ => rfl⟩

theorem alloc_old (w : World) (o : Obj) {b : Nat} (h : b < w.heap.size) : (w.alloc o).heap[b]? = w.heap[b]? := RowKit.Below.heap_alloc w o b h
theorem alloc_new (w : World) (o : Obj) : (w.alloc o).heap[w.heap.size]? = some o := by
  show (w.heap.push o)[w.heap.size]? = _
  simp

theorem new_ext (h : St W0 L ow s w) (k : Nat) (vs : List Value) (e : TypeId) (p : Place) :
    Ext L ow w (L.new w.heap.size k vs) (newOw ow w.heap.size p) (w.alloc (.cells vs.toArray e)) := by
  refine ⟨new_le h k vs, fun b hb => ?_, ⟨rfl, rfl, rfl, by simp⟩⟩
  have hlt := h.used b (by rw [hb]; simp)
  refine ⟨?_, fun o => ?_, alloc_old _ _ hlt⟩
  · simp only [newOw]; rw [if_neg (by omega)]; exact hb
  · simp only [Lay.new]; rw [if_neg (by omega)]

theorem new_st (h : St W0 L ow s w) (k : Nat) (vs : List Value) (e : TypeId) (p : Place) :
    St W0 (L.new w.heap.size k vs) (newOw ow w.heap.size p) s (w.alloc (.cells vs.toArray e)) := by
  have hx := new_ext h k vs e p
  refine h.move (new_le h k vs) rfl (fun b hb => ?_) (fun b o v hS => ?_) (fun b hb => ?_) (fun b hb => ?_) (h.below_ext hx)
  · have hlt := h.used b (by intro e; rw [e] at hb; cases hb)
    refine ⟨?_, fun o => ?_, alloc_old _ _ hlt⟩
    · simp only [newOw]; rw [if_neg (by omega)]
    · simp only [Lay.new]; rw [if_neg (by omega)]
  · simp only [Lay.new] at hS
    split at hS
    · rename_i eb
      subst eb
      split at hS
      · simp only [World.cell?, alloc_new]
        simpa using hS
      · cases hS
    · have hlt := imm_lt h hS
      rw [cell?_of_heap (alloc_old w _ hlt)]
      exact h.imm b o v hS
  · simp only [newOw] at hb
    split at hb
    · rename_i eb; subst eb; simp
    · have := h.used b hb; simp; omega
  · simp only [newOw]
    have := h.base b hb
    have hlt := h.used b (by rw [this]; simp)
    rw [if_neg (by omega)]; exact this

theorem new_melt (w : World) (c : Array Value) (e : TypeId) (o : Nat) : (w.alloc (.cells c e)).frozen? ⟨w.heap.size, o, none⟩ = false := by
  simp only [World.frozen?, alloc_new]; simp

theorem new_relC (h : St W0 L ow s w) {k : Nat} {vs : List Value} {cs : List AV} (hr : RelL L cs (vs.take k)) (h1 : ∀ v ∈ vs.take k, oneC v = true) :
    RelC (L.new w.heap.size k vs) w.heap.size 0 cs :=
  RelC.of (hr.mono (new_le h k vs)) h1 (by
    intro i v hi
    simp only [Lay.new, if_true, Nat.zero_add]
    have hlt : i < k := by have := (List.getElem?_eq_some_iff.1 hi).1; simp at this; omega
    rw [if_pos hlt]
    rwa [List.getElem?_take_of_lt hlt] at hi)

/-- A new variable of the call's own. -/
def Lay.push (L : Lay) (id size : Nat) : Lay := { S := L.S, live := fun i => if i = id then true else L.live i, loc := fun i => if i = id then size else L.loc i }

/-- An entry of one's own choice. -/
def putAt (s : Heap) (id : Nat) (x : TypeId × List AV) : Heap := if id < s.length then s.set id x else s ++ List.replicate (id - s.length) (0, []) ++ [x]
theorem putAt_end (s : Heap) (x : TypeId × List AV) : putAt s s.length x = s ++ [x] := by simp [putAt]
theorem putAt_get (s : Heap) (id : Nat) (x : TypeId × List AV) (k : Nat) : (putAt s id x)[k]? = if k = id then some x else if k < s.length then s[k]? else if k < id then some (0, []) else none := by
  unfold putAt
  split
  · rename_i h
    by_cases e : k = id
    · subst e; rw [if_pos rfl, List.getElem?_set_self h]
    · rw [if_neg e, List.getElem?_set_ne (fun h => e h.symm)]
      split
      · rfl
      · rw [List.getElem?_eq_none (by omega), if_neg (by omega)]
  · rename_i h
    by_cases h1 : k < s.length
    · rw [if_neg (by omega), if_pos h1, List.append_assoc, List.getElem?_append_left h1]
    · by_cases h2 : k < id
      · rw [if_neg (by omega), if_neg h1, if_pos h2, List.getElem?_append_left (by simp; omega), List.getElem?_append_right (by omega), List.getElem?_replicate, if_pos (by omega)]
      · by_cases e : k = id
        · subst e
          have hl : (s ++ List.replicate (k - s.length) ((0, []) : TypeId × List AV)).length = k := by simp; omega
          rw [if_pos rfl, List.getElem?_append_right (by omega), hl, Nat.sub_self]
          rfl
        · rw [if_neg e, if_neg h1, if_neg h2, List.getElem?_eq_none]
          simp; omega
theorem putAt_has {s : Heap} {id : Nat} {x : TypeId × List AV} (hx : x.2 ≠ []) (k : Nat) : has (putAt s id x) k = if k = id then true else has s k := by
  by_cases e : k = id
  · rw [if_pos e]; exact has_of (by rw [putAt_get, if_pos e]) hx
  · rw [if_neg e]
    simp only [has, putAt_get, if_neg e]
    by_cases h1 : k < s.length
    · rw [if_pos h1]
    · rw [if_neg h1, List.getElem?_eq_none (l := s) (by omega)]
      by_cases h2 : k < id
      · rw [if_pos h2]; rfl
      · rw [if_neg h2]

theorem push_le {L : Lay} {id : Nat} (hid : L.live id = false) (size : Nat) : L.le (L.push id size) := by
  refine ⟨fun _ _ _ e => e, fun i hi => ?_, fun i hi => ?_⟩
  · simp only [Lay.push]; split
    · rfl
    · exact hi
  · simp only [Lay.push]; rw [if_neg]; intro e; rw [e, hid] at hi; cases hi

theorem push_ext (h : St W0 L ow s w) {id : Nat} (hid : has s id = false) (o : Obj) : Ext L ow w (L.push id w.heap.size) (newOw ow w.heap.size (.obj id)) (w.alloc o) := by
  refine ⟨push_le (by rw [h.live, hid]) _, fun b hb => ?_, ⟨rfl, rfl, rfl, by simp⟩⟩
  have hlt := h.used b (by rw [hb]; simp)
  refine ⟨?_, fun o => rfl, alloc_old _ _ hlt⟩
  simp only [newOw]; rw [if_neg (by omega)]; exact hb

theorem push_st (h : St W0 L ow s w) {id : Nat} (hid : has s id = false) {vs : List Value} {cs : List AV} (hr : RelL L cs vs) (h1 : ∀ v ∈ vs, oneC v = true) (hn : ∀ a ∈ cs, a.isOwn = false) (hcs : cs ≠ []) (e : TypeId) :
    St W0 (L.push id w.heap.size) (newOw ow w.heap.size (.obj id)) (putAt s id (e, cs)) (w.alloc (.cells vs.toArray e)) := by
  have hx := push_ext h hid (.cells vs.toArray e)
  have hle := push_le (L := L) (id := id) (by rw [h.live, hid]) w.heap.size
  have hold : ∀ b, (ow b).excl = true → newOw ow w.heap.size (.obj id) b = ow b ∧ (∀ o, (L.push id w.heap.size).S b o = L.S b o) ∧ (w.alloc (.cells vs.toArray e)).heap[b]? = w.heap[b]? := by
    intro b hb
    have hlt := h.used b (by intro e; rw [e] at hb; cases hb)
    refine ⟨?_, fun o => rfl, alloc_old _ _ hlt⟩
    simp only [newOw]; rw [if_neg (by omega)]
  refine ⟨fun i => ?_, fun b o v hS => ?_, fun i ds hds hne => ?_, fun b hb => ?_, fun b hb => ?_, h.below_ext hx⟩
  · rw [putAt_has hcs]; simp only [Lay.push, h.live]
  · rw [cell?_of_heap (alloc_old w _ (imm_lt h hS))]; exact h.imm b o v hS
  · by_cases e' : i = id
    · subst e'
      rw [putAt_get, if_pos rfl] at hds
      cases hds
      have hl : (L.push i w.heap.size).loc i = w.heap.size := by simp [Lay.push]
      refine ⟨by rw [hl]; simp [newOw], fun o => ?_, ⟨vs, ⟨_, by rw [hl, alloc_new]⟩, hr.mono hle, h1, fun k a v ha _ => .of_not (hn a (List.mem_of_getElem? ha))⟩, fun o => by rw [hl, new_melt]⟩
      rw [hl]
      show L.S w.heap.size o = none
      cases hS : L.S w.heap.size o with
      | none => rfl
      | some v => exact absurd (imm_lt h hS) (by omega)
    · have hds' : s[i]? = some ds := by
        rw [putAt_get, if_neg e'] at hds
        split at hds
        · exact hds
        · split at hds
          · cases hds; exact absurd rfl hne
          · cases hds
      exact (h.obj i ds hds' hne).move hle (by rw [h.live]; exact has_of hds' hne) (fun b hb => hold b (by rcases hb with hb | ⟨k, hb⟩ <;> rw [hb] <;> rfl))
  · simp only [newOw] at hb
    split at hb
    · rename_i eb; subst eb; simp
    · have := h.used b hb; simp; omega
  · simp only [newOw]
    have := h.base b hb
    have hlt := h.used b (by rw [this]; simp)
    rw [if_neg (by omega)]; exact this

/-- A draw changes nothing that is seen. -/
theorem drew_ext : Ext L ow w L ow w.drew := ⟨.refl L, fun _ hb => ⟨hb, fun _ => rfl, rfl⟩, ⟨rfl, rfl, rfl, Nat.le_refl _⟩⟩
theorem drew_st (h : St W0 L ow s w) : St W0 L ow s w.drew :=
  h.move (.refl L) rfl (fun _ _ => ⟨rfl, fun _ => rfl, rfl⟩) h.imm h.used h.base (h.below_ext (L' := L) (ow' := ow) drew_ext)
end alloc

theorem strip_cells_isOwn (a : AV) : ∀ x ∈ a.cells.map AV.strip, x.isOwn = false := by
  intro x hx
  obtain ⟨y, _, rfl⟩ := List.mem_map.1 hx
  exact strip_isOwn y

/-- The values that fill cells: not 'undef', not several results. -/
def AV.solid : AV → Bool
  | .undef | .tup _ => false
  | _ => true

/-- A value's cells. -/
theorem rel_cells {L : Lay} {a : AV} {v : Value} (h : Rel L a v) (hs : a.solid = true) : ∃ vs : List Value, v.cells = vs.toArray ∧ RelL L a.cells vs ∧ ∀ u ∈ vs, oneC u = true := by
  cases h with
  | agg cs vs h hv => exact ⟨vs, rfl, h, hv⟩
  | undef v => simp [AV.solid] at hs
  | tup cs vs h => simp [AV.solid] at hs
  | bool b => exact ⟨[.bool b], rfl, .cons _ _ _ _ (.bool b) .nil, by simp [oneC]⟩
  | int k n => exact ⟨[.int k n], rfl, .cons _ _ _ _ (.int k n) .nil, by simp [oneC]⟩
  | str x => exact ⟨[_], rfl, .cons _ _ _ _ (.str x) .nil, by simp [oneC]⟩
  | nilp => exact ⟨[_], rfl, .cons _ _ _ _ .nilp .nil, by simp [oneC]⟩
  | box b o cs off hc => exact ⟨[_], rfl, .cons _ _ _ _ (.box b o cs off hc) .nil, by simp [oneC]⟩
  | ref id off hi => exact ⟨[_], rfl, .cons _ _ _ _ (.ref id off hi) .nil, by simp [oneC]⟩
  | nils => exact ⟨[_], rfl, .cons _ _ _ _ .nils .nil, by simp [oneC]⟩
  | sl b o ty z xs f cap hc hz hcap => exact ⟨[_], rfl, .cons _ _ _ _ (.sl b o ty z xs f cap hc hz hcap) .nil, by simp [oneC]⟩
  | nilm => exact ⟨[_], rfl, .cons _ _ _ _ .nilm .nil, by simp [oneC]⟩
  | nilf => exact ⟨[_], rfl, .cons _ _ _ _ .nilf .nil, by simp [oneC]⟩
  | nili => exact ⟨[_], rfl, .cons _ _ _ _ .nili .nil, by simp [oneC]⟩
  | fn f x y vs ws h h' => exact ⟨[_], rfl, .cons _ _ _ _ (.fn f x y vs ws h h') .nil, by simp [oneC]⟩

/-- '&T{..}' whose cells no longer change -/
theorem boxVal_ok {P : Program} {W0 : World} {L : Lay} {ow : Owns} {s : Heap} {w : World} (h : St W0 L ow s w) {a : AV} {v : Value} (ha : Rel L a v) (hs : a.solid = true) (t : TypeId) :
    ∃ u w', (Instr.box t v).run P w = .ok u w' ∧ Res W0 L ow w (.box a.cells 0) s u w' := by
  obtain ⟨vs, hv, hr, h1⟩ := rel_cells ha hs
  refine ⟨.pointer (some ⟨w.heap.size, 0, none⟩), w.alloc (.cells vs.toArray t), by simp [Instr.box, newVar, newRow, hv], L.new w.heap.size vs.length vs, newOw ow w.heap.size .free,
    new_ext h _ _ _ _, new_st h _ _ _ _, ?_, .of_not rfl⟩
  exact .box w.heap.size 0 _ 0 (new_relC h (by rw [List.take_length]; exact hr) (by rw [List.take_length]; exact h1))

/-- a variable of the call's own -/
theorem boxRef_ok {P : Program} {W0 : World} {L : Lay} {ow : Owns} {s : Heap} {w : World} (h : St W0 L ow s w) {id : Nat} (hid : has s id = false) {a : AV} {v : Value} (ha : Rel L a v) (hs : a.solid = true) (hc : a.cells ≠ []) (t : TypeId) :
    ∃ u w', (Instr.box t v).run P w = .ok u w' ∧ Res W0 L ow w (.ref id 0) (putAt s id (t, a.cells.map AV.strip)) u w' := by
  obtain ⟨vs, hv, hr, h1⟩ := rel_cells ha hs
  refine ⟨.pointer (some ⟨w.heap.size, 0, none⟩), w.alloc (.cells vs.toArray t), by simp [Instr.box, newVar, newRow, hv], L.push id w.heap.size, newOw ow w.heap.size (.obj id),
    push_ext h hid _, push_st h hid hr.strip h1 (strip_cells_isOwn a) (by simpa using hc) t, ?_, .of_not rfl⟩
  have := Rel.ref (L := L.push id w.heap.size) id 0 (by simp [Lay.push])
  rwa [show (L.push id w.heap.size).loc id = w.heap.size by simp [Lay.push]] at this

def zeroOf (P : Program) (t : TypeId) : Option AV := ((P.info? t).bind (·.zero)).map ofConst

theorem alloc_ok {P : Program} {W0 : World} {L : Lay} {ow : Owns} {s : Heap} {w : World} (h : St W0 L ow s w) {id : Nat} (hid : has s id = false) {t : TypeId} {a : AV} (ha : zeroOf P t = some a) (hs : a.solid = true) (hc : a.cells ≠ []) :
    ∃ u w', (Instr.alloc t true (.tuple #[])).run P w = .ok u w' ∧ Res W0 L ow w (.ref id 0) (putAt s id (t, a.cells.map AV.strip)) u w' := by
  unfold zeroOf at ha
  rw [Option.map_eq_some_iff] at ha
  obtain ⟨z, hz, rfl⟩ := ha
  obtain ⟨u, w', h1, h2⟩ := boxRef_ok (P := P) h hid (rel_ofConst L z) hs hc t
  refine ⟨u, w', ?_, h2⟩
  rw [← h1]
  simp [Instr.alloc, run_zero hz, Instr.box]

/-- load, through a pointer to a variable of the call's own -/
def aLoadR (agg : Bool) (n : Nat) (s : Heap) (id off : Nat) : Option AV :=
  match s[id]? with
  | some cs => aLoadC agg n cs.2 off
  | none => none

theorem loadObj_ok {P : Program} {W0 : World} {L : Lay} {ow : Owns} {s : Heap} {w : World} (h : St W0 L ow s w) {t : TypeId} {agg : Bool} {n : Nat} (ha : isAggT P t = some agg) (hz : szOf P t = some n)
    {id off : Nat} {r : AV} (hr : aLoadR agg n s id off = some r) {v : Value} (hv : Rel L (.ref id off) v) : ∃ u, (Instr.loadAt t v).run P w = .ok u w ∧ Rel L r u := by
  unfold aLoadR at hr
  split at hr
  · rename_i cs hcs
    obtain ⟨vs, ⟨fz, hh⟩, hrel, h1, _⟩ := (h.obj id cs hcs (by cases hv with | ref _ _ hid => exact h.at hid hcs)).cells
    have hcell : ∀ i x, vs[i]? = some x → w.cell? ⟨L.loc id, i, none⟩ = some x := by
      intro i x hi
      simp only [World.cell?, hh]
      simpa using hi
    cases hv with
    | ref _ _ hid =>
      unfold aLoadC at hr
      have hl := hrel.length
      cases agg with
      | true =>
        simp only [if_true] at hr
        split at hr
        · rename_i hle
          cases hr
          have hlen : ((vs.drop off).take n).length = n := by rw [List.length_take, List.length_drop]; omega
          have := run_loadCells_list (P := P) (w := w) ⟨L.loc id, off, none⟩ ((vs.drop off).take n) (fun j x hj => by
            have hj' : vs[off + j]? = some x := by
              have hlt : j < n := by have := (List.getElem?_eq_some_iff.1 hj).1; rw [hlen] at this; exact this
              rwa [List.getElem?_take_of_lt hlt, List.getElem?_drop] at hj
            rw [← hcell _ _ hj']
            congr 1
            unfold Addr.add; split <;> simp_all)
          rw [hlen] at this
          refine ⟨.agg ((vs.drop off).take n).toArray, by simp [Instr.loadAt, Instr.sureAddr, loadVar, run_isAggT ha, run_szOf hz, this], .agg _ _ ((hrel.drop off).take n) (fun x hx => h1 x (List.mem_of_mem_drop (List.mem_of_mem_take hx)))⟩
        · cases hr
      | false =>
        simp only [Bool.false_eq_true, if_false] at hr
        split at hr
        · rename_i x hx
          cases hr
          obtain ⟨u, hu, hru⟩ := hrel.get off x hx
          exact ⟨u, by simp [Instr.loadAt, Instr.sureAddr, loadVar, run_isAggT ha, hcell _ _ hu], hru.strip⟩
        · cases hr
  · cases hr

end Go.Abs
