/- The operations on abstract values, and that Go's own do the same. First those that leave the world alone. -/
import Derived.Test.YtionohfkjdahlaaDoorAbsB
import Derived.Laws.Sem
import Derived.Laws.World
import Derived.Laws.Cells
namespace Go.Abs
open Go

section types
variable {P : Program} {w : World} {t : TypeId}

def szOf (P : Program) (t : TypeId) : Option Nat := (P.info? t).map (·.size)
def isAggT (P : Program) (t : TypeId) : Option Bool := (P.underlying t).map fun | .struct _ | .array _ _ => true | _ => false

theorem run_under {d : TypeDesc} (h : P.underlying t = some d) : (underlying t).run P w = .ok d w := by simp [underlying, h]
theorem run_tyInfo {i : TypeInfo} (h : P.info? t = some i) : (typeInfo t).run P w = .ok i w := by simp [typeInfo, h]
theorem run_szOf {n : Nat} (h : szOf P t = some n) : (sizeOf t).run P w = .ok n w := by
  unfold szOf at h
  cases hi : P.info? t with
  | none => simp [hi] at h
  | some i => simp [hi] at h; simp [sizeOf, typeInfo, hi, h]
theorem run_isAggT {b : Bool} (h : isAggT P t = some b) : (isAgg t).run P w = .ok b w := by
  unfold isAggT at h
  cases hu : P.underlying t with
  | none => simp [hu] at h
  | some d => simp [hu] at h; subst h; cases d <;> simp [isAgg, underlying, hu]
theorem run_zero {z : Value} (h : (P.info? t).bind (·.zero) = some z) : (zeroValue t).run P w = .ok z w := by
  cases hi : P.info? t with
  | none => simp [hi] at h
  | some i => simp [hi] at h; simp [zeroValue, typeInfo, hi, h]
end types

/-- A constant's abstract value. -/
def ofCell : Value → AV
  | .bool b => .bool b
  | .int k n => .int k n
  | .string s => .str s.data.toList
  | .pointer none => .nilp
  | .slice none 0 0 => .nils
  | .map none => .nilm
  | .nilFunc => .nilf
  | .nilIface => .nili
  | _ => .undef
def ofConst : Value → AV
  | .agg cs => if cs.toList.all oneC then .agg (cs.toList.map ofCell) else .undef
  | v => ofCell v

theorem rel_ofCell (L : Lay) (v : Value) : Rel L (ofCell v) v := by
  unfold ofCell
  split <;> constructor
theorem relL_ofCell (L : Lay) : ∀ vs : List Value, RelL L (vs.map ofCell) vs
  | [] => .nil
  | v :: vs => .cons _ _ _ _ (rel_ofCell L v) (relL_ofCell L vs)
theorem rel_ofConst (L : Lay) (v : Value) : Rel L (ofConst v) v := by
  cases v with
  | agg cs =>
    simp only [ofConst]
    split
    · rename_i h
      exact Rel.agg _ cs.toList (relL_ofCell L _) (fun v hv => List.all_eq_true.1 h v hv)
    · exact .undef _
  | _ => simp only [ofConst]; exact rel_ofCell L _
theorem ofCell_isOwn (v : Value) : (ofCell v).isOwn = false := by
  unfold ofCell; split <;> rfl
theorem ofConst_isOwn (v : Value) : (ofConst v).isOwn = false := by
  cases v with
  | agg cs => simp only [ofConst]; split <;> rfl
  | _ => simp only [ofConst]; exact ofCell_isOwn _

/-- What a silent operation owes: it leaves the world alone, and gives what the abstract one gives. -/
def Sil (P : Program) (L : Lay) (r : AV) (m : World → Sem Value) : Prop := ∀ w : World, ∃ v, (m w).run P w = .ok v w ∧ Rel L r v

/-- pick -/
def aPick : AV → AV → AV → Option AV
  | .bool true, a, _ => some a.strip
  | .bool false, _, b => some b.strip
  | _, _, _ => none

def aNilCheck : AV → Option AV
  | .box cs o => some (.box cs o)
  | .ref i o => some (.ref i o)
  | .fn f a b => some (.fn f a b)
  | _ => none

def aAddr (k : Nat) : AV → Option AV
  | .box cs o => some (.box cs (o + k))
  | .ref i o => some (.ref i (o + k))
  | _ => none

/-- The place of a field: its offset, if it has cells. -/
def fieldOff (P : Program) (t : TypeId) (f : Nat) : Option Nat :=
  match P.underlying t with
  | some (.struct fs) => match fs[f]? with
    | some x => match szOf P x.type with
      | some 0 => none
      | some _ => some x.offset
      | none => none
    | none => none
  | _ => none

theorem fieldAddr_ok {P : Program} {t : TypeId} {f k : Nat} (hk : fieldOff P t f = some k) {x r : AV} (hr : aAddr k x = some r) {L : Lay} {v : Value} (h : Rel L x v) (w : World) :
    ∃ u, (Instr.fieldAt t v f).run P w = .ok u w ∧ Rel L r u ∧ r.isOwn = false := by
  unfold fieldOff at hk
  split at hk
  · rename_i fs hu
    split at hk
    · rename_i g hg
      split at hk
      · cases hk
      · rename_i n hne hz
        cases hk
        have main : ∀ a : Addr, v = .pointer (some a) → (Instr.fieldAt t v f).run P w = .ok (.pointer (some (a.add g.offset))) w := by
          intro a e
          subst e
          have hn0 : ¬ n = 0 := hne
          simp [Instr.fieldAt, run_under hu, hg, Instr.sureAddr, fieldPlace, run_szOf hz, hn0]
        cases h with
        | box b o cs off hc =>
          simp only [aAddr, Option.some.injEq] at hr
          subst hr
          refine ⟨_, main _ rfl, ?_, rfl⟩
          have : (⟨b, o + off, none⟩ : Addr).add g.offset = ⟨b, o + (off + g.offset), none⟩ := by
            unfold Addr.add; split
            · rename_i e; simp [e]
            · simp [Nat.add_assoc]
          rw [this]
          exact .box b o cs _ hc
        | ref id off hi =>
          simp only [aAddr, Option.some.injEq] at hr
          subst hr
          refine ⟨_, main _ rfl, ?_, rfl⟩
          have : (⟨L.loc id, off, none⟩ : Addr).add g.offset = ⟨L.loc id, off + g.offset, none⟩ := by
            unfold Addr.add; split
            · rename_i e; simp [e]
            · rfl
          rw [this]
          exact .ref id _ hi
        | _ => simp [aAddr] at hr
      · cases hk
    · cases hk
  · cases hk

theorem nilCheck_ok {P : Program} {x r : AV} (hr : aNilCheck x = some r) {L : Lay} {o : Oper} {y : Operand} {σ : Operand → Value} (ho : o.op = .nilCheck y) (h : Rel L x (σ y)) (w : World) :
    ∃ u, (execOp σ o).run P w = .ok (.value u) w ∧ Rel L r u ∧ r.isOwn = false := by
  unfold execOp
  rw [ho]
  simp only
  generalize σ y = v at h
  cases h <;> simp only [aNilCheck, Option.some.injEq, reduceCtorEq] at hr <;> subst hr
  · exact ⟨_, rfl, .box _ _ _ _ ‹_›, rfl⟩
  · exact ⟨_, rfl, .ref _ _ ‹_›, rfl⟩
  · exact ⟨_, rfl, .fn _ _ _ _ _ ‹_› ‹_›, rfl⟩

/-- Cells of a row that no longer changes, loaded. -/
theorem loadCells_box {P : Program} {L : Lay} {w : World} (himm : ∀ b o v, L.S b o = some v → w.cell? ⟨b, o, none⟩ = some v) {b o n : Nat} {cs : List AV} (h : RelC L b o cs) (hn : n ≤ cs.length) :
    ∃ vs : List Value, (loadCells ⟨b, o, none⟩ n).run P w = .ok vs.toArray w ∧ RelL L (cs.take n) vs ∧ (∀ v ∈ vs, oneC v = true) := by
  obtain ⟨vs, h1, h2, h3⟩ := (RelC.left (cs.take n) (by rw [List.take_append_drop]; exact h) : RelC L b o (cs.take n)).vals
  have hl := h1.length
  have hn' : vs.length = n := by rw [← hl, List.length_take]; omega
  refine ⟨vs, ?_, h1, h2⟩
  have := run_loadCells_list (P := P) (w := w) ⟨b, o, none⟩ vs (fun j v hj => by
    have := himm b (o + j) v (h3 j v hj)
    rw [← this]; congr 1
    unfold Addr.add; split <;> simp_all)
  rw [hn'] at this
  exact this

/-- load, through a pointer to cells that no longer change -/
def aLoadC (agg : Bool) (n : Nat) (cs : List AV) (off : Nat) : Option AV :=
  if agg then (if off + n ≤ cs.length then some (.agg ((cs.drop off).take n)) else none)
  else match cs[off]? with
    | some v => some v.strip
    | none => none

theorem RelL.strip {L : Lay} : ∀ {as : List AV} {vs : List Value}, RelL L as vs → RelL L (as.map AV.strip) vs
  | _, _, .nil => .nil
  | _, _, .cons a v as vs h t => .cons _ _ _ _ h.strip t.strip

theorem aLoadC_isOwn {agg : Bool} {n : Nat} {cs : List AV} {off : Nat} {r : AV} (h : aLoadC agg n cs off = some r) : r.isOwn = false := by
  unfold aLoadC at h
  split at h
  · split at h
    · cases h; rfl
    · cases h
  · split at h
    · cases h; exact strip_isOwn _
    · cases h

theorem loadBox_ok {P : Program} {t : TypeId} {agg : Bool} {n : Nat} (ha : isAggT P t = some agg) (hz : szOf P t = some n) {cs : List AV} {off : Nat} {r : AV} (hr : aLoadC agg n cs off = some r)
    {L : Lay} {v : Value} (h : Rel L (.box cs off) v) {w : World} (himm : ∀ b o v, L.S b o = some v → w.cell? ⟨b, o, none⟩ = some v) :
    ∃ u, (Instr.loadAt t v).run P w = .ok u w ∧ Rel L r u := by
  cases h with
  | box b o _ _ hc =>
    unfold aLoadC at hr
    cases agg with
    | true =>
      simp only [if_true] at hr
      split at hr
      · rename_i hle
        cases hr
        have hc' : RelC L b (o + off) (cs.drop off) := by
          have := RelC.right (cs.take off) (by rw [List.take_append_drop]; exact hc)
          rwa [List.length_take, Nat.min_eq_left (by omega)] at this
        obtain ⟨vs, h1, h2, h3⟩ := loadCells_box (P := P) himm hc' (n := n) (by rw [List.length_drop]; omega)
        exact ⟨.agg vs.toArray, by simp [Instr.loadAt, Instr.sureAddr, loadVar, run_isAggT ha, run_szOf hz, h1], .agg _ _ h2 h3⟩
      · cases hr
    | false =>
      simp only [Bool.false_eq_true, if_false] at hr
      split at hr
      · rename_i x hx
        cases hr
        obtain ⟨u, hu, _, hru⟩ := hc.get off x hx
        refine ⟨u, ?_, hru.strip⟩
        have := himm _ _ _ hu
        simp [Instr.loadAt, Instr.sureAddr, loadVar, run_isAggT ha, this]
      · cases hr

/-- field of a struct that is a value -/
def aField (P : Program) (t : TypeId) (f : Nat) : AV → Option AV
  | .agg cs => match P.underlying t with
    | some (.struct fs) => match fs[f]? with
      | some x => match isAggT P x.type, szOf P x.type with
        | some agg, some n => if x.offset + n ≤ cs.length then aLoadC agg n cs x.offset else none
        | _, _ => none
      | none => none
    | _ => none
  | _ => none

theorem part_ok {P : Program} {t : TypeId} {agg : Bool} {n : Nat} (ha : isAggT P t = some agg) (hz : szOf P t = some n) {cs : List AV} {off : Nat} {r : AV} (hr : aLoadC agg n cs off = some r)
    {L : Lay} {vs : List Value} (h : RelL L cs vs) (h1 : ∀ v ∈ vs, oneC v = true) (w : World) : ∃ u, (part t vs.toArray off).run P w = .ok u w ∧ Rel L r u := by
  unfold aLoadC at hr
  have hl := h.length
  cases agg with
  | true =>
    simp only [if_true] at hr
    split at hr
    · rename_i hle
      cases hr
      refine ⟨.agg ((vs.drop off).take n).toArray, ?_, .agg _ _ ((h.drop off).take n) (fun v hv => h1 v (List.mem_of_mem_drop (List.mem_of_mem_take hv)))⟩
      simp only [part, Sem.run_bind, run_isAggT ha, Result.andThen_ok, if_true, run_szOf hz, Sem.run_pure]
      congr 2
      apply Array.toList_inj.1
      simp [List.extract_eq_take_drop]
    · cases hr
  | false =>
    simp only [Bool.false_eq_true, if_false] at hr
    split at hr
    · rename_i x hx
      cases hr
      obtain ⟨u, hu, hru⟩ := h.get off x hx
      exact ⟨u, by simp [part, run_isAggT ha, hu], hru.strip⟩
    · cases hr

theorem field_ok {P : Program} {t : TypeId} {f : Nat} {x r : AV} (hr : aField P t f x = some r) {L : Lay} {v : Value} (h : Rel L x v) (w : World) :
    ∃ u, (Instr.field t v f).run P w = .ok u w ∧ Rel L r u ∧ r.isOwn = false := by
  cases h with
  | agg cs vs hc hv =>
    simp only [aField] at hr
    split at hr
    · rename_i fs hu
      split at hr
      · rename_i g hg
        split at hr
        · rename_i agg n ha hz
          split at hr
          · obtain ⟨u, hu1, hu2⟩ := part_ok ha hz hr hc hv w
            exact ⟨u, by simp [Instr.field, run_under hu, hg, asAgg, hu1], hu2, aLoadC_isOwn hr⟩
          · cases hr
        · cases hr
      · cases hr
    · cases hr
  | _ => simp [aField] at hr

/-- extract -/
def aExtract (i : Nat) : AV → Option AV
  | .tup vs => (vs[i]?).map AV.strip
  | _ => none
theorem extract_ok {P : Program} {i : Nat} {x r : AV} (hr : aExtract i x = some r) {L : Lay} {v : Value} (h : Rel L x v) (w : World) :
    ∃ u, (Instr.extract v i).run P w = .ok u w ∧ Rel L r u ∧ r.isOwn = false := by
  cases h with
  | tup cs vs hc =>
    simp only [aExtract, Option.map_eq_some_iff] at hr
    obtain ⟨y, hy, rfl⟩ := hr
    obtain ⟨u, hu, hru⟩ := hc.get i y hy
    exact ⟨u, by simp [Instr.extract, hu], hru.strip, strip_isOwn _⟩
  | _ => simp [aExtract] at hr

end Go.Abs
