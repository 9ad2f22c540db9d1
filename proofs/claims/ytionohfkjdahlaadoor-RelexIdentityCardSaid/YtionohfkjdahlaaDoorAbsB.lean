/- The state of a call: its variables, who owns which block, what only grows; one step of a call. -/
import Derived.Test.YtionohfkjdahlaaDoorAbsA
namespace Go.Abs
open Go

/-- Who may write to a block (or to the room at its end). -/
inductive Place where
  | free
  | obj (id : Nat)
  | cell (id k : Nat)
  | slot (t : Nat)
  | arg
  | ret
  | frame
  deriving DecidableEq

def Place.excl : Place → Bool
  | .obj _ | .cell _ _ => true
  | _ => false

/-- The call's own variables: of each its type, its cells. -/
abbrev Heap := List (TypeId × List AV)
abbrev Env := Nat → AV
abbrev Owns := Nat → Place

/-- The room behind the elements (if there is any) is the owner's. -/
def OwnAt (L : Lay) (ow : Owns) (w : World) (p : Place) : AV → Value → Prop
  | .sl ty z xs .own, .slice (some ad) _ cap => ow ad.block = p ∧ (∃ c fz, w.heap[ad.block]? = some (.cells c ty fz) ∧ ad.off = 0 ∧ cap * z ≤ c.size) ∧
      ∀ o, xs.length * z ≤ o → w.frozen? ⟨ad.block, o, none⟩ = false ∧ L.S ad.block o = none
  | _, _ => True

def NoOwn (r : AV) (v : Value) : Prop := ∀ (L : Lay) (ow : Owns) (w : World) (p : Place), OwnAt L ow w p r v

theorem OwnAt.of_not {L : Lay} {ow : Owns} {w : World} {p : Place} {a : AV} {v : Value} (h : a.isOwn = false) : OwnAt L ow w p a v := by
  cases a with
  | sl ty z xs f => cases f <;> first | trivial | simp [AV.isOwn] at h
  | _ => trivial
theorem NoOwn.of_not {a : AV} {v : Value} (h : a.isOwn = false) : NoOwn a v := fun _ _ _ _ => .of_not h

theorem OwnAt.move {L L' : Lay} {ow ow' : Owns} {w w' : World} {p p' : Place} {a : AV} {v : Value} (h : OwnAt L ow w p a v)
    (hk : ∀ b, ow b = p → ow' b = p' ∧ (∀ o, L'.S b o = L.S b o) ∧ w'.heap[b]? = w.heap[b]?) : OwnAt L' ow' w' p' a v := by
  cases a with
  | sl ty z xs f =>
    cases f with
    | own =>
      cases v with
      | slice ad len cap =>
        cases ad with
        | none => trivial
        | some ad =>
          obtain ⟨h1, ⟨c, fz, h2, h3⟩, h4⟩ := h
          obtain ⟨k1, k2, k3⟩ := hk _ h1
          refine ⟨k1, ⟨c, fz, k3.trans h2, h3⟩, fun o ho => ?_⟩
          obtain ⟨m1, m2⟩ := h4 o ho
          refine ⟨?_, by rw [k2]; exact m2⟩
          rw [← m1]; simp only [World.frozen?, k3]
      | _ => trivial
    | _ => trivial
  | _ => trivial

theorem cell?_of_heap {w w' : World} {b : Nat} (h : w'.heap[b]? = w.heap[b]?) (o : Nat) : w'.cell? ⟨b, o, none⟩ = w.cell? ⟨b, o, none⟩ := by
  simp only [World.cell?, h]

theorem frozen?_of_heap {w w' : World} {b : Nat} (h : w'.heap[b]? = w.heap[b]?) (o : Nat) : w'.frozen? ⟨b, o, none⟩ = w.frozen? ⟨b, o, none⟩ := by
  simp only [World.frozen?, h]

/-- The streams, the tape: as they were. -/
structure Same (w w' : World) : Prop where
  os : w'.os = w.os
  tape : w'.tape = w.tape
  output : w'.output = w.output
  size : w.heap.size ≤ w'.heap.size

theorem Same.refl (w : World) : Same w w := ⟨rfl, rfl, rfl, Nat.le_refl _⟩
theorem Same.trans {a b c : World} (h : Same a b) (k : Same b c) : Same a c := ⟨k.os.trans h.os, k.tape.trans h.tape, k.output.trans h.output, Nat.le_trans h.size k.size⟩

/-- What a step of a call leaves as it was: what is known only grows; what others own is as it was. -/
structure Ext (L : Lay) (ow : Owns) (w : World) (L' : Lay) (ow' : Owns) (w' : World) : Prop where
  le : L.le L'
  fr : ∀ b, ow b = .frame → ow' b = .frame ∧ (∀ o, L'.S b o = L.S b o) ∧ w'.heap[b]? = w.heap[b]?
  same : Same w w'

theorem Ext.refl (L : Lay) (ow : Owns) (w : World) : Ext L ow w L ow w := ⟨.refl L, fun _ h => ⟨h, fun _ => rfl, rfl⟩, .refl w⟩
theorem Ext.trans {L L' L'' : Lay} {ow ow' ow'' : Owns} {w w' w'' : World} (h : Ext L ow w L' ow' w') (k : Ext L' ow' w' L'' ow'' w'') : Ext L ow w L'' ow'' w'' := by
  refine ⟨h.le.trans k.le, fun b hb => ?_, h.same.trans k.same⟩
  obtain ⟨h1, h2, h3⟩ := h.fr b hb
  obtain ⟨k1, k2, k3⟩ := k.fr b h1
  exact ⟨k1, fun o => (k2 o).trans (h2 o), k3.trans h3⟩

/-- One of the call's own variables. -/
structure ObjAt (L : Lay) (ow : Owns) (w : World) (id : Nat) (cs : TypeId × List AV) : Prop where
  own : ow (L.loc id) = .obj id
  S : ∀ o, L.S (L.loc id) o = none
  cells : ∃ vs : List Value, (∃ fz, w.heap[L.loc id]? = some (.cells vs.toArray cs.1 fz)) ∧ RelL L cs.2 vs ∧ (∀ v ∈ vs, oneC v = true) ∧
    ∀ k a v, cs.2[k]? = some a → vs[k]? = some v → OwnAt L ow w (.cell id k) a v
  melt : ∀ o, w.frozen? ⟨L.loc id, o, none⟩ = false

/-- An entry with no cells keeps a place for a variable that is still to come. -/
def has (s : Heap) (id : Nat) : Bool := match s[id]? with | some cs => !cs.2.isEmpty | none => false
theorem has_of {s : Heap} {id : Nat} {cs : TypeId × List AV} (h : s[id]? = some cs) (hc : cs.2 ≠ []) : has s id = true := by
  simp only [has, h]; cases hh : cs.2 with
  | nil => exact absurd hh hc
  | cons a l => rfl
theorem has_inv {s : Heap} {id : Nat} (h : has s id = true) : ∃ cs, s[id]? = some cs ∧ cs.2 ≠ [] := by
  unfold has at h
  split at h
  · rename_i cs hcs; exact ⟨cs, hcs, by intro e; rw [e] at h; cases h⟩
  · cases h
theorem has_set {s : Heap} {id : Nat} {cs : TypeId × List AV} (h : has s id = true) (hc : cs.2 ≠ []) (i : Nat) : has (s.set id cs) i = has s i := by
  by_cases e : id = i
  · subst e
    obtain ⟨cs', h', _⟩ := has_inv h
    rw [h]
    exact has_of (List.getElem?_set_self (List.getElem?_eq_some_iff.1 h').1) hc
  · simp only [has, List.getElem?_set_ne e]

structure St (W0 : World) (L : Lay) (ow : Owns) (s : Heap) (w : World) : Prop where
  live : ∀ id, L.live id = has s id
  imm : ∀ b o v, L.S b o = some v → w.cell? ⟨b, o, none⟩ = some v
  obj : ∀ id cs, s[id]? = some cs → cs.2 ≠ [] → ObjAt L ow w id cs
  used : ∀ b, ow b ≠ .free → b < w.heap.size
  base : ∀ b, b < W0.heap.size → ow b = .frame
  below : RowKit.Below W0.heap.size W0 w

theorem St.below_ext {W0 : World} {L L' : Lay} {ow ow' : Owns} {s : Heap} {w w' : World} (h : St W0 L ow s w) (x : Ext L ow w L' ow' w') : RowKit.Below W0.heap.size W0 w' :=
  h.below.trans ⟨x.same.os, x.same.tape, x.same.output, x.same.size, fun k hk => (x.fr k (h.base k hk)).2.2⟩

theorem St.at {W0 : World} {L : Lay} {ow : Owns} {s : Heap} {w : World} (h : St W0 L ow s w) {id : Nat} {cs : TypeId × List AV} (hid : L.live id = true) (e : s[id]? = some cs) : cs.2 ≠ [] := by
  rw [h.live] at hid
  obtain ⟨cs', h1, h2⟩ := has_inv hid
  rw [e] at h1; cases h1; exact h2

/-- The variables that are not touched. -/
theorem ObjAt.move {L L' : Lay} {ow ow' : Owns} {w w' : World} {id : Nat} {cs : TypeId × List AV} (h : ObjAt L ow w id cs) (hL : L.le L') (hid : L.live id = true)
    (hk : ∀ b, (ow b = .obj id ∨ ∃ k, ow b = .cell id k) → ow' b = ow b ∧ (∀ o, L'.S b o = L.S b o) ∧ w'.heap[b]? = w.heap[b]?) : ObjAt L' ow' w' id cs := by
  have hl := hL.loc id hid
  obtain ⟨k1, k2, k3⟩ := hk (L.loc id) (.inl h.own)
  obtain ⟨vs, ⟨fz, h1⟩, h2, h3, h4⟩ := h.cells
  refine ⟨by rw [hl, k1, h.own], fun o => by rw [hl, k2, h.S], ⟨vs, ⟨fz, by rw [hl, k3, h1]⟩, h2.mono hL, h3, fun k a v ha hv => ?_⟩, fun o => by rw [hl, frozen?_of_heap k3, h.melt]⟩
  exact (h4 k a v ha hv).move fun b hb => by
    obtain ⟨m1, m2, m3⟩ := hk b (.inr ⟨k, hb⟩)
    exact ⟨m1.trans hb, m2, m3⟩

theorem St.move {W0 : World} {L L' : Lay} {ow ow' : Owns} {s : Heap} {w w' : World} (h : St W0 L ow s w) (hL : L.le L') (hn : L'.live = L.live)
    (hk : ∀ b, (ow b).excl = true → ow' b = ow b ∧ (∀ o, L'.S b o = L.S b o) ∧ w'.heap[b]? = w.heap[b]?)
    (himm : ∀ b o v, L'.S b o = some v → w'.cell? ⟨b, o, none⟩ = some v) (hused : ∀ b, ow' b ≠ .free → b < w'.heap.size)
    (hbase : ∀ b, b < W0.heap.size → ow' b = .frame) (hbelow : RowKit.Below W0.heap.size W0 w') : St W0 L' ow' s w' :=
  ⟨fun id => by rw [hn, h.live], himm, fun id cs e hc => (h.obj id cs e hc).move hL (by rw [h.live]; exact has_of e hc) (fun b hb => hk b (by rcases hb with hb | ⟨k, hb⟩ <;> rw [hb] <;> rfl)), hused, hbase, hbelow⟩

/-- A call in the midst of its work: its slots, its variables. -/
structure Fr (W0 : World) (N : Nat) (L : Lay) (ow : Owns) (env : Env) (s : Heap) (a : Act) (w : World) : Prop where
  size : a.tmps.size = N
  rel : ∀ t, Rel L (env t) (a.tmps.getD t undef)
  own : ∀ t, OwnAt L ow w (.slot t) (env t) (a.tmps.getD t undef)
  st : St W0 L ow s w
  defers : a.defers = []

def upd (env : Env) (d : Nat) (v : AV) : Env := fun t => if t = d then v else env t
def setE (env : Env) (dst : Option Nat) (r : AV) : Env := match dst with | some d => upd env d r | none => env
def stripE (env : Env) (tk : Option Nat) : Env := match tk with | some t => upd env t (env t).strip | none => env

def frameOw (ow : Owns) (tk : Option Nat) : Owns := fun b => match ow b with
  | .slot t => if tk = some t then .arg else .frame
  | .arg | .ret => .free
  | p => p

def postOw (dst : Option Nat) : Place → Place
  | .ret => (match dst with | some d => .slot d | none => .free)
  | .arg | .slot _ => .free
  | p => p

def backOw (ow ow' : Owns) (tk dst : Option Nat) : Owns := fun b => match ow b with
  | .slot t => if tk = some t then postOw dst (ow' b) else .slot t
  | _ => postOw dst (ow' b)

theorem St.framed {W0 : World} {L : Lay} {ow : Owns} {s : Heap} {w : World} (h : St W0 L ow s w) (tk : Option Nat) : St W0 L (frameOw ow tk) s w :=
  h.move (.refl L) rfl (fun b hb => ⟨by unfold frameOw; revert hb; cases ow b <;> simp [Place.excl], fun _ => rfl, rfl⟩) h.imm
    (fun b hb => h.used b (by unfold frameOw at hb; intro e; rw [e] at hb; exact hb rfl))
    (fun b hb => by unfold frameOw; rw [h.base b hb]) h.below

theorem Fr.step {W0 : World} {N : Nat} {L L' : Lay} {ow ow' : Owns} {env : Env} {s s' : Heap} {a : Act} {w w' : World} (h : Fr W0 N L ow env s a w)
    (tk dst : Option Nat) (hd : ∀ d, dst = some d → d < N) {r : AV} {v : Value} (hx : Ext L (frameOw ow tk) w L' ow' w') (hs : St W0 L' ow' s' w') (hr : Rel L' r v)
    (ho : OwnAt L' ow' w' .ret r v) :
    Fr W0 N L' (backOw ow ow' tk dst) (setE (stripE env tk) dst r) s' (a.put dst v) w' ∧ Ext L ow w L' (backOw ow ow' tk dst) w' := by
  have key : ∀ b t, ow b = .slot t → tk ≠ some t → ow' b = .frame := fun b t e hne => (hx.fr b (by simp [frameOw, e, hne])).1
  have hstrip : ∀ t, Rel L' (stripE env tk t) (a.tmps.getD t undef) := by
    intro t
    have := (h.rel t).mono hx.le
    unfold stripE
    cases tk with
    | none => exact this
    | some u =>
      simp only [upd]
      split
      · rename_i e; subst e; exact this.strip
      · exact this
  have hslot : ∀ t, OwnAt L' (backOw ow ow' tk dst) w' (.slot t) (stripE env tk t) (a.tmps.getD t undef) := by
    intro t
    by_cases e : tk = some t
    · subst e
      refine OwnAt.of_not ?_
      simp [stripE, upd, strip_isOwn]
    · have : stripE env tk t = env t := by
        unfold stripE; cases tk with
        | none => rfl
        | some u => simp only [upd]; split
                    · rename_i h'; exact absurd (by rw [h']) e
                    · rfl
      rw [this]
      refine (h.own t).move fun b hb => ?_
      obtain ⟨k1, k2, k3⟩ := hx.fr b (by simp [frameOw, hb, e])
      exact ⟨by simp [backOw, hb, e], k2, k3⟩
  have hst : St W0 L' (backOw ow ow' tk dst) s' w' := by
    refine hs.move (.refl L') rfl (fun b hb => ⟨?_, fun _ => rfl, rfl⟩) hs.imm (fun b hb => ?_) (fun b hb => ?_) hs.below
    · unfold backOw
      split
      · rename_i t e
        split
        · revert hb; cases ow' b <;> simp [Place.excl, postOw]
        · rename_i hne; rw [key b t e hne] at hb; simp [Place.excl] at hb
      · revert hb; cases ow' b <;> simp [Place.excl, postOw]
    · refine Classical.byContradiction fun hc => ?_
      have hf : ow' b = .free := Classical.byContradiction fun h' => hc (hs.used b h')
      unfold backOw at hb
      split at hb
      · rename_i t e
        split at hb
        · rw [hf] at hb; exact hb rfl
        · rename_i hne; rw [key b t e hne] at hf; cases hf
      · rw [hf] at hb; exact hb rfl
    · have hf : ow b = .frame := h.st.base b hb
      have : ow' b = .frame := (hx.fr b (by simp [frameOw, hf])).1
      simp [backOw, hf, this, postOw]
  refine ⟨⟨?_, ?_, ?_, hst, ?_⟩, ⟨hx.le, fun b hb => ?_, hx.same⟩⟩
  · cases dst <;> simp [Act.put, h.size]
  · intro t
    cases dst with
    | none => simpa [setE, Act.put] using hstrip t
    | some d =>
      have hdN := hd d rfl
      simp only [setE, upd, Act.put]
      split
      · rename_i e; subst e
        rw [Array.getD_eq_getD_getElem?, Array.getElem?_setIfInBounds_self]
        simp [h.size, hdN, hr]
      · rename_i e
        rw [Array.getD_eq_getD_getElem?, Array.getElem?_setIfInBounds_ne (fun h' => e h'.symm), ← Array.getD_eq_getD_getElem?]
        exact hstrip t
  · intro t
    cases dst with
    | none => simpa [setE, Act.put] using hslot t
    | some d =>
      have hdN := hd d rfl
      simp only [setE, upd, Act.put]
      split
      · rename_i e; subst e
        rw [Array.getD_eq_getD_getElem?, Array.getElem?_setIfInBounds_self]
        simp only [h.size, hdN, if_true, Option.getD_some]
        refine ho.move fun b hb => ⟨?_, fun _ => rfl, rfl⟩
        unfold backOw
        split
        · rename_i u e
          split
          · simp [hb, postOw]
          · rename_i hne; rw [key b u e hne] at hb; cases hb
        · simp [hb, postOw]
      · rename_i e
        rw [Array.getD_eq_getD_getElem?, Array.getElem?_setIfInBounds_ne (fun h' => e h'.symm), ← Array.getD_eq_getD_getElem?]
        exact hslot t
  · cases dst <;> simp [Act.put, h.defers]
  · obtain ⟨k1, k2, k3⟩ := hx.fr b (by simp [frameOw, hb])
    exact ⟨by simp [backOw, hb, k1, postOw], k2, k3⟩

end Go.Abs
