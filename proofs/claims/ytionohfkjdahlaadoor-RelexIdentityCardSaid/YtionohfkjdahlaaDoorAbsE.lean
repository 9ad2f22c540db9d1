/- More operations that only compute. -/
import Derived.Test.YtionohfkjdahlaaDoorAbsD
namespace Go.Abs
open Go

def aUn (op : UnOp) (x : AV) : Option AV :=
  match op, x with
  | .neg, .int k n => some (.int k (k.wrap (0 - n)))
  | .not, .bool b => some (.bool !b)
  | _, _ => none

theorem aUn_ok {P : Program} {op : UnOp} {x r : AV} (h : aUn op x = some r) {L : Lay} {v : Value} (hx : Rel L x v) (w : World) :
    ∃ z, (Op.unary op v).run P w = .ok z w ∧ Rel L r z ∧ r.isOwn = false := by
  unfold aUn at h
  split at h
  · cases h; cases hx; exact ⟨_, rfl, .int _ _, rfl⟩
  · cases h; cases hx; exact ⟨_, rfl, .bool _, rfl⟩
  · cases h

def aConv (P : Program) (src dst : TypeId) (x : AV) : Option AV :=
  match P.underlying src with
  | none => none
  | some _ => match P.underlying dst, x with
    | some (.int k), .int _ n => some (.int k (k.wrap n))
    | some .string, .str s => some (.str s)
    | _, _ => none

theorem aConv_ok {P : Program} {src dst : TypeId} {x r : AV} (h : aConv P src dst x = some r) {L : Lay} {v : Value} (hx : Rel L x v) (w : World) :
    ∃ z, (convert src dst v).run P w = .ok z w ∧ Rel L r z ∧ r.isOwn = false := by
  unfold aConv at h
  split at h
  · cases h
  · rename_i d hs
    split at h
    · rename_i k _ n hu; cases h; cases hx
      exact ⟨.int k (k.wrap n), by simp [convert, run_under hs, run_under hu, Conv.intToInt], .int _ _, rfl⟩
    · rename_i s hu; cases h; cases hx
      exact ⟨.string ⟨s.toArray⟩, by simp [convert, run_under hs, run_under hu], .str _, rfl⟩
    · cases h

/-- A bound of a slice expression: an int between 0 and hi. -/
def aBound (hi : Nat) : AV → Option Nat
  | .int _ n => if 0 ≤ n ∧ n ≤ (hi : Int) then some n.toNat else none
  | _ => none

theorem sliceBound_ok {P : Program} {y n : Nat} {x : AV} (h : aBound y x = some n) {L : Lay} {v : Value} (hx : Rel L x v) (c : BoundsCode) (w : World) :
    (Instr.sliceBound v y c).run P w = .ok n w ∧ n ≤ y := by
  unfold aBound at h
  split at h
  · rename_i k m
    split at h
    · rename_i hb
      cases h; cases hx
      exact ⟨by simp [Instr.sliceBound, asIntOf, hb], by omega⟩
    · cases h
  · cases h

/-- 's[l:h]' of a string -/
def aSubstr (s : List UInt8) (lo hi : Option AV) : Option AV :=
  match lo, hi with
  | none, none => some (.str s)
  | none, some h => match aBound s.length h with
    | some h => some (.str (s.take h))
    | none => none
  | some l, none => match aBound s.length l with
    | some l => some (.str (s.drop l))
    | none => none
  | some l, some h => match aBound s.length h with
    | some h => match aBound h l with
      | some l => some (.str ((s.take h).drop l))
      | none => none
    | none => none

inductive RelO (L : Lay) : Option AV → Option Value → Prop
  | none : RelO L .none .none
  | some (a : AV) (v : Value) (h : Rel L a v) : RelO L (.some a) (.some v)

theorem extract_mk (s : List UInt8) (l h : Nat) : (ByteArray.mk s.toArray).extract l h = ByteArray.mk ((s.take h).drop l).toArray := by
  apply ByteArray.ext
  apply Array.toList_inj.1
  simp [ByteArray.data_extract, List.drop_take]

theorem extract_mk_end (s : List UInt8) (l : Nat) : (ByteArray.mk s.toArray).extract l s.length = ByteArray.mk (s.drop l).toArray := by
  rw [extract_mk, List.take_length]

theorem substr_ok {P : Program} {t : TypeId} (hu : P.underlying t = some .string) {s : List UInt8} {lo hi : Option AV} {r : AV} (h : aSubstr s lo hi = some r) {L : Lay} {l u : Option Value} (hl : RelO L lo l) (hh : RelO L hi u) (w : World) :
    ∃ z, (Instr.sliceAt t (.string ⟨s.toArray⟩) l u none).run P w = .ok z w ∧ Rel L r z ∧ r.isOwn = false := by
  unfold aSubstr at h
  cases hl with
  | none =>
    cases hh with
    | none =>
      cases h
      refine ⟨_, ?_, .str _, rfl⟩
      simp [Instr.sliceAt, run_under hu, Instr.slice, Instr.sliceBounds]
    | some a v hv =>
      simp only at h
      split at h
      · rename_i n hb
        cases h
        obtain ⟨k1, k2⟩ := sliceBound_ok (P := P) hb hv .sliceAlen w
        refine ⟨_, ?_, .str _, rfl⟩
        simp [Instr.sliceAt, run_under hu, Instr.slice, Instr.sliceBounds, size_mk, k1, extract_mk]
      · cases h
  | some a v hv =>
    cases hh with
    | none =>
      simp only at h
      split at h
      · rename_i n hb
        cases h
        obtain ⟨k1, k2⟩ := sliceBound_ok (P := P) hb hv .sliceB w
        refine ⟨_, ?_, .str _, rfl⟩
        simp [Instr.sliceAt, run_under hu, Instr.slice, Instr.sliceBounds, size_mk, k1, extract_mk_end]
      · cases h
    | some b u hu' =>
      simp only at h
      split at h
      · rename_i n hb
        split at h
        · rename_i m hm
          cases h
          obtain ⟨k1, k2⟩ := sliceBound_ok (P := P) hb hu' .sliceAlen w
          obtain ⟨m1, m2⟩ := sliceBound_ok (P := P) hm hv .sliceB w
          refine ⟨_, ?_, .str _, rfl⟩
          simp [Instr.sliceAt, run_under hu, Instr.slice, Instr.sliceBounds, size_mk, k1, m1, extract_mk]
        · cases h
      · cases h

/-- 'xs[l:h]' of a slice that is read by its elements. (With a third index: see aSlice3.) -/
def aSlice (ty : TypeId) (z : Nat) (xs : List AV) (lo hi : Option AV) : Option AV :=
  match lo, hi with
  | none, none => some (.sl ty z xs .sh)
  | none, some h => match aBound xs.length h with
    | some h => some (.sl ty z (xs.take h) .sh)
    | none => none
  | some l, none => match aBound xs.length l with
    | some l => some (.sl ty z (xs.drop l) .sh)
    | none => none
  | some l, some h => match aBound xs.length h with
    | some h => match aBound h l with
      | some l => some (.sl ty z ((xs.take h).drop l) .sh)
      | none => none
    | none => none

theorem cellsOf_append (xs ys : List AV) : cellsOf (xs ++ ys) = cellsOf xs ++ cellsOf ys := by simp [cellsOf]
theorem cellsOf_length {z : Nat} : ∀ {xs : List AV}, (∀ x ∈ xs, x.cells.length = z) → (cellsOf xs).length = xs.length * z
  | [], _ => by simp [cellsOf]
  | x :: xs, h => by
    have ih := cellsOf_length (xs := xs) (fun y hy => h y (by simp [hy]))
    have : cellsOf (x :: xs) = x.cells ++ cellsOf xs := rfl
    rw [this, List.length_append, ih, h x (by simp), List.length_cons, Nat.succ_mul, Nat.add_comm]

theorem RelC.take_elems {L : Lay} {b o : Nat} (n : Nat) {xs : List AV} (h : RelC L b o (cellsOf xs)) : RelC L b o (cellsOf (xs.take n)) := by
  have : cellsOf xs = cellsOf (xs.take n) ++ cellsOf (xs.drop n) := by rw [← cellsOf_append, List.take_append_drop]
  rw [this] at h
  exact h.left
theorem RelC.drop_elems {L : Lay} {b o z : Nat} (n : Nat) {xs : List AV} (hz : ∀ x ∈ xs, x.cells.length = z) (hn : n ≤ xs.length) (h : RelC L b o (cellsOf xs)) : RelC L b (o + n * z) (cellsOf (xs.drop n)) := by
  have : cellsOf xs = cellsOf (xs.take n) ++ cellsOf (xs.drop n) := by rw [← cellsOf_append, List.take_append_drop]
  rw [this] at h
  have := h.right
  rwa [cellsOf_length (z := z) (fun x hx => hz x (List.mem_of_mem_take hx)), List.length_take, Nat.min_eq_left hn] at this

/-- A slice of a slice: at its own address, or further on. -/
theorem rel_slice {L : Lay} {b o z : Nat} {ty : TypeId} {xs : List AV} {_f : Flag} {cap : Nat} (h : Rel L (.sl ty z xs _f) (.slice (some ⟨b, o, none⟩) xs.length cap)) (l k : Nat) (hl : l ≤ k) (hk : k ≤ xs.length) :
    Rel L (.sl ty z ((xs.take k).drop l) .sh) (.slice (if cap = l then some ⟨b, o, none⟩ else some (Addr.add ⟨b, o, none⟩ (l * z))) (k - l) (cap - l)) := by
  cases h with
  | sl _ _ _ _ _ _ _ hc hz hcap =>
    have hlen : ((xs.take k).drop l).length = k - l := by simp [List.length_take, Nat.min_eq_left hk]
    rw [show (.slice (if cap = l then some ⟨b, o, none⟩ else some (Addr.add ⟨b, o, none⟩ (l * z))) (k - l) (cap - l) : Value) =
      .slice (if cap = l then some ⟨b, o, none⟩ else some (Addr.add ⟨b, o, none⟩ (l * z))) ((xs.take k).drop l).length (cap - l) by rw [hlen]]
    split
    · rename_i e
      have e2 : k = l := by omega
      refine .sl b o ty z _ .sh _ ?_ (fun x hx => hz x (List.mem_of_mem_take (List.mem_of_mem_drop hx))) ⟨by rw [hlen]; omega, nofun⟩
      rw [show (xs.take k).drop l = [] by apply List.drop_eq_nil_of_le; simp; omega]
      exact .nil _ _
    · rename_i e
      have : Addr.add ⟨b, o, none⟩ (l * z) = ⟨b, o + l * z, none⟩ := by unfold Addr.add; split <;> simp_all
      rw [this]
      refine .sl b (o + l * z) ty z _ .sh _ ?_ (fun x hx => hz x (List.mem_of_mem_take (List.mem_of_mem_drop hx))) ⟨by rw [hlen]; omega, nofun⟩
      exact RelC.drop_elems l (fun x hx => hz x (List.mem_of_mem_take hx)) (by simp; omega) (hc.take_elems k)

theorem slice_ok {P : Program} {t e : TypeId} {z : Nat} (hu : P.underlying t = some (.slice e)) (hz : szOf P e = some z) {xs : List AV} {_f : Flag} {lo hi : Option AV} {r : AV} {ty : TypeId} (h : aSlice ty z xs lo hi = some r)
    {L : Lay} {v : Value} (hx : Rel L (.sl ty z xs _f) v) {l u : Option Value} (hl : RelO L lo l) (hh : RelO L hi u) (w : World) :
    ∃ y, (Instr.sliceAt t v l u none).run P w = .ok y w ∧ Rel L r y ∧ r.isOwn = false := by
  have hx0 := hx
  cases hx with
  | sl b o _ _ _ _ cap hc hzz hcap =>
    have hcap := hcap.1
    have red : ∀ (l' k : Nat) (hlk : l' ≤ k) (hk : k ≤ xs.length), Rel L (.sl ty z ((xs.take k).drop l') .sh) (.slice (if cap = l' then some ⟨b, o, none⟩ else some (Addr.add ⟨b, o, none⟩ (l' * z))) (k - l') (cap - l')) :=
      fun l' k h1 h2 => rel_slice hx0 l' k h1 h2
    unfold aSlice at h
    cases hl with
    | none =>
      cases hh with
      | none =>
        cases h
        refine ⟨.slice (some ⟨b, o, none⟩) xs.length cap, ?_, ?_, rfl⟩
        · simp [Instr.sliceAt, run_under hu, Instr.slice, Instr.sliceBounds, run_szOf hz, Addr.add]
        · exact .sl b o ty z xs .sh cap hc hzz ⟨hcap, nofun⟩
      | some a v hv =>
        simp only at h
        split at h
        · rename_i n hb
          cases h
          have hb' : aBound cap a = some n := by
            unfold aBound at hb ⊢; split at hb
            · split at hb
              · rw [if_pos (by omega)]; exact hb
              · cases hb
            · cases hb
          obtain ⟨_, k2⟩ := sliceBound_ok (P := P) hb hv .sliceAcap w
          obtain ⟨k1, _⟩ := sliceBound_ok (P := P) hb' hv .sliceAcap w
          have := red 0 n (Nat.zero_le _) k2
          simp only [List.drop_zero] at this
          refine ⟨_, ?_, this, rfl⟩
          simp [Instr.sliceAt, run_under hu, Instr.slice, Instr.sliceBounds, run_szOf hz, k1, Addr.add]
        · cases h
    | some a v hv =>
      cases hh with
      | none =>
        simp only at h
        split at h
        · rename_i n hb
          cases h
          obtain ⟨k1, k2⟩ := sliceBound_ok (P := P) hb hv .sliceB w
          have := red n xs.length k2 (Nat.le_refl _)
          simp only [List.take_length] at this
          refine ⟨_, ?_, this, rfl⟩
          simp [Instr.sliceAt, run_under hu, Instr.slice, Instr.sliceBounds, run_szOf hz, k1]
        · cases h
      | some c u hu' =>
        simp only at h
        split at h
        · rename_i n hb
          split at h
          · rename_i m hm
            cases h
            have hb' : aBound cap c = some n := by
              unfold aBound at hb ⊢; split at hb
              · split at hb
                · rw [if_pos (by omega)]; exact hb
                · cases hb
              · cases hb
            obtain ⟨_, k2⟩ := sliceBound_ok (P := P) hb hu' .sliceAcap w
            obtain ⟨k1, _⟩ := sliceBound_ok (P := P) hb' hu' .sliceAcap w
            obtain ⟨m1, m2⟩ := sliceBound_ok (P := P) hm hv .sliceB w
            refine ⟨_, ?_, red m n m2 k2, rfl⟩
            simp [Instr.sliceAt, run_under hu, Instr.slice, Instr.sliceBounds, run_szOf hz, k1, m1]
          · cases h
        · cases h

/-- a slice expression; of the third index only ':0:0' is known -/
def aSl (P : Program) (t : TypeId) (x : AV) (lo hi mx : Option AV) : Option AV :=
  match P.underlying t, x, mx with
  | some .string, .str s, none => aSubstr s lo hi
  | some (.slice e), .sl ty z xs _, none => if szOf P e = some z then aSlice ty z xs lo hi else none
  | some (.slice e), .sl ty z _ _, some (.int _ 0) => match lo, hi with
    | none, some (.int _ 0) => if szOf P e = some z then some (.sl ty z [] .full) else none
    | _, _ => none
  | some (.slice _), .nils, none => match lo, hi with
    | none, none => some .nils
    | none, some (.int _ 0) => some .nils
    | some (.int _ 0), none => some .nils
    | _, _ => none
  | some (.slice _), .nils, some (.int _ 0) => match lo, hi with
    | none, some (.int _ 0) => some .nils
    | _, _ => none
  | _, _, _ => none

theorem aSl_ok {P : Program} {t : TypeId} {x : AV} {lo hi mx : Option AV} {r : AV} (h : aSl P t x lo hi mx = some r) (hsz : ∀ e, P.underlying t = some (.slice e) → ∃ n, szOf P e = some n)
    {L : Lay} {v : Value} (hx : Rel L x v) {l u m : Option Value} (hl : RelO L lo l) (hh : RelO L hi u) (hm : RelO L mx m) (w : World) :
    ∃ y, (Instr.sliceAt t v l u m).run P w = .ok y w ∧ Rel L r y ∧ NoOwn r y := by
  unfold aSl at h
  split at h
  · rename_i hu; cases hm; cases hx; obtain ⟨y, h1, h2, h3⟩ := substr_ok hu h hl hh w; exact ⟨y, h1, h2, .of_not h3⟩
  · rename_i hu
    split at h
    · rename_i hz; cases hm; obtain ⟨y, h1, h2, h3⟩ := slice_ok hu hz h hx hl hh w; exact ⟨y, h1, h2, .of_not h3⟩
    · cases h
  · rename_i hu
    split at h
    · split at h
      · rename_i hz
        cases h
        cases hm with
        | some _ _ hm => cases hm; cases hl; cases hh with
          | some _ _ hh =>
            cases hh; cases hx with
            | sl b o _ _ _ _ cap hc hzz hcap =>
              refine ⟨.slice (some ⟨b, o, none⟩) 0 0, ?_, .sl b o _ _ [] .full 0 (.nil _ _) (by simp) (by simp), .of_not rfl⟩
              simp [Instr.sliceAt, run_under hu, Instr.slice, Instr.sliceBounds, Instr.sliceBound, asIntOf, run_szOf hz]
      · cases h
    · cases h
  · rename_i hu
    obtain ⟨n, hn⟩ := hsz _ hu
    cases hm; cases hx
    split at h
    · cases h; cases hl; cases hh
      exact ⟨.slice none 0 0, by simp [Instr.sliceAt, run_under hu, Instr.slice, Instr.sliceBounds, run_szOf hn], .nils, .of_not rfl⟩
    · cases h; cases hl; cases hh with
      | some _ _ hh => cases hh; exact ⟨.slice none 0 0, by simp [Instr.sliceAt, run_under hu, Instr.slice, Instr.sliceBounds, Instr.sliceBound, asIntOf, run_szOf hn], .nils, .of_not rfl⟩
    · cases h; cases hh; cases hl with
      | some _ _ hh => cases hh; exact ⟨.slice none 0 0, by simp [Instr.sliceAt, run_under hu, Instr.slice, Instr.sliceBounds, Instr.sliceBound, asIntOf, run_szOf hn], .nils, .of_not rfl⟩
    · cases h
  · rename_i hu
    obtain ⟨n, hn⟩ := hsz _ hu
    cases hx
    split at h
    · cases h; cases hl; cases hm with
      | some _ _ hm => cases hm; cases hh with
        | some _ _ hh => cases hh; exact ⟨.slice none 0 0, by simp [Instr.sliceAt, run_under hu, Instr.slice, Instr.sliceBounds, Instr.sliceBound, asIntOf, run_szOf hn], .nils, .of_not rfl⟩
    · cases h
  · cases h

/-- 's[i]' of a string -/
def aIndex (P : Program) (t : TypeId) (x i : AV) : Option AV :=
  match P.underlying t, x, i with
  | some .string, .str s, .int _ n => if 0 ≤ n then (match s[n.toNat]? with | some b => some (.int .u8 b.toNat) | none => none) else none
  | _, _, _ => none

theorem aIndex_ok {P : Program} {t : TypeId} {x i r : AV} (h : aIndex P t x i = some r) {L : Lay} {v u : Value} (hx : Rel L x v) (hi : Rel L i u) (w : World) :
    ∃ z, (Instr.index t v u).run P w = .ok z w ∧ Rel L r z ∧ r.isOwn = false := by
  unfold aIndex at h
  split at h
  · rename_i s k n hu
    split at h
    · rename_i hn
      split at h
      · rename_i b hb
        cases h; cases hx; cases hi
        refine ⟨.int .u8 b.toNat, ?_, .int _ _, rfl⟩
        have hlt : n.toNat < s.length := (List.getElem?_eq_some_iff.1 hb).1
        have hb' : (⟨s.toArray⟩ : ByteArray)[n.toNat]? = some b := by
          rw [getElem?_pos _ _ (by rw [size_mk]; exact hlt)]
          rw [List.getElem?_eq_getElem hlt] at hb
          cases hb
          rfl
        simp [Instr.index, asIntOf, run_under hu, hn, hb']
      · cases h
    · cases h
  · cases h

/-- '&xs[i]' -/
def aIndexAddr (P : Program) (t : TypeId) (x i : AV) : Option AV :=
  match P.underlying t, x, i with
  | some (.slice e), .sl _ z xs _, .int _ n => if szOf P e = some z then (if 0 ≤ n then (match xs[n.toNat]? with | some a => some (.box a.cells 0) | none => none) else none) else none
  | _, _, _ => none

theorem aIndexAddr_ok {P : Program} {t : TypeId} {x i r : AV} (h : aIndexAddr P t x i = some r) {L : Lay} {v u : Value} (hx : Rel L x v) (hi : Rel L i u) (w : World) :
    ∃ y, (Instr.indexAt t v u).run P w = .ok y w ∧ Rel L r y ∧ r.isOwn = false := by
  unfold aIndexAddr at h
  split at h
  · rename_i e _ z xs f k n hu
    split at h
    · rename_i hz
      split at h
      · rename_i hn
        split at h
        · rename_i a ha
          cases h; cases hi
          cases hx with
          | sl b o _ _ _ _ cap hc hzz hcap =>
            have hlt : n.toNat < xs.length := (List.getElem?_eq_some_iff.1 ha).1
            have hadd : Addr.add ⟨b, o, none⟩ (n.toNat * z) = ⟨b, o + n.toNat * z + 0, none⟩ := by unfold Addr.add; split <;> simp_all
            refine ⟨.pointer (some ⟨b, o + n.toNat * z + 0, none⟩), ?_, ?_, rfl⟩
            · have hin : n < (xs.length : Int) := by omega
              simp [Instr.indexAt, asIntOf, run_under hu, hn, hin, run_szOf hz, hadd]
            · refine .box b (o + n.toNat * z) a.cells 0 ?_
              have h1 := RelC.drop_elems n.toNat hzz (by omega) hc
              rw [List.drop_eq_getElem_cons hlt] at h1
              rw [List.getElem?_eq_getElem hlt] at ha
              cases ha
              exact RelC.left _ (bs := cellsOf (xs.drop (n.toNat + 1))) h1
        · cases h
      · cases h
    · cases h
  · cases h

/-- len -/
def aLen (P : Program) (t : TypeId) (x : AV) : Option AV :=
  match P.underlying t, x with
  | some .string, .str s => some (.int .i64 s.length)
  | some (.slice _), .sl _ _ xs _ => some (.int .i64 xs.length)
  | some (.slice _), .nils => some (.int .i64 0)
  | some (.map _ _), .nilm => some (.int .i64 0)
  | _, _ => none

theorem aLen_ok {P : Program} {t ty : TypeId} {x r : AV} (h : aLen P t x = some r) {L : Lay} {v : Value} (hx : Rel L x v) (ts : Array TypeId) (hts : ts[0]? = some t) (w : World) :
    ∃ y, (Builtin.len_ ts ty #[v]).run P w = .ok y w ∧ Rel L r y ∧ r.isOwn = false := by
  unfold aLen at h
  split at h
  · rename_i s hu; cases h; cases hx; exact ⟨.int .i64 s.length, by simp [Builtin.len_, hts, run_under hu, goInt, size_mk], .int _ _, rfl⟩
  · rename_i xs _ hu; cases h; cases hx; exact ⟨.int .i64 xs.length, by simp [Builtin.len_, hts, run_under hu, goInt], .int _ _, rfl⟩
  · rename_i hu; cases h; cases hx; exact ⟨.int .i64 0, by simp [Builtin.len_, hts, run_under hu, goInt], .int _ _, rfl⟩
  · rename_i hu; cases h; cases hx; exact ⟨.int .i64 0, by simp [Builtin.len_, hts, run_under hu, goInt], .int _ _, rfl⟩
  · cases h

/-- min, max of two ints -/
def aMin : AV → AV → Option AV
  | .int k x, .int _ y => some (.int k (if y < x then y else x))
  | _, _ => none
def aMax : AV → AV → Option AV
  | .int k x, .int _ y => some (.int k (if y > x then y else x))
  | _, _ => none
theorem aMin_ok {P : Program} {x y r : AV} (h : aMin x y = some r) {L : Lay} {u v : Value} (hx : Rel L x u) (hy : Rel L y v) (ts : Array TypeId) (t : TypeId) (w : World) :
    ∃ z, (Builtin.min_ ts t #[u, v]).run P w = .ok z w ∧ Rel L r z ∧ r.isOwn = false := by
  unfold aMin at h
  split at h
  · cases h; cases hx; cases hy; exact ⟨.int _ _, by simp [Builtin.min_, Builtin.min2], .int _ _, rfl⟩
  · cases h
theorem aMax_ok {P : Program} {x y r : AV} (h : aMax x y = some r) {L : Lay} {u v : Value} (hx : Rel L x u) (hy : Rel L y v) (ts : Array TypeId) (t : TypeId) (w : World) :
    ∃ z, (Builtin.max_ ts t #[u, v]).run P w = .ok z w ∧ Rel L r z ∧ r.isOwn = false := by
  unfold aMax at h
  split at h
  · cases h; cases hx; cases hy; exact ⟨.int _ _, by simp [Builtin.max_, Builtin.max2], .int _ _, rfl⟩
  · cases h

theorem aPick_ok {c a b r : AV} (h : aPick c a b = some r) {L : Lay} {u v x : Value} (hc : Rel L c u) (ha : Rel L a v) (hb : Rel L b x) {P : Program} (w : World) :
    ∃ z, ((do pure (if ← asBool u then v else x)) : Sem Value).run P w = .ok z w ∧ Rel L r z ∧ r.isOwn = false := by
  unfold aPick at h
  split at h
  · cases h; cases hc; exact ⟨v, by simp [asBool], ha.strip, strip_isOwn _⟩
  · cases h; cases hc; exact ⟨x, by simp [asBool], hb.strip, strip_isOwn _⟩
  · cases h

end Go.Abs
