/- Literals of structs and slices. -/
import Derived.Test.YtionohfkjdahlaaDoorAbsH
namespace Go.Abs
open Go

theorem setL_eq {α : Type} : ∀ (r l : List α) (o : Nat), o + r.length ≤ l.length → setL l o r = l.take o ++ r ++ l.drop (o + r.length)
  | [], l, o, _ => by simp [setL]
  | v :: r, l, o, h => by
    simp only [List.length_cons] at h
    rw [setL, setL_eq r (l.set o v) (o + 1) (by simp; omega)]
    apply List.ext_getElem?
    intro k
    by_cases h1 : k < o
    · rw [List.getElem?_append_left (by simp; omega), List.getElem?_append_left (by simp; omega), List.getElem?_append_left (by simp; omega), List.getElem?_append_left (by simp; omega)]
      rw [List.getElem?_take_of_lt (by omega), List.getElem?_take_of_lt (by omega), List.getElem?_set_ne (by omega)]
    · by_cases h2 : k = o
      · subst h2
        rw [List.getElem?_append_left (by simp; omega), List.getElem?_append_left (by simp; omega), List.getElem?_take_of_lt (by omega), List.getElem?_set_self (by omega)]
        rw [List.getElem?_append_left (by simp; omega), List.getElem?_append_right (by rw [List.length_take]; omega)]
        simp [Nat.min_eq_left (show k ≤ l.length by omega)]
      · by_cases h3 : k < o + 1 + r.length
        · rw [List.getElem?_append_left (by simp; omega), List.getElem?_append_right (by simp; omega)]
          rw [List.getElem?_append_left (by simp; omega), List.getElem?_append_right (by simp; omega)]
          simp only [List.length_take, List.length_set]
          rw [Nat.min_eq_left (show o + 1 ≤ l.length by omega), Nat.min_eq_left (show o ≤ l.length by omega), show k - o = (k - (o + 1)) + 1 by omega, List.getElem?_cons_succ]
        · rw [List.getElem?_append_right (by simp; omega), List.getElem?_append_right (by simp; omega)]
          simp only [List.length_append, List.length_take, List.length_set, List.length_cons, List.getElem?_drop]
          rw [List.getElem?_set_ne (by omega)]
          congr 1
          omega

theorem foldl_set {α : Type} (off : Nat) : ∀ (vs : List α) (k : Nat) (cells : List α), (vs.zipIdx k).foldl (fun cs (x : α × Nat) => cs.setIfInBounds (off + x.2) x.1) cells.toArray = (setL cells (off + k) vs).toArray
  | [], _, _ => rfl
  | v :: vs, k, cells => by
    simp only [List.zipIdx_cons, List.foldl_cons, List.setIfInBounds_toArray]
    rw [foldl_set off vs (k + 1) (cells.set (off + k) v), setL, Nat.add_assoc]

theorem fill_cells (vs cells : List Value) (off : Nat) : (vs.toArray.zipIdx.foldl (fun cs (x : Value × Nat) => cs.setIfInBounds (off + x.2) x.1) cells.toArray) = (setL cells off vs).toArray := by
  rw [← Array.foldl_toList]
  have := foldl_set off vs 0 cells
  simpa using this

/-- The places of a struct's fields. -/
def placesOf (P : Program) : List Field → Option (List (Nat × Nat))
  | [] => some []
  | f :: fs => match szOf P f.type, placesOf P fs with
    | some n, some r => some ((f.offset, n) :: r)
    | _, _ => none

theorem places_ok {P : Program} (w : World) : ∀ (fs : List Field) (ps : List (Nat × Nat)), placesOf P fs = some ps → (fs.mapM fun f => do pure (f.offset, ← sizeOf f.type) : Sem (List (Nat × Nat))).run P w = .ok ps w
  | [], ps, h => by cases h; rfl
  | f :: fs, ps, h => by
    simp only [placesOf] at h
    split at h
    · rename_i n r hn hr
      cases h
      have ih := places_ok w fs r hr
      simp only [List.mapM_cons, Sem.run_bind, run_szOf hn, Result.andThen_ok, Sem.run_pure, ih]
    · cases h

def aFill (ps : List (Nat × Nat)) : List AV → List (Nat × AV) → Option (List AV)
  | cells, [] => some cells
  | cells, (i, a) :: r => match ps[i]? with
    | some (off, n) => if a.solid = true ∧ a.cells.length = n ∧ off + n ≤ cells.length then aFill ps (setL cells off a.cells) r else none
    | none => none

inductive RelP (L : Lay) : List (Nat × AV) → List (Nat × Value) → Prop
  | nil : RelP L [] []
  | cons (i : Nat) (a : AV) (v : Value) (as : List (Nat × AV)) (vs : List (Nat × Value)) (h : Rel L a v) (t : RelP L as vs) : RelP L ((i, a) :: as) ((i, v) :: vs)

theorem fill_ok {L : Lay} (ps : List (Nat × Nat)) : ∀ {parts : List (Nat × AV)} {vs : List (Nat × Value)} (cells cs : List AV) (us : List Value), aFill ps cells parts = some cs → RelP L parts vs → RelL L cells us → (∀ v ∈ us, oneC v = true) →
    ∃ ws : List Value, Instr.fill (fun i => ps.toArray[i]?) us.toArray vs = some ws.toArray ∧ RelL L cs ws ∧ ∀ v ∈ ws, oneC v = true
  | [], _, cells, cs, us, h, hp, hr, h1 => by
    cases hp; cases h
    exact ⟨us, rfl, hr, h1⟩
  | (i, a) :: parts, _, cells, cs, us, h, hp, hr, h1 => by
    cases hp with
    | cons _ _ v _ vs hv t =>
      simp only [aFill] at h
      split at h
      · rename_i off n hps
        split at h
        · rename_i hc
          obtain ⟨hs, hn, hle⟩ := hc
          obtain ⟨qs, q1, q2, q3⟩ := rel_cells hv hs
          have hql : qs.length = n := by rw [← q2.length, hn]
          have hul := hr.length
          obtain ⟨ws, w1, w2, w3⟩ := fill_ok ps (setL cells off a.cells) cs (setL us off qs) h t (q2.setL off hr) (fun x hx => (setL_mem qs us off x hx).elim (h1 x) (q3 x))
          refine ⟨ws, ?_, w2, w3⟩
          have hps' : ps.toArray[i]? = some (off, n) := by simpa using hps
          have hcond : (v.cells.size != n || decide (off + v.cells.size > us.toArray.size)) = false := by rw [q1]; simp; omega
          simp only [Instr.fill, hps']
          rw [if_neg (by rw [q1]; simp; omega)]
          rw [q1, fill_cells]
          exact w1
        · cases h
      · cases h

/-- 'T{..}' -/
def aBuild (P : Program) (t : TypeId) (parts : List (Nat × AV)) : Option AV :=
  match zeroOf P t, P.underlying t with
  | some (.agg zc), some (.struct fs) => match placesOf P fs.toList with
    | some ps => match aFill ps zc parts with
      | some cs => some (.agg cs)
      | none => none
    | none => none
  | _, _ => none

theorem build_ok {P : Program} {L : Lay} {t : TypeId} {parts : List (Nat × AV)} {r : AV} (h : aBuild P t parts = some r) {vs : Array (Nat × Value)} (hp : RelP L parts vs.toList) (w : World) :
    ∃ z, (Instr.build t vs).run P w = .ok z w ∧ Rel L r z ∧ r.isOwn = false := by
  unfold aBuild at h
  split at h
  · rename_i zc fs hz hu
    split at h
    · rename_i ps hps
      split at h
      · rename_i cs hcs
        cases h
        unfold zeroOf at hz
        rw [Option.map_eq_some_iff] at hz
        obtain ⟨zv, hz1, hz2⟩ := hz
        have hrel := rel_ofConst L zv
        rw [hz2] at hrel
        cases hrel with
        | agg _ us hr1 hr2 =>
          obtain ⟨ws, w1, w2, w3⟩ := fill_ok ps zc cs us hcs hp hr1 hr2
          refine ⟨.agg ws.toArray, ?_, .agg _ _ w2 w3, rfl⟩
          have hpl : (fs.mapM fun f => do pure (f.offset, ← sizeOf f.type) : Sem (Array (Nat × Nat))).run P w = .ok ps.toArray w := by
            have := places_ok w fs.toList ps hps
            rw [← Array.toArray_toList (xs := fs)]
            simp only [List.mapM_toArray]
            simp only [Sem.run_map, this, Result.andThen_ok]
          simp only [Instr.build, Sem.run_bind, run_zero hz1, Result.andThen_ok, run_under hu]
          rw [hpl]
          have w1' : Instr.fill (fun i => ps[i]?) us.toArray vs.toList = some ws.toArray := by simpa using w1
          simp [Value.cells, w1']
      · cases h
    · cases h
  · cases h

/-- The parts of '[]T{..}', from k on: their places are k, k + 1, .. -/
def inRow (n : Nat) : Nat → List (Nat × AV) → Option (List AV)
  | _, [] => some []
  | k, (i, a) :: r => if i = k ∧ a.solid = true ∧ a.cells.length = n then (inRow n (k + 1) r).map (a :: ·) else none

theorem inRow_fill {L : Lay} {n : Nat} : ∀ {parts : List (Nat × AV)} {vs : List (Nat × Value)} (k : Nat) (xs : List AV) (us : List Value), inRow n k parts = some xs → RelP L parts vs → (k + parts.length) * n ≤ us.length →
    ∃ qs : List Value, Instr.fill (fun i => some (i * n, n)) us.toArray vs = some (us.take (k * n) ++ qs ++ us.drop ((k + parts.length) * n)).toArray ∧ RelL L (cellsOf xs) qs ∧ (∀ v ∈ qs, oneC v = true) ∧ xs.length = parts.length ∧ (∀ x ∈ xs, x.cells.length = n)
  | [], _, k, xs, us, h, hp, hl => by
    cases hp; cases h
    exact ⟨[], by simp [Instr.fill], .nil, by simp, rfl, by simp⟩
  | (i, a) :: parts, _, k, xs, us, h, hp, hl => by
    cases hp with
    | cons _ _ v _ vs hv t =>
      simp only [inRow] at h
      split at h
      · rename_i hc
        obtain ⟨rfl, hs, hn⟩ := hc
        rw [Option.map_eq_some_iff] at h
        obtain ⟨ys, hy, rfl⟩ := h
        obtain ⟨ps, q1, q2, q3⟩ := rel_cells hv hs
        have hql : ps.length = n := by rw [← q2.length, hn]
        simp only [List.length_cons] at hl
        have hk : i * n + n ≤ us.length := by
          have : (i + 1) * n ≤ (i + (parts.length + 1)) * n := Nat.mul_le_mul_right _ (by omega)
          rw [Nat.succ_mul] at this; omega
        have hset := setL_eq ps us (i * n) (by omega)
        obtain ⟨qs, w1, w2, w3, w4, w5⟩ := inRow_fill (i + 1) ys (setL us (i * n) ps) hy t (by rw [setL_length, show i + 1 + parts.length = i + (parts.length + 1) by omega]; exact hl)
        refine ⟨ps ++ qs, ?_, ?_, ?_, by simp [w4], ?_⟩
        · simp only [Instr.fill]
          rw [if_neg (by rw [q1]; simp; omega), q1, fill_cells, w1]
          congr 2
          have hlen : (setL us (i * n) ps).take ((i + 1) * n) = us.take (i * n) ++ ps := by
            rw [hset, List.append_assoc, ← List.append_assoc, List.take_append_of_le_length (by simp; rw [Nat.succ_mul]; omega)]
            apply List.take_of_length_le
            simp; rw [Nat.succ_mul]; omega
          rw [hlen]
          have hd : (setL us (i * n) ps).drop ((i + 1 + parts.length) * n) = us.drop ((i + (parts.length + 1)) * n) := by
            rw [hset, show i + 1 + parts.length = i + (parts.length + 1) by omega]
            have hge : i * n + ps.length ≤ (i + (parts.length + 1)) * n := by
              have : (i + 1) * n ≤ (i + (parts.length + 1)) * n := Nat.mul_le_mul_right _ (by omega)
              rw [Nat.succ_mul] at this; omega
            rw [List.drop_append, List.drop_of_length_le (by simp; omega)]
            simp only [List.nil_append, List.length_append, List.length_take, List.drop_drop]
            congr 1
            omega
          rw [hd]
          simp only [List.append_assoc, List.length_cons]
        · show RelL L (a.cells ++ cellsOf ys) _
          exact q2.append w2
        · intro x hx; rcases List.mem_append.1 hx with hx | hx; exact q3 x hx; exact w3 x hx
        · intro x hx; rcases List.mem_cons.1 hx with rfl | hx; exact hn; exact w5 x hx
      · cases h

/-- '[]T{..}', every element given -/
def aBuildSlice (P : Program) (t : TypeId) (len : Nat) (parts : List (Nat × AV)) : Option AV :=
  match P.underlying t with
  | some (.slice e) => match szOf P e, (P.info? e).bind (·.zero) with
    | some n, some zv => if parts.length = len ∧ len * n ≤ 16777216 ∧ zv.cells.size = n then match inRow n 0 parts with
      | some xs => some (.sl e n xs .own)
      | none => none
      else none
    | _, _ => none
  | _ => none

theorem buildSlice_ok {P : Program} {W0 : World} {L : Lay} {ow : Owns} {s : Heap} {w : World} (h : St W0 L ow s w) {t : TypeId} {len : Nat} {parts : List (Nat × AV)} {r : AV} (hr : aBuildSlice P t len parts = some r)
    {vs : Array (Nat × Value)} (hp : RelP L parts vs.toList) : ∃ z w', (Instr.buildSlice t len vs).run P w = .ok z w' ∧ Res W0 L ow w r s z w' := by
  unfold aBuildSlice at hr
  split at hr
  · rename_i e hu
    split at hr
    · rename_i n zv hn hz
      split at hr
      · rename_i hc
        obtain ⟨hlen, hmax, hzs⟩ := hc
        split at hr
        · rename_i xs hxs
          cases hr
          obtain ⟨init, hi, hil⟩ : ∃ init : List Value, (Array.range (len * n)).map (fun i => zv.cells[i % zv.cells.size]!) = init.toArray ∧ init.length = len * n :=
            ⟨((Array.range (len * n)).map (fun i => zv.cells[i % zv.cells.size]!)).toList, Array.toArray_toList.symm, by simp⟩
          obtain ⟨qs, w1, w2, w3, w4, w5⟩ := inRow_fill 0 xs init hxs hp (by rw [hil, hlen]; simp)
          simp only [Nat.zero_mul, List.take_zero, List.nil_append, Nat.zero_add, hlen] at w1
          rw [List.drop_of_length_le (by rw [hil]; exact Nat.le_refl _), List.append_nil] at w1
          refine ⟨.slice (some ⟨w.heap.size, 0, none⟩) xs.length xs.length, w.alloc (.cells qs.toArray e), ?_, L.new w.heap.size qs.length qs, newOw ow w.heap.size .ret, new_ext h _ _ _ _, new_st h _ _ _ _, ?_, ?_⟩
          · have hxl : xs.length = len := by rw [w4, hlen]
            have hmax' : ¬ (16777216 < len * n) := by omega
            simp only [Instr.buildSlice, Sem.run_bind, run_under hu, Result.andThen_ok, run_szOf hn]
            rw [if_neg (by omega)]
            by_cases h0 : len * n = 0
            · have hinit : init = [] := List.length_eq_zero_iff.1 (by rw [hil, h0])
              subst hinit
              rw [if_pos h0]
              have he : (Array.range (len * n)).map (fun i => (#[] : Array Value)[i % (#[] : Array Value).size]!) = #[] := by rw [h0]; simp
              simp only [Sem.run_bind, Sem.run_pure, Result.andThen_ok, he, w1]
              simp [newRow, hxl]
            · rw [if_neg h0]
              simp only [Sem.run_bind, run_zero hz, Result.andThen_ok, Sem.run_pure, hi, w1]
              simp [newRow, hxl]
          · exact .sl w.heap.size 0 e n xs .own xs.length (new_relC h (by rw [List.take_length]; exact w2) (by rw [List.take_length]; exact w3)) w5 ⟨Nat.le_refl _, nofun⟩
          · have hql : qs.length = xs.length * n := by rw [← w2.length, cellsOf_length w5]
            refine ⟨by simp [newOw], ⟨_, _, alloc_new _ _, rfl, by simp [hql]⟩, fun o ho => ⟨new_melt _ _ _ _, ?_⟩⟩
            simp only [Lay.new, if_true]
            rw [if_neg (by omega)]
        · cases hr
      · cases hr
    · cases hr
  · cases hr

end Go.Abs
