/- Appends; literals of structs and slices. -/
import Derived.Test.YtionohfkjdahlaaDoorAbsG
namespace Go.Abs
open Go

/-- The elements that stand behind 'append(.., y...)'. -/
def srcOf (z : Nat) : AV → Option (List AV)
  | .sl _ z' ys _ => if z' = z then some ys else none
  | .nils => some []
  | .str bs => if z = 1 then some (bs.map fun b => .int .u8 b.toNat) else none
  | _ => none

theorem relL_bytes (L : Lay) : ∀ bs : List UInt8, RelL L (bs.map fun b => AV.int .u8 b.toNat) (bs.map fun b => Value.int .u8 b.toNat)
  | [] => .nil
  | _ :: bs => .cons _ _ _ _ (.int _ _) (relL_bytes L bs)

theorem cellsOf_bytes (bs : List UInt8) : cellsOf (bs.map fun b => AV.int .u8 b.toNat) = bs.map fun b => AV.int .u8 b.toNat := by
  induction bs with
  | nil => rfl
  | cons b bs ih => show [_] ++ cellsOf _ = _; rw [ih]; rfl

theorem src_ok {P : Program} {L : Lay} {w : World} (himm : ∀ b o v, L.S b o = some v → w.cell? ⟨b, o, none⟩ = some v) {z : Nat} {y : AV} {ys : List AV} (h : srcOf z y = some ys) {v : Value} (hy : Rel L y v) :
    ∃ vs : List Value, (Builtin.lenOf v).run P w = .ok ys.length w ∧ (Builtin.firstCells z ys.length v).run P w = .ok vs.toArray w ∧ RelL L (cellsOf ys) vs ∧ (∀ x ∈ vs, oneC x = true) ∧ (∀ x ∈ ys, x.cells.length = z) := by
  unfold srcOf at h
  split at h
  · split at h
    · rename_i e
      cases h
      cases hy with
      | sl b o _ _ _ _ cap hc hz hcap =>
        subst e
        have hl := cellsOf_length hz
        obtain ⟨vs, h1, h2, h3⟩ := loadCells_box (P := P) himm hc (n := ys.length * _) (by rw [hl]; exact Nat.le_refl _)
        rw [← hl, List.take_length] at h2
        exact ⟨vs, by simp [Builtin.lenOf], by simpa [Builtin.firstCells] using h1, h2, h3, hz⟩
    · cases h
  · cases h; cases hy
    exact ⟨[], by simp [Builtin.lenOf], by simp [Builtin.firstCells], .nil, by simp, by simp⟩
  · rename_i bs
    split at h
    · cases h; cases hy
      refine ⟨bs.map fun b => .int .u8 b.toNat, by simp [Builtin.lenOf, size_mk], ?_, by rw [cellsOf_bytes]; exact relL_bytes L bs, by intro x hx; obtain ⟨b, _, rfl⟩ := List.mem_map.1 hx; rfl, by intro x hx; obtain ⟨b, _, rfl⟩ := List.mem_map.1 hx; simp_all [AV.cells]⟩
      simp only [Builtin.firstCells, Sem.run_pure]
      congr 1
      apply Array.toList_inj.1
      rw [List.length_map, show bs.length = (ByteArray.mk bs.toArray).size from (size_mk bs).symm]
      simp
    · cases h
  · cases h

/-- The room that 'append' asks for, at most. -/
theorem nextcap_le (need old : Nat) (h : old < need) : Builtin.nextslicecap need old ≤ 2 * need + 768 := by
  unfold Builtin.nextslicecap
  split
  · omega
  · split
    · omega
    · have grow : ∀ r c, c < 2 * need + 768 → Builtin.growBy need r c ≤ 2 * need + 768 := by
        intro r
        induction r with
        | zero => intro c h; simp only [Builtin.growBy]; omega
        | succ r ih =>
          intro c h
          simp only [Builtin.growBy]
          split
          · omega
          · exact ih _ (by omega)
      exact grow 4 old (by omega)

/-- append -/
def aAppend (P : Program) (t t2 : TypeId) (x y : AV) : Option AV :=
  match P.underlying t, P.underlying t2 with
  | some (.slice e), some d2 => match (P.info? e), (match d2 with | .int _ => true | _ => false) with
    | some i, false => match srcOf i.size y, i.zero with
      | some ys, some zv => if zv.cells.size ≠ i.size then none else
        match x with
        | .nils => if (2 * ys.length + 768) * i.bytes ≤ 281474976710656 ∧ ys.length ≤ 2305843009213693951 then (match ys with | [] => some .nils | a :: r => some (.sl e i.size (a :: r) .own)) else none
        | .sl ty z xs .own => if ty = e ∧ z = i.size ∧ (2 * (xs.length + ys.length) + 768) * i.bytes ≤ 281474976710656 ∧ xs.length + ys.length ≤ 2305843009213693951 then some (.sl ty z (xs ++ ys) .own) else none
        | .sl ty z xs .full => if z = i.size ∧ (2 * (xs.length + ys.length) + 768) * i.bytes ≤ 281474976710656 ∧ xs.length + ys.length ≤ 2305843009213693951 then (match ys with | [] => some (.sl ty z xs .full) | a :: r => some (.sl e z (xs ++ a :: r) .own)) else none
        | _ => none
      | _, _ => none
    | _, _ => none
  | _, _ => none

/-- A new array for 'append'. -/
theorem append_new {W0 : World} {L : Lay} {ow : Owns} {s : Heap} {w : World} (h : St W0 L ow s w) {as : List AV} {vs rest : List Value} (hr : RelL L (cellsOf as) vs) (h1 : ∀ v ∈ vs, oneC v = true) {z : Nat} (hz : ∀ x ∈ as, x.cells.length = z)
    {cap : Nat} (hcap : as.length ≤ cap) (hrest : vs.length + rest.length = cap * z) (e : TypeId) :
    Res W0 L ow w (.sl e z as .own) s (.slice (some ⟨w.heap.size, 0, none⟩) as.length cap) (w.alloc (.cells (vs ++ rest).toArray e)) := by
  have hl := hr.length
  have hcl := cellsOf_length hz
  refine ⟨L.new w.heap.size vs.length (vs ++ rest), newOw ow w.heap.size .ret, new_ext h _ _ _ _, new_st h _ _ _ _, ?_, ?_⟩
  · refine .sl w.heap.size 0 e z as .own cap (new_relC h ?_ ?_) hz ⟨hcap, nofun⟩
    · rw [List.take_left]; exact hr
    · rw [List.take_left]; exact h1
  · refine ⟨by simp [newOw], ⟨_, _, alloc_new _ _, rfl, ?_⟩, fun o ho => ⟨new_melt _ _ _ _, ?_⟩⟩
    · simp; omega
    · simp only [Lay.new, if_true]
      rw [if_neg (by omega)]

/-- 'append' into the room behind the elements. -/
def Lay.fill (L : Lay) (b o : Nat) (vs : List Value) : Lay := { L with S := fun b' o' => if b' = b ∧ o ≤ o' ∧ o' < o + vs.length then vs[o' - o]? else L.S b' o' }

theorem append_room {W0 : World} {L : Lay} {ow : Owns} {s : Heap} {w : World} (h : St W0 L ow s w) {ty : TypeId} {z : Nat} {xs ys : List AV} {b o cap : Nat} {us : List Value} (hx : Rel L (.sl ty z xs .own) (.slice (some ⟨b, o, none⟩) xs.length cap))
    (ho : OwnAt L ow w .arg (.sl ty z xs .own) (.slice (some ⟨b, o, none⟩) xs.length cap)) (hy : RelL L (cellsOf ys) us) (h1 : ∀ v ∈ us, oneC v = true) (hz : ∀ y ∈ ys, y.cells.length = z) (hfit : xs.length + ys.length ≤ cap) {P : Program} :
    (storeCells (Addr.add ⟨b, o, none⟩ (xs.length * z)) us).run P w = .ok () (w.setCells b (o + xs.length * z) us) ∧
    Res W0 L ow w (.sl ty z (xs ++ ys) .own) s (.slice (some ⟨b, o, none⟩) (xs.length + ys.length) cap) (w.setCells b (o + xs.length * z) us) := by
  have hul : us.length = ys.length * z := by rw [← hy.length, cellsOf_length hz]
  cases hx with
  | sl _ _ _ _ _ _ _ hc hzx hcap =>
    obtain ⟨o1, ⟨c, fz, o2, o5, o3⟩, o4⟩ := ho
    simp only at o1 o2 o3 o4 o5
    have hmul : (xs.length + ys.length) * z ≤ cap * z := Nat.mul_le_mul_right _ hfit
    rw [Nat.add_mul] at hmul
    have hadd : Addr.add ⟨b, o, none⟩ (xs.length * z) = ⟨b, o + xs.length * z, none⟩ := by unfold Addr.add; split <;> simp_all
    have hcell : ∀ j, j < us.length → (w.cell? ⟨b, o + xs.length * z + j, none⟩).isSome = true := by
      intro j hj
      have : o + xs.length * z + j < c.size := by omega
      simp [World.cell?, o2, this]
    have hst := run_storeCells_cells (P := P) b (o + xs.length * z) us 0 w (fun j hj => by simpa using hcell j hj) (fun j hj => (o4 _ (by omega)).1) (fun q hq => by rw [oneC_eq]; exact h1 q hq)
    simp only [Nat.add_zero] at hst
    refine ⟨by rw [hadd]; exact hst, ?_⟩
    have hother : ∀ k, k ≠ b → (w.setCells b (o + xs.length * z) us).heap[k]? = w.heap[k]? := fun k hk => setCells_heap_other hk _ _ _
    have hblock : (w.setCells b (o + xs.length * z) us).heap[b]? = some (.cells (setL c.toList (o + xs.length * z) us).toArray ty fz) := setCells_heap_same _ _ _ _ (by simpa using o2)
    have hle : L.le (L.fill b (o + xs.length * z) us) := by
      refine ⟨fun b' o' v hS => ?_, fun _ h => h, fun _ _ => rfl⟩
      simp only [Lay.fill]
      split
      · rename_i hh
        obtain ⟨rfl, k1, k2⟩ := hh
        rw [(o4 o' (by omega)).2] at hS
        cases hS
      · exact hS
    have hfr : ∀ k, k ≠ b → ∀ o', (L.fill b (o + xs.length * z) us).S k o' = L.S k o' := by
      intro k hk o'
      simp [Lay.fill, hk]
    have hx' : Ext L ow w (L.fill b (o + xs.length * z) us) (argTo ow .ret) (w.setCells b (o + xs.length * z) us) := by
      refine ⟨hle, fun k hk => ?_, setCells_same _ _ _ _⟩
      have : k ≠ b := by intro e; rw [e, o1] at hk; cases hk
      exact ⟨by simp [argTo, hk], hfr k this, hother k this⟩
    refine ⟨L.fill b (o + xs.length * z) us, argTo ow .ret, hx', ?_, ?_, ?_⟩
    · refine h.move hle rfl (fun k hk => ?_) (fun b' o' v hS => ?_) (fun k hk => ?_) (fun k hk => ?_) (h.below_ext hx')
      · have : k ≠ b := by intro e; rw [e, o1] at hk; cases hk
        refine ⟨?_, hfr k this, hother k this⟩
        revert hk; unfold argTo; cases ow k <;> simp [Place.excl]
      · simp only [Lay.fill] at hS
        split at hS
        · rename_i hh
          obtain ⟨rfl, k1, k2⟩ := hh
          have hj : o' - (o + xs.length * z) < us.length := by omega
          have := World.cell?_setCells_in b' us (o + xs.length * z) w hcell (o' - (o + xs.length * z)) hj
          rw [show o + xs.length * z + (o' - (o + xs.length * z)) = o' by omega] at this
          rw [this, ← hS, List.getElem?_eq_getElem hj]
        · rename_i hh
          have hc0 := h.imm b' o' v hS
          rw [World.cell?_setCells_out b us _ w _ (fun e1 _ => ?_)]
          · exact hc0
          · simp only at e1
            simp only
            by_cases hlo : o' < o + xs.length * z
            · exact .inl hlo
            · refine .inr ?_
              by_cases hhi : o' < o + xs.length * z + us.length
              · exact absurd ⟨e1, by omega, hhi⟩ hh
              · omega
      · rw [setCells_heap_size]
        refine h.used k (fun e => hk ?_)
        simp [argTo, e]
      · simp [argTo, h.base k hk]
    · rw [show xs.length + ys.length = (xs ++ ys).length by simp]
      refine .sl b o ty z (xs ++ ys) .own cap ?_ (by intro x hx; rcases List.mem_append.1 hx with hx | hx; exact hzx x hx; exact hz x hx) ⟨by simpa using hfit, nofun⟩
      rw [cellsOf_append]
      refine RelC.append (hc.mono hle) ?_
      rw [cellsOf_length hzx]
      refine RelC.of (hy.mono hle) h1 (fun i v hi => ?_)
      have hlt : i < us.length := (List.getElem?_eq_some_iff.1 hi).1
      simp only [Lay.fill]
      rw [if_pos ⟨trivial, by omega, by omega⟩, show o + xs.length * z + i - (o + xs.length * z) = i by omega]
      exact hi
    · refine ⟨by simp [argTo, o1], ⟨_, _, hblock, o5, by simp [setL_length]; exact o3⟩, fun o' ho' => ?_⟩
      simp only [List.length_append, Nat.add_mul] at ho'
      refine ⟨?_, ?_⟩
      · rw [World.frozen?_setCells]; exact (o4 o' (by omega)).1
      · simp only [Lay.fill]
        rw [if_neg (by omega)]
        exact (o4 o' (by omega)).2

/-- The owner hands on what it owns. -/
theorem res_arg {W0 : World} {L : Lay} {ow : Owns} {s : Heap} {w : World} (h : St W0 L ow s w) {r : AV} {v : Value} (hr : Rel L r v) (ho : OwnAt L ow w .arg r v) : Res W0 L ow w r s v w := by
  refine ⟨L, argTo ow .ret, ⟨.refl L, fun b hb => ⟨by simp [argTo, hb], fun _ => rfl, rfl⟩, .refl w⟩, ?_, hr, ho.move fun b hb => ⟨by simp [argTo, hb], fun _ => rfl, rfl⟩⟩
  refine h.move (.refl L) rfl (fun b hb => ⟨?_, fun _ => rfl, rfl⟩) h.imm (fun b hb => h.used b (fun e => hb (by simp [argTo, e]))) (fun b hb => by simp [argTo, h.base b hb]) h.below
  revert hb; unfold argTo; cases ow b <;> simp [Place.excl]

theorem newCap_ge {need c : Nat} {t : Nat} (h : need < 2 ^ 63) (e : c = need + t % (2 ^ 63 - need)) : need ≤ c ∧ c < 2 ^ 63 := by
  subst e
  have := Nat.mod_lt t (show 2 ^ 63 - need > 0 by omega)
  omega

/-- The way on which a new array is made. -/
theorem append_fresh {P : Program} {W0 : World} {L : Lay} {ow : Owns} {s : Heap} {w : World} (h : St W0 L ow s w) {t t2 ty e : TypeId} {d2 : TypeDesc} (hu : P.underlying t = some (.slice e)) (hu2 : P.underlying t2 = some d2)
    (hd2 : ∀ k, d2 ≠ .int k) {i : TypeInfo} (hi : P.info? e = some i) {zv : Value} (hzero : i.zero = some zv) (hzs : zv.cells.size = i.size) {y : AV} {ys : List AV} (hsrc : srcOf i.size y = some ys) {v : Value} (hy : Rel L y v)
    {as : List AV} {vs : List Value} {base : Option Addr} {sCap : Nat} (hlt : sCap < as.length + ys.length)
    (hfc : (Builtin.firstCells i.size as.length (.slice base as.length sCap)).run P w.drew = .ok vs.toArray w.drew) (hrel : RelL L (cellsOf as) vs) (h1 : ∀ v ∈ vs, oneC v = true) (hzz : ∀ x ∈ as, x.cells.length = i.size)
    (hb1 : (2 * (as.length + ys.length) + 768) * i.bytes ≤ 281474976710656) (hb2 : as.length + ys.length ≤ 2305843009213693951) :
    ∃ q w', (Builtin.append_ #[t, t2] ty #[.slice base as.length sCap, v]).run P w = .ok q w' ∧ Res W0 L ow w (.sl e i.size (as ++ ys) .own) s q w' := by
  have hsz : szOf P e = some i.size := by simp [szOf, hi]
  have hvl : vs.length = as.length * i.size := by rw [← hrel.length, cellsOf_length hzz]
  obtain ⟨us, s1, _, _, _, s5⟩ := src_ok (P := P) h.imm hsrc hy
  obtain ⟨us, _, s2, s3, s4, _⟩ := src_ok (P := P) (w := w.drew) (by simpa using h.imm) hsrc hy
  have hul : us.length = ys.length * i.size := by rw [← s3.length, cellsOf_length s5]
  have hmax : ¬ ((9223372036854775807 : Int) < (as.length : Int) + (ys.length : Int) ∧ i.bytes = 0) := by omega
  have hcapb : ¬ (Builtin.nextslicecap (as.length + ys.length) sCap * i.bytes > 2 ^ 48) := by
    have h1 := nextcap_le (as.length + ys.length) sCap hlt
    have h2 : Builtin.nextslicecap (as.length + ys.length) sCap * i.bytes ≤ (2 * (as.length + ys.length) + 768) * i.bytes := Nat.mul_le_mul_right _ h1
    have : (2 : Nat) ^ 48 = 281474976710656 := by decide
    omega
  obtain ⟨nc, hnc⟩ : ∃ nc, nc = (as.length + ys.length) + w.tape w.drawn (.appendCap (as.length + ys.length) sCap e) % (2 ^ 63 - (as.length + ys.length)) := ⟨_, rfl⟩
  obtain ⟨hge, _⟩ := newCap_ge (by have : (2:Nat)^63 = 9223372036854775808 := by decide
                                   omega) hnc
  have hfo : (Question.appendCap (as.length + ys.length) sCap e).forced = false := rfl
  have hcut : (Question.appendCap (as.length + ys.length) sCap e).cut (w.tape w.drawn (Question.appendCap (as.length + ys.length) sCap e)) = nc := hnc.symm
  have hzv : (zeroValue e).run P w.drew = .ok zv w.drew := run_zero (by simp [hi, hzero])
  obtain ⟨rest, hr1, hr2⟩ : ∃ rest : List Value, Builtin.zeroCells zv.cells (nc - (as.length + ys.length)) = rest.toArray ∧ rest.length = (nc - (as.length + ys.length)) * i.size :=
    ⟨(Builtin.zeroCells zv.cells (nc - (as.length + ys.length))).toList, by simp, by simp [Builtin.zeroCells, hzs]⟩
  have hx := drew_ext (L := L) (ow := ow) (w := w)
  have hrow := append_new (W0 := W0) (L := L) (ow := ow) (s := s) (w := w.drew) (drew_st h) (as := as ++ ys) (vs := vs ++ us) (rest := rest) (by rw [cellsOf_append]; exact hrel.append s3)
    (by intro x hx; rcases List.mem_append.1 hx with hx | hx; exact h1 x hx; exact s4 x hx) (z := i.size) (by intro x hx; rcases List.mem_append.1 hx with hx | hx; exact hzz x hx; exact s5 x hx)
    (cap := nc) (by simpa using hge) (by
      rw [List.length_append, hvl, hul, hr2, ← Nat.add_mul, ← Nat.add_mul, Nat.add_sub_cancel' hge]) e
  obtain ⟨L', ow', r1, r2, r3, r4⟩ := hrow
  refine ⟨.slice (some ⟨w.heap.size, 0, none⟩) (as.length + ys.length) nc, w.drew.alloc (.cells ((vs ++ us) ++ rest).toArray e), ?_, L', ow', hx.trans r1, r2, by simpa using r3, by simpa using r4⟩
  have hneed : ¬ (as.length + ys.length ≤ sCap) := by omega
  have hlen : (Builtin.lenOf v).run P w = .ok ys.length w := s1
  simp [Builtin.append_, run_under hu, run_under hu2, run_szOf hsz, hlen, hneed, hmax, run_tyInfo hi, hcapb, hfo, hcut, hfc, s2, hzv, hr1, newRow]

theorem append_ok {P : Program} {W0 : World} {L : Lay} {ow : Owns} {s : Heap} {w : World} (h : St W0 L ow s w) {t t2 ty : TypeId} {x y r : AV} (hr : aAppend P t t2 x y = some r) {u v : Value} (hx : Rel L x u) (hy : Rel L y v)
    (ho : OwnAt L ow w .arg x u) : ∃ q w', (Builtin.append_ #[t, t2] ty #[u, v]).run P w = .ok q w' ∧ Res W0 L ow w r s q w' := by
  unfold aAppend at hr
  split at hr
  · rename_i e d2 hu hu2
    split at hr
    · rename_i i hi hd2
      split at hr
      · rename_i ys zv hsrc hzero
        split at hr
        · cases hr
        · rename_i hzs
          have hzs' : zv.cells.size = i.size := by simpa using hzs
          have hd2' : ∀ k, d2 ≠ .int k := by intro k e; subst e; simp at hd2
          have hsz : szOf P e = some i.size := by simp [szOf, hi]
          obtain ⟨us, s1, s2, s3, s4, s5⟩ := src_ok (P := P) h.imm hsrc hy
          have hlen0 : ys = [] → us = [] := fun e => by
            have := s3.length
            rw [e] at this
            exact List.length_eq_zero_iff.1 this.symm
          split at hr
          · -- nil
            cases hx
            split at hr
            · rename_i hb
              split at hr
              · cases hr
                refine ⟨.slice none 0 0, w, ?_, Res.same h .nils (.of_not rfl)⟩
                have hu0 := hlen0 rfl
                subst hu0
                simp only [List.length_nil] at s1 s2
                simp [Builtin.append_, run_under hu, run_under hu2, run_szOf hsz, s1, s2]
              · rename_i a rr
                cases hr
                have := append_fresh (as := []) (vs := []) (base := none) (sCap := 0) (ty := ty) h hu hu2 hd2' hi hzero hzs' hsrc hy (by simp) (by simp [Builtin.firstCells]) .nil (by simp) (by simp) (by simpa using hb.1) (by simpa using hb.2)
                simpa using this
            · cases hr
          · -- its own
            rename_i ty' z xs
            split at hr
            · rename_i hb
              obtain ⟨rfl, rfl, hb1, hb2⟩ := hb
              cases hr
              have hx0 := hx
              cases hx with
              | sl b o _ _ _ _ cap hc hzz hcap =>
                by_cases hfit : xs.length + ys.length ≤ cap
                · obtain ⟨r1, r2⟩ := append_room h hx0 ho s3 s4 s5 hfit (P := P)
                  refine ⟨_, _, ?_, r2⟩
                  simp [Builtin.append_, run_under hu, run_under hu2, run_szOf hsz, s1, s2, hfit, r1]
                · obtain ⟨vs, k1, k2, k3⟩ := loadCells_box (P := P) (w := w.drew) (by simpa using h.imm) hc (n := xs.length * i.size) (by rw [cellsOf_length hzz]; exact Nat.le_refl _)
                  rw [← cellsOf_length hzz, List.take_length] at k2
                  exact append_fresh h hu hu2 hd2' hi hzero hzs' hsrc hy (by omega) (by simpa [Builtin.firstCells] using k1) k2 k3 hzz hb1 hb2
            · cases hr
          · -- no room
            rename_i ty' z xs
            split at hr
            · rename_i hb
              obtain ⟨rfl, hb1, hb2⟩ := hb
              have hx0 := hx
              cases hx with
              | sl b o _ _ _ _ cap hc hzz hcap =>
                have hcap' := hcap.2 rfl
                subst hcap'
                split at hr
                · cases hr
                  have hu0 := hlen0 rfl
                  subst hu0
                  simp only [List.length_nil] at s1 s2
                  refine ⟨.slice (some ⟨b, o, none⟩) xs.length xs.length, w, ?_, Res.same h hx0 (.of_not rfl)⟩
                  simp [Builtin.append_, run_under hu, run_under hu2, run_szOf hsz, s1, s2, storeCells]
                · rename_i a rr
                  cases hr
                  obtain ⟨vs, k1, k2, k3⟩ := loadCells_box (P := P) (w := w.drew) (by simpa using h.imm) hc (n := xs.length * i.size) (by rw [cellsOf_length hzz]; exact Nat.le_refl _)
                  rw [← cellsOf_length hzz, List.take_length] at k2
                  exact append_fresh h hu hu2 hd2' hi hzero hzs' hsrc hy (by simp) (by simpa [Builtin.firstCells] using k1) k2 k3 hzz hb1 hb2
            · cases hr
          · cases hr
      · cases hr
    · cases hr
  · cases hr

end Go.Abs
