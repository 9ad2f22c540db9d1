/- ParA0, ParA, ParB, ParB2, ParB3, ParB4, ParB5, ParS, ParS2, ParS3, ParS4, ParS5, ParS6, ParS7 -/
import Derived.Test.YtkikcleofaeigaaGreatDoorB
import Derived.Test.YtkikcleofaeigaaGreatDoorD
import Derived.Test.YtkikcleofaeigaaGreatDoorC
set_option linter.all false

section
namespace ParF
open Go Go.Abs Pm
abbrev I (n : Int) : AV := .int .i64 n
def tokA (t : Tok) : AV := .agg [I t.1, .str t.2]
def IsToks (tk : AV) (ts : List Tok) : Prop := (tk = .nils ∧ ts = []) ∨ ∃ T, tk = .sl T 2 (ts.map tokA) .sh
mutual
inductive IsT : Tree → AV → Prop
  | mk (k : Nat) (t : Bytes) (cs : List Tree) (ch : AV) (h : IsC cs ch) : IsT (.mk k t cs) (.agg [I k, .str t, ch])
inductive IsC : List Tree → AV → Prop
  | nil : IsC [] .nils
  | sl (cs : List Tree) (rows : List AV) (h : IsL cs rows) : IsC cs (.sl 52 3 rows .sh)
inductive IsL : List Tree → List AV → Prop
  | nil : IsL [] []
  | cons (t : Tree) (a : AV) (cs : List Tree) (rows : List AV) (h : IsT t a) (h' : IsL cs rows) : IsL (t :: cs) (a :: rows)
end
mutual
theorem IsT.noRef : ∀ {t : Tree} {a : AV}, IsT t a → a.noRef = true
  | _, _, .mk k t cs ch h => by
    have := IsC.noRef h
    rw [noRef_agg, noRefL_cons, noRefL_cons, noRefL_cons, noRefL_nil, noRef_int, noRef_str, this]; rfl
theorem IsC.noRef : ∀ {cs : List Tree} {ch : AV}, IsC cs ch → ch.noRef = true
  | _, _, .nil => by simp [AV.noRef]
  | _, _, .sl cs rows h => by rw [noRef_sl]; exact IsL.noRef h
theorem IsL.noRef : ∀ {cs : List Tree} {rows : List AV}, IsL cs rows → noRefL rows = true
  | _, _, .nil => noRefL_nil
  | _, _, .cons t a cs rows h k => by rw [noRefL_cons, IsT.noRef h, IsL.noRef k]; rfl
end
theorem IsC.strip {cs : List Tree} {ch : AV} (h : IsC cs ch) : ch.strip = ch ∧ plainC ch = true ∧ ch.noRef = true := by
  refine ⟨?_, ?_, h.noRef⟩
  · cases h <;> rfl
  · cases h <;> rfl
theorem IsT.cells {t : Tree} {a : AV} (h : IsT t a) : a.cells.length = 3 ∧ a.cells.map AV.strip = a.cells ∧ a.cells.all plainC = true ∧ a = .agg a.cells := by
  cases h with
  | mk k t cs ch h =>
    obtain ⟨h1, h2, h3⟩ := h.strip
    refine ⟨rfl, ?_, ?_, rfl⟩
    · show [(I k).strip, (AV.str t).strip, ch.strip] = _; rw [h1]; rfl
    · show (true && (true && (plainC ch && true))) = true; rw [h2]; rfl
theorem IsL.length : ∀ {cs : List Tree} {rows : List AV}, IsL cs rows → rows.length = cs.length
  | _, _, .nil => rfl
  | _, _, .cons _ _ _ _ _ t => by rw [List.length_cons, List.length_cons, IsL.length t]
theorem IsL.append : ∀ {cs ds : List Tree} {rows rows' : List AV}, IsL cs rows → IsL ds rows' → IsL (cs ++ ds) (rows ++ rows')
  | _, _, _, _, .nil, k => k
  | _, _, _, _, .cons _ _ _ _ h t, k => .cons _ _ _ _ h (IsL.append t k)
theorem IsL.snoc {cs : List Tree} {rows : List AV} {t : Tree} {a : AV} (h : IsL cs rows) (k : IsT t a) : IsL (cs ++ [t]) (rows ++ [a]) := h.append (.cons _ _ _ _ k .nil)
theorem IsL.split : ∀ {cs ds : List Tree} {rows : List AV}, IsL (cs ++ ds) rows → ∃ r1 r2, rows = r1 ++ r2 ∧ IsL cs r1 ∧ IsL ds r2
  | [], ds, rows, h => ⟨[], rows, rfl, .nil, h⟩
  | c :: cs, ds, _, .cons _ a _ rows h t => by
    obtain ⟨r1, r2, e, h1, h2⟩ := IsL.split (cs := cs) t
    exact ⟨a :: r1, r2, by rw [e]; rfl, .cons _ _ _ _ h h1, h2⟩
theorem IsL.cells : ∀ {cs : List Tree} {rows : List AV}, IsL cs rows → (cellsOf rows).length = 3 * cs.length ∧ (cellsOf rows).map AV.strip = cellsOf rows ∧ (cellsOf rows).all plainC = true ∧ chunks 3 cs.length (cellsOf rows) = rows
  | _, _, .nil => ⟨rfl, rfl, rfl, rfl⟩
  | _, _, .cons t a cs rows h k => by
    obtain ⟨h1, h2, h3, h4⟩ := h.cells
    obtain ⟨k1, k2, k3, k4⟩ := k.cells
    have e : cellsOf (a :: rows) = a.cells ++ cellsOf rows := rfl
    rw [e]
    refine ⟨by rw [List.length_append, h1, k1, List.length_cons]; omega, by rw [List.map_append, h2, k2], by rw [List.all_append, h3, k3]; rfl, ?_⟩
    rw [List.length_cons, chunks, if_neg (by decide), List.take_append_of_le_length (by omega), List.take_of_length_le (by omega), List.drop_append_of_le_length (by omega), List.drop_of_length_le (by omega), List.nil_append, k4, ← h4]
theorem cellsOf_snoc (rows : List AV) (a : AV) : cellsOf (rows ++ [a]) = cellsOf rows ++ a.cells := by
  rw [cellsOf_append]; congr 1; show a.cells ++ [] = a.cells; rw [List.append_nil]
theorem gset_ne {s : Heap} {i j : Nat} {v : TypeId × List AV} (h : i ≠ j) : (s.set i v)[j]? = s[j]? := List.getElem?_set_ne h
theorem gset_eq {s : Heap} {i : Nat} {v w : TypeId × List AV} (h : s[i]? = some w) : (s.set i v)[i]? = some v := List.getElem?_set_self (List.getElem?_eq_some_iff.1 h).1
theorem gapp_old {s : Heap} {x : TypeId × List AV} {j : Nat} (h : j < s.length) : (s ++ [x])[j]? = s[j]? := List.getElem?_append_left h
theorem gapp_new {s : Heap} {x : TypeId × List AV} : (s ++ [x])[s.length]? = some x := by simp
theorem gkill_ne {s : Heap} {i j : Nat} (h : i ≠ j) : (kill s i)[j]? = s[j]? := List.getElem?_set_ne h
theorem kill_length (s : Heap) (i : Nat) : (kill s i).length = s.length := List.length_set
theorem set_length (s : Heap) (i : Nat) (v : TypeId × List AV) : (s.set i v).length = s.length := List.length_set
theorem app_length (s : Heap) (x : TypeId × List AV) : (s ++ [x]).length = s.length + 1 := by simp
theorem glt {s : Heap} {i : Nat} {w : TypeId × List AV} (h : s[i]? = some w) : i < s.length := (List.getElem?_eq_some_iff.1 h).1
theorem ld {s : Heap} {i o n : Nat} {ty : TypeId} {cs : List AV} {v : AV} (h : s[i]? = some (ty, cs)) (ht : ty ≠ deadTy) (hv : cs[o]? = some v) (hn : n ≠ 0) : aLoad false false n (.ref i o) s = some (v.strip, s) := by
  simp [aLoad, aLoadR, h, ht, hn, aLoadC, hv]
theorem ldA {s : Heap} {i o n : Nat} {ty : TypeId} {cs : List AV} (h : s[i]? = some (ty, cs)) (ht : ty ≠ deadTy) (hv : o + n ≤ cs.length) (hn : n ≠ 0) : aLoad false true n (.ref i o) s = some (.agg ((cs.drop o).take n), s) := by
  simp [aLoad, aLoadR, h, ht, hn, aLoadC, hv]
theorem st {s : Heap} {i o n : Nat} {ty : TypeId} {cs : List AV} {v : AV} (h : s[i]? = some (ty, cs)) (ht : ty ≠ deadTy) (hs : v.solid = true) (hl : v.cells.length = n) (ho : o + n ≤ cs.length) : aStore n s (.ref i o) v = some (s.set i (ty, setL cs o (stCells v))) := by
  simp [aStore, h, ht, hs, hl, ho]
structure Lv where
  k : Nat
  cs : List Tree
  id : Option Nat
def Lv.ch (l : Lv) : AV := match l.id with
  | none => .nils
  | some i => .rs 52 3 i 0 l.cs.length
def Lv.row (l : Lv) : List AV := [I l.k, .str [], l.ch]
def Lv.ok (s : Heap) (l : Lv) : Prop := match l.id with
  | none => l.cs = []
  | some i => ∃ rows junk, s[i]? = some (52, cellsOf rows ++ junk) ∧ IsL l.cs rows ∧ cellsOf rows ++ junk ≠ []
theorem Lv.ok_frame {s s' : Heap} {l : Lv} (h : l.ok s) (k : ∀ i, l.id = some i → s'[i]? = s[i]?) : l.ok s' := by
  unfold Lv.ok at *
  split at h
  · exact h
  · rename_i i hi
    obtain ⟨rows, junk, h1, h2⟩ := h
    exact ⟨rows, junk, (k i hi).trans h1, h2⟩
theorem row_length (lvs : List Lv) : (lvs.flatMap Lv.row).length = 3 * lvs.length := by
  induction lvs with
  | nil => rfl
  | cons l lvs ih => rw [List.flatMap_cons, List.length_append, ih]; show 3 + 3 * lvs.length = 3 * (lvs.length + 1); omega
structure PS (ts : List Tok) (P : Nat) (s : Heap) (pos : Nat) (lvs : List Lv) (J : List Nat) : Prop where
  par : ∃ tk Q junk, IsToks tk ts ∧ s[P]? = some (128, [tk, I pos, .rs 52 3 Q 0 lvs.length]) ∧ s[Q]? = some (52, lvs.flatMap Lv.row ++ junk) ∧ J = P :: Q :: lvs.filterMap Lv.id
  ok : ∀ l ∈ lvs, l.ok s
  nd : J.Nodup
  pos : pos ≤ ts.length
  len : ts.length < 50000000
structure Ex (s s' : Heap) (J J' : List Nat) : Prop where
  len : s.length ≤ s'.length
  fr : ∀ x, x < s.length → x ∉ J → s'[x]? = s[x]?
  sub : ∀ x, x ∈ J' → x ∈ J ∨ s.length ≤ x
theorem Ex.refl (s : Heap) (J : List Nat) : Ex s s J J := ⟨Nat.le_refl _, fun _ _ _ => rfl, fun _ h => .inl h⟩
theorem Ex.trans {s s' s'' : Heap} {J J' J'' : List Nat} (h : Ex s s' J J') (k : Ex s' s'' J' J'') : Ex s s'' J J'' := by
  refine ⟨Nat.le_trans h.len k.len, fun x hx hj => ?_, fun x hx => ?_⟩
  · rw [k.fr x (Nat.lt_of_lt_of_le hx h.len) (fun hj' => by
      rcases h.sub x hj' with h1 | h1
      · exact hj h1
      · omega), h.fr x hx hj]
  · rcases k.sub x hx with h1 | h1
    · exact h.sub x h1
    · exact .inr (Nat.le_trans h.len h1)
theorem PS.frame {ts : List Tok} {P : Nat} {s s' : Heap} {pos : Nat} {lvs : List Lv} {J : List Nat} (h : PS ts P s pos lvs J) (k : ∀ x ∈ J, s'[x]? = s[x]?) : PS ts P s' pos lvs J := by
  obtain ⟨tk, Q, junk, h1, h2, h3, h4⟩ := h.par
  subst h4
  refine ⟨⟨tk, Q, junk, h1, (k P (by simp)).trans h2, (k Q (by simp)).trans h3, rfl⟩, fun l hl => Lv.ok_frame (h.ok l hl) fun i hi => k i ?_, h.nd, h.pos, h.len⟩
  exact List.mem_cons_of_mem _ (List.mem_cons_of_mem _ (List.mem_filterMap.2 ⟨l, hl, hi⟩))
theorem PS.lt {ts : List Tok} {P : Nat} {s : Heap} {pos : Nat} {lvs : List Lv} {J : List Nat} (h : PS ts P s pos lvs J) : ∀ x ∈ J, x < s.length := by
  obtain ⟨tk, Q, junk, h1, h2, h3, h4⟩ := h.par
  intro x hx
  rw [h4, List.mem_cons, List.mem_cons, List.mem_filterMap] at hx
  rcases hx with e | e | ⟨l, hl, hi⟩
  · rw [e]; exact glt h2
  · rw [e]; exact glt h3
  · have := h.ok l hl
    unfold Lv.ok at this
    rw [hi] at this
    obtain ⟨rows, junk, h1, h2⟩ := this
    exact glt h1
end ParF
end

section
set_option maxRecDepth 100000
namespace ParF
open Go Go.Abs Go.Proofs Pm
theorem under50 : Tryz.prog.underlying 50 = some (.slice 52) := by kernel_rfl
theorem wsub1 {a : Nat} (h : a < 2000000000) : IntKind.i64.wrap (((a + 1 : Nat) : Int) - 1) = (a : Int) := by rw [wrap64] <;> omega
theorem wadd1 {a : Nat} (h : a < 2000000000) : IntKind.i64.wrap ((a : Int) + 1) = ((a + 1 : Nat) : Int) := by rw [wrap64] <;> omega
abbrev zrow : AV := .agg [I 0, .str [], .nils]
theorem zero50 : aBuildSlice Tryz.prog 50 1 [(0, zrow)] = some (.sl 52 3 [zrow] .own) := by kernel_rfl
theorem info52 : (Tryz.prog.info? 52).map (fun i => (i.size, i.zero.map (·.cells.size), decide (i.bytes ≤ 48))) = some (3, some 3, true) := by kernel_rfl
theorem len50_rs (t z i o n : Nat) : aLen Tryz.prog 50 (.rs t z i o n) = some (I n) := by simp [aLen, under50]
theorem len50_nil : aLen Tryz.prog 50 .nils = some (I 0) := by simp [aLen, under50]
theorem app_nil (s : Heap) : aRsAppend Tryz.prog 50 50 .nils (.sl 52 3 [zrow] .own) s = some (.rs 52 3 s.length 0 1, s ++ [(52, [I 0, .str [], .nils])]) := by
  have h := info52
  cases hi : Tryz.prog.info? 52 with
  | none => rw [hi] at h; cases h
  | some i =>
    rw [hi] at h
    simp only [Option.map_some, Option.some.injEq, Prod.mk.injEq, decide_eq_true_eq] at h
    obtain ⟨h1, h2, h3⟩ := h
    cases hz : i.zero with
    | none => rw [hz] at h2; cases h2
    | some zv =>
      rw [hz] at h2
      simp only [Option.map_some, Option.some.injEq] at h2
      have hb : bound i 1 := ⟨by omega, by omega⟩
      simp [aRsAppend, under50, hi, srcOf, h1, hz, h2, hb, deadTy, cellsOf, AV.cells]
theorem app_rs {s : Heap} {id len : Nat} {cs : List AV} (h : s[id]? = some (52, cs)) (hl : len * 3 ≤ cs.length) (hne : cs ≠ []) (hn : len < 1000000000) :
    aRsAppend Tryz.prog 50 50 (.rs 52 3 id 0 len) (.sl 52 3 [zrow] .own) s = some (.rs 52 3 s.length 0 (len + 1), kill s id ++ [(52, cs.take (len * 3) ++ [I 0, .str [], .nils])]) := by
  have k := info52
  cases hi : Tryz.prog.info? 52 with
  | none => rw [hi] at k; cases k
  | some i =>
    rw [hi] at k
    simp only [Option.map_some, Option.some.injEq, Prod.mk.injEq, decide_eq_true_eq] at k
    obtain ⟨h1, h2, h3⟩ := k
    cases hz : i.zero with
    | none => rw [hz] at h2; cases h2
    | some zv =>
      rw [hz] at h2
      simp only [Option.map_some, Option.some.injEq] at h2
      have hb : bound i (len + 1) := ⟨by
        have : (2 * (len + 1) + 768) * i.bytes ≤ (2 * (len + 1) + 768) * 48 := Nat.mul_le_mul_left _ h3
        omega, by omega⟩
      simp [aRsAppend, under50, hi, srcOf, h1, hz, h2, hb, deadTy, cellsOf, AV.cells, h, hl, hne]
theorem set_end (s : Heap) (x y : TypeId × List AV) : (s ++ [x]).set s.length y = s ++ [y] := by
  rw [List.set_append_right _ _ (Nat.le_refl _), Nat.sub_self]; rfl
theorem setL_end (l r z : List AV) (h : z.length = r.length) : setL (l ++ z) l.length r = l ++ r := by
  rw [setL_split _ _ _ (by rw [List.length_append]; omega), List.take_append_of_le_length (Nat.le_refl _), List.take_of_length_le (Nat.le_refl _), List.drop_of_length_le (by rw [List.length_append]; omega), List.append_nil]
theorem push_row {s : Heap} {l : Lv} (h : l.ok s) {t : Tree} {a : AV} (ht : IsT t a) (hn : l.cs.length < 1000000000) :
    ∃ s0 s1, aRsAppend Tryz.prog 50 50 l.ch (.sl 52 3 [zrow] .own) s = some (.rs 52 3 s.length 0 (l.cs.length + 1), s0) ∧ aStore 3 s0 (.ref s.length (l.cs.length * 3)) a = some s1 ∧ s1.length = s.length + 1 ∧ s0.length = s.length + 1 ∧
      (∀ x, x < s.length → l.id ≠ some x → s1[x]? = s[x]?) ∧ (∀ x, x < s.length → l.id ≠ some x → s0[x]? = s[x]?) ∧ Lv.ok s1 ⟨l.k, l.cs ++ [t], some s.length⟩ := by
  obtain ⟨c1, c2, c3, c4⟩ := ht.cells
  have hs : a.solid = true := by rw [c4]; rfl
  have hst : stCells a = a.cells := by rw [c4]; exact c2
  cases l with
  | mk k cs id =>
    cases id with
    | none =>
      have h : cs = [] := h
      subst h
      have e2 : aStore 3 (s ++ [(52, [I 0, .str [], .nils])]) (.ref s.length 0) a = some (s ++ [(52, a.cells)]) := by
        rw [st gapp_new (by decide) hs c1 (by decide), set_end, hst]
        have := setL_end [] a.cells [I 0, .str [], .nils] c1.symm
        rw [List.nil_append, List.nil_append] at this
        rw [show setL [I 0, .str [], .nils] 0 a.cells = a.cells from this]
      refine ⟨_, _, app_nil s, e2, app_length _ _, app_length _ _, fun x hx _ => gapp_old hx, fun x hx _ => gapp_old hx, [a], [], ?_, .cons _ _ _ _ ht .nil, ?_⟩
      · rw [gapp_new]; show _ = some (52, (a.cells ++ []) ++ []); rw [List.append_nil, List.append_nil]
      · show (a.cells ++ []) ++ [] ≠ []
        intro e
        have := congrArg List.length e
        simp [c1] at this
    | some i =>
      obtain ⟨rows, junk, h1, h2, h3⟩ := h
      obtain ⟨r1, r2, r3, r4⟩ := h2.cells
      have r1 : (cellsOf rows).length = 3 * cs.length := r1
      have hn : cs.length < 1000000000 := hn
      have hlen : cs.length * 3 = (cellsOf rows).length := by omega
      have e1 := app_rs (len := cs.length) h1 (by rw [List.length_append, ← hlen]; omega) h3 hn
      have tk : (cellsOf rows ++ junk).take (cs.length * 3) = cellsOf rows := by
        rw [List.take_append_of_le_length (by omega), List.take_of_length_le (by omega)]
      rw [tk] at e1
      have e2 : aStore 3 (kill s i ++ [(52, cellsOf rows ++ [I 0, .str [], .nils])]) (.ref s.length (cs.length * 3)) a = some (kill s i ++ [(52, cellsOf rows ++ a.cells)]) := by
        have g : (kill s i ++ [(52, cellsOf rows ++ [I 0, .str [], .nils])])[s.length]? = some (52, cellsOf rows ++ [I 0, .str [], .nils]) := by
          have := gapp_new (s := kill s i) (x := (52, cellsOf rows ++ [I 0, .str [], .nils]))
          rw [kill_length] at this; exact this
        rw [st g (by decide) hs c1 (by rw [List.length_append]; simp; omega), hst, hlen, setL_end _ _ _ (by rw [c1]; rfl)]
        have := set_end (kill s i) (52, cellsOf rows ++ [I 0, .str [], .nils]) (52, cellsOf rows ++ a.cells)
        rw [kill_length] at this
        rw [this]
      have fr : ∀ (y : TypeId × List AV) (x : Nat), x < s.length → some i ≠ some x → (kill s i ++ [y])[x]? = s[x]? := by
        intro y x hx hne
        rw [gapp_old (by rw [kill_length]; exact hx), gkill_ne (fun e => hne (by rw [e]))]
      refine ⟨_, _, e1, e2, by rw [app_length, kill_length], by rw [app_length, kill_length], fr _, fr _, rows ++ [a], [], ?_, h2.snoc ht, ?_⟩
      · have := gapp_new (s := kill s i) (x := (52, cellsOf rows ++ a.cells))
        rw [kill_length] at this
        rw [cellsOf_snoc, List.append_nil]
        exact this
      · rw [cellsOf_snoc, List.append_nil]
        intro e
        have := congrArg List.length e
        rw [List.length_append, c1] at this
        simp at this
theorem flat_snoc (base : List Lv) (l : Lv) : (base ++ [l]).flatMap Lv.row = base.flatMap Lv.row ++ l.row := by simp
theorem row_at {base : List Lv} {l : Lv} {junk : List AV} (j : Nat) (hj : j < 3) : ((base ++ [l]).flatMap Lv.row ++ junk)[base.length * 3 + j]? = l.row[j]? := by
  have hr := row_length base
  rw [flat_snoc, List.append_assoc, List.getElem?_append_right (by omega), List.getElem?_append_left (by show _ < 3; omega)]
  congr 1; omega
theorem row_set {base : List Lv} {l : Lv} {junk : List AV} {x : AV} : setL ((base ++ [l]).flatMap Lv.row ++ junk) (base.length * 3 + 2) [x] = base.flatMap Lv.row ++ [I l.k, .str [], x] ++ junk := by
  have hr := row_length base
  have hp : (base.flatMap Lv.row ++ [I l.k, .str []]).length = base.length * 3 + 2 := by rw [List.length_append, hr]; show 3 * base.length + 2 = _; omega
  have e : (base ++ [l]).flatMap Lv.row ++ junk = (base.flatMap Lv.row ++ [I l.k, .str []]) ++ ([l.ch] ++ junk) := by
    rw [flat_snoc]; simp [Lv.row]
  have hp2 : (base.flatMap Lv.row ++ [I l.k, .str []] ++ ([l.ch] ++ junk)).length = base.length * 3 + 2 + (1 + junk.length) := by rw [List.length_append, hp]; simp; omega
  rw [e, ← hp, setL_split _ _ _ (by rw [hp2, hp]; simp)]
  rw [List.take_append_of_le_length (Nat.le_refl _), List.take_of_length_le (Nat.le_refl _)]
  rw [List.drop_append, List.drop_of_length_le (by simp), Nat.add_sub_cancel_left]
  simp
structure Fs (ts : List Tok) (P : Nat) (s : Heap) (pos : Nat) (base : List Lv) (l : Lv) (tk : AV) (Q : Nat) (junk : List AV) : Prop where
  htk : IsToks tk ts
  par : s[P]? = some (128, [tk, I pos, .rs 52 3 Q 0 (base.length + 1)])
  row : s[Q]? = some (52, (base ++ [l]).flatMap Lv.row ++ junk)
  ne : P ≠ Q
  hbase : ∀ i ∈ base.filterMap Lv.id, i ≠ P ∧ i ≠ Q ∧ i < s.length ∧ l.id ≠ some i
  top : ∀ i, l.id = some i → i ≠ P ∧ i ≠ Q ∧ i < s.length
  nd : (base.filterMap Lv.id).Nodup
  ok : l.ok s
  oks : ∀ l' ∈ base, l'.ok s
  pos : pos ≤ ts.length
  len : ts.length < 50000000
def JJ (P Q : Nat) (base : List Lv) (l : Lv) : List Nat := P :: Q :: (base.filterMap Lv.id ++ l.id.toList)
theorem ids_snoc (base : List Lv) (l : Lv) : (base ++ [l]).filterMap Lv.id = base.filterMap Lv.id ++ l.id.toList := by
  rw [List.filterMap_append]
  cases h : l.id <;> simp [h]
theorem PS.facts {ts : List Tok} {P pos : Nat} {s : Heap} {base : List Lv} {l : Lv} {J : List Nat} (h : PS ts P s pos (base ++ [l]) J) : ∃ tk Q junk, Fs ts P s pos base l tk Q junk ∧ J = JJ P Q base l := by
  obtain ⟨tk, Q, junk, h1, h2, h3, h4⟩ := h.par
  have hlt := h.lt
  have nd := h.nd
  rw [ids_snoc] at h4
  rw [h4] at nd hlt
  rw [List.nodup_cons, List.nodup_cons, List.nodup_append] at nd
  obtain ⟨n1, n2, n3, n4, n5⟩ := nd
  refine ⟨tk, Q, junk, ⟨h1, by rw [h2, List.length_append]; rfl, h3, fun e => n1 (by rw [e]; exact List.mem_cons_self ..), fun i hi => ⟨fun e => n1 ?_, fun e => n2 ?_, hlt i ?_, fun e => n5 i hi i (by rw [e]; simp) rfl⟩,
    fun i hi => ⟨fun e => n1 ?_, fun e => n2 ?_, hlt i ?_⟩, n3, h.ok l (by simp), fun l' hl' => h.ok l' (by simp [hl']), h.pos, h.len⟩, h4⟩
  · rw [← e]; exact List.mem_cons_of_mem _ (List.mem_append_left _ hi)
  · rw [← e]; exact List.mem_append_left _ hi
  · exact List.mem_cons_of_mem _ (List.mem_cons_of_mem _ (List.mem_append_left _ hi))
  · rw [← e]; exact List.mem_cons_of_mem _ (List.mem_append_right _ (by simp [hi]))
  · rw [← e]; exact List.mem_append_right _ (by simp [hi])
  · exact List.mem_cons_of_mem _ (List.mem_cons_of_mem _ (List.mem_append_right _ (by simp [hi])))
theorem Fs.ps {ts : List Tok} {P pos : Nat} {s : Heap} {base : List Lv} {l : Lv} {tk : AV} {Q : Nat} {junk : List AV} (h : Fs ts P s pos base l tk Q junk) : PS ts P s pos (base ++ [l]) (JJ P Q base l) := by
  refine ⟨⟨tk, Q, junk, h.htk, by rw [h.par, List.length_append]; rfl, h.row, by rw [ids_snoc]; rfl⟩, fun l' hl' => ?_, ?_, h.pos, h.len⟩
  · rw [List.mem_append, List.mem_singleton] at hl'
    rcases hl' with k | k
    · exact h.oks l' k
    · rw [k]; exact h.ok
  · unfold JJ
    rw [List.nodup_cons, List.nodup_cons, List.nodup_append]
    have mem : ∀ i, i ∈ base.filterMap Lv.id ++ l.id.toList → i ≠ P ∧ i ≠ Q := by
      intro i hi
      rw [List.mem_append] at hi
      rcases hi with k | k
      · exact ⟨(h.hbase i k).1, (h.hbase i k).2.1⟩
      · rw [Option.mem_toList] at k; exact ⟨(h.top i k).1, (h.top i k).2.1⟩
    refine ⟨fun hm => ?_, fun hm => (mem Q hm).2 rfl, h.nd, ?_, fun i hi j hj e => ?_⟩
    · rw [List.mem_cons] at hm
      rcases hm with k | k
      · exact h.ne k
      · exact (mem P k).1 rfl
    · cases l.id <;> simp
    · rw [Option.mem_toList] at hj
      exact (h.hbase i hi).2.2.2 (by rw [hj, e])
theorem idx_rs {t i n : Nat} {k : Int} (h : 0 ≤ k ∧ k < n) : aIndexAddr Tryz.prog 50 (.rs t 3 i 0 n) (I k) = some (.ref i (0 + k.toNat * 3)) := by
  have hz : szOf Tryz.prog 52 = some 3 := by kernel_rfl
  simp [aIndexAddr, under50, hz, h]
theorem strip_rs (t z i o n : Nat) : (AV.rs t z i o n).strip = .rs t z i o n := (rfl)
theorem ch_strip (l : Lv) : l.ch.strip = l.ch := by unfold Lv.ch; cases l.id <;> rfl
theorem len_ch {s : Heap} {l : Lv} (h : l.ok s) : aLen Tryz.prog 50 l.ch = some (I l.cs.length) := by
  unfold Lv.ok at h
  unfold Lv.ch
  cases hi : l.id with
  | none => rw [hi] at h; have h : l.cs = [] := h; rw [h]; exact len50_nil
  | some i => exact len50_rs ..
theorem callR {D : Den} {g : FuncId} {args : List AV} {s : Heap} (he : enterable Tryz.prog g = true) (hn : noRefL args = false) : aCall Tryz.prog D g args s = D g args s := by
  rw [aCall, if_pos he, if_neg (by rw [hn]; exact Bool.noConfusion)]
theorem ref1 (i o : Nat) (l : List AV) : noRefL (.ref i o :: l) = false := by rw [noRefL_cons]; simp [AV.noRef]
theorem idx_top (t i n : Nat) : aIndexAddr Tryz.prog 50 (.rs t 3 i 0 (n + 1)) (I n) = some (.ref i (n * 3)) := by
  have := idx_rs (t := t) (i := i) (n := n + 1) (k := n) (by omega)
  simpa using this
theorem appK_ch (l : Lv) : appK l.ch = .app l.id := by unfold Lv.ch; cases l.id <;> rfl
theorem add_run {ts : List Tok} {P pos : Nat} {s : Heap} {base : List Lv} {l : Lv} {J : List Nat} (h : PS ts P s pos (base ++ [l]) J) {t : Tree} {a : AV} (ht : IsT t a) (hn : l.cs.length + base.length < 1000000000) :
    ∃ s' i' J', (∀ n, aCall Tryz.prog (den C (n + 1)) 188 [.ref P 0, a] s = some (.tup [], s')) ∧ PS ts P s' pos (base ++ [⟨l.k, l.cs ++ [t], i'⟩]) J' ∧ Ex s s' J J' := by
  obtain ⟨tk, Q, junk, f, rfl⟩ := h.facts
  obtain ⟨s0, s1, a1, a2, l1, l0, f1, f0, ok1⟩ := push_row f.ok ht (by omega)
  obtain ⟨c1, c2, c3, c4⟩ := ht.cells
  have hP := glt f.par
  have hQ := glt f.row
  have nP : l.id ≠ some P := fun e => (f.top P e).1 rfl
  have nQ : l.id ≠ some Q := fun e => (f.top Q e).2.1 rfl
  have q1 : s1[Q]? = some (52, (base ++ [l]).flatMap Lv.row ++ junk) := (f1 Q hQ nQ).trans f.row
  have q0 : s0[Q]? = some (52, (base ++ [l]).flatMap Lv.row ++ junk) := (f0 Q hQ nQ).trans f.row
  have hrow := row_length (base ++ [l])
  have hst := st (s := s1) (o := base.length * 3 + 2) (n := 1) (v := .rs 52 3 s.length 0 (l.cs.length + 1)) q1 (by decide) rfl rfl (by rw [List.length_append, hrow, List.length_append]; show _ ≤ 3 * (base.length + 1) + _; omega)
  have hst' : stCells (.rs 52 3 s.length 0 (l.cs.length + 1)) = [AV.rs 52 3 s.length 0 (l.cs.length + 1)] := rfl
  rw [hst', row_set] at hst
  have hl : ([⟨l.k, l.cs ++ [t], some s.length⟩] : List Lv).flatMap Lv.row = [I l.k, .str [], .rs 52 3 s.length 0 (l.cs.length + 1)] := by
    simp [Lv.row, Lv.ch]
  refine ⟨s1.set Q (52, base.flatMap Lv.row ++ [I l.k, .str [], .rs 52 3 s.length 0 (l.cs.length + 1)] ++ junk), some s.length, _, fun n => ?_, Fs.ps (tk := tk) (Q := Q) (junk := junk) ⟨f.htk, ?_, ?_, f.ne, ?_, ?_, f.nd, ?_, ?_, f.pos, f.len⟩, ?_⟩
  · have p0 := ld (n := 1) (o := 2) f.par (by decide) rfl (by decide)
    have pch := ld (n := 1) (o := base.length * 3 + 2) f.row (by decide) (row_at 2 (by decide)) (by decide)
    have p0 : aLoad false false 1 (.ref P 2) s = some (.rs 52 3 Q 0 (base.length + 1), s) := p0
    have pch : aLoad false false 1 (.ref Q (base.length * 3 + 2)) s = some (l.ch, s) := by rw [pch, ch_strip]
    obtain ⟨acs, rfl⟩ : ∃ acs, a = .agg acs := ⟨_, c4⟩
    have pbox : aLoad false true 3 (.box acs 0) s = some (.agg acs, s) := by
      rw [aLoad_agg _ _ _ _ _ (by have : acs.length = 3 := c1; omega), List.drop_zero, List.take_of_length_le (by have : acs.length = 3 := c1; omega)]
    rw [callR en188 (ref1 ..), F188_eq, F188]
    simp -implicitDefEqProofs only [sL, p0, pch, pbox, strip_rs, len50_rs, wsub1 (a := base.length) (by omega), idx_top, d188_1, len_ch f.ok, zero50, a1, a2, hst, kStore_ref, appK_ch, d188_2 s.length Q (by omega)]
  · rw [gset_ne f.ne.symm, f1 P hP nP]; exact f.par
  · rw [gset_eq q1, List.flatMap_append, hl]
  · intro i hi
    obtain ⟨k1, k2, k3, k4⟩ := f.hbase i hi
    refine ⟨k1, k2, by rw [set_length, l1]; omega, fun e => ?_⟩
    cases e; omega
  · intro i hi
    cases hi
    exact ⟨fun e => by omega, fun e => by omega, by rw [set_length, l1]; omega⟩
  · exact Lv.ok_frame ok1 fun i hi => gset_ne (by cases hi; omega)
  · intro l' hl'
    refine Lv.ok_frame (f.oks l' hl') fun i hi => ?_
    obtain ⟨k1, k2, k3, k4⟩ := f.hbase i (List.mem_filterMap.2 ⟨l', hl', hi⟩)
    rw [gset_ne (Ne.symm k2), f1 i k3 k4]
  · refine ⟨by rw [set_length, l1]; omega, fun x hx hj => ?_, fun x hx => ?_⟩
    · unfold JJ at hj
      simp only [List.mem_cons, List.mem_append, Option.mem_toList, not_or] at hj
      rw [gset_ne (Ne.symm hj.2.1), f1 x hx hj.2.2.2]
    · unfold JJ at hx ⊢
      simp only [List.mem_cons, List.mem_append, Option.mem_toList] at hx ⊢
      rcases hx with k | k | k | k
      · exact .inl (.inl k)
      · exact .inl (.inr (.inl k))
      · exact .inl (.inr (.inr (.inl k)))
      · cases k; exact .inr (Nat.le_refl _)
end ParF
end

section
set_option maxRecDepth 100000
namespace ParF
open Go Go.Abs Go.Proofs Pm
def AN (N : Nat) (g : FuncId) (args : List AV) (v : AV) : Prop := ∀ n, N ≤ n → ∀ s, aCall Tryz.prog (den C n) g args s = some (v, s)
theorem AN.intro {N : Nat} {g : FuncId} {args : List AV} {v : AV} (he : enterable Tryz.prog g = true) (hn : noRefL args = true) (hv : v.noRef = true) (h : ∀ n, N ≤ n → ∃ s1, den C (n + 1) g args [] = some (v, s1)) : AN (N + 1) g args v := by
  intro n hn' s
  obtain ⟨m, rfl⟩ : ∃ m, n = m + 1 := ⟨n - 1, by omega⟩
  obtain ⟨s1, h1⟩ := h m (by omega)
  simp [aCall, he, hn, h1, hv]
theorem AN.of {N : Nat} {g : FuncId} {args : List AV} {v : AV} (h : AN N g args v) {n : Nat} (hn : N ≤ n) (s : Heap) : aCall Tryz.prog (den C n) g args s = some (v, s) := h n hn s
theorem triv_run (k : Nat) : AN 1 115 [I k] (.bool (k == 101 || k == 102)) := by
  refine .intro en115 rfl rfl fun n _ => ⟨[], ?_⟩
  have e1 : ((k : Int) == 101) = (k == 101) := by rw [Bool.eq_iff_iff]; simp; omega
  have e2 : ((k : Int) == 102) = (k == 102) := by rw [Bool.eq_iff_iff]; simp; omega
  rw [F115_eq, F115]
  cases h : (k == 101) with
  | true => simp -implicitDefEqProofs only [sL, e1, h, e2, Bool.true_or, wA_bool]
            simp [h]
  | false => simp -implicitDefEqProofs only [sL, e1, h, e2, Bool.false_or, wA_bool]
             simp [h, e2]
theorem under74 : Tryz.prog.underlying 74 = some (.slice 80) := by kernel_rfl
theorem under215 : Tryz.prog.underlying 215 = some (.slice 9) := by kernel_rfl
theorem sz80 : szOf Tryz.prog 80 = some 2 := by kernel_rfl
theorem sz9 : szOf Tryz.prog 9 = some 1 := by kernel_rfl
theorem toks_len {tk : AV} {ts : List Tok} (h : IsToks tk ts) : aLen Tryz.prog 74 tk = some (I ts.length) := by
  rcases h with ⟨rfl, rfl⟩ | ⟨T, rfl⟩
  · simp [aLen, under74]
  · simp [aLen, under74]
theorem toks_at {tk : AV} {ts : List Tok} (h : IsToks tk ts) {i : Nat} (hi : i < ts.length) : aIndexAddr Tryz.prog 74 tk (I i) = some (.box [I ts[i].1, .str ts[i].2] 0) := by
  rcases h with ⟨rfl, rfl⟩ | ⟨T, rfl⟩
  · simp at hi
  · simp [aIndexAddr, under74, sz80, hi, tokA]
theorem toks_strip {tk : AV} {ts : List Tok} (h : IsToks tk ts) : tk.strip = tk := by
  rcases h with ⟨rfl, rfl⟩ | ⟨T, rfl⟩ <;> rfl
structure Rdy (ts : List Tok) (P : Nat) (s : Heap) (pos : Nat) (tk st : AV) : Prop where
  htk : IsToks tk ts
  par : s[P]? = some (128, [tk, I pos, st])
  pos : pos ≤ ts.length
  len : ts.length < 50000000
theorem Rdy.app {ts : List Tok} {P : Nat} {s : Heap} {pos : Nat} {tk st : AV} (h : Rdy ts P s pos tk st) (t : Heap) : Rdy ts P (s ++ t) pos tk st :=
  ⟨h.htk, by rw [List.getElem?_append_left (glt h.par)]; exact h.par, h.pos, h.len⟩
theorem Rdy.ld0 {ts : List Tok} {P : Nat} {s : Heap} {pos : Nat} {tk st : AV} (h : Rdy ts P s pos tk st) : aLoad false false 1 (.ref P 0) s = some (tk, s) := by
  rw [ld (o := 0) h.par (by decide) rfl (by decide), toks_strip h.htk]
theorem Rdy.ld1 {ts : List Tok} {P : Nat} {s : Heap} {pos : Nat} {tk st : AV} (h : Rdy ts P s pos tk st) : aLoad false false 1 (.ref P 1) s = some (I pos, s) := by
  rw [ld (o := 1) h.par (by decide) rfl (by decide)]; rfl
theorem triv_eq (t : Tok) : triv t = (t.1 == 101 || t.1 == 102) := rfl
theorem pk_triv {ts : List Tok} {i : Nat} (h : i < ts.length) (ht : triv ts[i] = true) : pk (ts.drop i) = pk (ts.drop (i + 1)) := by
  rw [List.drop_eq_getElem_cons h, pk, skp, List.dropWhile_cons, if_pos ht]; rfl
theorem pk_sig {ts : List Tok} {i : Nat} (h : i < ts.length) (ht : triv ts[i] = false) : pk (ts.drop i) = ts[i] := by
  rw [List.drop_eq_getElem_cons h, pk, skp, List.dropWhile_cons, if_neg (by rw [ht]; exact Bool.noConfusion)]; rfl
theorem pk_end {ts : List Tok} : pk (ts.drop ts.length) = (100, []) := by rw [List.drop_length]; rfl
theorem zero80 : aAlloc Tryz.prog 80 = fun s => some (.ref s.length 0, s ++ [(80, [I 0, .str []])]) := by
  have h : zeroOf Tryz.prog 80 = some (.agg [I 0, .str []]) := by kernel_rfl
  funext s
  simp [aAlloc, h]
theorem build80 : aBuild Tryz.prog 80 [(0, I 100)] = some (.agg [I 100, .str []]) := by kernel_rfl
theorem peek_loop {ts : List Tok} {P : Nat} {s : Heap} {pos : Nat} {tk st0 : AV} (h : Rdy ts P s pos tk st0) {L : Nat} {c0 : List AV} (hL : s[L]? = some (80, c0)) (hc : c0.length = 2) {n : Nat} (hn : 1 ≤ n) :
    ∀ (k i : Nat), ts.length - i ≤ k → i ≤ ts.length → ∀ m, k < m → ∀ n' e, e 0 = .ref P 0 → e 2 = .ref L 0 → e 3 = I i →
    aLoop (F105_L0 (den C n) n') m e s = some (tokA (pk (ts.drop i)), s.set L (80, [I (pk (ts.drop i)).1, .str (pk (ts.drop i)).2])) := by
  have fin : ∀ t : Tok, aStore 2 s (.ref L 0) (.agg [I t.1, .str t.2]) = some (s.set L (80, [I t.1, .str t.2])) := by
    intro t
    rw [ParF.st (o := 0) (n := 2) (v := .agg [I t.1, .str t.2]) hL (by decide) rfl rfl (by omega)]
    show some (s.set L (80, setL c0 0 [I t.1, .str t.2])) = _
    have := setL_end [] [I t.1, .str t.2] c0 (by rw [hc]; rfl)
    rw [List.nil_append, List.nil_append] at this
    rw [show setL c0 0 [I t.1, .str t.2] = _ from this]
  have fin2 : ∀ t : Tok, aLoad false true 2 (.ref L 0) (s.set L (80, [I t.1, .str t.2])) = some (.agg [I t.1, .str t.2], s.set L (80, [I t.1, .str t.2])) := fun t => ldA (gset_eq hL) (by decide) (by show 2 ≤ 2; omega) (by decide)
  have out : ∀ i, i ≤ ts.length → (i = ts.length ∨ ∃ h : i < ts.length, triv ts[i] = false) → ∀ m, 0 < m → ∀ n' e, e 0 = .ref P 0 → e 2 = .ref L 0 → e 3 = I i →
      aLoop (F105_L0 (den C n) n') m e s = some (tokA (pk (ts.drop i)), s.set L (80, [I (pk (ts.drop i)).1, .str (pk (ts.drop i)).2])) := by
    intro i hi ho m hm n' e he0 he2 he3
    obtain ⟨m, rfl⟩ : ∃ j, m = j + 1 := ⟨m - 1, by omega⟩
    rw [aLoop, F105_L0]
    rcases ho with rfl | ⟨hlt, ht⟩
    · rw [pk_end]
      have f1 : aStore 2 s (.ref L 0) (.agg [I 100, .str []]) = some (s.set L (80, [I 100, .str []])) := fin (100, [])
      have f2 : aLoad false true 2 (.ref L 0) (s.set L (80, [I 100, .str []])) = some (.agg [I 100, .str []], s.set L (80, [I 100, .str []])) := fin2 (100, [])
      simp -implicitDefEqProofs only [sL, he0, he2, he3, h.ld0, toks_len h.htk, Nat.lt_irrefl, decide_false, beq_self_eq_true, build80, f1, f2]
      rfl
    · rw [pk_sig hlt ht]
      have e0 := toks_at h.htk hlt
      have tv := (triv_run ts[i].1).of hn s
      rw [triv_eq] at ht
      rw [ht] at tv
      have e3 : ((i : Int) == ((ts.length : Nat) : Int)) = false := by simp; omega
      have b2 : aLoad false true 2 (.box [I ts[i].1, .str ts[i].2] 0) s = some (.agg [I ts[i].1, .str ts[i].2], s) := rfl
      simp -implicitDefEqProofs only [sL, he0, he2, he3, h.ld0, toks_len h.htk, hlt, decide_true, e0, tv, e3, b2, fin ts[i], fin2 ts[i]]
      rfl
  intro k
  induction k with
  | zero => intro i hk hi; exact out i hi (.inl (by omega))
  | succ k ih =>
    intro i hk hi m hm n' e he0 he2 he3
    by_cases hlt : i < ts.length
    · cases ht : triv ts[i] with
      | false => exact out i hi (.inr ⟨hlt, ht⟩) m (by omega) n' e he0 he2 he3
      | true =>
        rw [pk_triv hlt ht]
        obtain ⟨m, rfl⟩ : ∃ j, m = j + 1 := ⟨m - 1, by omega⟩
        have e0 := toks_at h.htk hlt
        have tv := (triv_run ts[i].1).of hn s
        rw [triv_eq] at ht
        rw [ht] at tv
        have hl := h.len
        rw [aLoop, F105_L0]
        simp -implicitDefEqProofs only [sL, he0, he2, he3, h.ld0, toks_len h.htk, hlt, decide_true, e0, tv, wadd1 (a := i) (by omega)]
        exact ih (i + 1) (by omega) (by omega) m (by omega) n' _ (by simp [upds_at, upd_at, he0]) (by simp [upds_at, upd_at, he2]) (by simp [upds_at, upd_at])
    · exact out i hi (.inl (by omega)) m (by omega) n' e he0 he2 he3
theorem peek_run {ts : List Tok} {P : Nat} {s : Heap} {pos : Nat} {tk st : AV} (h : Rdy ts P s pos tk st) {n : Nat} (hn : ts.length + 5 ≤ n) : ∃ t, aCall Tryz.prog (den C n) 105 [.ref P 0] s = some (tokA (pk (ts.drop pos)), s ++ t) := by
  obtain ⟨n, rfl⟩ : ∃ j, n = j + 1 := ⟨n - 1, by omega⟩
  have h' := h.app [(80, [I 0, .str []])]
  refine ⟨[(80, [I (pk (ts.drop pos)).1, .str (pk (ts.drop pos)).2])], ?_⟩
  rw [callR en105 (ref1 ..), F105_eq, F105]
  simp -implicitDefEqProofs only [sL, zero80, h'.ld1]
  rw [peek_loop h' gapp_new rfl (by omega) (ts.length - pos) pos (Nat.le_refl _) h.pos n (by omega) n _ (by simp [upds_at, upd_at, argEnv]) (by simp [upds_at, upd_at]) (by simp [upds_at, upd_at]), set_end]
end ParF
end

section
set_option maxRecDepth 100000
namespace ParF
open Go Go.Abs Go.Proofs Pm
abbrev strs (xs : List Bytes) : AV := .sl 9 1 (xs.map .str) .sh
theorem strs_strip (xs : List Bytes) : (AV.sl 9 1 (xs.map .str) .sh).strip = strs xs := (rfl)
theorem strs_noRef (xs : List Bytes) : noRefL (xs.map .str) = true := by induction xs with
  | nil => rfl
  | cons x xs ih => show noRefL (.str x :: xs.map .str) = true; rw [noRefL_cons, ih]; rfl
theorem bs1 (a : Bytes) : aBuildSlice Tryz.prog 215 1 [(0, .str a)] = some (.sl 9 1 [.str a] .own) := by
  have hz : (Tryz.prog.info? 9).bind (·.zero) = some (.string ⟨#[]⟩) := by kernel_rfl
  simp [aBuildSlice, under215, sz9, hz, inRow, AV.cells, Value.cells]
theorem bs2 (a b : Bytes) : aBuildSlice Tryz.prog 215 2 [(0, .str a), (1, .str b)] = some (.sl 9 1 [.str a, .str b] .own) := by
  have hz : (Tryz.prog.info? 9).bind (·.zero) = some (.string ⟨#[]⟩) := by kernel_rfl
  simp [aBuildSlice, under215, sz9, hz, inRow, AV.cells, Value.cells]
theorem bs3 (a b c : Bytes) : aBuildSlice Tryz.prog 215 3 [(0, .str a), (1, .str b), (2, .str c)] = some (.sl 9 1 [.str a, .str b, .str c] .own) := by
  have hz : (Tryz.prog.info? 9).bind (·.zero) = some (.string ⟨#[]⟩) := by kernel_rfl
  simp [aBuildSlice, under215, sz9, hz, inRow, AV.cells, Value.cells]
theorem idx215 {xs : List Bytes} {i : Nat} (h : i < xs.length) : aIndexAddr Tryz.prog 215 (strs xs) (I i) = some (.box [.str xs[i]] 0) := by
  simp [aIndexAddr, under215, sz9, h, AV.cells]
theorem len215 (xs : List Bytes) : aLen Tryz.prog 215 (strs xs) = some (I xs.length) := by simp [aLen, under215]
def findI (xs : List Bytes) (w : Bytes) (i : Nat) : Int := match (xs.drop i).idxOf? w with
  | some k => ((i + k : Nat) : Int)
  | none => -1
theorem findI_hit {xs : List Bytes} {w : Bytes} {i : Nat} (h : i < xs.length) (e : w = xs[i]) : findI xs w i = i := by
  unfold findI
  rw [List.drop_eq_getElem_cons h, List.idxOf?_cons]
  simp [e]
theorem findI_miss {xs : List Bytes} {w : Bytes} {i : Nat} (h : i < xs.length) (e : w ≠ xs[i]) : findI xs w i = findI xs w (i + 1) := by
  unfold findI
  rw [List.drop_eq_getElem_cons h, List.idxOf?_cons]
  have : (xs[i] == w) = false := by simp; exact fun h => e h.symm
  rw [this]
  cases (xs.drop (i + 1)).idxOf? w with
  | none => simp
  | some k => simp; omega
theorem index_loop {xs : List Bytes} {w : Bytes} (hl : xs.length < 1000) {n : Nat} : ∀ (k i : Nat), xs.length - i ≤ k → i ≤ xs.length → ∀ m, k < m → ∀ n' e s, e 0 = strs xs → e 1 = .str w → e 7 = I xs.length → e 8 = I i →
    aLoop (F173_L0 (den C n) n') m e s = some (I (findI xs w i), s) := by
  have out : ∀ m, 0 < m → ∀ n' e s, e 0 = strs xs → e 1 = .str w → e 7 = I xs.length → e 8 = I xs.length → aLoop (F173_L0 (den C n) n') m e s = some (I (findI xs w xs.length), s) := by
    intro m hm n' e s h0 h1 h7 h8
    obtain ⟨m, rfl⟩ : ∃ j, m = j + 1 := ⟨m - 1, by omega⟩
    have : findI xs w xs.length = -1 := by unfold findI; rw [List.drop_length]; rfl
    rw [aLoop, F173_L0, this]
    simp -implicitDefEqProofs only [sL, h7, h8, Nat.lt_irrefl, decide_false]
  intro k
  induction k with
  | zero =>
    intro i hk hi m hm n' e s h0 h1 h7 h8
    have : i = xs.length := by omega
    subst this; exact out m hm n' e s h0 h1 h7 h8
  | succ k ih =>
    intro i hk hi m hm n' e s h0 h1 h7 h8
    by_cases hlt : i < xs.length
    · obtain ⟨m, rfl⟩ : ∃ j, m = j + 1 := ⟨m - 1, by omega⟩
      rw [aLoop, F173_L0]
      by_cases e' : w = xs[i]
      · rw [findI_hit hlt e']
        have hs : (strs xs).strip = strs xs := rfl
        simp -implicitDefEqProofs only [sL, hs, h0, h1, h7, h8, hlt, decide_true, idx215 hlt, e', beq_self_eq_true]
      · rw [findI_miss hlt e']
        have hs : (strs xs).strip = strs xs := rfl
        simp -implicitDefEqProofs only [sL, hs, h0, h1, h7, h8, hlt, decide_true, idx215 hlt, beq_eq_false_iff_ne.2 e', wadd1 (a := i) (by omega)]
        exact ih (i + 1) (by omega) (by omega) m (by omega) n' _ s (by simp [upds_at, upd_at, h0]) (by simp [upds_at, upd_at, h1]) (by simp [upds_at, upd_at, h7]) (by simp [upds_at, upd_at])
    · have : i = xs.length := by omega
      subst this; exact out m (by omega) n' e s h0 h1 h7 h8
theorem index_run (xs : List Bytes) (w : Bytes) (hl : xs.length < 50) : AN 60 173 [strs xs, .str w] (I (findI xs w 0)) := by
  refine .intro (N := 59) en173 (by rw [noRefL_cons, noRefL_cons, noRefL_nil, noRef_sl, strs_noRef, noRef_str]; rfl) (by rfl) fun n hn => ⟨[], ?_⟩
  have hs : (strs xs).strip = strs xs := rfl
  rw [F173_eq, F173]
  simp -implicitDefEqProofs only [sL, hs, len215]
  rw [index_loop (xs := xs) (w := w) (by omega) xs.length 0 (by omega) (by omega) n (by omega) n _ [] (by simp [upds_at, upd_at, argEnv]) (by simp [upds_at, upd_at, argEnv]) (by simp [upds_at, upd_at]) (by simp [upds_at, upd_at])]
theorem findI_ge (xs : List Bytes) (w : Bytes) : decide (0 ≤ findI xs w 0) = xs.contains w := by
  unfold findI
  rw [List.drop_zero]
  cases h : xs.idxOf? w with
  | none =>
    have : w ∉ xs := by simpa [List.idxOf?_eq_none_iff] using h
    simp [this]
  | some k =>
    have : w ∈ xs := by
      refine Classical.byContradiction fun hn => ?_
      rw [List.idxOf?_eq_none_iff.2 hn] at h; cases h
    simp [this]
theorem contains_run (xs : List Bytes) (w : Bytes) (hl : xs.length < 50) : AN 62 168 [strs xs, .str w] (.bool (xs.contains w)) := by
  refine .intro (N := 61) en168 (by rw [noRefL_cons, noRefL_cons, noRefL_nil, noRef_sl, strs_noRef, noRef_str]; rfl) (by rfl) fun n hn => ⟨[], ?_⟩
  have q := (index_run xs w hl).of (n := n) (by omega)
  have hs : (strs xs).strip = strs xs := rfl
  rw [F168_eq, F168]
  simp -implicitDefEqProofs only [sL, hs, q]
  rw [findI_ge]
def Rd (ts : List Tok) (f : FuncId) (args : Nat → List AV) (v : List Tok → AV) : Prop := ∀ n, ts.length + 80 ≤ n → ∀ P s pos tk st, Rdy ts P s pos tk st → ∃ t, aCall Tryz.prog (den C n) f (args P) s = some (v (ts.drop pos), s ++ t)
theorem field80_0 (a b : AV) : aField Tryz.prog 80 0 (.agg [a, b]) = some a.strip := by
  have hu : (match Tryz.prog.underlying 80 with | some (.struct fs) => fs[0]?.map fun x => (isAggT Tryz.prog x.type, szOf Tryz.prog x.type, x.offset) | _ => none) = some (some false, some 1, 0) := by kernel_rfl
  unfold aField
  simp only
  split at hu
  · rename_i fs h
    rw [h]
    simp only
    cases hx : fs[0]? with
    | none => rw [hx] at hu; cases hu
    | some x =>
      rw [hx] at hu
      simp only [Option.map_some, Option.some.injEq, Prod.mk.injEq] at hu
      obtain ⟨h1, h2, h3⟩ := hu
      simp [h1, h2, h3, aLoadC]
  · cases hu
theorem at_rd {ts : List Tok} (xs : List Bytes) (hl : xs.length < 50) : Rd ts 106 (fun P => [.ref P 0, strs xs]) fun r => .bool (atT xs (pk r)) := by
  intro n hn P s pos tk st h
  obtain ⟨n, rfl⟩ : ∃ j, n = j + 1 := ⟨n - 1, by omega⟩
  obtain ⟨t, e1⟩ := peek_run h (n := n) (by omega)
  show ∃ t, aCall Tryz.prog (den C (n + 1)) 106 [.ref P 0, strs xs] s = some (AV.bool (atT xs (pk (ts.drop pos))), s ++ t)
  generalize pk (ts.drop pos) = x at e1 ⊢
  refine ⟨t ++ [(80, [I x.1, .str x.2])], ?_⟩
  rw [callR en106 (ref1 ..), F106_eq, F106, ← List.append_assoc]
  generalize s ++ t = s1 at *
  have l0 : aLoad false false 1 (.ref s1.length 0) (s1 ++ [(80, [I x.1, .str x.2])]) = some (I x.1, s1 ++ [(80, [I x.1, .str x.2])]) := by rw [ld (o := 0) gapp_new (by decide) rfl (by decide)]; rfl
  have l1 : aLoad false false 1 (.ref s1.length 1) (s1 ++ [(80, [I x.1, .str x.2])]) = some (.str x.2, s1 ++ [(80, [I x.1, .str x.2])]) := by rw [ld (o := 1) gapp_new (by decide) rfl (by decide)]; rfl
  have sto : aStore 2 (s1 ++ [(80, [I 0, .str []])]) (.ref s1.length 0) (tokA x) = some (s1 ++ [(80, [I x.1, .str x.2])]) := by
    rw [ParF.st (o := 0) (n := 2) (v := tokA x) gapp_new (by decide) rfl rfl (by show 0 + 2 ≤ 2; omega), set_end]; rfl
  have c := (contains_run xs x.2 hl).of (n := n) (by omega) (s1 ++ [(80, [I x.1, .str x.2])])
  have k1 : ((x.1 : Int) == 104) = (x.1 == 104) := by rw [Bool.eq_iff_iff]; simp; omega
  have k2 : ((x.1 : Int) == 107) = (x.1 == 107) := by rw [Bool.eq_iff_iff]; simp; omega
  have hs : (strs xs).strip = strs xs := rfl
  unfold atT
  cases b1 : (x.1 == 104) with
  | true => simp -implicitDefEqProofs only [sL, e1, zero80, sto, l0, k1, b1, hs, l1, c, Bool.true_or, Bool.true_and]
  | false =>
    cases b2 : (x.1 == 107) with
    | true => simp -implicitDefEqProofs only [sL, e1, zero80, sto, l0, k1, k2, b1, b2, hs, l1, c, Bool.false_or, Bool.true_and]
    | false => simp -implicitDefEqProofs only [sL, e1, zero80, sto, l0, k1, k2, b1, b2, hs, l1, c, Bool.false_or, Bool.false_and]
end ParF
end

section
set_option maxRecDepth 100000
namespace ParF
open Go Go.Abs Go.Proofs Pm
def PR (ts : List Tok) (P : Nat) (s : Heap) (rest : List Tok) (base : List Lv) (k : Nat) (cs : List Tree) (J : List Nat) : Prop :=
  ∃ pos i, rest = ts.drop pos ∧ PS ts P s pos (base ++ [⟨k, cs, i⟩]) J
theorem PS.rdy {ts : List Tok} {P : Nat} {s : Heap} {pos : Nat} {lvs : List Lv} {J : List Nat} (h : PS ts P s pos lvs J) : ∃ tk st, Rdy ts P s pos tk st := by
  obtain ⟨tk, Q, junk, h1, h2, h3, h4⟩ := h.par
  exact ⟨tk, _, h1, h2, h.pos, h.len⟩
theorem PS.app {ts : List Tok} {P : Nat} {s : Heap} {pos : Nat} {lvs : List Lv} {J : List Nat} (h : PS ts P s pos lvs J) (t : Heap) : PS ts P (s ++ t) pos lvs J :=
  h.frame fun x hx => List.getElem?_append_left (h.lt x hx)
theorem Ex.app (s t : Heap) (J : List Nat) : Ex s (s ++ t) J J := ⟨by simp, fun x hx _ => List.getElem?_append_left hx, fun _ h => .inl h⟩
theorem PR.app {ts : List Tok} {P : Nat} {s : Heap} {rest : List Tok} {base : List Lv} {k : Nat} {cs : List Tree} {J : List Nat} (h : PR ts P s rest base k cs J) (t : Heap) : PR ts P (s ++ t) rest base k cs J := by
  obtain ⟨pos, i, e, h⟩ := h; exact ⟨pos, i, e, h.app t⟩
theorem Rd.use {ts : List Tok} {f : FuncId} {args : Nat → List AV} {v : List Tok → AV} (q : Rd ts f args v) {n : Nat} (hn : ts.length + 80 ≤ n) {P : Nat} {s : Heap} {rest : List Tok} {base : List Lv} {k : Nat} {cs : List Tree} {J : List Nat}
    (h : PR ts P s rest base k cs J) : ∃ s', aCall Tryz.prog (den C n) f (args P) s = some (v rest, s') ∧ PR ts P s' rest base k cs J ∧ Ex s s' J J := by
  obtain ⟨pos, i, rfl, h⟩ := h
  obtain ⟨tk, st, r⟩ := h.rdy
  obtain ⟨t, e⟩ := q n hn P s pos tk st r
  exact ⟨_, e, ⟨pos, i, rfl, h.app t⟩, .app s t J⟩
theorem build52 (x y : AV) (hx : x.cells = [x]) (hy : y.cells = [y]) (sx : x.strip = x) (sy : y.strip = y) (ox : x.solid = true) (oy : y.solid = true) : aBuild Tryz.prog 52 [(0, x), (1, y)] = some (.agg [x, y, .nils]) := by
  have hz : zeroOf Tryz.prog 52 = some (.agg [I 0, .str [], .nils]) := by kernel_rfl
  have hu : (match Tryz.prog.underlying 52 with | some (.struct fs) => placesOf Tryz.prog fs.toList | _ => none) = some [(0, 1), (1, 1), (2, 1)] := by kernel_rfl
  unfold aBuild
  split at hu
  · rename_i fs h
    rw [hz, h]
    simp [hu, aFill, hx, hy, setL, sx, sy, ox, oy]
  · cases hu
theorem build52_1 (x : AV) (hx : x.cells = [x]) (sx : x.strip = x) (ox : x.solid = true) : aBuild Tryz.prog 52 [(0, x)] = some (.agg [x, .str [], .nils]) := by
  have hz : zeroOf Tryz.prog 52 = some (.agg [I 0, .str [], .nils]) := by kernel_rfl
  have hu : (match Tryz.prog.underlying 52 with | some (.struct fs) => placesOf Tryz.prog fs.toList | _ => none) = some [(0, 1), (1, 1), (2, 1)] := by kernel_rfl
  unfold aBuild
  split at hu
  · rename_i fs h
    rw [hz, h]
    simp [hu, aFill, hx, setL, sx, ox]
  · cases hu
theorem setpos {ts : List Tok} {P : Nat} {s : Heap} {pos pos' : Nat} {lvs : List Lv} {J : List Nat} (h : PS ts P s pos lvs J) (hp : pos' ≤ ts.length) : ∃ s', aStore 1 s (.ref P 1) (I pos') = some s' ∧ PS ts P s' pos' lvs J ∧ Ex s s' J J := by
  obtain ⟨tk, Q, junk, h1, h2, h3, h4⟩ := h.par
  have nd := h.nd
  rw [h4, List.nodup_cons, List.nodup_cons] at nd
  have hPQ : P ≠ Q := fun e => nd.1 (by rw [e]; exact List.mem_cons_self ..)
  refine ⟨_, st (n := 1) (o := 1) (v := I pos') h2 (by decide) rfl rfl (by show 2 ≤ 3; omega), ⟨⟨tk, Q, junk, h1, gset_eq h2, (gset_ne hPQ).trans h3, h4⟩, fun l hl => Lv.ok_frame (h.ok l hl) fun i hi => gset_ne fun e => ?_, h.nd, hp, h.len⟩, ⟨by rw [set_length]; exact Nat.le_refl _, fun x hx hj => gset_ne fun e => hj ?_, fun _ h => .inl h⟩⟩
  · rw [e] at nd
    exact nd.1 (List.mem_cons_of_mem _ (List.mem_filterMap.2 ⟨l, hl, hi⟩))
  · rw [h4, ← e]; exact List.mem_cons_self ..
theorem isT_leaf (t : Tok) : IsT (leaf t) (.agg [I t.1, .str t.2, .nils]) := .mk _ _ _ _ .nil
theorem addToken_run {ts : List Tok} {P pos : Nat} {s : Heap} {base : List Lv} {l : Lv} {J : List Nat} (h : PS ts P s pos (base ++ [l]) J) (hp : pos < ts.length) (hn : l.cs.length + base.length < 1000000000) :
    ∃ s' i' J', (∀ n, aCall Tryz.prog (den C (n + 3)) 116 [.ref P 0] s = some (.tup [], s')) ∧ PS ts P s' (pos + 1) (base ++ [⟨l.k, l.cs ++ [leaf ts[pos]], i'⟩]) J' ∧ Ex s s' J J' := by
  obtain ⟨tk, st0, r⟩ := h.rdy
  obtain ⟨s1, i1, J1, a1, p1, x1⟩ := add_run h (isT_leaf ts[pos]) hn
  obtain ⟨tk', st', r'⟩ := p1.rdy
  obtain ⟨s2, a2, p2, x2⟩ := setpos p1 (pos' := pos + 1) (by omega)
  refine ⟨s2, i1, J1, fun n => ?_, p2, x1.trans x2⟩
  have e1 := a1 (n + 1)
  have b := build52 (I ts[pos].1) (.str ts[pos].2) rfl rfl rfl rfl rfl rfl
  have hl := h.len
  rw [callR en116 (ref1 ..), F116_eq, F116]
  have nr : noRefL [AV.ref P 0, .agg [I ts[pos].1, .str ts[pos].2, .nils]] = false := ref1 ..
  simp -implicitDefEqProofs only [sL, r.ld0, r.ld1, toks_at r.htk hp, b, e1, r'.ld1, wadd1 (a := pos) (by omega), a2, nr, Bool.false_eq_true, ite_false, d116_0]
theorem drop_cons {ts : List Tok} {i : Nat} (h : i < ts.length) : ts.drop i = ts[i] :: ts.drop (i + 1) := List.drop_eq_getElem_cons h
theorem skip_loop {ts : List Tok} {P : Nat} {base : List Lv} {kd n : Nat} (hn : 5 ≤ n) : ∀ (k pos : Nat), ts.length - pos ≤ k → ∀ (m : Nat), k < m → ∀ n' e s cs i J, e 0 = .ref P 0 → PS ts P s pos (base ++ [⟨kd, cs, i⟩]) J → cs.length + k + base.length < 1000000000 →
    ∃ s' i' J' pos', aLoop (F61_L0 (den C n) n') m e s = some (.tup [], s') ∧ ts.drop pos' = skp (ts.drop pos) ∧ PS ts P s' pos' (base ++ [⟨kd, cs ++ ((ts.drop pos).takeWhile triv).map leaf, i'⟩]) J' ∧ Ex s s' J J' := by
  obtain ⟨n, rfl⟩ : ∃ j, n = j + 3 := ⟨n - 3, by omega⟩
  have out : ∀ pos m, 0 < m → ∀ n' e s cs i J, e 0 = .ref P 0 → PS ts P s pos (base ++ [⟨kd, cs, i⟩]) J → (pos = ts.length ∨ ∃ h : pos < ts.length, triv ts[pos] = false) →
      ∃ s' i' J' pos', aLoop (F61_L0 (den C (n + 3)) n') m e s = some (.tup [], s') ∧ ts.drop pos' = skp (ts.drop pos) ∧ PS ts P s' pos' (base ++ [⟨kd, cs ++ ((ts.drop pos).takeWhile triv).map leaf, i'⟩]) J' ∧ Ex s s' J J' := by
    intro pos m hm n' e s cs i J he h ho
    obtain ⟨m, rfl⟩ : ∃ j, m = j + 1 := ⟨m - 1, by omega⟩
    obtain ⟨tk, st0, r⟩ := h.rdy
    have e1 : ts.drop pos = skp (ts.drop pos) ∧ (ts.drop pos).takeWhile triv = [] := by
      rcases ho with rfl | ⟨hlt, ht⟩
      · rw [List.drop_length]; exact ⟨rfl, rfl⟩
      · rw [drop_cons hlt, skp, List.dropWhile_cons, List.takeWhile_cons, if_neg (by rw [ht]; exact Bool.noConfusion), if_neg (by rw [ht]; exact Bool.noConfusion)]; exact ⟨rfl, rfl⟩
    refine ⟨s, i, J, pos, ?_, e1.1, by rw [e1.2, List.map_nil, List.append_nil]; exact h, .refl s J⟩
    rw [aLoop, F61_L0]
    rcases ho with rfl | ⟨hlt, ht⟩
    · simp -implicitDefEqProofs only [sL, he, r.ld0, r.ld1, toks_len r.htk, Nat.lt_irrefl, decide_false, d61_0]
      exact drawOK_base (by kernel_rfl)
    · have tv := (triv_run ts[pos].1).of (n := n + 3) (by omega) s
      rw [triv_eq] at ht
      rw [ht] at tv
      simp -implicitDefEqProofs only [sL, he, r.ld0, r.ld1, toks_len r.htk, hlt, decide_true, toks_at r.htk hlt, tv, d61_0]
  intro k
  induction k with
  | zero =>
    intro pos hk m hm n' e s cs i J he h hb
    have := h.pos
    exact out pos m hm n' e s cs i J he h (.inl (by omega))
  | succ k ih =>
    intro pos hk m hm n' e s cs i J he h hb
    have hpos := h.pos
    by_cases hlt : pos < ts.length
    · cases ht : triv ts[pos] with
      | false => exact out pos m (by omega) n' e s cs i J he h (.inr ⟨hlt, ht⟩)
      | true =>
        obtain ⟨m, rfl⟩ : ∃ j, m = j + 1 := ⟨m - 1, by omega⟩
        obtain ⟨tk, st0, r⟩ := h.rdy
        have tv := (triv_run ts[pos].1).of (n := n + 3) (by omega) s
        have ht' := ht
        rw [triv_eq] at ht'
        rw [ht'] at tv
        obtain ⟨s1, i1, J1, a1, p1, x1⟩ := addToken_run h hlt (by show cs.length + _ < _; omega)
        have e1 := a1 n
        obtain ⟨s2, i2, J2, pos2, a2, d2, p2, x2⟩ := ih (pos + 1) (by omega) m (by omega) n' (upds e [(2, .ref P 0), (3, .ref P 0), (4, .ref P 1), (5, I pos), (6, .ref P 0), (7, .ref P 0), (8, .ref P 0), (9, tk), (10, I ts.length), (11, .bool true), (12, .bool true), (13, .ref P 0), (14, .ref P 0), (15, .ref P 0), (16, tk), (17, .ref P 0), (18, .ref P 0), (19, .ref P 1), (20, I pos), (21, .box [I ts[pos].1, .str ts[pos].2] 0), (22, .box [I ts[pos].1, .str ts[pos].2] 0), (23, I ts[pos].1), (24, .bool true), (25, .bool true), (26, .ref P 0), (27, .tup [])]) s1 (cs ++ [leaf ts[pos]]) i1 J1 (by simp [upds_at, upd_at, he]) p1 (by rw [List.length_append]; show cs.length + 1 + _ + _ < _; omega)
        have e3 : skp (ts.drop pos) = skp (ts.drop (pos + 1)) := by rw [drop_cons hlt, skp, List.dropWhile_cons, if_pos ht]; rfl
        have e4 : (ts.drop pos).takeWhile triv = ts[pos] :: (ts.drop (pos + 1)).takeWhile triv := by rw [drop_cons hlt, List.takeWhile_cons, if_pos ht]
        refine ⟨s2, i2, J2, pos2, ?_, by rw [d2, e3], by rw [e4, List.map_cons]; rw [List.append_assoc] at p2; exact p2, x1.trans x2⟩
        rw [aLoop, F61_L0]
        simp -implicitDefEqProofs only [sL, he, r.ld0, r.ld1, toks_len r.htk, hlt, decide_true, toks_at r.htk hlt, tv, e1, d61_0]
        exact a2
    · exact out pos m (by omega) n' e s cs i J he h (.inl (by omega))
theorem skip_run {ts : List Tok} {P : Nat} {s : Heap} {pos : Nat} {base : List Lv} {kd : Nat} {cs : List Tree} {i : Option Nat} {J : List Nat} (h : PS ts P s pos (base ++ [⟨kd, cs, i⟩]) J) (hb : cs.length + ts.length + base.length < 1000000000) {n : Nat} (hn : ts.length + 10 ≤ n) :
    ∃ s' i' J' pos', aCall Tryz.prog (den C n) 61 [.ref P 0] s = some (.tup [], s') ∧ ts.drop pos' = skp (ts.drop pos) ∧ PS ts P s' pos' (base ++ [⟨kd, cs ++ ((ts.drop pos).takeWhile triv).map leaf, i'⟩]) J' ∧ Ex s s' J J' := by
  obtain ⟨n, rfl⟩ : ∃ j, n = j + 1 := ⟨n - 1, by omega⟩
  obtain ⟨s', i', J', pos', a, b, c, d⟩ := skip_loop (n := n) (by omega) ts.length pos (by omega) n (by omega) n (argEnv [.ref P 0]) s cs i J rfl h (by omega)
  refine ⟨s', i', J', pos', ?_, b, c, d⟩
  rw [callR en61 (ref1 ..), F61_eq, F61]
  exact a
theorem len_le_sz (cs : List Tree) : cs.length ≤ szL cs := by
  induction cs with
  | nil => exact Nat.zero_le _
  | cons t cs ih => cases t; rw [List.length_cons, szL, szT_mk]; omega
def Sim (ts : List Tok) (m : Nat) (g : G) (rv : Bool → AV) (F : Nat → Nat → Heap → Option (AV × Heap)) : Prop :=
  ∀ n, m * 20 + ts.length + 100 ≤ n → ∀ P s rest base k cs J b rest' cs', PR ts P s rest base k cs J → run m g rest cs = some (b, rest', cs') → base.length + szL cs' < 900000000 →
    ∃ s' J', F n P s = some (rv b, s') ∧ PR ts P s' rest' base k cs' J' ∧ Ex s s' J J'
abbrev vd : Bool → AV := fun _ => .tup []
abbrev bv : Bool → AV := .bool
noncomputable def fnF (f : FuncId) (args : Nat → List AV) : Nat → Nat → Heap → Option (AV × Heap) := fun n P s => aCall Tryz.prog (den C n) f (args P) s
noncomputable def cvF (v : Nat → AV) : Nat → Nat → Heap → Option (AV × Heap) := fun n P s => aCallV Tryz.prog (den C n) (v P) [] s
theorem run_pos {m : Nat} {g : G} {ts : List Tok} {cs : List Tree} {r : Bool × List Tok × List Tree} (h : run m g ts cs = some r) : ∃ m', m = m' + 1 := by
  cases m with
  | zero => rw [Pm.run_zero] at h; cases h
  | succ m => exact ⟨m, rfl⟩
theorem bump_sim (ts : List Tok) (m : Nat) : Sim ts m .bump vd (fnF 113 fun P => [.ref P 0]) := by
  intro n hn P s rest base k cs J b rest' cs' h hr hb
  obtain ⟨m, rfl⟩ := run_pos hr
  obtain ⟨n, rfl⟩ : ∃ j, n = j + 4 := ⟨n - 4, by omega⟩
  rw [run_bump] at hr
  simp only [Option.some.injEq, Prod.mk.injEq] at hr
  obtain ⟨rfl, rfl, rfl⟩ := hr
  obtain ⟨pos, i, rfl, h⟩ := h
  have hl := h.len
  have hc := len_le_sz (cs ++ (((ts.drop pos).takeWhile triv).map leaf ++ ((skp (ts.drop pos)).take 1).map leaf))
  rw [List.length_append] at hc
  obtain ⟨s1, i1, J1, pos1, a1, d1, p1, x1⟩ := skip_run h (by omega) (n := n + 3) (by omega)
  obtain ⟨tk, st0, r⟩ := p1.rdy
  have hz := len_le_sz (cs ++ ((ts.drop pos).takeWhile triv).map leaf)
  have hz2 : szL (cs ++ ((ts.drop pos).takeWhile triv).map leaf) ≤ szL (cs ++ (((ts.drop pos).takeWhile triv).map leaf ++ ((skp (ts.drop pos)).take 1).map leaf)) := by
    rw [← List.append_assoc, szL_append (cs ++ _)]; omega
  by_cases hlt : pos1 < ts.length
  · obtain ⟨s2, i2, J2, a2, p2, x2⟩ := addToken_run p1 hlt (by show (cs ++ _).length + _ < _; omega)
    have e2 := a2 n
    have es : skp (ts.drop pos) = ts[pos1] :: ts.drop (pos1 + 1) := by rw [← d1, drop_cons hlt]
    refine ⟨s2, J2, ?_, ⟨pos1 + 1, i2, by rw [la, es]; rfl, ?_⟩, x1.trans x2⟩
    · show aCall Tryz.prog (den C (n + 4)) 113 [.ref P 0] s = _
      rw [callR en113 (ref1 ..), F113_eq, F113]
      simp -implicitDefEqProofs only [sL, a1, r.ld0, r.ld1, toks_len r.htk, hlt, decide_true, e2, d113_1]
    · rw [es, ← List.append_assoc]; exact p2
  · have hp := p1.pos
    have he : pos1 = ts.length := by omega
    have es : skp (ts.drop pos) = [] := by rw [← d1, he, List.drop_length]
    refine ⟨s1, J1, ?_, ⟨pos1, i1, by rw [la, es, d1, es]; rfl, ?_⟩, x1⟩
    · show aCall Tryz.prog (den C (n + 4)) 113 [.ref P 0] s = _
      rw [callR en113 (ref1 ..), F113_eq, F113]
      simp -implicitDefEqProofs only [sL, a1, r.ld0, r.ld1, toks_len r.htk, hlt, decide_false, d113_1]
    · rw [es, List.take_nil, List.map_nil, List.append_nil]; exact p1
end ParF
end

section
set_option maxRecDepth 100000
namespace ParF
open Go Go.Abs Go.Proofs Pm
theorem row_strip (l : Lv) : l.row.map AV.strip = l.row := by
  show [(I l.k).strip, (AV.str []).strip, l.ch.strip] = l.row
  rw [ch_strip]; rfl
theorem PS.mem {ts : List Tok} {P : Nat} {s : Heap} {pos : Nat} {lvs : List Lv} {J : List Nat} (h : PS ts P s pos lvs J) {l : Lv} (hl : l ∈ lvs) {i : Nat} (hi : l.id = some i) : i ∈ J := by
  obtain ⟨tk, Q, junk, h1, h2, h3, h4⟩ := h.par
  rw [h4]
  exact List.mem_cons_of_mem _ (List.mem_cons_of_mem _ (List.mem_filterMap.2 ⟨l, hl, hi⟩))
theorem push_lv {ts : List Tok} {P pos : Nat} {s : Heap} {lvs : List Lv} {J : List Nat} (h : PS ts P s pos lvs J) (hn : lvs.length < 1000000000) (h0 : 0 < lvs.length) {l : Lv} (hl : l.ok s) (hid : ∀ i, l.id = some i → i ∉ J ∧ i < s.length) :
    ∃ tk Q s1 s2 s3 J3, s[P]? = some (128, [tk, I pos, .rs 52 3 Q 0 lvs.length]) ∧ Q ≠ P ∧ aRsAppend Tryz.prog 50 50 (.rs 52 3 Q 0 lvs.length) (.sl 52 3 [zrow] .own) s = some (.rs 52 3 s.length 0 (lvs.length + 1), s1) ∧ aStore 3 s1 (.ref s.length (lvs.length * 3)) (.agg l.row) = some s2 ∧
      aStore 1 s2 (.ref P 2) (.rs 52 3 s.length 0 (lvs.length + 1)) = some s3 ∧ PS ts P s3 pos (lvs ++ [l]) J3 ∧ s.length ≤ s3.length ∧ (∀ x, x < s.length → x ∉ J → s3[x]? = s[x]?) ∧ (∀ x ∈ J3, x ∈ J ∨ l.id = some x ∨ s.length ≤ x) ∧ P < s.length := by
  have hlt := h.lt
  have hmem : ∀ l' ∈ lvs, ∀ i, l'.id = some i → i ∈ J := fun l' hl' i hi => h.mem hl' hi
  obtain ⟨tk, Q, junk, h1, h2, h3, h4⟩ := h.par
  have nd := h.nd
  rw [h4, List.nodup_cons, List.nodup_cons] at nd
  obtain ⟨n1, n2, n3⟩ := nd
  have hPQ : P ≠ Q := fun e => n1 (by rw [e]; exact List.mem_cons_self ..)
  have hP := glt h2
  have hQ := glt h3
  have hr := row_length lvs
  have hidP : ∀ l' ∈ lvs, ∀ i, l'.id = some i → i ≠ P ∧ i ≠ Q := by
    intro l' hl' i hi
    have hm : i ∈ lvs.filterMap Lv.id := List.mem_filterMap.2 ⟨l', hl', hi⟩
    exact ⟨fun e => n1 (e ▸ List.mem_cons_of_mem _ hm), fun e => n2 (e ▸ hm)⟩
  have hPJ : P ∈ J := by rw [h4]; exact List.mem_cons_self ..
  have hQJ : Q ∈ J := by rw [h4]; exact List.mem_cons_of_mem _ (List.mem_cons_self ..)
  have hidl : ∀ i, l.id = some i → i ≠ P ∧ i ≠ Q := fun i hi => ⟨fun e => (hid i hi).1 (e ▸ hPJ), fun e => (hid i hi).1 (e ▸ hQJ)⟩
  have ne : lvs.flatMap Lv.row ++ junk ≠ [] := by
    intro e; have := congrArg List.length e; rw [List.length_append, hr, List.length_nil] at this; omega
  have e1 := app_rs (len := lvs.length) h3 (by rw [List.length_append, hr]; omega) ne hn
  have tk1 : (lvs.flatMap Lv.row ++ junk).take (lvs.length * 3) = lvs.flatMap Lv.row := by
    rw [List.take_append_of_le_length (by omega), List.take_of_length_le (by omega)]
  rw [tk1] at e1
  have g : (kill s Q ++ [(52, lvs.flatMap Lv.row ++ [I 0, .str [], .nils])])[s.length]? = some (52, lvs.flatMap Lv.row ++ [I 0, .str [], .nils]) := by
    have := gapp_new (s := kill s Q) (x := (52, lvs.flatMap Lv.row ++ [I 0, .str [], .nils]))
    rw [kill_length] at this; exact this
  have e2 : aStore 3 (kill s Q ++ [(52, lvs.flatMap Lv.row ++ [I 0, .str [], .nils])]) (.ref s.length (lvs.length * 3)) (.agg l.row) = some (kill s Q ++ [(52, lvs.flatMap Lv.row ++ l.row)]) := by
    rw [ParF.st (n := 3) (o := lvs.length * 3) (v := .agg l.row) g (by decide) rfl rfl (by rw [List.length_append, hr]; show _ ≤ _ + 3; omega)]
    have e : lvs.length * 3 = (lvs.flatMap Lv.row).length := by omega
    show some (List.set _ s.length (52, setL _ _ (l.row.map AV.strip))) = _
    rw [row_strip, e, setL_end (lvs.flatMap Lv.row) l.row [I 0, .str [], .nils] rfl]
    have := set_end (kill s Q) (52, lvs.flatMap Lv.row ++ [I 0, .str [], .nils]) (52, lvs.flatMap Lv.row ++ l.row)
    rw [kill_length] at this
    rw [this]
  have fr : ∀ x, x < s.length → x ≠ Q → (kill s Q ++ [(52, lvs.flatMap Lv.row ++ l.row)])[x]? = s[x]? := by
    intro x hx hne
    rw [gapp_old (by rw [kill_length]; exact hx), gkill_ne (Ne.symm hne)]
  have p2 : (kill s Q ++ [(52, lvs.flatMap Lv.row ++ l.row)])[P]? = some (128, [tk, I pos, .rs 52 3 Q 0 lvs.length]) := (fr P hP hPQ).trans h2
  have e3 : aStore 1 (kill s Q ++ [(52, lvs.flatMap Lv.row ++ l.row)]) (.ref P 2) (.rs 52 3 s.length 0 (lvs.length + 1)) = some ((kill s Q ++ [(52, lvs.flatMap Lv.row ++ l.row)]).set P (128, [tk, I pos, .rs 52 3 s.length 0 (lvs.length + 1)])) :=
    ParF.st (n := 1) (o := 2) (v := .rs 52 3 s.length 0 (lvs.length + 1)) p2 (by decide) rfl rfl (by show 3 ≤ 3; omega)
  have len3 : ((kill s Q ++ [(52, lvs.flatMap Lv.row ++ l.row)]).set P (128, [tk, I pos, .rs 52 3 s.length 0 (lvs.length + 1)])).length = s.length + 1 := by rw [set_length, app_length, kill_length]
  have fr3 : ∀ x, x < s.length → x ≠ Q → x ≠ P → ((kill s Q ++ [(52, lvs.flatMap Lv.row ++ l.row)]).set P (128, [tk, I pos, .rs 52 3 s.length 0 (lvs.length + 1)]))[x]? = s[x]? := by
    intro x hx hne hne'
    rw [gset_ne (Ne.symm hne'), fr x hx hne]
  refine ⟨tk, Q, _, _, _, P :: s.length :: (lvs ++ [l]).filterMap Lv.id, h2, hPQ.symm, e1, e2, e3, ⟨⟨tk, s.length, [], h1, ?_, ?_, rfl⟩, fun l' hl' => ?_, ?_, h.pos, h.len⟩, by omega, fun x hx hj => ?_, fun x hx => ?_, hP⟩
  · rw [gset_eq p2, List.length_append]; rfl
  · have := gapp_new (s := kill s Q) (x := (52, lvs.flatMap Lv.row ++ l.row))
    rw [kill_length] at this
    rw [gset_ne (by omega), this, flat_snoc, List.append_nil]
  · rw [List.mem_append, List.mem_singleton] at hl'
    rcases hl' with k | k
    · refine Lv.ok_frame (h.ok l' k) fun i hi => ?_
      obtain ⟨a, b⟩ := hidP l' k i hi
      exact fr3 i (hlt i (hmem l' k i hi)) b a
    · rw [k]
      refine Lv.ok_frame hl fun i hi => ?_
      obtain ⟨a, b⟩ := hidl i hi
      exact fr3 i (hid i hi).2 b a
  · rw [ids_snoc, List.nodup_cons, List.nodup_cons, List.nodup_append]
    have mem : ∀ i, i ∈ lvs.filterMap Lv.id ++ l.id.toList → i ≠ P ∧ i < s.length := by
      intro i hi
      rw [List.mem_append] at hi
      rcases hi with k | k
      · obtain ⟨l', hl', hi⟩ := List.mem_filterMap.1 k
        exact ⟨(hidP l' hl' i hi).1, hlt i (hmem l' hl' i hi)⟩
      · rw [Option.mem_toList] at k
        exact ⟨(hidl i k).1, (hid i k).2⟩
    refine ⟨fun hm => ?_, fun hm => Nat.lt_irrefl _ (mem _ hm).2, n3, ?_, fun i hi j hj e => ?_⟩
    · rw [List.mem_cons] at hm
      rcases hm with k | k
      · omega
      · exact (mem P k).1 rfl
    · cases l.id <;> simp
    · rw [Option.mem_toList] at hj
      obtain ⟨l', hl', hi'⟩ := List.mem_filterMap.1 hi
      exact (hid j hj).1 (e ▸ hmem l' hl' i hi')
  · refine fr3 x hx (fun e => hj ?_) (fun e => hj ?_)
    · rw [e]; exact hQJ
    · rw [e]; exact hPJ
  · rw [ids_snoc, List.mem_cons, List.mem_cons, List.mem_append, Option.mem_toList] at hx
    rcases hx with k | k | k | k
    · exact .inl (by rw [k]; exact hPJ)
    · exact .inr (.inr (by omega))
    · obtain ⟨l', hl', hi'⟩ := List.mem_filterMap.1 k
      exact .inl (hmem l' hl' x hi')
    · exact .inr (.inl k)
theorem pub_lv {s : Heap} {l : Lv} (h : l.ok s) : ∃ a s1, aPub (.agg l.row) s = some (a, s1) ∧ IsT (.mk l.k [] l.cs) a ∧ s1.length = s.length ∧ ∀ x, l.id ≠ some x → s1[x]? = s[x]? := by
  unfold Lv.ok at h
  cases l with
  | mk k cs id =>
    cases id with
    | none =>
      have h : cs = [] := h
      subst h
      exact ⟨.agg [I k, .str [], .nils], s, rfl, .mk _ _ _ _ .nil, rfl, fun _ _ => rfl⟩
    | some i =>
      obtain ⟨rows, junk, h1, h2, h3⟩ := h
      obtain ⟨r1, r2, r3, r4⟩ := h2.cells
      have r1 : (cellsOf rows).length = 3 * cs.length := r1
      have tk : (cellsOf rows ++ junk).take (cs.length * 3) = cellsOf rows := by
        rw [List.take_append_of_le_length (by omega), List.take_of_length_le (by omega)]
      have e : aPub1 (.rs 52 3 i 0 cs.length) s = some (.sl 52 3 rows .sh, kill s i) := by
        unfold aPub1
        simp only [h1]
        rw [if_pos ⟨trivial, by decide, by decide, by rw [List.length_append]; omega, by rw [tk]; exact r3⟩, tk, r2, show chunks 3 cs.length (cellsOf rows) = rows from r4]
      refine ⟨.agg [I k, .str [], .sl 52 3 rows .sh], kill s i, ?_, .mk _ _ _ _ (.sl _ _ h2), kill_length _ _, fun x hx => gkill_ne fun e => hx (by rw [e])⟩
      have e2 : aPubL [I k, .str [], .rs 52 3 i 0 cs.length] s = some ([I k, .str [], .sl 52 3 rows .sh], kill s i) := by
        have a1 : aPub1 (I k) s = some (I k, s) := rfl
        have a2 : aPub1 (.str []) s = some (.str [], s) := rfl
        simp only [aPubL, a1, a2, e]
      show (match aPubL [I k, .str [], .rs 52 3 i 0 cs.length] s with | some (cs', s') => some (AV.agg cs', s') | none => none) = _
      rw [e2]
end ParF
end

section
set_option maxRecDepth 100000
namespace ParF
open Go Go.Abs Go.Proofs Pm
theorem zero52 : aAlloc Tryz.prog 52 = fun s => some (.ref s.length 0, s ++ [(52, [I 0, .str [], .nils])]) := by
  have h : zeroOf Tryz.prog 52 = some (.agg [I 0, .str [], .nils]) := by kernel_rfl
  funext s
  simp [aAlloc, h]
theorem take_rs (t i n : Nat) : aSl Tryz.prog 50 (.rs t 3 i 0 (n + 1)) none (some (I n)) none = some (.rs t 3 i 0 n) := by
  have hb : aBound (n + 1) (I n) = some n := by
    show (if 0 ≤ (n : Int) ∧ (n : Int) ≤ ((n + 1 : Nat) : Int) then some (n : Int).toNat else none) = some n
    rw [if_pos ⟨by omega, by omega⟩]; rfl
  have hz : szOf Tryz.prog 52 = some 3 := by kernel_rfl
  simp [aSl, under50, aRsTake, hb, hz]
theorem app_len {α : Type} (a b : List α) : (a ++ b).length = a.length + b.length := List.length_append
theorem under50' : ∃ e, Tryz.prog.underlying 50 = some (.slice e) := ⟨52, under50⟩
theorem store_new {s : Heap} {a : AV} {t : Tree} (ht : IsT t a) : aStore 3 (s ++ [(52, [I 0, .str [], .nils])]) (.ref s.length 0) a = some (s ++ [(52, a.cells)]) := by
  obtain ⟨c1, c2, c3, c4⟩ := ht.cells
  have hs : a.solid = true := by rw [c4]; rfl
  have hst : stCells a = a.cells := by rw [c4]; exact c2
  rw [ParF.st (n := 3) (o := 0) (v := a) gapp_new (by decide) hs c1 (by show 3 ≤ 3; omega), set_end, hst]
  have := setL_end [] a.cells [I 0, .str [], .nils] c1.symm
  rw [List.nil_append, List.nil_append] at this
  rw [show setL [I 0, .str [], .nils] 0 a.cells = a.cells from this]
theorem row_drop (base : List Lv) (l : Lv) (junk : List AV) : (((base ++ [l]).flatMap Lv.row ++ junk).drop (base.length * 3)).take 3 = l.row := by
  have hr := row_length base
  have e : base.length * 3 = (base.flatMap Lv.row).length := by omega
  rw [flat_snoc, List.append_assoc, e, List.drop_left]
  rfl
theorem finish_run {ts : List Tok} {P pos : Nat} {s : Heap} {base : List Lv} {l0 l : Lv} {J : List Nat} (h : PS ts P s pos (base ++ [l0] ++ [l]) J) (hn : l0.cs.length + base.length < 900000000) :
    ∃ s' i' J', (∀ n, aCall Tryz.prog (den C (n + 2)) 177 [.ref P 0] s = some (.tup [], s')) ∧ PS ts P s' pos (base ++ [⟨l0.k, l0.cs ++ [.mk l.k [] l.cs], i'⟩]) J' ∧ Ex s s' J J' := by
  obtain ⟨tk, Q, junk, f, rfl⟩ := h.facts
  obtain ⟨a, s1, e1, ht, l1, f1⟩ := pub_lv f.ok
  have hP := glt f.par
  have hQ := glt f.row
  have nP : l.id ≠ some P := fun e => (f.top P e).1 rfl
  have nQ : l.id ≠ some Q := fun e => (f.top Q e).2.1 rfl
  have hlen : (base ++ [l0]).length = base.length + 1 := by rw [List.length_append]; rfl
  have hr := row_length (base ++ [l0] ++ [l])
  have hr' : (base ++ [l0] ++ [l]).length = base.length + 2 := by rw [List.length_append, hlen]; rfl
  have ldq : aLoad false true 3 (.ref Q ((base ++ [l0]).length * 3)) s = some (.agg l.row, s) := by
    rw [ldA (o := (base ++ [l0]).length * 3) f.row (by decide) (by have := app_len ((base ++ [l0] ++ [l]).flatMap Lv.row) junk; omega) (by decide), row_drop]
  have hs2 : ∀ x, x < s.length → l.id ≠ some x → (s1 ++ [(52, a.cells)])[x]? = s[x]? := fun x hx hne => (gapp_old (by omega)).trans (f1 x hne)
  have par2 : (s1 ++ [(52, a.cells)])[P]? = some (128, [tk, I pos, .rs 52 3 Q 0 ((base ++ [l0]).length + 1)]) := (hs2 P hP nP).trans f.par
  have r2 : Rdy ts P (s1 ++ [(52, a.cells)]) pos tk _ := ⟨f.htk, par2, f.pos, f.len⟩
  have ld2 : aLoad false false 1 (.ref P 2) (s1 ++ [(52, a.cells)]) = some (.rs 52 3 Q 0 ((base ++ [l0]).length + 1), s1 ++ [(52, a.cells)]) := ld (o := 2) par2 (by decide) rfl (by decide)
  have st2 : aStore 1 (s1 ++ [(52, a.cells)]) (.ref P 2) (.rs 52 3 Q 0 (base ++ [l0]).length) = some ((s1 ++ [(52, a.cells)]).set P (128, [tk, I pos, .rs 52 3 Q 0 (base ++ [l0]).length])) :=
    ParF.st (n := 1) (o := 2) (v := .rs 52 3 Q 0 (base ++ [l0]).length) par2 (by decide) rfl rfl (by show 3 ≤ 3; omega)
  have len3 : ((s1 ++ [(52, a.cells)]).set P (128, [tk, I pos, .rs 52 3 Q 0 (base ++ [l0]).length])).length = s.length + 1 := by rw [set_length, app_length, l1]
  have fr3 : ∀ x, x < s.length → l.id ≠ some x → x ≠ P → ((s1 ++ [(52, a.cells)]).set P (128, [tk, I pos, .rs 52 3 Q 0 (base ++ [l0]).length]))[x]? = s[x]? := fun x hx hne hp => by
    rw [gset_ne (Ne.symm hp), hs2 x hx hne]
  have ld3 : aLoad false true 3 (.ref s1.length 0) ((s1 ++ [(52, a.cells)]).set P (128, [tk, I pos, .rs 52 3 Q 0 (base ++ [l0]).length])) = some (a, (s1 ++ [(52, a.cells)]).set P (128, [tk, I pos, .rs 52 3 Q 0 (base ++ [l0]).length])) := by
    obtain ⟨c1, c2, c3, c4⟩ := ht.cells
    have g : ((s1 ++ [(52, a.cells)]).set P (128, [tk, I pos, .rs 52 3 Q 0 (base ++ [l0]).length]))[s1.length]? = some (52, a.cells) := by rw [gset_ne (by omega), gapp_new]
    rw [ldA (o := 0) g (by decide) (by omega) (by decide), List.drop_zero, List.take_of_length_le (by omega), ← c4]
  have nd := f.nd
  rw [ids_snoc, List.nodup_append] at nd
  have hb : ∀ i, i ∈ base.filterMap Lv.id → i ∈ (base ++ [l0]).filterMap Lv.id := fun i hi => by rw [ids_snoc]; exact List.mem_append_left _ hi
  have ht0 : ∀ i, l0.id = some i → i ∈ (base ++ [l0]).filterMap Lv.id := fun i hi => by rw [ids_snoc]; exact List.mem_append_right _ (by rw [Option.mem_toList]; exact hi)
  have F3 : Fs ts P ((s1 ++ [(52, a.cells)]).set P (128, [tk, I pos, .rs 52 3 Q 0 (base ++ [l0]).length])) pos base l0 tk Q (l.row ++ junk) := by
    refine ⟨f.htk, by rw [gset_eq par2, hlen], ?_, f.ne, fun i hi => ?_, fun i hi => ?_, nd.1, ?_, fun l' hl' => ?_, f.pos, f.len⟩
    · rw [fr3 Q hQ nQ f.ne.symm, f.row, flat_snoc (base ++ [l0]), List.append_assoc]
    · obtain ⟨a1, a2, a3, a4⟩ := f.hbase i (hb i hi)
      exact ⟨a1, a2, by omega, fun e => nd.2.2 i hi i (by rw [Option.mem_toList]; exact e) rfl⟩
    · obtain ⟨a1, a2, a3, a4⟩ := f.hbase i (ht0 i hi)
      exact ⟨a1, a2, by omega⟩
    · refine Lv.ok_frame (f.oks l0 (by simp)) fun i hi => ?_
      obtain ⟨a1, a2, a3, a4⟩ := f.hbase i (ht0 i hi)
      exact fr3 i a3 a4 a1
    · refine Lv.ok_frame (f.oks l' (by simp [hl'])) fun i hi => ?_
      obtain ⟨a1, a2, a3, a4⟩ := f.hbase i (hb i (List.mem_filterMap.2 ⟨l', hl', hi⟩))
      exact fr3 i a3 a4 a1
  obtain ⟨s4, i4, J4, a4, p4, x4⟩ := add_run F3.ps ht (by omega)
  refine ⟨s4, i4, J4, fun n => ?_, p4, ?_⟩
  · have e4 := a4 n
    have p0 : aLoad false false 1 (.ref P 2) s = some (.rs 52 3 Q 0 ((base ++ [l0]).length + 1), s) := ld (o := 2) f.par (by decide) rfl (by decide)
    have ap : pubR (some (.agg l.row, s)) = some (a, s1) := e1
    have ast : a.strip = a := by have := ht.cells.2.2.2; rw [this]; rfl
    rw [callR en177 (ref1 ..), F177_eq, F177]
    simp -implicitDefEqProofs only [sL, p0, len50_rs, wsub1 (a := (base ++ [l0]).length) (by omega), idx_top, ldq, ap, zero52, ast, store_new ht, ld2, take_rs, st2, ld3, e4]
  · refine Ex.trans (J' := JJ P Q base l0) ⟨by omega, fun x hx hj => ?_, fun x hx => .inl ?_⟩ x4
    · unfold JJ at hj
      simp only [List.mem_cons, List.mem_append, Option.mem_toList, not_or] at hj
      exact fr3 x hx hj.2.2.2 hj.1
    · unfold JJ at hx ⊢
      rw [ids_snoc]
      simp only [List.mem_cons, List.mem_append, Option.mem_toList] at hx ⊢
      rcases hx with k | k | k | k
      · exact .inl k
      · exact .inr (.inl k)
      · exact .inr (.inr (.inl (.inl k)))
      · exact .inr (.inr (.inl (.inr k)))
end ParF
end

section
set_option maxRecDepth 100000
namespace ParF
open Go Go.Abs Go.Proofs Pm
theorem node_inv {m k : Nat} {g : G} {ts ts' : List Tok} {cs cs' : List Tree} {b : Bool} (h : run m (.node k g) ts cs = some (b, ts', cs')) : ∃ m' ds, m = m' + 1 ∧ run m' g ts [] = some (b, ts', ds) ∧ cs' = cs ++ [.mk k [] ds] := by
  obtain ⟨m, rfl⟩ := run_pos h
  rw [run_node] at h
  obtain ⟨⟨r1, t1, d1⟩, h1, h2⟩ := Option.bind_eq_some_iff.1 h
  simp only at h2
  split at h2
  · cases h2; exact ⟨m, d1, rfl, h1, rfl⟩
  · cases h2
theorem wrap_inv {m k : Nat} {g : G} {ts ts' : List Tok} {cs cs' : List Tree} {b : Bool} (h : run m (.wrap k g) ts cs = some (b, ts', cs')) : ∃ m' ini t ds, m = m' + 1 ∧ cs = ini ++ [t] ∧ run m' g ts [t] = some (b, ts', ds) ∧ cs' = ini ++ [.mk k [] ds] := by
  obtain ⟨m, rfl⟩ := run_pos h
  rw [run_wrap] at h
  obtain ⟨t, h0, h⟩ := Option.bind_eq_some_iff.1 h
  obtain ⟨⟨r1, t1, d1⟩, h1, h2⟩ := Option.bind_eq_some_iff.1 h
  simp only at h2
  split at h2
  · cases h2; exact ⟨m, cs.dropLast, t, d1, rfl, getLast_split h0, h1, rfl⟩
  · cases h2
theorem seq_inv {m : Nat} {a b : G} {ts ts' : List Tok} {cs cs' : List Tree} {r : Bool} (h : run m (.seq a b) ts cs = some (r, ts', cs')) : ∃ m' r1 t1 c1, m = m' + 1 ∧ run m' a ts cs = some (r1, t1, c1) ∧ run m' b t1 c1 = some (r, ts', cs') ∧ szL c1 ≤ szL cs' := by
  obtain ⟨m, rfl⟩ := run_pos h
  rw [run_seq] at h
  obtain ⟨⟨r1, t1, d1⟩, h1, h2⟩ := Option.bind_eq_some_iff.1 h
  exact ⟨m, r1, t1, d1, rfl, h1, h2, runs_sz (runs_of _ _ _ _ _ _ _ h2)⟩
theorem ite_inv {m : Nat} {c : Cnd} {a b : G} {ts : List Tok} {cs : List Tree} {r : Bool × List Tok × List Tree} (h : run m (.ite c a b) ts cs = some r) : ∃ m', m = m' + 1 ∧ ((ev c ts = true ∧ run m' a ts cs = some r) ∨ (ev c ts = false ∧ run m' b ts cs = some r)) := by
  obtain ⟨m, rfl⟩ := run_pos h
  rw [run_ite] at h
  refine ⟨m, rfl, ?_⟩
  split at h
  · rename_i hc; exact .inl ⟨hc, h⟩
  · rename_i hc; exact .inr ⟨bool_eq_false hc, h⟩
theorem whil_inv {m : Nat} {c : Cnd} {g : G} {ts ts' : List Tok} {cs cs' : List Tree} {r : Bool} (h : run m (.whil c g) ts cs = some (r, ts', cs')) : ∃ m', m = m' + 1 ∧ ((ev c ts = false ∧ r = false ∧ ts' = ts ∧ cs' = cs) ∨
    (ev c ts = true ∧ run m' g ts cs = some (true, ts', cs') ∧ r = true) ∨ (ev c ts = true ∧ ∃ t1 c1, run m' g ts cs = some (false, t1, c1) ∧ run m' (.whil c g) t1 c1 = some (r, ts', cs') ∧ szL c1 ≤ szL cs')) := by
  obtain ⟨m, rfl⟩ := run_pos h
  rw [run_whil] at h
  refine ⟨m, rfl, ?_⟩
  split at h
  · rename_i hc
    obtain ⟨⟨r1, t1, d1⟩, h1, h2⟩ := Option.bind_eq_some_iff.1 h
    simp only at h2
    split at h2
    · rename_i hb; subst hb; cases h2; exact .inr (.inl ⟨hc, h1, rfl⟩)
    · rename_i hb; have hb := bool_eq_false hb; subst hb; exact .inr (.inr ⟨hc, t1, d1, h1, h2, runs_sz (runs_of _ _ _ _ _ _ _ h2)⟩)
  · rename_i hc; cases h; exact .inl ⟨bool_eq_false hc, rfl, rfl, rfl⟩
theorem prog_inv {m : Nat} {g a b : G} {ts ts' : List Tok} {cs cs' : List Tree} {r : Bool} (h : run m (.prog g a b) ts cs = some (r, ts', cs')) : ∃ m' r1 t1 c1, m = m' + 1 ∧ run m' g ts cs = some (r1, t1, c1) ∧ szL c1 ≤ szL cs' ∧
    ((t1.length = ts.length ∧ run m' a t1 c1 = some (r, ts', cs')) ∨ (t1.length ≠ ts.length ∧ run m' b t1 c1 = some (r, ts', cs'))) := by
  obtain ⟨m, rfl⟩ := run_pos h
  rw [run_prog] at h
  obtain ⟨⟨r1, t1, d1⟩, h1, h2⟩ := Option.bind_eq_some_iff.1 h
  simp only at h2
  split at h2
  · rename_i hc; exact ⟨m, r1, t1, d1, rfl, h1, runs_sz (runs_of _ _ _ _ _ _ _ h2), .inl ⟨hc, h2⟩⟩
  · rename_i hc; exact ⟨m, r1, t1, d1, rfl, h1, runs_sz (runs_of _ _ _ _ _ _ _ h2), .inr ⟨hc, h2⟩⟩
theorem bra_inv {m : Nat} {g a b : G} {ts ts' : List Tok} {cs cs' : List Tree} {r : Bool} (h : run m (.bra g a b) ts cs = some (r, ts', cs')) : ∃ m' r1 t1 c1, m = m' + 1 ∧ run m' g ts cs = some (r1, t1, c1) ∧ szL c1 ≤ szL cs' ∧
    ((r1 = true ∧ run m' a t1 c1 = some (r, ts', cs')) ∨ (r1 = false ∧ run m' b t1 c1 = some (r, ts', cs'))) := by
  obtain ⟨m, rfl⟩ := run_pos h
  rw [run_bra] at h
  obtain ⟨⟨r1, t1, d1⟩, h1, h2⟩ := Option.bind_eq_some_iff.1 h
  simp only at h2
  split at h2
  · rename_i hc; exact ⟨m, r1, t1, d1, rfl, h1, runs_sz (runs_of _ _ _ _ _ _ _ h2), .inl ⟨hc, h2⟩⟩
  · rename_i hc; exact ⟨m, r1, t1, d1, rfl, h1, runs_sz (runs_of _ _ _ _ _ _ _ h2), .inr ⟨bool_eq_false hc, h2⟩⟩
theorem call_inv {m f : Nat} {ts : List Tok} {cs : List Tree} {r : Bool × List Tok × List Tree} (h : run m (.call f) ts cs = some r) : ∃ m', m = m' + 1 ∧ run m' (defs f) ts cs = some r := by
  obtain ⟨m, rfl⟩ := run_pos h
  exact ⟨m, rfl, h⟩
theorem ret_inv {m : Nat} {b r : Bool} {ts ts' : List Tok} {cs cs' : List Tree} (h : run m (.ret b) ts cs = some (r, ts', cs')) : r = b ∧ ts' = ts ∧ cs' = cs := by
  obtain ⟨m, rfl⟩ := run_pos h
  rw [run_ret] at h; cases h; exact ⟨rfl, rfl, rfl⟩
theorem Ex.weak {s s' : Heap} {J J' : List Nat} (h : Ex s s' J J') (X : List Nat) : Ex s s' (X ++ J) (X ++ J') :=
  ⟨h.len, fun x hx hj => h.fr x hx fun e => hj (List.mem_append_right _ e), fun x hx => by
    rw [List.mem_append] at hx ⊢
    rcases hx with k | k
    · exact .inl (.inl k)
    · rcases h.sub x k with q | q
      · exact .inl (.inr q)
      · exact .inr q⟩
theorem node_run {ts : List Tok} {k : Nat} {P : Nat} {s : Heap} {rest rest' : List Tok} {base : List Lv} {k0 : Nat} {cs ds : List Tree} {J : List Nat} (X : List Nat) (h : PR ts P s rest base k0 cs J) (hb : base.length + (szL cs + (1 + szL ds)) < 900000000) {v : AV} (hv : v.strip = v) (n : Nat)
    (hg : ∀ s3 lv J3, PR ts P s3 rest (base ++ [lv]) k [] J3 → Ex s s3 J J3 → ∃ s4 J4 r, aCallV Tryz.prog (den C (n + 2)) v [] s3 = some (r, s4) ∧ PR ts P s4 rest' (base ++ [lv]) k ds J4 ∧ Ex s3 s4 (X ++ J3) (X ++ J4)) :
    ∃ s5 J5, aCall Tryz.prog (den C (n + 3)) 110 [.ref P 0, I k, v] s = some (.tup [], s5) ∧ PR ts P s5 rest' base k0 (cs ++ [.mk k [] ds]) J5 ∧ Ex s s5 (X ++ J) (X ++ J5) := by
  obtain ⟨pos, i, rfl, h⟩ := h
  have hc := len_le_sz cs
  obtain ⟨tk, Q, s1, s2, s3, J3, p0, nQ, e1, e2, e3, p3, l3, f3, j3, hP⟩ := push_lv h (by rw [app_len]; show base.length + 1 < _; omega) (by rw [app_len]; show 0 < _ + 1; omega) (l := ⟨k, [], none⟩) rfl nofun
  have x3 : Ex s s3 J J3 := ⟨l3, f3, fun x hx => by
    rcases j3 x hx with k | k | k
    · exact .inl k
    · cases k
    · exact .inr k⟩
  obtain ⟨s4, J4, r, e4, p4, x4⟩ := hg s3 ⟨k0, cs, i⟩ J3 ⟨pos, none, rfl, p3⟩ x3
  obtain ⟨pos4, i4, rfl, p4⟩ := p4
  obtain ⟨s5, i5, J5, e5, p5, x5⟩ := finish_run p4 (by show cs.length + _ < _; omega)
  refine ⟨s5, J5, ?_, ⟨pos4, i5, rfl, p5⟩, ((x3.weak X).trans x4).trans (x5.weak X)⟩
  have e5 := e5 n
  have q0 : aLoad false false 1 (.ref P 2) s = some (.rs 52 3 Q 0 (base ++ [(⟨k0, cs, i⟩ : Lv)]).length, s) := ld (o := 2) p0 (by decide) rfl (by decide)
  have e2 : aStore 3 s1 (.ref s.length ((base ++ [(⟨k0, cs, i⟩ : Lv)]).length * 3)) (.agg [I k, .str [], .nils]) = some s2 := e2
  rw [callR en110 (ref1 ..), F110_eq, F110]
  simp -implicitDefEqProofs only [sL, q0, build52_1 (I k) rfl rfl rfl, len50_rs, zero50, e1, idx_top, e2, strip_rs, e3, kStore_ref, appK_rs, d110_0 s.length P (by omega), hv, e4, e5]
theorem node_sim {ts : List Tok} {m k : Nat} {g : G} {rv : Bool → AV} {v : Nat → AV} (hv : ∀ P, (v P).strip = v P) (hg : ∀ m' < m, Sim ts m' g rv (cvF v)) : Sim ts m (.node k g) vd (fnF 110 fun P => [.ref P 0, I k, v P]) := by
  intro n hn P s rest base k0 cs J b rest' cs' h hr hb
  obtain ⟨m, ds, rfl, hr1, rfl⟩ := node_inv hr
  obtain ⟨n, rfl⟩ : ∃ j, n = j + 3 := ⟨n - 3, by omega⟩
  rw [szL_append, szL_one, szT_mk] at hb
  exact node_run [] h hb (hv P) n fun s3 lv J3 p3 x3 => by
    obtain ⟨s4, J4, e4, p4, x4⟩ := hg m (by omega) (n + 2) (by omega) P s3 rest (base ++ [lv]) k [] J3 b rest' ds p3 hr1 (by rw [app_len]; show base.length + 1 + _ < _; omega)
    exact ⟨s4, J4, _, e4, p4, x4⟩
end ParF
end

section
set_option maxRecDepth 100000
namespace ParF
open Go Go.Abs Go.Proofs Pm
theorem rsbuild {s : Heap} {a : AV} {t : Tree} (ht : IsT t a) : aRsBuild Tryz.prog 50 1 [(0, a)] s = some (.rs 52 3 s.length 0 1, s ++ [(52, a.cells)]) := by
  obtain ⟨c1, c2, c3, c4⟩ := ht.cells
  have hz : szOf Tryz.prog 52 = some 3 := by kernel_rfl
  have hi : ((Tryz.prog.info? 52).bind (·.zero)).map (·.cells.size) = some 3 := by kernel_rfl
  have hs : a.solid = true := by rw [c4]; rfl
  cases hz' : (Tryz.prog.info? 52).bind (·.zero) with
  | none => rw [hz'] at hi; cases hi
  | some zv =>
    rw [hz'] at hi
    simp only [Option.map_some, Option.some.injEq] at hi
    have hne : a.cells ≠ [] := by intro e; rw [e] at c1; cases c1
    have e : aBuildSlice Tryz.prog 50 1 [(0, a)] = some (.sl 52 3 [a] .own) := by
      simp [aBuildSlice, under50, hz, hz', hi, inRow, hs, c1]
    have ec : cellsOf [a] = a.cells := by show a.cells ++ [] = _; rw [List.append_nil]
    have hem : (cellsOf [a]).isEmpty = false := by rw [ec]; cases h : a.cells with
      | nil => exact absurd h hne
      | cons x y => rfl
    simp only [aRsBuild, newRs, e]
    rw [hem]
    simp only [Bool.false_eq_true, if_false, ec, c2]
    rfl
theorem build52_c (x y : AV) (hx : x.cells = [x]) (hy : y.cells = [y]) (sx : x.strip = x) (sy : y.strip = y) (ox : x.solid = true) (oy : y.solid = true) : aBuild Tryz.prog 52 [(0, x), (2, y)] = some (.agg [x, .str [], y]) := by
  have hz : zeroOf Tryz.prog 52 = some (.agg [I 0, .str [], .nils]) := by kernel_rfl
  have hu : (match Tryz.prog.underlying 52 with | some (.struct fs) => placesOf Tryz.prog fs.toList | _ => none) = some [(0, 1), (1, 1), (2, 1)] := by kernel_rfl
  unfold aBuild
  split at hu
  · rename_i fs h
    rw [hz, h]
    simp [hu, aFill, hx, hy, setL, sx, sy, ox, oy]
  · cases hu
theorem wrap_run {ts : List Tok} {k : Nat} {P : Nat} {s : Heap} {rest rest' : List Tok} {base : List Lv} {k0 : Nat} {ini ds : List Tree} {t : Tree} {J : List Nat} (h : PR ts P s rest base k0 (ini ++ [t]) J) (hb : base.length + (szL ini + (1 + szL ds)) < 900000000) {v : AV} (hv : v.strip = v) (n : Nat)
    (hg : ∀ s3 lv J3, PR ts P s3 rest (base ++ [lv]) k [t] J3 → Ex s s3 J J3 → ∃ s4 J4 r, aCallV Tryz.prog (den C (n + 2)) v [] s3 = some (r, s4) ∧ PR ts P s4 rest' (base ++ [lv]) k ds J4 ∧ Ex s3 s4 J3 J4) :
    ∃ s5 J5, aCall Tryz.prog (den C (n + 3)) 287 [.ref P 0, I k, v] s = some (.tup [], s5) ∧ PR ts P s5 rest' base k0 (ini ++ [.mk k [] ds]) J5 ∧ Ex s s5 J J5 := by
  obtain ⟨pos, i, rfl, h⟩ := h
  have hc := len_le_sz ini
  obtain ⟨tk, Q, junk, f, rfl⟩ := h.facts
  have hP := glt f.par
  have hQ := glt f.row
  -- the last child
  have hok := f.ok
  obtain ⟨id, rfl⟩ : ∃ id, i = some id := by
    cases i with
    | none => have h0 : ini ++ [t] = [] := hok; simp at h0
    | some id => exact ⟨id, rfl⟩
  obtain ⟨rows, cj, h1, h2, h3⟩ := hok
  obtain ⟨r1, r2, rfl, l1, l2⟩ := IsL.split h2
  cases l2 with
  | cons _ a _ _ ht l3 =>
  cases l3 with
  | nil =>
  obtain ⟨c1, c2, c3, c4⟩ := ht.cells
  obtain ⟨d1, d2, d3, d4⟩ := l1.cells
  obtain ⟨tP, tQ, tl⟩ := f.top id rfl
  rw [cellsOf_snoc] at h1
  have hil : (ini ++ [t]).length = ini.length + 1 := by rw [app_len]; rfl
  have ldc : aLoad false true 3 (.ref id (ini.length * 3)) s = some (a, s) := by
    rw [ldA (o := ini.length * 3) h1 (by decide) (by rw [app_len, app_len]; omega) (by decide)]
    have e : ini.length * 3 = (cellsOf r1).length := by omega
    rw [List.append_assoc, e, List.drop_left, List.take_append_of_le_length (by omega), List.take_of_length_le (by omega), ← c4]
  -- the heap with the child taken off
  have q1 : (s ++ [(52, a.cells)])[Q]? = some (52, (base ++ [(⟨k0, ini ++ [t], some id⟩ : Lv)]).flatMap Lv.row ++ junk) := (gapp_old hQ).trans f.row
  have hrl := row_length (base ++ [(⟨k0, ini ++ [t], some id⟩ : Lv)])
  rw [app_len] at hrl
  have st1 := ParF.st (s := s ++ [(52, a.cells)]) (o := base.length * 3 + 2) (n := 1) (v := .rs 52 3 id 0 ini.length) q1 (by decide) rfl rfl (by rw [app_len, hrl]; show _ ≤ 3 * (base.length + 1) + _; omega)
  have hst' : stCells (.rs 52 3 id 0 ini.length) = [AV.rs 52 3 id 0 ini.length] := rfl
  rw [hst', row_set] at st1
  generalize hs2 : (s ++ [(52, a.cells)]).set Q (52, base.flatMap Lv.row ++ [I (k0 : Nat), .str [], .rs 52 3 id 0 ini.length] ++ junk) = s2 at st1
  have hs2' : (s ++ [(52, a.cells)]).set Q (52, base.flatMap Lv.row ++ [I ((⟨k0, ini ++ [t], some id⟩ : Lv).k), .str [], .rs 52 3 id 0 ini.length] ++ junk) = s2 := hs2
  have len2 : s2.length = s.length + 1 := by rw [← hs2, set_length, app_length]
  have fr2 : ∀ x, x < s.length → x ≠ Q → s2[x]? = s[x]? := fun x hx hne => by rw [← hs2, gset_ne (Ne.symm hne), gapp_old hx]
  have g2 : s2[s.length]? = some (52, a.cells) := by rw [← hs2, gset_ne (by omega), gapp_new]
  have p2 : PS ts P s2 pos (base ++ [⟨k0, ini, some id⟩]) (JJ P Q base ⟨k0, ini ++ [t], some id⟩) := by
    refine Fs.ps (tk := tk) (Q := Q) (junk := junk) (l := ⟨k0, ini, some id⟩) ⟨f.htk, ?_, ?_, f.ne, fun i hi => ?_, fun i hi => ?_, f.nd, ⟨r1, a.cells ++ cj, ?_, l1, ?_⟩, fun l' hl' => ?_, f.pos, f.len⟩
    · rw [fr2 P hP f.ne]; exact f.par
    · rw [← hs2, gset_eq q1, flat_snoc]; rfl
    · obtain ⟨a1, a2, a3, a4⟩ := f.hbase i hi
      exact ⟨a1, a2, by omega, a4⟩
    · obtain ⟨a1, a2, a3⟩ := f.top i hi
      exact ⟨a1, a2, by omega⟩
    · rw [fr2 id tl tQ, h1, List.append_assoc]
    · intro e; have := congrArg List.length e; rw [app_len, app_len, c1] at this; simp at this
    · refine Lv.ok_frame (f.oks l' hl') fun i hi => ?_
      obtain ⟨a1, a2, a3, a4⟩ := f.hbase i (List.mem_filterMap.2 ⟨l', hl', hi⟩)
      exact fr2 i a3 a2
  have p3 := p2.app [(52, a.cells)]
  have ok3 : Lv.ok (s2 ++ [(52, a.cells)]) ⟨k, [t], some s2.length⟩ := ⟨[a], [], by rw [gapp_new]; show _ = some (52, (a.cells ++ []) ++ []); rw [List.append_nil, List.append_nil], .cons _ _ _ _ ht .nil, by
    show (a.cells ++ []) ++ [] ≠ []
    intro e
    have := congrArg List.length e
    simp [c1] at this⟩
  obtain ⟨tk', Q', s4, s5, s6, J6, pp, nQ, e1, e2, e3, p6, l6, f6, j6, hP6⟩ := push_lv p3 (by rw [app_len]; show base.length + 1 < _; omega) (by rw [app_len]; show 0 < _ + 1; omega) ok3 (fun i hi => by
    cases hi
    refine ⟨fun hm => Nat.lt_irrefl _ (p2.lt _ hm), by rw [app_length]; omega⟩)
  have lA : (s2 ++ [(52, a.cells)]).length = s.length + 2 := by rw [app_length, len2]
  have x6 : Ex s s6 (JJ P Q base ⟨k0, ini ++ [t], some id⟩) J6 := by
    refine ⟨by omega, fun x hx hj => ?_, fun x hx => ?_⟩
    · have nQ : x ≠ Q := fun e => hj (by rw [e]; unfold JJ; simp)
      rw [f6 x (by omega) hj, gapp_old (by omega), fr2 x hx nQ]
    · rcases j6 x hx with k | k | k
      · exact .inl k
      · cases k; exact .inr (by omega)
      · exact .inr (by omega)
  obtain ⟨s7, J7, r, e7, p7, x7⟩ := hg s6 ⟨k0, ini, some id⟩ J6 ⟨pos, some s2.length, rfl, p6⟩ x6
  obtain ⟨pos7, i7, rfl, p7⟩ := p7
  obtain ⟨s8, i8, J8, e8, p8, x8⟩ := finish_run p7 (by show ini.length + _ < _; omega)
  refine ⟨s8, J8, ?_, ⟨pos7, i8, rfl, p8⟩, (x6.trans x7).trans x8⟩
  have e8 := e8 n
  have q0 : aLoad false false 1 (.ref P 2) s = some (.rs 52 3 Q 0 (base.length + 1), s) := ld (o := 2) f.par (by decide) rfl (by decide)
  have qc : aLoad false false 1 (.ref Q (base.length * 3 + 2)) s = some (.rs 52 3 id 0 (ini.length + 1), s) := by
    rw [ld (n := 1) (o := base.length * 3 + 2) f.row (by decide) (row_at 2 (by decide)) (by decide), ch_strip, ← hil]; rfl
  have qc1 : aLoad false false 1 (.ref Q (base.length * 3 + 2)) (s ++ [(52, a.cells)]) = some (.rs 52 3 id 0 (ini.length + 1), s ++ [(52, a.cells)]) := by
    rw [ld (n := 1) (o := base.length * 3 + 2) q1 (by decide) (row_at 2 (by decide)) (by decide), ch_strip, ← hil]; rfl
  have pp2 : s2[P]? = some (128, [tk', I pos, .rs 52 3 Q' 0 (base.length + 1)]) := by
    rw [gapp_old (by omega), app_len] at pp; exact pp
  have q2 : aLoad false false 1 (.ref P 2) s2 = some (.rs 52 3 Q' 0 (base.length + 1), s2) := ld (o := 2) pp2 (by decide) rfl (by decide)
  have q8 : aLoad false true 3 (.ref s.length 0) s2 = some (a, s2) := by
    rw [ldA (o := 0) g2 (by decide) (by omega) (by decide), List.drop_zero, List.take_of_length_le (by omega), ← c4]
  have bl : (base ++ [(⟨k0, ini, some id⟩ : Lv)]).length = base.length + 1 := by rw [app_len]; rfl
  rw [bl] at e1 e2 e3
  have e2 : aStore 3 s4 (.ref (s2 ++ [(52, a.cells)]).length ((base.length + 1) * 3)) (.agg [I k, .str [], .rs 52 3 s2.length 0 1]) = some s5 := e2
  have nP2 : (s2 ++ [(52, a.cells)]).length ≠ P := by omega
  have it := idx_top 52 (s2 ++ [(52, a.cells)]).length (base.length + 1)
  rw [callR en287 (ref1 ..), F287_eq, F287]
  simp -implicitDefEqProofs only [sL, q0, qc, qc1, q2, q8, build52_c (I k) (.rs 52 3 s2.length 0 1) rfl rfl rfl rfl rfl rfl, rsbuild ht, len50_rs, wsub1 (a := base.length) (by omega), wsub1 (a := ini.length) (by omega), zero50, zero52, store_new ht, ldc, take_rs, st1, hs2', e1, idx_top, it, e2, strip_rs, e3, kStore_ref, appK_rs, d287_0, d287_4 (s2 ++ [(52, a.cells)]).length P nP2, hv, e7, e8]
theorem wrap_sim {ts : List Tok} {m k : Nat} {g : G} {rv : Bool → AV} {v : Nat → AV} (hv : ∀ P, (v P).strip = v P) (hg : ∀ m' < m, Sim ts m' g rv (cvF v)) : Sim ts m (.wrap k g) vd (fnF 287 fun P => [.ref P 0, I k, v P]) := by
  intro n hn P s rest base k0 cs J b rest' cs' h hr hb
  obtain ⟨m, ini, t, ds, rfl, rfl, hr1, rfl⟩ := wrap_inv hr
  obtain ⟨n, rfl⟩ : ∃ j, n = j + 3 := ⟨n - 3, by omega⟩
  rw [szL_append, szL_one, szT_mk] at hb
  exact wrap_run h hb (hv P) n fun s3 lv J3 p3 x3 => by
    obtain ⟨s4, J4, e4, p4, x4⟩ := hg m (by omega) (n + 2) (by omega) P s3 rest (base ++ [lv]) k [t] J3 b rest' ds p3 hr1 (by rw [app_len]; show base.length + 1 + _ < _; omega)
    exact ⟨s4, J4, _, e4, p4, x4⟩
end ParF
end

section
set_option maxRecDepth 100000
namespace ParF
open Go Go.Abs Go.Proofs Pm
theorem kind_eq (a b : Nat) : ((a : Int) == (b : Int)) = (a == b) := by rw [Bool.eq_iff_iff]; simp; omega
theorem eof_rd (ts : List Tok) : Rd ts 59 (fun P => [.ref P 0]) fun r => .bool (ev rEof r) := by
  intro n hn P s pos tk st h
  obtain ⟨n, rfl⟩ : ∃ j, n = j + 1 := ⟨n - 1, by omega⟩
  obtain ⟨t, e1⟩ := peek_run h (n := n) (by omega)
  refine ⟨t, ?_⟩
  have k : (((pk (ts.drop pos)).1 : Int) == 100) = ((pk (ts.drop pos)).1 == 100) := kind_eq _ 100
  show aCall Tryz.prog (den C (n + 1)) 59 [.ref P 0] s = _
  rw [callR en59 (ref1 ..), F59_eq, F59]
  unfold tokA at e1
  simp -implicitDefEqProofs only [sL, e1, field80_0, k]
  rfl
theorem ident_rd (ts : List Tok) : Rd ts 230 (fun P => [.ref P 0]) fun r => .bool (ev rId r) := by
  intro n hn P s pos tk st h
  obtain ⟨n, rfl⟩ : ∃ j, n = j + 1 := ⟨n - 1, by omega⟩
  obtain ⟨t, e1⟩ := peek_run h (n := n) (by omega)
  refine ⟨t, ?_⟩
  have k : (((pk (ts.drop pos)).1 : Int) == 103) = ((pk (ts.drop pos)).1 == 103) := kind_eq _ 103
  show aCall Tryz.prog (den C (n + 1)) 230 [.ref P 0] s = _
  rw [callR en230 (ref1 ..), F230_eq, F230]
  unfold tokA at e1
  simp -implicitDefEqProofs only [sL, e1, field80_0, k]
  rfl
theorem peek_rd (ts : List Tok) : ∀ n, ts.length + 80 ≤ n → ∀ P s pos tk st, Rdy ts P s pos tk st → ∃ t, aCall Tryz.prog (den C n) 105 [.ref P 0] s = some (tokA (pk (ts.drop pos)), s ++ t) := fun n hn P s pos tk st h => peek_run h (by omega)
theorem put_sim (ts : List Tok) (m : Nat) : Sim ts m (.put 46) vd (fnF 240 fun P => [.ref P 0]) ∧ Sim ts m (.put 108) vd (fnF 233 fun P => [.ref P 0]) ∧ Sim ts m (.put 0) vd (fnF 226 fun P => [.ref P 0]) := by
  have key : ∀ {k n : Nat} {P : Nat} {s : Heap} {rest : List Tok} {base : List Lv} {k0 : Nat} {cs : List Tree} {J : List Nat} {b : Bool} {rest' : List Tok} {cs' : List Tree}, PR ts P s rest base k0 cs J → run m (.put k) rest cs = some (b, rest', cs') → base.length + szL cs' < 900000000 →
      ∃ s' J', (∀ n, aCall Tryz.prog (den C (n + 1)) 188 [.ref P 0, .agg [I k, .str [], .nils]] s = some (.tup [], s')) ∧ PR ts P s' rest' base k0 cs' J' ∧ Ex s s' J J' := by
    intro k n P s rest base k0 cs J b rest' cs' h hr hb
    obtain ⟨m, rfl⟩ := run_pos hr
    rw [run_put] at hr
    simp only [Option.some.injEq, Prod.mk.injEq] at hr
    obtain ⟨rfl, rfl, rfl⟩ := hr
    obtain ⟨pos, i, rfl, h⟩ := h
    have hc := len_le_sz (cs ++ [.mk k [] []])
    rw [app_len] at hc
    obtain ⟨s', i', J', e, p, x⟩ := add_run h (t := .mk k [] []) (.mk _ _ _ _ .nil) (by show cs.length + _ < _; omega)
    exact ⟨s', J', e, ⟨pos, i', rfl, p⟩, x⟩
  refine ⟨fun n hn P s rest base k0 cs J b rest' cs' h hr hb => ?_, fun n hn P s rest base k0 cs J b rest' cs' h hr hb => ?_, fun n hn P s rest base k0 cs J b rest' cs' h hr hb => ?_⟩
  · obtain ⟨n, rfl⟩ : ∃ j, n = j + 2 := ⟨n - 2, by omega⟩
    obtain ⟨s', J', e, p, x⟩ := key (n := 0) h hr hb
    refine ⟨s', J', ?_, p, x⟩
    have e : aCall Tryz.prog (den C (n + 1)) 188 [.ref P 0, .agg [.int .i64 46, .str [], .nils]] s = some (.tup [], s') := e n
    have b := build52_1 (I 46) rfl rfl rfl
    show aCall Tryz.prog (den C (n + 2)) 240 [.ref P 0] s = _
    rw [callR en240 (ref1 ..), F240_eq, F240]
    simp -implicitDefEqProofs only [sL, b, e]
  · obtain ⟨n, rfl⟩ : ∃ j, n = j + 2 := ⟨n - 2, by omega⟩
    obtain ⟨s', J', e, p, x⟩ := key (n := 0) h hr hb
    refine ⟨s', J', ?_, p, x⟩
    have e : aCall Tryz.prog (den C (n + 1)) 188 [.ref P 0, .agg [.int .i64 108, .str [], .nils]] s = some (.tup [], s') := e n
    have b := build52_1 (I 108) rfl rfl rfl
    show aCall Tryz.prog (den C (n + 2)) 233 [.ref P 0] s = _
    rw [callR en233 (ref1 ..), F233_eq, F233]
    simp -implicitDefEqProofs only [sL, b, e]
  · obtain ⟨n, rfl⟩ : ∃ j, n = j + 2 := ⟨n - 2, by omega⟩
    obtain ⟨s', J', e, p, x⟩ := key (n := 0) h hr hb
    refine ⟨s', J', ?_, p, x⟩
    have e : aCall Tryz.prog (den C (n + 1)) 188 [.ref P 0, .agg [.int .i64 0, .str [], .nils]] s = some (.tup [], s') := e n
    have b := build52_1 (I 0) rfl rfl rfl
    show aCall Tryz.prog (den C (n + 2)) 226 [.ref P 0] s = _
    rw [callR en226 (ref1 ..), F226_eq, F226]
    simp -implicitDefEqProofs only [sL, b, e]
theorem acc_yes {ts : List Tok} {m : Nat} (xs : List Bytes) (hl : xs.length < 50) {n : Nat} (hn : m * 20 + ts.length + 101 ≤ n) {P : Nat} {s : Heap} {rest : List Tok} {base : List Lv} {k : Nat} {cs : List Tree} {J : List Nat} {b : Bool} {rest' : List Tok} {cs' : List Tree}
    (h : PR ts P s rest base k cs J) (hc : ev (rAt xs) rest = true) (hr : run m .bump rest cs = some (b, rest', cs')) (hb : base.length + szL cs' < 900000000) :
    ∃ s' J', aCall Tryz.prog (den C n) 112 [.ref P 0, strs xs] s = some (.bool true, s') ∧ PR ts P s' rest' base k cs' J' ∧ Ex s s' J J' := by
  obtain ⟨n, rfl⟩ : ∃ j, n = j + 1 := ⟨n - 1, by omega⟩
  obtain ⟨s1, e1, p1, x1⟩ := (at_rd (ts := ts) xs hl).use (n := n) (by omega) h
  obtain ⟨s2, J2, e2, p2, x2⟩ := bump_sim ts m n (by omega) P s1 rest base k cs J b rest' cs' p1 hr hb
  refine ⟨s2, J2, ?_, p2, x1.trans x2⟩
  have e1 : aCall Tryz.prog (den C n) 106 [.ref P 0, strs xs] s = some (.bool true, s1) := by rw [← hc]; exact e1
  have e2 : aCall Tryz.prog (den C n) 113 [.ref P 0] s1 = some (.tup [], s2) := e2
  have hs : (strs xs).strip = strs xs := rfl
  rw [callR en112 (ref1 ..), F112_eq, F112]
  simp -implicitDefEqProofs only [sL, hs, e1, e2]
theorem acc_no {ts : List Tok} (xs : List Bytes) (hl : xs.length < 50) {n : Nat} (hn : ts.length + 81 ≤ n) {P : Nat} {s : Heap} {rest : List Tok} {base : List Lv} {k : Nat} {cs : List Tree} {J : List Nat}
    (h : PR ts P s rest base k cs J) (hc : ev (rAt xs) rest = false) :
    ∃ s', aCall Tryz.prog (den C n) 112 [.ref P 0, strs xs] s = some (.bool false, s') ∧ PR ts P s' rest base k cs J ∧ Ex s s' J J := by
  obtain ⟨n, rfl⟩ : ∃ j, n = j + 1 := ⟨n - 1, by omega⟩
  obtain ⟨s1, e1, p1, x1⟩ := (at_rd (ts := ts) xs hl).use (n := n) (by omega) h
  refine ⟨s1, ?_, p1, x1⟩
  have e1 : aCall Tryz.prog (den C n) 106 [.ref P 0, strs xs] s = some (.bool false, s1) := by rw [← hc]; exact e1
  have hs : (strs xs).strip = strs xs := rfl
  rw [callR en112 (ref1 ..), F112_eq, F112]
  simp -implicitDefEqProofs only [sL, hs, e1]
theorem own1 (a : Bytes) : (AV.sl 9 1 [.str a] .own).strip = strs [a] := rfl
theorem own2 (a b : Bytes) : (AV.sl 9 1 [.str a, .str b] .own).strip = strs [a, b] := rfl
theorem own3 (a b c : Bytes) : (AV.sl 9 1 [.str a, .str b, .str c] .own).strip = strs [a, b, c] := rfl
theorem expect_sim (ts : List Tok) (m : Nat) (w : Bytes) : Sim ts m (gExpect w) vd (fnF 184 fun P => [.ref P 0, .str w]) := by
  intro n hn P s rest base k cs J b rest' cs' h hr hb
  obtain ⟨m, rfl, hr1⟩ := ite_inv hr
  obtain ⟨n, rfl⟩ : ∃ j, n = j + 1 := ⟨n - 1, by omega⟩
  have b1 := bs1 w
  rcases hr1 with ⟨hc, hr1⟩ | ⟨hc, hr1⟩
  · obtain ⟨s1, J1, e1, p1, x1⟩ := acc_yes [w] (by decide : 1 < 50) (n := n) (by omega) h hc hr1 hb
    refine ⟨s1, J1, ?_, p1, x1⟩
    show aCall Tryz.prog (den C (n + 1)) 184 [.ref P 0, .str w] s = _
    rw [callR en184 (ref1 ..), F184_eq, F184]
    simp -implicitDefEqProofs only [sL, b1, own1, e1]
  · obtain ⟨s1, e1, p1, x1⟩ := acc_no [w] (by decide : 1 < 50) (n := n) (by omega) h hc
    obtain ⟨s2, J2, e2, p2, x2⟩ := (put_sim ts m).2.1 n (by omega) P s1 rest base k cs J b rest' cs' p1 hr1 hb
    refine ⟨s2, J2, ?_, p2, x1.trans x2⟩
    have e2 : aCall Tryz.prog (den C n) 233 [.ref P 0] s1 = some (.tup [], s2) := e2
    show aCall Tryz.prog (den C (n + 1)) 184 [.ref P 0, .str w] s = _
    rw [callR en184 (ref1 ..), F184_eq, F184]
    simp -implicitDefEqProofs only [sL, b1, own1, e1, e2]
theorem ident_sim (ts : List Tok) (m : Nat) : Sim ts m gIdent vd (fnF 181 fun P => [.ref P 0]) := by
  intro n hn P s rest base k cs J b rest' cs' h hr hb
  obtain ⟨m, rfl, hr1⟩ := ite_inv hr
  obtain ⟨n, rfl⟩ : ∃ j, n = j + 1 := ⟨n - 1, by omega⟩
  obtain ⟨s1, e1, p1, x1⟩ := (ident_rd ts).use (n := n) (by omega) h
  rcases hr1 with ⟨hc, hr1⟩ | ⟨hc, hr1⟩
  · obtain ⟨s2, J2, e2, p2, x2⟩ := bump_sim ts m n (by omega) P s1 rest base k cs J b rest' cs' p1 hr1 hb
    refine ⟨s2, J2, ?_, p2, x1.trans x2⟩
    have e2 : aCall Tryz.prog (den C n) 113 [.ref P 0] s1 = some (.tup [], s2) := e2
    show aCall Tryz.prog (den C (n + 1)) 181 [.ref P 0] s = _
    rw [callR en181 (ref1 ..), F181_eq, F181]
    simp -implicitDefEqProofs only [sL, e1, hc, e2]
  · obtain ⟨s2, J2, e2, p2, x2⟩ := (put_sim ts m).2.1 n (by omega) P s1 rest base k cs J b rest' cs' p1 hr1 hb
    refine ⟨s2, J2, ?_, p2, x1.trans x2⟩
    have e2 : aCall Tryz.prog (den C n) 233 [.ref P 0] s1 = some (.tup [], s2) := e2
    show aCall Tryz.prog (den C (n + 1)) 181 [.ref P 0] s = _
    rw [callR en181 (ref1 ..), F181_eq, F181]
    simp -implicitDefEqProofs only [sL, e1, hc, e2]
theorem opt_sim {ts : List Tok} {m : Nat} (w : Bytes) {g : G} {rv : Bool → AV} {v : Nat → AV} (hv : ∀ P, (v P).strip = v P) (hg : ∀ m' < m, Sim ts m' g rv (cvF v)) : Sim ts m (gOpt w g) vd (fnF 225 fun P => [.ref P 0, .str w, v P]) := by
  intro n hn P s rest base k cs J b rest' cs' h hr hb
  obtain ⟨m, rfl, hr1⟩ := ite_inv hr
  obtain ⟨n, rfl⟩ : ∃ j, n = j + 1 := ⟨n - 1, by omega⟩
  have b1 := bs1 w
  rcases hr1 with ⟨hc, hr1⟩ | ⟨hc, hr1⟩
  · obtain ⟨m, b0, t1, c1, rfl, ha, hr2, hz⟩ := seq_inv hr1
    obtain ⟨s1, J1, e1, p1, x1⟩ := acc_yes [w] (by decide : 1 < 50) (n := n) (by omega) h hc ha (by omega)
    obtain ⟨s2, J2, e2, p2, x2⟩ := hg m (by omega) n (by omega) P s1 t1 base k c1 J1 b rest' cs' p1 hr2 hb
    refine ⟨s2, J2, ?_, p2, x1.trans x2⟩
    have e2 : aCallV Tryz.prog (den C n) (v P) [] s1 = some (rv b, s2) := e2
    show aCall Tryz.prog (den C (n + 1)) 225 [.ref P 0, .str w, v P] s = _
    rw [callR en225 (ref1 ..), F225_eq, F225]
    simp -implicitDefEqProofs only [sL, b1, own1, e1, hv, e2]
  · obtain ⟨s1, e1, p1, x1⟩ := acc_no [w] (by decide : 1 < 50) (n := n) (by omega) h hc
    obtain ⟨s2, J2, e2, p2, x2⟩ := (put_sim ts m).2.2 n (by omega) P s1 rest base k cs J b rest' cs' p1 hr1 hb
    refine ⟨s2, J2, ?_, p2, x1.trans x2⟩
    have e2 : aCall Tryz.prog (den C n) 226 [.ref P 0] s1 = some (.tup [], s2) := e2
    show aCall Tryz.prog (den C (n + 1)) 225 [.ref P 0, .str w, v P] s = _
    rw [callR en225 (ref1 ..), F225_eq, F225]
    simp -implicitDefEqProofs only [sL, b1, own1, e1, hv, e2]
theorem unexpected_sim (ts : List Tok) (m : Nat) : Sim ts m (.node 46 .bump) vd (fnF 280 fun P => [.ref P 0]) := by
  intro n hn P s rest base k cs J b rest' cs' h hr hb
  obtain ⟨m', hm⟩ := run_pos hr
  obtain ⟨n, rfl⟩ : ∃ j, n = j + 1 := ⟨n - 1, by omega⟩
  obtain ⟨m2, ds, e, hr1, hcs⟩ := node_inv hr
  obtain ⟨n, rfl⟩ : ∃ j, n = j + 3 := ⟨n - 3, by omega⟩
  rw [hcs, szL_append, szL_one, szT_mk] at hb
  obtain ⟨s1, J1, e1, p1, x1⟩ := node_run (k := 46) [] h hb (v := .fn 113 [.ref P 0] []) rfl n fun s3 lv J3 p3 x3 => by
    obtain ⟨s4, J4, e4, p4, x4⟩ := bump_sim ts m2 (n + 2) (by omega) P s3 rest (base ++ [lv]) 46 [] J3 b rest' ds p3 hr1 (by rw [app_len]; show base.length + 1 + _ < _; omega)
    exact ⟨s4, J4, _, e4, p4, x4⟩
  refine ⟨s1, J1, ?_, by rw [hcs]; exact p1, x1⟩
  have e1 : aCall Tryz.prog (den C (n + 3)) 110 [.ref P 0, .int .i64 46, .fn 113 [.ref P 0] []] s = some (.tup [], s1) := e1
  show aCall Tryz.prog (den C (n + 3 + 1)) 280 [.ref P 0] s = _
  rw [callR en280 (ref1 ..), F280_eq, F280]
  simp -implicitDefEqProofs only [sL, e1]
end ParF
end

section
set_option maxRecDepth 100000
namespace ParF
open Go Go.Abs Go.Proofs Pm
def itemText : Bytes := [117, 115, 101, 32, 112, 117, 98, 32, 102, 110, 32, 115, 116, 114, 117, 99, 116, 32, 101, 110, 117, 109, 32, 116, 114, 97, 105, 116, 32, 105, 109, 112, 108, 32, 99, 111, 110, 115, 116, 32, 109, 97, 99, 114, 111]
def kindText : Bytes := [117, 115, 101, 32, 102, 110, 32, 115, 116, 114, 117, 99, 116, 32, 101, 110, 117, 109, 32, 116, 114, 97, 105, 116, 32, 105, 109, 112, 108, 32, 99, 111, 110, 115, 116, 32, 109, 97, 99, 114, 111]
theorem fields_item : Lib.fields itemText = itemKws := by kernel_rfl
theorem fields_kind : Lib.fields kindText = kindKws := by kernel_rfl
theorem fields_run (a : Bytes) (h1 : a.length < 1000) (h2 : (a.all fun b => b.toNat < 128) = true) : AN 1 174 [.str a] (strs (Lib.fields a)) :=
  .intro (by kernel_rfl) rfl (by rw [noRef_sl, strs_noRef]) fun n _ => ⟨[], by rw [den_ext (e := eFields) (by rfl)]; simp only [eFields]; rw [if_pos ⟨h1, h2⟩]⟩
theorem itemKeywords_run : AN 2 176 [] (strs itemKws) := by
  refine .intro en176 rfl (by rw [noRef_sl, strs_noRef]) fun n hn => ⟨[], ?_⟩
  have q := (fields_run itemText (by decide) (by decide)).of (n := n) (by omega) []
  rw [fields_item] at q
  have hs : (strs itemKws).strip = strs itemKws := rfl
  have q : aCall Tryz.prog (den C n) 174 [.str [117, 115, 101, 32, 112, 117, 98, 32, 102, 110, 32, 115, 116, 114, 117, 99, 116, 32, 101, 110, 117, 109, 32, 116, 114, 97, 105, 116, 32, 105, 109, 112, 108, 32, 99, 111, 110, 115, 116, 32, 109, 97, 99, 114, 111]] [] = some (strs itemKws, []) := q
  rw [F176_eq, F176]
  simp -implicitDefEqProofs only [sL, q]
theorem kindOf_eq (w : Bytes) : (findI kindKws w 0 < 0 ∧ kindOf w = 0) ∨ (∃ k, findI kindKws w 0 = (k : Nat) ∧ k < 8 ∧ kindOf w = 2 + k) := by
  unfold findI kindOf
  rw [List.drop_zero]
  cases h : kindKws.idxOf? w with
  | none => exact .inl ⟨by decide, rfl⟩
  | some k =>
    refine .inr ⟨k, by simp, ?_, rfl⟩
    have : k < kindKws.length := by
      have := List.findIdx?_eq_some_iff_getElem.1 (by rw [List.idxOf?] at h; exact h)
      exact this.1
    exact this
theorem itemKind_run (w : Bytes) : AN 70 108 [.str w] (I (kindOf w)) := by
  refine .intro (N := 69) en108 rfl rfl fun n hn => ⟨[], ?_⟩
  have q := (fields_run kindText (by decide) (by decide)).of (n := n) (by omega) []
  rw [fields_kind] at q
  have q : aCall Tryz.prog (den C n) 174 [.str [117, 115, 101, 32, 102, 110, 32, 115, 116, 114, 117, 99, 116, 32, 101, 110, 117, 109, 32, 116, 114, 97, 105, 116, 32, 105, 109, 112, 108, 32, 99, 111, 110, 115, 116, 32, 109, 97, 99, 114, 111]] [] = some (strs kindKws, []) := q
  have q2 := (index_run kindKws w (by decide)).of (n := n) (by omega) []
  have hs : (strs kindKws).strip = strs kindKws := rfl
  rw [F108_eq, F108]
  rcases kindOf_eq w with ⟨h1, h2⟩ | ⟨k, h1, h2, h3⟩
  · rw [h2]
    simp -implicitDefEqProofs only [sL, q, hs, q2, h1, decide_true]
    rfl
  · rw [h3]
    rw [h1] at q2
    have h4 : ¬ ((k : Int) < 0) := by omega
    have h5 : IntKind.i64.wrap (2 + (k : Int)) = ((2 + k : Nat) : Int) := by rw [wrap64] <;> omega
    simp -implicitDefEqProofs only [sL, q, hs, q2, h4, decide_false, h5]
def Rd' (d : Nat) (ts : List Tok) (f : FuncId) (args : Nat → List AV) (v : List Tok → AV) : Prop := ∀ n, ts.length + d ≤ n → ∀ P s pos tk st, Rdy ts P s pos tk st → ∃ t, aCall Tryz.prog (den C n) f (args P) s = some (v (ts.drop pos), s ++ t)
theorem Rd'.use {d : Nat} {ts : List Tok} {f : FuncId} {args : Nat → List AV} {v : List Tok → AV} (q : Rd' d ts f args v) {n : Nat} (hn : ts.length + d ≤ n) {P : Nat} {s : Heap} {rest : List Tok} {base : List Lv} {k : Nat} {cs : List Tree} {J : List Nat}
    (h : PR ts P s rest base k cs J) : ∃ s', aCall Tryz.prog (den C n) f (args P) s = some (v rest, s') ∧ PR ts P s' rest base k cs J ∧ Ex s s' J J := by
  obtain ⟨pos, i, rfl, h⟩ := h
  obtain ⟨tk, st, r⟩ := h.rdy
  obtain ⟨t, e⟩ := q n hn P s pos tk st r
  exact ⟨_, e, ⟨pos, i, rfl, h.app t⟩, .app s t J⟩
theorem item_rd (ts : List Tok) : Rd' 90 ts 279 (fun P => [.ref P 0]) fun r => .bool (isItem (pk r)) := by
  intro n hn P s pos tk st h
  obtain ⟨n, rfl⟩ : ∃ j, n = j + 1 := ⟨n - 1, by omega⟩
  have e0 := itemKeywords_run.of (n := n) (by omega) s
  obtain ⟨t1, e1⟩ := at_rd (ts := ts) itemKws (by decide) n (by omega) P s pos tk st h
  obtain ⟨t2, e2⟩ := at_rd (ts := ts) [wFn] (by decide) n (by omega) P (s ++ t1) pos tk st (h.app t1)
  dsimp only at e1 e2
  have b1 : aBuildSlice Tryz.prog 215 1 [(0, .str [102, 110])] = _ := bs1 [102, 110]
  have hs : (strs itemKws).strip = strs itemKws := rfl
  have o1 : (AV.sl 9 1 [.str [102, 110]] .own).strip = strs [wFn] := rfl
  show ∃ t, aCall Tryz.prog (den C (n + 1)) 279 [.ref P 0] s = some (.bool (isItem (pk (ts.drop pos))), s ++ t)
  unfold isItem
  cases h1 : atT itemKws (pk (ts.drop pos)) with
  | false =>
    rw [h1] at e1
    refine ⟨t1, ?_⟩
    rw [callR en279 (ref1 ..), F279_eq, F279]
    simp -implicitDefEqProofs only [sL, e0, hs, e1, Bool.false_and]
  | true =>
    rw [h1] at e1
    refine ⟨t1 ++ t2, ?_⟩
    rw [callR en279 (ref1 ..), F279_eq, F279, ← List.append_assoc]
    simp -implicitDefEqProofs only [sL, e0, hs, e1, b1, o1, e2, Bool.true_and]
theorem or3 (a b c : Bool) : (a || b || c) = (a || (b || c)) := Bool.or_assoc a b c
theorem arm_rd (ts : List Tok) : Rd' 90 ts 357 (fun P => [.ref P 0]) fun r => .bool ((pk r).1 == 103 || (pk r).1 == 105 || atT [wTrue, wFalse, wMut] (pk r)) := by
  intro n hn P s pos tk st h
  obtain ⟨n, rfl⟩ : ∃ j, n = j + 1 := ⟨n - 1, by omega⟩
  obtain ⟨t1, e1⟩ := ident_rd ts n (by omega) P s pos tk st h
  obtain ⟨t2, e2⟩ := peek_run (h.app t1) (n := n) (by omega)
  obtain ⟨t3, e3⟩ := at_rd (ts := ts) [wTrue, wFalse, wMut] (by decide) n (by omega) P (s ++ t1 ++ t2) pos tk st ((h.app t1).app t2)
  dsimp only at e1 e2 e3
  have b3 : aBuildSlice Tryz.prog 215 3 [(0, .str [116, 114, 117, 101]), (1, .str [102, 97, 108, 115, 101]), (2, .str [109, 117, 116])] = _ := bs3 [116, 114, 117, 101] [102, 97, 108, 115, 101] [109, 117, 116]
  have o3 : (AV.sl 9 1 [.str [116, 114, 117, 101], .str [102, 97, 108, 115, 101], .str [109, 117, 116]] .own).strip = strs [wTrue, wFalse, wMut] := rfl
  show ∃ t, aCall Tryz.prog (den C (n + 1)) 357 [.ref P 0] s = some (.bool ((pk (ts.drop pos)).1 == 103 || (pk (ts.drop pos)).1 == 105 || atT [wTrue, wFalse, wMut] (pk (ts.drop pos))), s ++ t)
  have hid : ev rId (ts.drop pos) = ((pk (ts.drop pos)).1 == 103) := rfl
  unfold tokA at e2
  have k : (((pk (ts.drop pos)).1 : Int) == 105) = ((pk (ts.drop pos)).1 == 105) := kind_eq _ 105
  generalize pk (ts.drop pos) = x at *
  cases h1 : (x.1 == 103) with
  | true =>
    rw [hid, h1] at e1
    refine ⟨t1, ?_⟩
    rw [callR en357 (ref1 ..), F357_eq, F357]
    simp -implicitDefEqProofs only [sL, e1, Bool.true_or]
  | false =>
    rw [hid, h1] at e1
    cases h2 : (x.1 == 105) with
    | true =>
      refine ⟨t1 ++ t2, ?_⟩
      rw [callR en357 (ref1 ..), F357_eq, F357, ← List.append_assoc]
      simp -implicitDefEqProofs only [sL, e1, e2, field80_0, k, h2, Bool.true_or, Bool.false_or]
    | false =>
      refine ⟨t1 ++ t2 ++ t3, ?_⟩
      rw [callR en357 (ref1 ..), F357_eq, F357, ← List.append_assoc, ← List.append_assoc]
      simp -implicitDefEqProofs only [sL, e1, e2, field80_0, k, h2, b3, o3, e3, Bool.false_or]
theorem look_run {ts : List Tok} {P : Nat} {s : Heap} {pos : Nat} {tk st0 : AV} (h : Rdy ts P s pos tk st0) {n : Nat} (hn : ts.length + 130 ≤ n) :
    ∃ t P' pos' tk' st', aCall Tryz.prog (den C n) 107 [.ref P 0] s = some (.ref P' 0, s ++ t) ∧ Rdy ts P' (s ++ t) pos' tk' st' ∧ ts.drop pos' = la (ts.drop pos) := by
  obtain ⟨n, rfl⟩ : ∃ j, n = j + 1 := ⟨n - 1, by omega⟩
  have hb : aBuild Tryz.prog 52 [] = some (.agg [I 0, .str [], .nils]) := by kernel_rfl
  have rb := rsbuild (s := s) (a := .agg [I 0, .str [], .nils]) (t := .mk 0 [] []) (.mk _ _ _ _ .nil)
  have rb : aRsBuild Tryz.prog 50 1 [(0, .agg [I 0, .str [], .nils])] s = some (.rs 52 3 s.length 0 1, s ++ [(52, [I 0, .str [], .nils])]) := rb
  have h2 : (s ++ [(52, [I 0, .str [], .nils])] ++ [(128, [tk, I pos, .rs 52 3 s.length 0 1])])[s.length + 1]? = some (128, [tk, I pos, .rs 52 3 s.length 0 1]) := by
    have := gapp_new (s := s ++ [(52, [I 0, .str [], .nils])]) (x := (128, [tk, I pos, .rs 52 3 s.length 0 1]))
    rw [app_length] at this; exact this
  have ps : PS ts (s.length + 1) (s ++ [(52, [I 0, .str [], .nils])] ++ [(128, [tk, I pos, .rs 52 3 s.length 0 1])]) pos ([] ++ [⟨0, [], none⟩]) (JJ (s.length + 1) s.length [] ⟨0, [], none⟩) := by
    refine Fs.ps (tk := tk) (junk := []) ⟨h.htk, h2, ?_, by omega, nofun, nofun, List.nodup_nil, rfl, nofun, h.pos, h.len⟩
    rw [gapp_old (by rw [app_length]; omega), gapp_new]; rfl
  obtain ⟨s', J', e1, ⟨pos', i', ed, p'⟩, x'⟩ := bump_sim ts 1 n (by omega) (s.length + 1) _ (ts.drop pos) [] 0 [] _ false (la (ts.drop pos)) _ ⟨pos, none, rfl, ps⟩ rfl (by
    have e := runs_sz (Runs.bump (ts.drop pos) [])
    have hl : szL ([] ++ (((ts.drop pos).takeWhile triv).map leaf ++ ((skp (ts.drop pos)).take 1).map leaf)) ≤ ts.length := by
      rw [List.nil_append, ← List.map_append, szL_leaf]
      have := congrArg List.length (bump_split (ts.drop pos))
      rw [app_len, List.length_drop] at this
      omega
    have := h.len
    show 0 + _ < _
    omega)
  obtain ⟨tk', st', r'⟩ := p'.rdy
  have hfr : ∀ x, x < s.length → s'[x]? = s[x]? := fun x hx => by
    rw [x'.fr x (by rw [app_length, app_length]; omega) (by unfold JJ; simp; omega), gapp_old (by rw [app_length]; omega), gapp_old hx]
  have hlen : s.length ≤ s'.length := by have := x'.len; rw [app_length, app_length] at this; omega
  have hs' : s' = s ++ s'.drop s.length := by
    apply List.ext_getElem?
    intro x
    by_cases hx : x < s.length
    · rw [hfr x hx, List.getElem?_append_left hx]
    · rw [List.getElem?_append_right (by omega), List.getElem?_drop]
      congr 1; omega
  refine ⟨s'.drop s.length, s.length + 1, pos', tk', st', ?_, by rw [← hs']; exact r', ed.symm⟩
  rw [← hs']
  have e1 : aCall Tryz.prog (den C n) 113 [.ref (s.length + 1) 0] (s ++ [(52, [I 0, .str [], .nils])] ++ [(128, [tk, I pos, .rs 52 3 s.length 0 1])]) = some (.tup [], s') := e1
  have b128 : aBuild Tryz.prog 128 [(0, tk), (1, I pos), (2, .rs 52 3 s.length 0 1)] = some (.agg [tk, I pos, .rs 52 3 s.length 0 1]) := by
    have hz : zeroOf Tryz.prog 128 = some (.agg [.nils, I 0, .nils]) := by kernel_rfl
    have hu : (match Tryz.prog.underlying 128 with | some (.struct fs) => placesOf Tryz.prog fs.toList | _ => none) = some [(0, 1), (1, 1), (2, 1)] := by kernel_rfl
    have c1 : tk.cells = [tk] := by rcases h.htk with ⟨e, _⟩ | ⟨T, e⟩ <;> rw [e] <;> rfl
    have c2 : tk.solid = true := by rcases h.htk with ⟨e, _⟩ | ⟨T, e⟩ <;> rw [e] <;> rfl
    have c3 := toks_strip h.htk
    have c4 : (AV.rs 52 3 s.length 0 1).cells = [.rs 52 3 s.length 0 1] := rfl
    have c5 : (AV.rs 52 3 s.length 0 1).solid = true := rfl
    unfold aBuild
    split at hu
    · rename_i fs hh
      rw [hz, hh]
      simp [hu, aFill, setL, c1, c2, c3, c4, c5, strip_rs, cells_int]
    · cases hu
  have bx : aBox true 128 (.agg [tk, I pos, .rs 52 3 s.length 0 1]) (s ++ [(52, [I 0, .str [], .nils])]) = some (.ref (s.length + 1) 0, s ++ [(52, [I 0, .str [], .nils])] ++ [(128, [tk, I pos, .rs 52 3 s.length 0 1])]) := by
    have := toks_strip h.htk
    simp [aBox, this, strip_rs]
  rw [callR en107 (ref1 ..), F107_eq, F107]
  simp -implicitDefEqProofs only [sL, h.ld0, h.ld1, hb, rb, b128, bx, d107_1, e1]
end ParF
end

section
set_option maxRecDepth 100000
set_option maxHeartbeats 400000
namespace ParF
open Go Go.Abs Go.Proofs Pm
theorem PR.rdy {ts : List Tok} {P : Nat} {s : Heap} {rest : List Tok} {base : List Lv} {k : Nat} {cs : List Tree} {J : List Nat} (h : PR ts P s rest base k cs J) : ∃ pos tk st, Rdy ts P s pos tk st ∧ rest = ts.drop pos ∧ rest.length + pos = ts.length := by
  obtain ⟨pos, i, rfl, h⟩ := h
  obtain ⟨tk, st, r⟩ := h.rdy
  exact ⟨pos, tk, st, r, rfl, by rw [List.length_drop]; have := h.pos; omega⟩
theorem upds_get : ∀ (l : List (Nat × AV)) (e : Env) (i : Nat), l.all (fun p => p.1 != i) = true → upds e l i = e i
  | [], _, _, _ => rfl
  | (j, v) :: l, e, i, h => by
    simp only [List.all_cons, Bool.and_eq_true, bne_iff_ne, ne_eq] at h
    rw [upds_at, upds_get l _ i h.2, upd_at, if_neg (fun x => h.1 x.symm)]
def lBody (cl : Bytes) (el : G) : G := .prog el (.node 46 .bump) (.ite (rAt [cl]) nop (gExpect wComma))
theorem expect_false {m : Nat} {w : Bytes} {ts ts' : List Tok} {cs cs' : List Tree} {b : Bool} (h : run m (gExpect w) ts cs = some (b, ts', cs')) : b = false := by
  obtain ⟨m, rfl, h | h⟩ := ite_inv h
  · obtain ⟨m, rfl⟩ := run_pos h.2; have h := h.2; rw [run_bump] at h; cases h; rfl
  · obtain ⟨m, rfl⟩ := run_pos h.2; have h := h.2; rw [run_put] at h; cases h; rfl
theorem body_false {m : Nat} {cl : Bytes} {el : G} {ts ts' : List Tok} {cs cs' : List Tree} {b : Bool} (h : run m (lBody cl el) ts cs = some (b, ts', cs')) : b = false := by
  obtain ⟨m, r1, t1, c1, rfl, h1, _, h | h⟩ := prog_inv h
  · have h := h.2
    cases m with
    | zero => rw [Pm.run_zero] at h; cases h
    | succ m =>
      rw [run_node] at h
      obtain ⟨⟨r1, t1, d1⟩, h1, h2⟩ := Option.bind_eq_some_iff.1 h
      obtain ⟨m, rfl⟩ := run_pos h1
      rw [run_bump] at h1
      cases h1
      simp at h2
      exact h2.1.symm ▸ rfl
  · obtain ⟨m, rfl, h | h⟩ := ite_inv h.2
    · exact (ret_inv h.2).1
    · exact expect_false h.2
theorem list_loop {ts : List Tok} {P : Nat} {cl : Bytes} {el : G} {rv : Bool → AV} {v : Nat → AV} (hv : ∀ P, (v P).strip = v P) {n : Nat} : ∀ (m : Nat), (∀ m' < m, Sim ts m' el rv (cvF v)) → m * 20 + ts.length + 110 ≤ n →
    ∀ s rest base k cs J b t1 c1 m2 b' rest' cs', PR ts P s rest base k cs J → run m (.whil (gMore cl) (lBody cl el)) rest cs = some (b, t1, c1) → m2 * 20 + ts.length + 100 ≤ n → run m2 (gExpect cl) t1 c1 = some (b', rest', cs') → base.length + szL cs' < 900000000 →
    ∃ s' J', (∀ M n' e, m < M → e 0 = .ref P 0 → e 1 = .str cl → e 2 = v P → aLoop (F228_L0 (den C n) n') M e s = some (.tup [], s')) ∧ PR ts P s' rest' base k cs' J' ∧ Ex s s' J J' := by
  intro m
  induction m with
  | zero => intro _ _ s rest base k cs J b t1 c1 m2 b' rest' cs' h hr; rw [Pm.run_zero] at hr; cases hr
  | succ m ih =>
    intro hg hn s rest base k cs J b t1 c1 m2 b' rest' cs' h hr hm2 hr2 hb
    have hn0 : m * 20 + ts.length + 110 ≤ n := by omega
    have hg0 : ∀ m' < m, Sim ts m' el rv (cvF v) := fun m' hm' => hg m' (Nat.lt_succ_of_lt hm')
    have b1 := bs1 cl
    have bc : aBuildSlice Tryz.prog 215 1 [(0, .str [44])] = _ := bs1 [44]
    obtain ⟨sa, ea, pa, xa⟩ := (at_rd (ts := ts) [cl] (by decide : 1 < 50)).use (n := n) (by omega) h
    obtain ⟨sb, eb, pb, xb⟩ := (eof_rd ts).use (n := n) (by omega) pa
    obtain ⟨sc, ec, pc, xc⟩ := (item_rd ts).use (n := n) (by omega) pb
    obtain ⟨m', hm', hw⟩ := whil_inv hr
    cases hm'
    have hev : ev (gMore cl) rest = (!atT [cl] (pk rest) && !(ev rEof rest) && !isItem (pk rest)) := rfl
    rcases hw with ⟨hc, rfl, rfl, rfl⟩ | ⟨hc, hr1, rfl⟩ | ⟨hc, t2, c2, hr1, hr3, hz⟩
    · -- the end
      have fin : ∀ sx, PR ts P sx t1 base k c1 J → Ex s sx J J → ∃ s' J', aCall Tryz.prog (den C n) 184 [.ref P 0, .str cl] sx = some (.tup [], s') ∧ PR ts P s' rest' base k cs' J' ∧ Ex s s' J J' := by
        intro sx px xx
        obtain ⟨s', J', e, p, x⟩ := expect_sim ts m2 cl n (by omega) P sx t1 base k c1 J b' rest' cs' px hr2 hb
        exact ⟨s', J', e, p, xx.trans x⟩
      rw [hc] at hev
      cases h1 : atT [cl] (pk t1) with
      | true =>
        rw [h1] at ea
        obtain ⟨s', J', e, p, x⟩ := fin sa pa xa
        refine ⟨s', J', fun M n' en hM he0 he1 he2 => ?_, p, x⟩
        obtain ⟨M, rfl⟩ : ∃ j, M = j + 1 := ⟨M - 1, by omega⟩
        rw [aLoop, F228_L0]
        simp -implicitDefEqProofs only [sL, he0, he1, he2, b1, own1, ea, e]
      | false =>
        rw [h1] at ea hev
        cases h2 : ev rEof t1 with
        | true =>
          rw [h2] at eb
          obtain ⟨s', J', e, p, x⟩ := fin sb pb (xa.trans xb)
          refine ⟨s', J', fun M n' en hM he0 he1 he2 => ?_, p, x⟩
          obtain ⟨M, rfl⟩ : ∃ j, M = j + 1 := ⟨M - 1, by omega⟩
          rw [aLoop, F228_L0]
          simp -implicitDefEqProofs only [sL, he0, he1, he2, b1, own1, ea, eb, e]
        | false =>
          rw [h2] at eb hev
          have h3 : isItem (pk t1) = true := by simpa using hev
          rw [h3] at ec
          obtain ⟨s', J', e, p, x⟩ := fin sc pc ((xa.trans xb).trans xc)
          refine ⟨s', J', fun M n' en hM he0 he1 he2 => ?_, p, x⟩
          obtain ⟨M, rfl⟩ : ∃ j, M = j + 1 := ⟨M - 1, by omega⟩
          rw [aLoop, F228_L0]
          simp -implicitDefEqProofs only [sL, he0, he1, he2, b1, own1, ea, eb, ec, e]
    · exact absurd (body_false hr1) (by decide)
    · -- a round
      rw [hc] at hev
      simp only [Bool.true_eq, Bool.and_eq_true, Bool.not_eq_true'] at hev
      obtain ⟨⟨h1, h2⟩, h3⟩ := hev
      rw [h1] at ea
      rw [h2] at eb
      rw [h3] at ec
      have hzz : szL c1 ≤ szL cs' := runs_sz (runs_of _ _ _ _ _ _ _ hr2)
      obtain ⟨pos3, tk3, st3, r3, hd3, hl3⟩ := pc.rdy
      obtain ⟨m1, b4, t4, c4, hmm, hr4, hz4, hrest⟩ := prog_inv hr1
      have hm1 : m1 < m + 1 := by omega
      have hn1 : m1 * 20 + ts.length + 100 ≤ n := by omega
      obtain ⟨s4, J4, e4, p4, x4⟩ := hg m1 hm1 n hn1 P sc rest base k cs J b4 t4 c4 pc hr4 (by omega)
      have e4 : aCallV Tryz.prog (den C n) (v P) [] sc = some (rv b4, s4) := e4
      obtain ⟨pos4, tk4, st4, r4, hd4, hl4⟩ := p4.rdy
      rcases hrest with ⟨hl, hr5⟩ | ⟨hl, hr5⟩
      · obtain ⟨s5, J5, e5, p5, x5⟩ := unexpected_sim ts m1 n hn1 P s4 t4 base k c4 J4 false t2 c2 p4 hr5 (by omega)
        have e5 : aCall Tryz.prog (den C n) 280 [.ref P 0] s4 = some (.tup [], s5) := e5
        obtain ⟨s6, J6, e6, p6, x6⟩ := ih hg0 hn0 s5 t2 base k c2 J5 b t1 c1 m2 b' rest' cs' p5 hr3 hm2 hr2 hb
        refine ⟨s6, J6, fun M n' en hM he0 he1 he2 => ?_, p6, (((xa.trans xb).trans xc).trans x4).trans (x5.trans x6)⟩
        obtain ⟨M, rfl⟩ : ∃ j, M = j + 1 := ⟨M - 1, by omega⟩
        have hpe : ((pos4 : Int) == (pos3 : Int)) = true := by simp; omega
        rw [aLoop, F228_L0]
        simp -implicitDefEqProofs only [sL, he0, he1, he2, b1, own1, ea, eb, ec, r3.ld1, hv, e4, r4.ld1, hpe, e5]
        exact e6 _ _ _ (by omega) ((upds_get _ _ _ rfl).trans he0) ((upds_get _ _ _ rfl).trans he1) ((upds_get _ _ _ rfl).trans he2)
      · have hpe : ((pos4 : Int) == (pos3 : Int)) = false := by simp; omega
        obtain ⟨m0, rfl, hr6 | hr6⟩ := ite_inv hr5
        · obtain ⟨hc6, hr6⟩ := hr6
          obtain ⟨-, rfl, rfl⟩ := ret_inv hr6
          obtain ⟨s5, e5, p5, x5⟩ := (at_rd (ts := ts) [cl] (by decide : 1 < 50)).use (n := n) (by omega) p4
          have e5 : aCall Tryz.prog (den C n) 106 [.ref P 0, strs [cl]] s4 = some (.bool true, s5) := by rw [← hc6]; exact e5
          obtain ⟨s6, J6, e6, p6, x6⟩ := ih hg0 hn0 s5 t2 base k c2 J4 b t1 c1 m2 b' rest' cs' p5 hr3 hm2 hr2 hb
          refine ⟨s6, J6, fun M n' en hM he0 he1 he2 => ?_, p6, (((xa.trans xb).trans xc).trans x4).trans (x5.trans x6)⟩
          obtain ⟨M, rfl⟩ : ∃ j, M = j + 1 := ⟨M - 1, by omega⟩
          rw [aLoop, F228_L0]
          simp -implicitDefEqProofs only [sL, he0, he1, he2, b1, own1, ea, eb, ec, r3.ld1, hv, e4, r4.ld1, hpe, e5]
          exact e6 _ _ _ (by omega) ((upds_get _ _ _ rfl).trans he0) ((upds_get _ _ _ rfl).trans he1) ((upds_get _ _ _ rfl).trans he2)
        · obtain ⟨hc6, hr6⟩ := hr6
          obtain ⟨s5, e5, p5, x5⟩ := (at_rd (ts := ts) [cl] (by decide : 1 < 50)).use (n := n) (by omega) p4
          have e5 : aCall Tryz.prog (den C n) 106 [.ref P 0, strs [cl]] s4 = some (.bool false, s5) := by rw [← hc6]; exact e5
          obtain ⟨s7, J7, e7, p7, x7⟩ := expect_sim ts m0 wComma n (by omega) P s5 t4 base k c4 J4 false t2 c2 p5 hr6 (by omega)
          have e7 : aCall Tryz.prog (den C n) 184 [.ref P 0, .str [44]] s5 = some (.tup [], s7) := e7
          obtain ⟨s6, J6, e6, p6, x6⟩ := ih hg0 hn0 s7 t2 base k c2 J7 b t1 c1 m2 b' rest' cs' p7 hr3 hm2 hr2 hb
          refine ⟨s6, J6, fun M n' en hM he0 he1 he2 => ?_, p6, (((xa.trans xb).trans xc).trans x4).trans ((x5.trans x7).trans x6)⟩
          obtain ⟨M, rfl⟩ : ∃ j, M = j + 1 := ⟨M - 1, by omega⟩
          rw [aLoop, F228_L0]
          simp -implicitDefEqProofs only [sL, he0, he1, he2, b1, own1, ea, eb, ec, r3.ld1, hv, e4, r4.ld1, hpe, e5, e7]
          exact e6 _ _ _ (by omega) ((upds_get _ _ _ rfl).trans he0) ((upds_get _ _ _ rfl).trans he1) ((upds_get _ _ _ rfl).trans he2)
theorem list_sim {ts : List Tok} {m : Nat} (cl : Bytes) {el : G} {rv : Bool → AV} {v : Nat → AV} (hv : ∀ P, (v P).strip = v P) (hg : ∀ m' < m, Sim ts m' el rv (cvF v)) : Sim ts m (gList cl el) vd (fnF 228 fun P => [.ref P 0, .str cl, v P]) := by
  intro n hn P s rest base k cs J b rest' cs' h hr hb
  obtain ⟨m1, b1, t1, c1, hm, hr1, hr2, hz⟩ := seq_inv hr
  obtain ⟨n, rfl⟩ : ∃ j, n = j + 1 := ⟨n - 1, by omega⟩
  obtain ⟨s1, J1, e1, p1, x1⟩ := list_loop hv (n := n) m1 (fun m' hm' => hg m' (by omega)) (by omega) s rest base k cs J b1 t1 c1 m1 b rest' cs' h hr1 (by omega) hr2 hb
  refine ⟨s1, J1, ?_, p1, x1⟩
  show aCall Tryz.prog (den C (n + 1)) 228 [.ref P 0, .str cl, v P] s = _
  rw [callR en228 (ref1 ..), F228_eq, F228]
  exact e1 _ _ _ (by omega) rfl rfl rfl
theorem call_sim {ts : List Tok} {m f : Nat} {rv : Bool → AV} {F : Nat → Nat → Heap → Option (AV × Heap)} (h : ∀ k < m, Sim ts k (defs f) rv F) : Sim ts m (.call f) rv F := by
  intro n hn P s rest base k cs J b rest' cs' hp hr hb
  obtain ⟨m', hm, hr⟩ := call_inv hr
  exact h m' (by omega) n (by omega) P s rest base k cs J b rest' cs' hp hr hb
theorem box1 (i o : Nat) (l : List AV) : noRefL (.box [.ref i o] 0 :: l) = false := by rw [noRefL_cons]; simp [AV.noRef, noRefL]
theorem aBox_ref (t i o : Nat) (s : Heap) : aBox false t (.ref i o) s = some (.box [.ref i o] 0, s) := rfl
theorem aBox_str (t : Nat) (a : Bytes) (s : Heap) : aBox false t (.str a) s = some (.box [.str a] 0, s) := rfl
theorem aBox_bool (t : Nat) (a : Bool) (s : Heap) : aBox false t (.bool a) s = some (.box [.bool a] 0, s) := rfl
theorem aBox_int (t : Nat) (a : Int) (s : Heap) : aBox false t (I a) s = some (.box [I a] 0, s) := rfl
abbrev pb (P : Nat) : AV := .box [.ref P 0] 0
structure AllS (ts : List Tok) (m : Nat) : Prop where
  ty : Sim ts m (.call 0) vd (fnF 185 fun P => [.ref P 0])
  bl : Sim ts m (.call 1) vd (fnF 227 fun P => [.ref P 0])
  st : Sim ts m (.call 2) bv (fnF 278 fun P => [.ref P 0])
  pr : Sim ts m (.call 4) vd (fnF 318 fun P => [.ref P 0])
  pa : Sim ts m (.call 5) vd (fnF 334 fun P => [.ref P 0])
  ix : Sim ts m (.call 6) vd (fnF 338 fun P => [.ref P 0])
  ex : Sim ts m (.call 10) vd (fnF 186 fun P => [.ref P 0])
  un : Sim ts m (.call 15) vd (fnF 285 fun P => [.ref P 0])
  bi : ∀ l : Nat, l ≤ 5 → Sim ts m (.call (10 + l)) vd (fnF 241 fun P => [.ref P 0, I l])
end ParF
end

section
set_option maxRecDepth 100000
set_option maxHeartbeats 1000000
namespace ParF
open Go Go.Abs Go.Proofs Pm
def valF : G → Bool
  | .ret b => !b
  | .bump | .put _ | .insN => true
  | .seq _ b => valF b
  | .node _ g => valF g
  | .wrap _ g => valF g
  | .ite _ a b => valF a && valF b
  | .bra _ a b => valF a && valF b
  | .prog _ a b => valF a && valF b
  | .stm _ b => valF b
  | .whil _ g => valF g
  | .call _ => false
theorem val_false : ∀ {m : Nat} {g : G} {ts ts' : List Tok} {cs cs' : List Tree} {b : Bool}, valF g = true → run m g ts cs = some (b, ts', cs') → b = false := by
  have key : ∀ {g : G} {ts ts' : List Tok} {cs cs' : List Tree} {b : Bool}, Runs g ts cs b ts' cs' → valF g = true → b = false := by
    intro g ts ts' cs cs' b h
    induction h with
    | ret b ts cs => intro h; simpa [valF] using h
    | bump ts cs => intro _; rfl
    | put k ts cs => intro _; rfl
    | insN ts cs t => intro _; rfl
    | seq h1 h2 i1 i2 => exact i2
    | node cs hk h i => exact i
    | wrap cs hk h i => exact i
    | ite1 hc h i => intro k; simp only [valF, Bool.and_eq_true] at k; exact i k.1
    | ite2 hc h i => intro k; simp only [valF, Bool.and_eq_true] at k; exact i k.2
    | bra1 h1 h2 i1 i2 => intro k; simp only [valF, Bool.and_eq_true] at k; exact i2 k.1
    | bra2 h1 h2 i1 i2 => intro k; simp only [valF, Bool.and_eq_true] at k; exact i2 k.2
    | prog1 h1 hl h2 i1 i2 => intro k; simp only [valF, Bool.and_eq_true] at k; exact i2 k.1
    | prog2 h1 hl h2 i1 i2 => intro k; simp only [valF, Bool.and_eq_true] at k; exact i2 k.2
    | stm1 h1 hl ht h2 i1 i2 => intro _; exact i2 rfl
    | stm2 h1 hl h2 i1 i2 => exact i2
    | whil0 hc => intro _; rfl
    | whil1 hc h i => exact i
    | whil2 hc h h2 i1 i2 => exact i2
    | call h i => intro k; cases k
  intro m g ts ts' cs cs' b hv h
  exact key (runs_of _ _ _ _ _ _ _ h) hv
def SimD (d : Nat) (ts : List Tok) (m : Nat) (g : G) (rv : Bool → AV) (F : Nat → Nat → Heap → Option (AV × Heap)) : Prop :=
  ∀ n, m * 20 + ts.length + 100 ≤ n + d → ∀ P s rest base k cs J b rest' cs', PR ts P s rest base k cs J → run m g rest cs = some (b, rest', cs') → base.length + szL cs' < 900000000 →
    ∃ s' J', F n P s = some (rv b, s') ∧ PR ts P s' rest' base k cs' J' ∧ Ex s s' J J'
theorem node_simD {ts : List Tok} {m k : Nat} {g : G} {rv : Bool → AV} {v : Nat → AV} (hv : ∀ P, (v P).strip = v P) (hg : ∀ m' < m, Sim ts m' g rv (cvF v)) : SimD 8 ts m (.node k g) vd (fnF 110 fun P => [.ref P 0, I k, v P]) := by
  intro n hn P s rest base k0 cs J b rest' cs' h hr hb
  obtain ⟨m1, ds, hm, hr1, rfl⟩ := node_inv hr
  obtain ⟨n, rfl⟩ : ∃ j, n = j + 3 := ⟨n - 3, by omega⟩
  rw [szL_append, szL_one, szT_mk] at hb
  exact node_run [] h hb (hv P) n fun s3 lv J3 p3 x3 => by
    obtain ⟨s4, J4, e4, p4, x4⟩ := hg m1 (by omega) (n + 2) (by omega) P s3 rest (base ++ [lv]) k [] J3 b rest' ds p3 hr1 (by rw [app_len]; show base.length + 1 + _ < _; omega)
    exact ⟨s4, J4, _, e4, p4, x4⟩
theorem wrap_simD {ts : List Tok} {m k : Nat} {g : G} {rv : Bool → AV} {v : Nat → AV} (hv : ∀ P, (v P).strip = v P) (hg : ∀ m' < m, Sim ts m' g rv (cvF v)) : SimD 8 ts m (.wrap k g) vd (fnF 287 fun P => [.ref P 0, I k, v P]) := by
  intro n hn P s rest base k0 cs J b rest' cs' h hr hb
  obtain ⟨m1, ini, t, ds, hm, rfl, hr1, rfl⟩ := wrap_inv hr
  obtain ⟨n, rfl⟩ : ∃ j, n = j + 3 := ⟨n - 3, by omega⟩
  rw [szL_append, szL_one, szT_mk] at hb
  exact wrap_run h hb (hv P) n fun s3 lv J3 p3 x3 => by
    obtain ⟨s4, J4, e4, p4, x4⟩ := hg m1 (by omega) (n + 2) (by omega) P s3 rest (base ++ [lv]) k [t] J3 b rest' ds p3 hr1 (by rw [app_len]; show base.length + 1 + _ < _; omega)
    exact ⟨s4, J4, _, e4, p4, x4⟩
theorem list_simD {ts : List Tok} {m : Nat} (cl : Bytes) {el : G} {rv : Bool → AV} {v : Nat → AV} (hv : ∀ P, (v P).strip = v P) (hg : ∀ m' < m, Sim ts m' el rv (cvF v)) : SimD 8 ts m (gList cl el) vd (fnF 228 fun P => [.ref P 0, .str cl, v P]) := by
  intro n hn P s rest base k cs J b rest' cs' h hr hb
  obtain ⟨m1, b1, t1, c1, hm, hr1, hr2, hz⟩ := seq_inv hr
  obtain ⟨n, rfl⟩ : ∃ j, n = j + 1 := ⟨n - 1, by omega⟩
  obtain ⟨s1, J1, e1, p1, x1⟩ := list_loop hv (n := n) m1 (fun m' hm' => hg m' (by omega)) (by omega) s rest base k cs J b1 t1 c1 m1 b rest' cs' h hr1 (by omega) hr2 hb
  refine ⟨s1, J1, ?_, p1, x1⟩
  show aCall Tryz.prog (den C (n + 1)) 228 [.ref P 0, .str cl, v P] s = _
  rw [callR en228 (ref1 ..), F228_eq, F228]
  exact e1 _ _ _ (by omega) rfl rfl rfl
theorem argEnv_0 (a : AV) (l : List AV) : argEnv (a :: l) 0 = a := rfl
theorem argEnv_1 (a b : AV) (l : List AV) : argEnv (a :: b :: l) 1 = b := rfl
theorem argEnv_2 (a b c : AV) (l : List AV) : argEnv (a :: b :: c :: l) 2 = c := rfl
theorem s244 {ts : List Tok} {m : Nat} (H : ∀ k < m, AllS ts k) : Sim ts m (.seq .bump (gOpt wColon (.call 0))) vd (fnF 244 fun P => [.box [.ref P 0] 0]) := by
  intro n hn P s rest base k cs J b rest' cs' h hr hb
  obtain ⟨n, rfl⟩ : ∃ j, n = j + 1 := ⟨n - 1, by omega⟩
  obtain ⟨m1, b1, t1, c1, hm1, ha1, hr1, hz1⟩ := seq_inv hr
  obtain ⟨s2, J2, q2, p2, x2⟩ := (bump_sim ts m1) n (by omega) P s rest base k cs J b1 t1 c1 h ha1 (by omega)
  have e2 : aCall Tryz.prog (den C n) 113 [.ref P 0] s = some (.tup [], s2) := q2
  obtain ⟨s3, J3, q3, p3, x3⟩ := (opt_sim (ts := ts) (m := m1) wColon (v := fun P => .fn 185 [.ref P 0] []) (fun _ => rfl) (fun k hk => (H k (by omega)).ty)) n (by omega) P s2 t1 base k c1 J2 b rest' cs' p2 hr1 (by omega)
  have e3 : aCall Tryz.prog (den C n) 225 [.ref P 0, .str [58], .fn 185 [.ref P 0] []] s2 = some (.tup [], s3) := q3
  refine ⟨s3, J3, ?_, p3, (x2.trans x3)⟩
  show aCall Tryz.prog (den C (n + 1)) 244 [.box [.ref P 0] 0] s = _
  rw [callR en244 (box1 ..), F244_eq, F244]
  simp -implicitDefEqProofs only [sL, bs1, bs2, bs3, strip_own, aBox_ref, aBox_str, aBox_bool, aBox_int, e2, e3]
theorem s243 {ts : List Tok} {m : Nat} (H : ∀ k < m, AllS ts k) : Sim ts m (gParam) vd (fnF 243 fun P => [.box [.ref P 0] 0]) := by
  intro n hn P s rest base k cs J b rest' cs' h hr hb
  obtain ⟨n, rfl⟩ : ∃ j, n = j + 1 := ⟨n - 1, by omega⟩
  obtain ⟨s1, q1, p1, x1⟩ := (ident_rd ts).use (n := n) (by omega) h
  obtain ⟨m1, hm1, ho1⟩ := ite_inv hr
  rcases ho1 with ⟨hc1, hr1⟩ | ⟨hc1, hr1⟩
  · have e1 : aCall Tryz.prog (den C n) 230 [.ref P 0] s = some (.bool true, s1) := by rw [← hc1]; exact q1
    obtain ⟨s2, J2, q2, p2, x2⟩ := (node_simD (ts := ts) (m := m1) (k := 13) (v := fun P => .fn 244 [] [.box [.ref P 0] 0]) (fun _ => rfl) (fun k hk => s244 (fun k hk => H k (by omega)))) n (by omega) P s1 rest base k cs J b rest' cs' p1 hr1 (by omega)
    have e2 : aCall Tryz.prog (den C n) 110 [.ref P 0, .int .i64 13, .fn 244 [] [.box [.ref P 0] 0]] s1 = some (.tup [], s2) := q2
    refine ⟨s2, J2, ?_, p2, (x1.trans x2)⟩
    show aCall Tryz.prog (den C (n + 1)) 243 [.box [.ref P 0] 0] s = _
    rw [callR en243 (box1 ..), F243_eq, F243]
    simp -implicitDefEqProofs only [sL, bs1, bs2, bs3, strip_own, aBox_ref, aBox_str, aBox_bool, aBox_int, e1, e2]
  · have e1 : aCall Tryz.prog (den C n) 230 [.ref P 0] s = some (.bool false, s1) := by rw [← hc1]; exact q1
    obtain ⟨hb3, rfl, rfl⟩ := ret_inv hr1
    refine ⟨s1, J, ?_, p1, x1⟩
    show aCall Tryz.prog (den C (n + 1)) 243 [.box [.ref P 0] 0] s = _
    rw [callR en243 (box1 ..), F243_eq, F243]
    simp -implicitDefEqProofs only [sL, bs1, bs2, bs3, strip_own, aBox_ref, aBox_str, aBox_bool, aBox_int, e1]
theorem s242 {ts : List Tok} {m : Nat} (cl : Bytes) (H : ∀ k < m, AllS ts k) : Sim ts m (gList cl gParam) vd (fnF 242 fun P => [.box [.ref P 0] 0, .box [.str cl] 0]) := by
  intro n hn P s rest base k cs J b rest' cs' h hr hb
  obtain ⟨n, rfl⟩ : ∃ j, n = j + 1 := ⟨n - 1, by omega⟩
  obtain ⟨s1, J1, q1, p1, x1⟩ := (list_simD (ts := ts) (m := m) cl (v := fun P => .fn 243 [] [.box [.ref P 0] 0]) (fun _ => rfl) (fun k hk => s243 (fun k hk => H k (by omega)))) n (by omega) P s rest base k cs J b rest' cs' h hr (by omega)
  have e1 : aCall Tryz.prog (den C n) 228 [.ref P 0, .str cl, .fn 243 [] [.box [.ref P 0] 0]] s = some (.tup [], s1) := q1
  refine ⟨s1, J1, ?_, p1, x1⟩
  show aCall Tryz.prog (den C (n + 1)) 242 [.box [.ref P 0] 0, .box [.str cl] 0] s = _
  rw [callR en242 (box1 ..), F242_eq, F242]
  simp -implicitDefEqProofs only [sL, bs1, bs2, bs3, strip_own, aBox_ref, aBox_str, aBox_bool, aBox_int, e1]
theorem s187 {ts : List Tok} {m : Nat} (cl : Bytes) (H : ∀ k < m, AllS ts k) : Sim ts m (gParams cl) vd (fnF 187 fun P => [.ref P 0, .str cl]) := by
  intro n hn P s rest base k cs J b rest' cs' h hr hb
  obtain ⟨n, rfl⟩ : ∃ j, n = j + 1 := ⟨n - 1, by omega⟩
  obtain ⟨s1, J1, q1, p1, x1⟩ := (node_simD (ts := ts) (m := m) (k := 12) (v := fun P => .fn 242 [] [.box [.ref P 0] 0, .box [.str cl] 0]) (fun _ => rfl) (fun k hk => s242 cl (fun k hk => H k (by omega)))) n (by omega) P s rest base k cs J b rest' cs' h hr (by omega)
  have e1 : aCall Tryz.prog (den C n) 110 [.ref P 0, .int .i64 12, .fn 242 [] [.box [.ref P 0] 0, .box [.str cl] 0]] s = some (.tup [], s1) := q1
  refine ⟨s1, J1, ?_, p1, x1⟩
  show aCall Tryz.prog (den C (n + 1)) 187 [.ref P 0, .str cl] s = _
  rw [callR en187 (ref1 ..), F187_eq, F187]
  simp -implicitDefEqProofs only [sL, bs1, bs2, bs3, strip_own, aBox_ref, aBox_str, aBox_bool, aBox_int, e1]
theorem s284t {ts : List Tok} {m : Nat} (H : ∀ k < m, AllS ts k) : Sim ts m (.seq gIdent (gIf [wLt] (gList wGt (.call 0)))) vd (fnF 284 fun P => [.box [.ref P 0] 0, .box [.bool true] 0]) := by
  intro n hn P s rest base k cs J b rest' cs' h hr hb
  obtain ⟨n, rfl⟩ : ∃ j, n = j + 1 := ⟨n - 1, by omega⟩
  obtain ⟨m1, b1, t1, c1, hm1, ha1, hr1, hz1⟩ := seq_inv hr
  obtain ⟨s2, J2, q2, p2, x2⟩ := (ident_sim ts m1) n (by omega) P s rest base k cs J b1 t1 c1 h ha1 (by omega)
  have e2 : aCall Tryz.prog (den C n) 181 [.ref P 0] s = some (.tup [], s2) := q2
  obtain ⟨m3, hm3, ho3⟩ := ite_inv hr1
  rcases ho3 with ⟨hc3, hr3⟩ | ⟨hc3, hr3⟩
  · obtain ⟨m4, b4, t4, c4, hm4, ha4, hr4, hz4⟩ := seq_inv hr3
    obtain ⟨s4, J4, q4, p4, x4⟩ := acc_yes [wLt] (by decide : 1 < 50) (n := n) (by omega) p2 hc3 ha4 (by omega)
    have e4 : aCall Tryz.prog (den C n) 112 [.ref P 0, .sl 9 1 [.str [60]] .sh] s2 = some (.bool true, s4) := q4
    obtain ⟨s5, J5, q5, p5, x5⟩ := (list_simD (ts := ts) (m := m4) wGt (v := fun P => .fn 185 [.ref P 0] []) (fun _ => rfl) (fun k hk => (H k (by omega)).ty)) n (by omega) P s4 t4 base k c4 J4 b rest' cs' p4 hr4 (by omega)
    have e5 : aCall Tryz.prog (den C n) 228 [.ref P 0, .str [62], .fn 185 [.ref P 0] []] s4 = some (.tup [], s5) := q5
    refine ⟨s5, J5, ?_, p5, ((x2.trans x4).trans x5)⟩
    show aCall Tryz.prog (den C (n + 1)) 284 [.box [.ref P 0] 0, .box [.bool true] 0] s = _
    rw [callR en284 (box1 ..), F284_eq, F284]
    simp -implicitDefEqProofs only [sL, bs1, bs2, bs3, strip_own, aBox_ref, aBox_str, aBox_bool, aBox_int, e2, e4, e5]
  · obtain ⟨s6, q6, p6, x6⟩ := acc_no [wLt] (by decide : 1 < 50) (n := n) (by omega) p2 hc3
    have e6 : aCall Tryz.prog (den C n) 112 [.ref P 0, .sl 9 1 [.str [60]] .sh] s2 = some (.bool false, s6) := q6
    obtain ⟨hb7, rfl, rfl⟩ := ret_inv hr3
    refine ⟨s6, J2, ?_, p6, (x2.trans x6)⟩
    show aCall Tryz.prog (den C (n + 1)) 284 [.box [.ref P 0] 0, .box [.bool true] 0] s = _
    rw [callR en284 (box1 ..), F284_eq, F284]
    simp -implicitDefEqProofs only [sL, bs1, bs2, bs3, strip_own, aBox_ref, aBox_str, aBox_bool, aBox_int, e2, e6]
theorem s284f {ts : List Tok} {m : Nat} (H : ∀ k < m, AllS ts k) : Sim ts m (.seq gIdent nop) vd (fnF 284 fun P => [.box [.ref P 0] 0, .box [.bool false] 0]) := by
  intro n hn P s rest base k cs J b rest' cs' h hr hb
  obtain ⟨n, rfl⟩ : ∃ j, n = j + 1 := ⟨n - 1, by omega⟩
  obtain ⟨m1, b1, t1, c1, hm1, ha1, hr1, hz1⟩ := seq_inv hr
  obtain ⟨s2, J2, q2, p2, x2⟩ := (ident_sim ts m1) n (by omega) P s rest base k cs J b1 t1 c1 h ha1 (by omega)
  have e2 : aCall Tryz.prog (den C n) 181 [.ref P 0] s = some (.tup [], s2) := q2
  obtain ⟨hb3, rfl, rfl⟩ := ret_inv hr1
  refine ⟨s2, J2, ?_, p2, x2⟩
  show aCall Tryz.prog (den C (n + 1)) 284 [.box [.ref P 0] 0, .box [.bool false] 0] s = _
  rw [callR en284 (box1 ..), F284_eq, F284]
  simp -implicitDefEqProofs only [sL, bs1, bs2, bs3, strip_own, aBox_ref, aBox_str, aBox_bool, aBox_int, e2]
theorem seg_sim {ts : List Tok} {m : Nat} (ty : Bool) (H : ∀ k < m, AllS ts k) : SimD 8 ts m (gSeg ty) vd (fnF 110 fun P => [.ref P 0, .int .i64 18, .fn 284 [] [.box [.ref P 0] 0, .box [.bool ty] 0]]) := by
  cases ty with
  | true => exact node_simD (ts := ts) (m := m) (k := 18) (v := fun P => .fn 284 [] [.box [.ref P 0] 0, .box [.bool true] 0]) (fun _ => rfl) (fun k hk => s284t (fun k hk => H k (by omega)))
  | false => exact node_simD (ts := ts) (m := m) (k := 18) (v := fun P => .fn 284 [] [.box [.ref P 0] 0, .box [.bool false] 0]) (fun _ => rfl) (fun k hk => s284f (fun k hk => H k (by omega)))
theorem l283 {ts : List Tok} {n P : Nat} (ty : Bool) : ∀ (m : Nat), (∀ k < m, AllS ts k) → m * 20 + ts.length + 110 ≤ n → ∀ s rest base k cs J b rest' cs', PR ts P s rest base k cs J → run m (.whil (rAt [wColCol]) (.seq .bump (gSeg ty))) rest cs = some (b, rest', cs') → base.length + szL cs' < 900000000 →
    ∃ s' J', (∀ M n' e, m < M → e 0 = pb P → e 1 = .box [.bool ty] 0 → e 2 = .bool false → aLoop (F283_L0 (den C n) n') M e s = some (.tup [], s')) ∧ PR ts P s' rest' base k cs' J' ∧ Ex s s' J J' := by
  intro m
  induction m with
  | zero => intro _ _ s rest base k cs J b rest' cs' h hr; rw [Pm.run_zero] at hr; cases hr
  | succ m ih =>
    intro H hn s rest base k cs J b rest' cs' h hr hb
    have hn0 : m * 20 + ts.length + 110 ≤ n := by omega
    have H0 : ∀ k < m, AllS ts k := fun k hk => H k (Nat.lt_succ_of_lt hk)
    obtain ⟨m', hm', hw⟩ := whil_inv hr
    cases hm'
    rcases hw with ⟨hc, rfl, rfl, rfl⟩ | ⟨hc, hrb, hb0⟩ | ⟨hc, tw, cw, hrb, hrw, hzw⟩
    · obtain ⟨sa, qa, pa, xa⟩ := acc_no [wColCol] (by decide : 1 < 50) (n := n) (by omega) h hc
      have ea : aCall Tryz.prog (den C n) 112 [.ref P 0, .sl 9 1 [.str [58, 58]] .sh] s = some (.bool false, sa) := qa
      refine ⟨sa, J, fun M n' e hM he0 he1 he2 => ?_, pa, xa⟩
      obtain ⟨M, rfl⟩ : ∃ j, M = j + 1 := ⟨M - 1, by omega⟩
      rw [aLoop, F283_L0]
      simp -implicitDefEqProofs only [sL, bs1, bs2, bs3, strip_own, aBox_ref, he0, he1, he2, ea]
    · exact absurd (val_false (by cases ty <;> rfl) hrb) (by decide)
    · obtain ⟨m1, b1, t1, c1, hm1, ha1, hr1, hz1⟩ := seq_inv hrb
      obtain ⟨s1, J1, q1, p1, x1⟩ := acc_yes [wColCol] (by decide : 1 < 50) (n := n) (by omega) h hc ha1 (by omega)
      have e1 : aCall Tryz.prog (den C n) 112 [.ref P 0, .sl 9 1 [.str [58, 58]] .sh] s = some (.bool true, s1) := q1
      obtain ⟨s2, J2, q2, p2, x2⟩ := (seg_sim (ts := ts) (m := m1) ty (fun k hk => H k (by omega))) n (by omega) P s1 t1 base k c1 J1 false tw cw p1 hr1 (by omega)
      have e2 : aCall Tryz.prog (den C n) 110 [.ref P 0, .int .i64 18, .fn 284 [] [.box [.ref P 0] 0, .box [.bool ty] 0]] s1 = some (.tup [], s2) := q2
      obtain ⟨s0, J0, e0, p0, x0⟩ := ih H0 hn0 s2 tw base k cw J2 b rest' cs' p2 hrw hb
      refine ⟨s0, J0, fun M n' e hM he0 he1 he2 => ?_, p0, (x1.trans x2).trans x0⟩
      obtain ⟨M, rfl⟩ : ∃ j, M = j + 1 := ⟨M - 1, by omega⟩
      rw [aLoop, F283_L0]
      simp -implicitDefEqProofs only [sL, bs1, bs2, bs3, strip_own, aBox_ref, he0, he1, he2, e1, e2]
      exact e0 _ _ _ (by omega) ((upds_get _ _ _ rfl).trans he0) ((upds_get _ _ _ rfl).trans he1) (by simp [upds_at, upd_at])
theorem s283 {ts : List Tok} {m : Nat} (ty : Bool) (H : ∀ k < m, AllS ts k) : Sim ts m (.seq (gSeg ty) (.whil (rAt [wColCol]) (.seq .bump (gSeg ty)))) vd (fnF 283 fun P => [.box [.ref P 0] 0, .box [.bool ty] 0]) := by
  intro n hn P s rest base k cs J b rest' cs' h hr hb
  obtain ⟨n, rfl⟩ : ∃ j, n = j + 2 := ⟨n - 2, by omega⟩
  obtain ⟨m1, b1, t1, c1, hm1, ha1, hr1, hz1⟩ := seq_inv hr
  obtain ⟨s1, J1, q1, p1, x1⟩ := seg_sim (ts := ts) (m := m1) ty (fun k hk => H k (by omega)) (n + 1) (by omega) P s rest base k cs J b1 t1 c1 h ha1 (by omega)
  have e1 : aCall Tryz.prog (den C (n + 1)) 110 [.ref P 0, .int .i64 18, .fn 284 [] [.box [.ref P 0] 0, .box [.bool ty] 0]] s = some (.tup [], s1) := q1
  obtain ⟨s2, J2, e2, p2, x2⟩ := l283 (P := P) ty (n := n + 1) m1 (fun k hk => H k (by omega)) (by omega) s1 t1 base k c1 J1 b rest' cs' p1 hr1 hb
  refine ⟨s2, J2, ?_, p2, x1.trans x2⟩
  show aCall Tryz.prog (den C (n + 2)) 283 [.box [.ref P 0] 0, .box [.bool ty] 0] s = _
  rw [callR en283 (box1 ..), F283_eq, F283]
  rw [oh_some, aLoop, F283_L0]
  have f0 : upds (argEnv [.box [.ref P 0] 0, .box [.bool ty] 0]) [(2, .bool true)] 0 = .box [.ref P 0] 0 := rfl
  have f1 : upds (argEnv [.box [.ref P 0] 0, .box [.bool ty] 0]) [(2, .bool true)] 1 = .box [.bool ty] 0 := rfl
  have f2 : upds (argEnv [.box [.ref P 0] 0, .box [.bool ty] 0]) [(2, .bool true)] 2 = .bool true := rfl
  simp -implicitDefEqProofs only [sL, f0, f1, f2, e1]
  exact e2 _ _ _ (by omega) ((upds_get _ _ _ rfl).trans f0) ((upds_get _ _ _ rfl).trans f1) (by simp [upds_at, upd_at])
theorem s239 {ts : List Tok} {m : Nat} (ty : Bool) (H : ∀ k < m, AllS ts k) : Sim ts m (gPath ty) vd (fnF 239 fun P => [.ref P 0, .bool ty]) := by
  intro n hn P s rest base k cs J b rest' cs' h hr hb
  obtain ⟨n, rfl⟩ : ∃ j, n = j + 1 := ⟨n - 1, by omega⟩
  obtain ⟨s1, J1, q1, p1, x1⟩ := (node_simD (ts := ts) (m := m) (k := 17) (v := fun P => .fn 283 [] [.box [.ref P 0] 0, .box [.bool ty] 0]) (fun _ => rfl) (fun k hk => s283 ty (fun k hk => H k (by omega)))) n (by omega) P s rest base k cs J b rest' cs' h hr (by omega)
  have e1 : aCall Tryz.prog (den C n) 110 [.ref P 0, .int .i64 17, .fn 283 [] [.box [.ref P 0] 0, .box [.bool ty] 0]] s = some (.tup [], s1) := q1
  refine ⟨s1, J1, ?_, p1, x1⟩
  show aCall Tryz.prog (den C (n + 1)) 239 [.ref P 0, .bool ty] s = _
  rw [callR en239 (ref1 ..), F239_eq, F239]
  simp -implicitDefEqProofs only [sL, bs1, bs2, bs3, strip_own, aBox_ref, aBox_str, aBox_bool, aBox_int, e1]
theorem s237 {ts : List Tok} {m : Nat} (H : ∀ k < m, AllS ts k) : Sim ts m (.seq .bump (.seq (gIf [wMut] nop) (.call 0))) vd (fnF 237 fun P => [.box [.ref P 0] 0]) := by
  intro n hn P s rest base k cs J b rest' cs' h hr hb
  obtain ⟨n, rfl⟩ : ∃ j, n = j + 1 := ⟨n - 1, by omega⟩
  obtain ⟨m1, b1, t1, c1, hm1, ha1, hr1, hz1⟩ := seq_inv hr
  obtain ⟨s2, J2, q2, p2, x2⟩ := (bump_sim ts m1) n (by omega) P s rest base k cs J b1 t1 c1 h ha1 (by omega)
  have e2 : aCall Tryz.prog (den C n) 113 [.ref P 0] s = some (.tup [], s2) := q2
  obtain ⟨m3, b3, t3, c3, hm3, ha3, hr3, hz3⟩ := seq_inv hr1
  obtain ⟨m4, hm4, ho4⟩ := ite_inv ha3
  rcases ho4 with ⟨hc4, hr4⟩ | ⟨hc4, hr4⟩
  · obtain ⟨m5, b5, t5, c5, hm5, ha5, hr5, hz5⟩ := seq_inv hr4
    obtain ⟨s5, J5, q5, p5, x5⟩ := acc_yes [wMut] (by decide : 1 < 50) (n := n) (by omega) p2 hc4 ha5 (by omega)
    have e5 : aCall Tryz.prog (den C n) 112 [.ref P 0, .sl 9 1 [.str [109, 117, 116]] .sh] s2 = some (.bool true, s5) := q5
    obtain ⟨hb6, rfl, rfl⟩ := ret_inv hr5
    obtain ⟨s7, J7, q7, p7, x7⟩ := ((H m3 (by omega)).ty) n (by omega) P s5 t3 base k c3 J5 b rest' cs' p5 hr3 (by omega)
    have e7 : aCall Tryz.prog (den C n) 185 [.ref P 0] s5 = some (.tup [], s7) := q7
    refine ⟨s7, J7, ?_, p7, ((x2.trans x5).trans x7)⟩
    show aCall Tryz.prog (den C (n + 1)) 237 [.box [.ref P 0] 0] s = _
    rw [callR en237 (box1 ..), F237_eq, F237]
    simp -implicitDefEqProofs only [sL, bs1, bs2, bs3, strip_own, aBox_ref, aBox_str, aBox_bool, aBox_int, e2, e5, e7]
  · obtain ⟨s8, q8, p8, x8⟩ := acc_no [wMut] (by decide : 1 < 50) (n := n) (by omega) p2 hc4
    have e8 : aCall Tryz.prog (den C n) 112 [.ref P 0, .sl 9 1 [.str [109, 117, 116]] .sh] s2 = some (.bool false, s8) := q8
    obtain ⟨hb9, rfl, rfl⟩ := ret_inv hr4
    obtain ⟨s10, J10, q10, p10, x10⟩ := ((H m3 (by omega)).ty) n (by omega) P s8 t3 base k c3 J2 b rest' cs' p8 hr3 (by omega)
    have e10 : aCall Tryz.prog (den C n) 185 [.ref P 0] s8 = some (.tup [], s10) := q10
    refine ⟨s10, J10, ?_, p10, ((x2.trans x8).trans x10)⟩
    show aCall Tryz.prog (den C (n + 1)) 237 [.box [.ref P 0] 0] s = _
    rw [callR en237 (box1 ..), F237_eq, F237]
    simp -implicitDefEqProofs only [sL, bs1, bs2, bs3, strip_own, aBox_ref, aBox_str, aBox_bool, aBox_int, e2, e8, e10]
theorem s238 {ts : List Tok} {m : Nat} (H : ∀ k < m, AllS ts k) : Sim ts m (.seq .bump (.seq (gExpect wLPar) (.seq (gList wRPar (.call 0)) (gOpt wArrow (.call 0))))) vd (fnF 238 fun P => [.box [.ref P 0] 0]) := by
  intro n hn P s rest base k cs J b rest' cs' h hr hb
  obtain ⟨n, rfl⟩ : ∃ j, n = j + 1 := ⟨n - 1, by omega⟩
  obtain ⟨m1, b1, t1, c1, hm1, ha1, hr1, hz1⟩ := seq_inv hr
  obtain ⟨s2, J2, q2, p2, x2⟩ := (bump_sim ts m1) n (by omega) P s rest base k cs J b1 t1 c1 h ha1 (by omega)
  have e2 : aCall Tryz.prog (den C n) 113 [.ref P 0] s = some (.tup [], s2) := q2
  obtain ⟨m3, b3, t3, c3, hm3, ha3, hr3, hz3⟩ := seq_inv hr1
  obtain ⟨s4, J4, q4, p4, x4⟩ := (expect_sim ts m3 wLPar) n (by omega) P s2 t1 base k c1 J2 b3 t3 c3 p2 ha3 (by omega)
  have e4 : aCall Tryz.prog (den C n) 184 [.ref P 0, .str [40]] s2 = some (.tup [], s4) := q4
  obtain ⟨m5, b5, t5, c5, hm5, ha5, hr5, hz5⟩ := seq_inv hr3
  obtain ⟨s6, J6, q6, p6, x6⟩ := (list_simD (ts := ts) (m := m5) wRPar (v := fun P => .fn 185 [.ref P 0] []) (fun _ => rfl) (fun k hk => (H k (by omega)).ty)) n (by omega) P s4 t3 base k c3 J4 b5 t5 c5 p4 ha5 (by omega)
  have e6 : aCall Tryz.prog (den C n) 228 [.ref P 0, .str [41], .fn 185 [.ref P 0] []] s4 = some (.tup [], s6) := q6
  obtain ⟨s7, J7, q7, p7, x7⟩ := (opt_sim (ts := ts) (m := m5) wArrow (v := fun P => .fn 185 [.ref P 0] []) (fun _ => rfl) (fun k hk => (H k (by omega)).ty)) n (by omega) P s6 t5 base k c5 J6 b rest' cs' p6 hr5 (by omega)
  have e7 : aCall Tryz.prog (den C n) 225 [.ref P 0, .str [45, 62], .fn 185 [.ref P 0] []] s6 = some (.tup [], s7) := q7
  refine ⟨s7, J7, ?_, p7, (((x2.trans x4).trans x6).trans x7)⟩
  show aCall Tryz.prog (den C (n + 1)) 238 [.box [.ref P 0] 0] s = _
  rw [callR en238 (box1 ..), F238_eq, F238]
  simp -implicitDefEqProofs only [sL, bs1, bs2, bs3, strip_own, aBox_ref, aBox_str, aBox_bool, aBox_int, e2, e4, e6, e7]
theorem s185 {ts : List Tok} {m : Nat} (H : ∀ k < m, AllS ts k) : Sim ts m (gType) vd (fnF 185 fun P => [.ref P 0]) := by
  intro n hn P s rest base k cs J b rest' cs' h hr hb
  obtain ⟨n, rfl⟩ : ∃ j, n = j + 1 := ⟨n - 1, by omega⟩
  obtain ⟨s1, q1, p1, x1⟩ := (at_rd (ts := ts) [wAmp] (by decide : 1 < 50)).use (n := n) (by omega) h
  obtain ⟨m1, hm1, ho1⟩ := ite_inv hr
  rcases ho1 with ⟨hc1, hr1⟩ | ⟨hc1, hr1⟩
  · have e1 : aCall Tryz.prog (den C n) 106 [.ref P 0, .sl 9 1 [.str [38]] .sh] s = some (.bool true, s1) := by rw [← hc1]; exact q1
    obtain ⟨s2, J2, q2, p2, x2⟩ := (node_simD (ts := ts) (m := m1) (k := 19) (v := fun P => .fn 237 [] [.box [.ref P 0] 0]) (fun _ => rfl) (fun k hk => s237 (fun k hk => H k (by omega)))) n (by omega) P s1 rest base k cs J b rest' cs' p1 hr1 (by omega)
    have e2 : aCall Tryz.prog (den C n) 110 [.ref P 0, .int .i64 19, .fn 237 [] [.box [.ref P 0] 0]] s1 = some (.tup [], s2) := q2
    refine ⟨s2, J2, ?_, p2, (x1.trans x2)⟩
    show aCall Tryz.prog (den C (n + 1)) 185 [.ref P 0] s = _
    rw [callR en185 (ref1 ..), F185_eq, F185]
    simp -implicitDefEqProofs only [sL, bs1, bs2, bs3, strip_own, aBox_ref, aBox_str, aBox_bool, aBox_int, e1, e2]
  · have e1 : aCall Tryz.prog (den C n) 106 [.ref P 0, .sl 9 1 [.str [38]] .sh] s = some (.bool false, s1) := by rw [← hc1]; exact q1
    obtain ⟨s3, q3, p3, x3⟩ := (at_rd (ts := ts) [wFn] (by decide : 1 < 50)).use (n := n) (by omega) p1
    obtain ⟨m3, hm3, ho3⟩ := ite_inv hr1
    rcases ho3 with ⟨hc3, hr3⟩ | ⟨hc3, hr3⟩
    · have e3 : aCall Tryz.prog (den C n) 106 [.ref P 0, .sl 9 1 [.str [102, 110]] .sh] s1 = some (.bool true, s3) := by rw [← hc3]; exact q3
      obtain ⟨s4, J4, q4, p4, x4⟩ := (node_simD (ts := ts) (m := m3) (k := 20) (v := fun P => .fn 238 [] [.box [.ref P 0] 0]) (fun _ => rfl) (fun k hk => s238 (fun k hk => H k (by omega)))) n (by omega) P s3 rest base k cs J b rest' cs' p3 hr3 (by omega)
      have e4 : aCall Tryz.prog (den C n) 110 [.ref P 0, .int .i64 20, .fn 238 [] [.box [.ref P 0] 0]] s3 = some (.tup [], s4) := q4
      refine ⟨s4, J4, ?_, p4, ((x1.trans x3).trans x4)⟩
      show aCall Tryz.prog (den C (n + 1)) 185 [.ref P 0] s = _
      rw [callR en185 (ref1 ..), F185_eq, F185]
      simp -implicitDefEqProofs only [sL, bs1, bs2, bs3, strip_own, aBox_ref, aBox_str, aBox_bool, aBox_int, e1, e3, e4]
    · have e3 : aCall Tryz.prog (den C n) 106 [.ref P 0, .sl 9 1 [.str [102, 110]] .sh] s1 = some (.bool false, s3) := by rw [← hc3]; exact q3
      obtain ⟨s5, q5, p5, x5⟩ := (ident_rd ts).use (n := n) (by omega) p3
      obtain ⟨m5, hm5, ho5⟩ := ite_inv hr3
      rcases ho5 with ⟨hc5, hr5⟩ | ⟨hc5, hr5⟩
      · have e5 : aCall Tryz.prog (den C n) 230 [.ref P 0] s3 = some (.bool true, s5) := by rw [← hc5]; exact q5
        obtain ⟨s6, J6, q6, p6, x6⟩ := (s239 (ts := ts) (m := m5) true (fun k hk => H k (by omega))) n (by omega) P s5 rest base k cs J b rest' cs' p5 hr5 (by omega)
        have e6 : aCall Tryz.prog (den C n) 239 [.ref P 0, .bool true] s5 = some (.tup [], s6) := q6
        refine ⟨s6, J6, ?_, p6, (((x1.trans x3).trans x5).trans x6)⟩
        show aCall Tryz.prog (den C (n + 1)) 185 [.ref P 0] s = _
        rw [callR en185 (ref1 ..), F185_eq, F185]
        simp -implicitDefEqProofs only [sL, bs1, bs2, bs3, strip_own, aBox_ref, aBox_str, aBox_bool, aBox_int, e1, e3, e5, e6]
      · have e5 : aCall Tryz.prog (den C n) 230 [.ref P 0] s3 = some (.bool false, s5) := by rw [← hc5]; exact q5
        obtain ⟨s7, J7, q7, p7, x7⟩ := ((put_sim ts m5).1) n (by omega) P s5 rest base k cs J b rest' cs' p5 hr5 (by omega)
        have e7 : aCall Tryz.prog (den C n) 240 [.ref P 0] s5 = some (.tup [], s7) := q7
        refine ⟨s7, J7, ?_, p7, (((x1.trans x3).trans x5).trans x7)⟩
        show aCall Tryz.prog (den C (n + 1)) 185 [.ref P 0] s = _
        rw [callR en185 (ref1 ..), F185_eq, F185]
        simp -implicitDefEqProofs only [sL, bs1, bs2, bs3, strip_own, aBox_ref, aBox_str, aBox_bool, aBox_int, e1, e3, e5, e7]
theorem l314 {ts : List Tok} {n P : Nat} : ∀ (m : Nat), (∀ k < m, AllS ts k) → m * 20 + ts.length + 110 ≤ n → ∀ s rest base k cs J b rest' cs', PR ts P s rest base k cs J → run m (.whil (rAt [wPlus]) (.seq .bump (gPath true))) rest cs = some (b, rest', cs') → base.length + szL cs' < 900000000 →
    ∃ s' J', (∀ M n' e, m < M → e 0 = pb P → aLoop (F314_L1 (den C n) n') M e s = some (.tup [], s')) ∧ PR ts P s' rest' base k cs' J' ∧ Ex s s' J J' := by
  intro m
  induction m with
  | zero => intro _ _ s rest base k cs J b rest' cs' h hr; rw [Pm.run_zero] at hr; cases hr
  | succ m ih =>
    intro H hn s rest base k cs J b rest' cs' h hr hb
    have hn0 : m * 20 + ts.length + 110 ≤ n := by omega
    have H0 : ∀ k < m, AllS ts k := fun k hk => H k (Nat.lt_succ_of_lt hk)
    obtain ⟨m', hm', hw⟩ := whil_inv hr
    cases hm'
    rcases hw with ⟨hc, rfl, rfl, rfl⟩ | ⟨hc, hrb, hb0⟩ | ⟨hc, tw, cw, hrb, hrw, hzw⟩
    · obtain ⟨sa, qa, pa, xa⟩ := acc_no [wPlus] (by decide : 1 < 50) (n := n) (by omega) h hc
      have ea : aCall Tryz.prog (den C n) 112 [.ref P 0, .sl 9 1 [.str [43]] .sh] s = some (.bool false, sa) := qa
      refine ⟨sa, J, fun M n' e hM he0 => ?_, pa, xa⟩
      obtain ⟨M, rfl⟩ : ∃ j, M = j + 1 := ⟨M - 1, by omega⟩
      rw [aLoop, F314_L1]
      simp -implicitDefEqProofs only [sL, bs1, bs2, bs3, strip_own, aBox_ref, he0, ea]
    · exact absurd (val_false (by rfl) hrb) (by decide)
    · obtain ⟨m1, b1, t1, c1, hm1, ha1, hr1, hz1⟩ := seq_inv hrb
      obtain ⟨s1, J1, q1, p1, x1⟩ := acc_yes [wPlus] (by decide : 1 < 50) (n := n) (by omega) h hc ha1 (by omega)
      have e1 : aCall Tryz.prog (den C n) 112 [.ref P 0, .sl 9 1 [.str [43]] .sh] s = some (.bool true, s1) := q1
      obtain ⟨s2, J2, q2, p2, x2⟩ := (s239 (ts := ts) (m := m1) true (fun k hk => H k (by omega))) n (by omega) P s1 t1 base k c1 J1 false tw cw p1 hr1 (by omega)
      have e2 : aCall Tryz.prog (den C n) 239 [.ref P 0, .bool true] s1 = some (.tup [], s2) := q2
      obtain ⟨s0, J0, e0, p0, x0⟩ := ih H0 hn0 s2 tw base k cw J2 b rest' cs' p2 hrw hb
      refine ⟨s0, J0, fun M n' e hM he0 => ?_, p0, (x1.trans x2).trans x0⟩
      obtain ⟨M, rfl⟩ : ∃ j, M = j + 1 := ⟨M - 1, by omega⟩
      rw [aLoop, F314_L1]
      simp -implicitDefEqProofs only [sL, bs1, bs2, bs3, strip_own, aBox_ref, he0, e1, e2]
      exact e0 _ _ _ (by omega) ((upds_get _ _ _ rfl).trans he0)
end ParF
end

section
set_option maxRecDepth 100000
set_option maxHeartbeats 1000000
namespace ParF
open Go Go.Abs Go.Proofs Pm
theorem zne (n : Nat) : ((0 : Nat) = n + 1) = False := by simp
theorem s314 {ts : List Tok} {m : Nat} (H : ∀ k < m, AllS ts k) : Sim ts m (.seq .bump (gIf [wColon] (.seq (gPath true) (.whil (rAt [wPlus]) (.seq .bump (gPath true)))))) vd (fnF 314 fun P => [.box [.ref P 0] 0]) := by
  intro n hn P s rest base k cs J b rest' cs' h hr hb
  obtain ⟨n, rfl⟩ : ∃ j, n = j + 1 := ⟨n - 1, by omega⟩
  obtain ⟨m1, b1, t1, c1, hm1, ha1, hr1, hz1⟩ := seq_inv hr
  obtain ⟨s2, J2, q2, p2, x2⟩ := (bump_sim ts m1) n (by omega) P s rest base k cs J b1 t1 c1 h ha1 (by omega)
  have e2 : aCall Tryz.prog (den C n) 113 [.ref P 0] s = some (.tup [], s2) := q2
  obtain ⟨m3, hm3, ho3⟩ := ite_inv hr1
  rcases ho3 with ⟨hc3, hr3⟩ | ⟨hc3, hr3⟩
  · obtain ⟨m4, b4, t4, c4, hm4, ha4, hr4, hz4⟩ := seq_inv hr3
    obtain ⟨s4, J4, q4, p4, x4⟩ := acc_yes [wColon] (by decide : 1 < 50) (n := n) (by omega) p2 hc3 ha4 (by omega)
    have e4 : aCall Tryz.prog (den C n) 112 [.ref P 0, .sl 9 1 [.str [58]] .sh] s2 = some (.bool true, s4) := q4
    obtain ⟨m5, b5, t5, c5, hm5, ha5, hr5, hz5⟩ := seq_inv hr4
    obtain ⟨s6, J6, q6, p6, x6⟩ := (s239 (ts := ts) (m := m5) true (fun k hk => H k (by omega))) n (by omega) P s4 t4 base k c4 J4 b5 t5 c5 p4 ha5 (by omega)
    have e6 : aCall Tryz.prog (den C n) 239 [.ref P 0, .bool true] s4 = some (.tup [], s6) := q6
    obtain ⟨s7, J7, e7, p7, x7⟩ := l314 (P := P) (n := n) m5 (fun k hk => H k (by omega)) (by omega) s6 t5 base k c5 J6 b rest' cs' p6 hr5 (by omega)
    refine ⟨s7, J7, ?_, p7, (((x2.trans x4).trans x6).trans x7)⟩
    show aCall Tryz.prog (den C (n + 1)) 314 [.box [.ref P 0] 0] s = _
    rw [callR en314 (box1 ..), F314_eq, F314]
    simp -implicitDefEqProofs only [sL, bs1, bs2, bs3, strip_own, aBox_ref, aBox_str, aBox_bool, aBox_int, e2, e4, e6]
    exact e7 _ _ _ (by omega) rfl
  · obtain ⟨s8, q8, p8, x8⟩ := acc_no [wColon] (by decide : 1 < 50) (n := n) (by omega) p2 hc3
    have e8 : aCall Tryz.prog (den C n) 112 [.ref P 0, .sl 9 1 [.str [58]] .sh] s2 = some (.bool false, s8) := q8
    obtain ⟨hb9, rfl, rfl⟩ := ret_inv hr3
    refine ⟨s8, J2, ?_, p8, (x2.trans x8)⟩
    show aCall Tryz.prog (den C (n + 1)) 314 [.box [.ref P 0] 0] s = _
    rw [callR en314 (box1 ..), F314_eq, F314]
    simp -implicitDefEqProofs only [sL, bs1, bs2, bs3, strip_own, aBox_ref, aBox_str, aBox_bool, aBox_int, e2, e8]
theorem s276 {ts : List Tok} {m : Nat} (H : ∀ k < m, AllS ts k) : Sim ts m (gTypeParam) vd (fnF 276 fun P => [.ref P 0]) := by
  intro n hn P s rest base k cs J b rest' cs' h hr hb
  obtain ⟨n, rfl⟩ : ∃ j, n = j + 1 := ⟨n - 1, by omega⟩
  obtain ⟨s1, q1, p1, x1⟩ := (ident_rd ts).use (n := n) (by omega) h
  obtain ⟨m1, hm1, ho1⟩ := ite_inv hr
  rcases ho1 with ⟨hc1, hr1⟩ | ⟨hc1, hr1⟩
  · have e1 : aCall Tryz.prog (den C n) 230 [.ref P 0] s = some (.bool true, s1) := by rw [← hc1]; exact q1
    obtain ⟨s2, J2, q2, p2, x2⟩ := (node_simD (ts := ts) (m := m1) (k := 11) (v := fun P => .fn 314 [] [.box [.ref P 0] 0]) (fun _ => rfl) (fun k hk => s314 (fun k hk => H k (by omega)))) n (by omega) P s1 rest base k cs J b rest' cs' p1 hr1 (by omega)
    have e2 : aCall Tryz.prog (den C n) 110 [.ref P 0, .int .i64 11, .fn 314 [] [.box [.ref P 0] 0]] s1 = some (.tup [], s2) := q2
    refine ⟨s2, J2, ?_, p2, (x1.trans x2)⟩
    show aCall Tryz.prog (den C (n + 1)) 276 [.ref P 0] s = _
    rw [callR en276 (ref1 ..), F276_eq, F276]
    simp -implicitDefEqProofs only [sL, bs1, bs2, bs3, strip_own, aBox_ref, aBox_str, aBox_bool, aBox_int, e1, e2]
  · have e1 : aCall Tryz.prog (den C n) 230 [.ref P 0] s = some (.bool false, s1) := by rw [← hc1]; exact q1
    obtain ⟨hb3, rfl, rfl⟩ := ret_inv hr1
    refine ⟨s1, J, ?_, p1, x1⟩
    show aCall Tryz.prog (den C (n + 1)) 276 [.ref P 0] s = _
    rw [callR en276 (ref1 ..), F276_eq, F276]
    simp -implicitDefEqProofs only [sL, bs1, bs2, bs3, strip_own, aBox_ref, aBox_str, aBox_bool, aBox_int, e1]
theorem s275 {ts : List Tok} {m : Nat} (H : ∀ k < m, AllS ts k) : Sim ts m (gIf [wLt] (gList wGt gTypeParam)) vd (fnF 275 fun P => [.box [.ref P 0] 0]) := by
  intro n hn P s rest base k cs J b rest' cs' h hr hb
  obtain ⟨n, rfl⟩ : ∃ j, n = j + 1 := ⟨n - 1, by omega⟩
  obtain ⟨m1, hm1, ho1⟩ := ite_inv hr
  rcases ho1 with ⟨hc1, hr1⟩ | ⟨hc1, hr1⟩
  · obtain ⟨m2, b2, t2, c2, hm2, ha2, hr2, hz2⟩ := seq_inv hr1
    obtain ⟨s2, J2, q2, p2, x2⟩ := acc_yes [wLt] (by decide : 1 < 50) (n := n) (by omega) h hc1 ha2 (by omega)
    have e2 : aCall Tryz.prog (den C n) 112 [.ref P 0, .sl 9 1 [.str [60]] .sh] s = some (.bool true, s2) := q2
    obtain ⟨s3, J3, q3, p3, x3⟩ := (list_simD (ts := ts) (m := m2) wGt (v := fun P => .fn 276 [.ref P 0] []) (fun _ => rfl) (fun k hk => s276 (fun k hk => H k (by omega)))) n (by omega) P s2 t2 base k c2 J2 b rest' cs' p2 hr2 (by omega)
    have e3 : aCall Tryz.prog (den C n) 228 [.ref P 0, .str [62], .fn 276 [.ref P 0] []] s2 = some (.tup [], s3) := q3
    refine ⟨s3, J3, ?_, p3, (x2.trans x3)⟩
    show aCall Tryz.prog (den C (n + 1)) 275 [.box [.ref P 0] 0] s = _
    rw [callR en275 (box1 ..), F275_eq, F275]
    simp -implicitDefEqProofs only [sL, bs1, bs2, bs3, strip_own, aBox_ref, aBox_str, aBox_bool, aBox_int, e2, e3]
  · obtain ⟨s4, q4, p4, x4⟩ := acc_no [wLt] (by decide : 1 < 50) (n := n) (by omega) h hc1
    have e4 : aCall Tryz.prog (den C n) 112 [.ref P 0, .sl 9 1 [.str [60]] .sh] s = some (.bool false, s4) := q4
    obtain ⟨hb5, rfl, rfl⟩ := ret_inv hr1
    refine ⟨s4, J, ?_, p4, x4⟩
    show aCall Tryz.prog (den C (n + 1)) 275 [.box [.ref P 0] 0] s = _
    rw [callR en275 (box1 ..), F275_eq, F275]
    simp -implicitDefEqProofs only [sL, bs1, bs2, bs3, strip_own, aBox_ref, aBox_str, aBox_bool, aBox_int, e4]
theorem s224 {ts : List Tok} {m : Nat} (H : ∀ k < m, AllS ts k) : Sim ts m (gTypeParams) vd (fnF 224 fun P => [.ref P 0]) := by
  intro n hn P s rest base k cs J b rest' cs' h hr hb
  obtain ⟨n, rfl⟩ : ∃ j, n = j + 1 := ⟨n - 1, by omega⟩
  obtain ⟨s1, J1, q1, p1, x1⟩ := (node_simD (ts := ts) (m := m) (k := 10) (v := fun P => .fn 275 [] [.box [.ref P 0] 0]) (fun _ => rfl) (fun k hk => s275 (fun k hk => H k (by omega)))) n (by omega) P s rest base k cs J b rest' cs' h hr (by omega)
  have e1 : aCall Tryz.prog (den C n) 110 [.ref P 0, .int .i64 10, .fn 275 [] [.box [.ref P 0] 0]] s = some (.tup [], s1) := q1
  refine ⟨s1, J1, ?_, p1, x1⟩
  show aCall Tryz.prog (den C (n + 1)) 224 [.ref P 0] s = _
  rw [callR en224 (ref1 ..), F224_eq, F224]
  simp -implicitDefEqProofs only [sL, bs1, bs2, bs3, strip_own, aBox_ref, aBox_str, aBox_bool, aBox_int, e1]
theorem s231 {ts : List Tok} {m : Nat} (H : ∀ k < m, AllS ts k) : Sim ts m (.seq .bump (.seq (gExpect wColon) (.call 0))) vd (fnF 231 fun P => [.box [.ref P 0] 0]) := by
  intro n hn P s rest base k cs J b rest' cs' h hr hb
  obtain ⟨n, rfl⟩ : ∃ j, n = j + 1 := ⟨n - 1, by omega⟩
  obtain ⟨m1, b1, t1, c1, hm1, ha1, hr1, hz1⟩ := seq_inv hr
  obtain ⟨s2, J2, q2, p2, x2⟩ := (bump_sim ts m1) n (by omega) P s rest base k cs J b1 t1 c1 h ha1 (by omega)
  have e2 : aCall Tryz.prog (den C n) 113 [.ref P 0] s = some (.tup [], s2) := q2
  obtain ⟨m3, b3, t3, c3, hm3, ha3, hr3, hz3⟩ := seq_inv hr1
  obtain ⟨s4, J4, q4, p4, x4⟩ := (expect_sim ts m3 wColon) n (by omega) P s2 t1 base k c1 J2 b3 t3 c3 p2 ha3 (by omega)
  have e4 : aCall Tryz.prog (den C n) 184 [.ref P 0, .str [58]] s2 = some (.tup [], s4) := q4
  obtain ⟨s5, J5, q5, p5, x5⟩ := ((H m3 (by omega)).ty) n (by omega) P s4 t3 base k c3 J4 b rest' cs' p4 hr3 (by omega)
  have e5 : aCall Tryz.prog (den C n) 185 [.ref P 0] s4 = some (.tup [], s5) := q5
  refine ⟨s5, J5, ?_, p5, ((x2.trans x4).trans x5)⟩
  show aCall Tryz.prog (den C (n + 1)) 231 [.box [.ref P 0] 0] s = _
  rw [callR en231 (box1 ..), F231_eq, F231]
  simp -implicitDefEqProofs only [sL, bs1, bs2, bs3, strip_own, aBox_ref, aBox_str, aBox_bool, aBox_int, e2, e4, e5]
theorem s232 {ts : List Tok} {m : Nat} (H : ∀ k < m, AllS ts k) : Sim ts m (.seq .bump (gIf [wLPar] (gList wRPar (.call 0)))) vd (fnF 232 fun P => [.box [.ref P 0] 0]) := by
  intro n hn P s rest base k cs J b rest' cs' h hr hb
  obtain ⟨n, rfl⟩ : ∃ j, n = j + 1 := ⟨n - 1, by omega⟩
  obtain ⟨m1, b1, t1, c1, hm1, ha1, hr1, hz1⟩ := seq_inv hr
  obtain ⟨s2, J2, q2, p2, x2⟩ := (bump_sim ts m1) n (by omega) P s rest base k cs J b1 t1 c1 h ha1 (by omega)
  have e2 : aCall Tryz.prog (den C n) 113 [.ref P 0] s = some (.tup [], s2) := q2
  obtain ⟨m3, hm3, ho3⟩ := ite_inv hr1
  rcases ho3 with ⟨hc3, hr3⟩ | ⟨hc3, hr3⟩
  · obtain ⟨m4, b4, t4, c4, hm4, ha4, hr4, hz4⟩ := seq_inv hr3
    obtain ⟨s4, J4, q4, p4, x4⟩ := acc_yes [wLPar] (by decide : 1 < 50) (n := n) (by omega) p2 hc3 ha4 (by omega)
    have e4 : aCall Tryz.prog (den C n) 112 [.ref P 0, .sl 9 1 [.str [40]] .sh] s2 = some (.bool true, s4) := q4
    obtain ⟨s5, J5, q5, p5, x5⟩ := (list_simD (ts := ts) (m := m4) wRPar (v := fun P => .fn 185 [.ref P 0] []) (fun _ => rfl) (fun k hk => (H k (by omega)).ty)) n (by omega) P s4 t4 base k c4 J4 b rest' cs' p4 hr4 (by omega)
    have e5 : aCall Tryz.prog (den C n) 228 [.ref P 0, .str [41], .fn 185 [.ref P 0] []] s4 = some (.tup [], s5) := q5
    refine ⟨s5, J5, ?_, p5, ((x2.trans x4).trans x5)⟩
    show aCall Tryz.prog (den C (n + 1)) 232 [.box [.ref P 0] 0] s = _
    rw [callR en232 (box1 ..), F232_eq, F232]
    simp -implicitDefEqProofs only [sL, bs1, bs2, bs3, strip_own, aBox_ref, aBox_str, aBox_bool, aBox_int, e2, e4, e5]
  · obtain ⟨s6, q6, p6, x6⟩ := acc_no [wLPar] (by decide : 1 < 50) (n := n) (by omega) p2 hc3
    have e6 : aCall Tryz.prog (den C n) 112 [.ref P 0, .sl 9 1 [.str [40]] .sh] s2 = some (.bool false, s6) := q6
    obtain ⟨hb7, rfl, rfl⟩ := ret_inv hr3
    refine ⟨s6, J2, ?_, p6, (x2.trans x6)⟩
    show aCall Tryz.prog (den C (n + 1)) 232 [.box [.ref P 0] 0] s = _
    rw [callR en232 (box1 ..), F232_eq, F232]
    simp -implicitDefEqProofs only [sL, bs1, bs2, bs3, strip_own, aBox_ref, aBox_str, aBox_bool, aBox_int, e2, e6]
theorem s229t {ts : List Tok} {m : Nat} (H : ∀ k < m, AllS ts k) : Sim ts m (.ite rId gField nop) vd (fnF 229 fun P => [.box [.ref P 0] 0, .box [.int .i64 4] 0]) := by
  intro n hn P s rest base k cs J b rest' cs' h hr hb
  obtain ⟨n, rfl⟩ : ∃ j, n = j + 1 := ⟨n - 1, by omega⟩
  obtain ⟨s1, q1, p1, x1⟩ := (ident_rd ts).use (n := n) (by omega) h
  obtain ⟨m1, hm1, ho1⟩ := ite_inv hr
  rcases ho1 with ⟨hc1, hr1⟩ | ⟨hc1, hr1⟩
  · have e1 : aCall Tryz.prog (den C n) 230 [.ref P 0] s = some (.bool true, s1) := by rw [← hc1]; exact q1
    obtain ⟨s2, J2, q2, p2, x2⟩ := (node_simD (ts := ts) (m := m1) (k := 14) (v := fun P => .fn 231 [] [.box [.ref P 0] 0]) (fun _ => rfl) (fun k hk => s231 (fun k hk => H k (by omega)))) n (by omega) P s1 rest base k cs J b rest' cs' p1 hr1 (by omega)
    have e2 : aCall Tryz.prog (den C n) 110 [.ref P 0, .int .i64 14, .fn 231 [] [.box [.ref P 0] 0]] s1 = some (.tup [], s2) := q2
    refine ⟨s2, J2, ?_, p2, (x1.trans x2)⟩
    show aCall Tryz.prog (den C (n + 1)) 229 [.box [.ref P 0] 0, .box [.int .i64 4] 0] s = _
    rw [callR en229 (box1 ..), F229_eq, F229]
    simp -implicitDefEqProofs only [sL, show ((4 : Int) == 4) = true from rfl, bs1, bs2, bs3, strip_own, aBox_ref, aBox_str, aBox_bool, aBox_int, bin_eql, e1, e2]
  · have e1 : aCall Tryz.prog (den C n) 230 [.ref P 0] s = some (.bool false, s1) := by rw [← hc1]; exact q1
    obtain ⟨hb3, rfl, rfl⟩ := ret_inv hr1
    refine ⟨s1, J, ?_, p1, x1⟩
    show aCall Tryz.prog (den C (n + 1)) 229 [.box [.ref P 0] 0, .box [.int .i64 4] 0] s = _
    rw [callR en229 (box1 ..), F229_eq, F229]
    simp -implicitDefEqProofs only [sL, show ((4 : Int) == 4) = true from rfl, bs1, bs2, bs3, strip_own, aBox_ref, aBox_str, aBox_bool, aBox_int, bin_eql, e1]
theorem s229f {ts : List Tok} {m : Nat} (H : ∀ k < m, AllS ts k) : Sim ts m (.ite rId gVariant nop) vd (fnF 229 fun P => [.box [.ref P 0] 0, .box [.int .i64 5] 0]) := by
  intro n hn P s rest base k cs J b rest' cs' h hr hb
  obtain ⟨n, rfl⟩ : ∃ j, n = j + 1 := ⟨n - 1, by omega⟩
  obtain ⟨s1, q1, p1, x1⟩ := (ident_rd ts).use (n := n) (by omega) h
  obtain ⟨m1, hm1, ho1⟩ := ite_inv hr
  rcases ho1 with ⟨hc1, hr1⟩ | ⟨hc1, hr1⟩
  · have e1 : aCall Tryz.prog (den C n) 230 [.ref P 0] s = some (.bool true, s1) := by rw [← hc1]; exact q1
    obtain ⟨s2, J2, q2, p2, x2⟩ := (node_simD (ts := ts) (m := m1) (k := 15) (v := fun P => .fn 232 [] [.box [.ref P 0] 0]) (fun _ => rfl) (fun k hk => s232 (fun k hk => H k (by omega)))) n (by omega) P s1 rest base k cs J b rest' cs' p1 hr1 (by omega)
    have e2 : aCall Tryz.prog (den C n) 110 [.ref P 0, .int .i64 15, .fn 232 [] [.box [.ref P 0] 0]] s1 = some (.tup [], s2) := q2
    refine ⟨s2, J2, ?_, p2, (x1.trans x2)⟩
    show aCall Tryz.prog (den C (n + 1)) 229 [.box [.ref P 0] 0, .box [.int .i64 5] 0] s = _
    rw [callR en229 (box1 ..), F229_eq, F229]
    simp -implicitDefEqProofs only [sL, show ((5 : Int) == 4) = false from rfl, bs1, bs2, bs3, strip_own, aBox_ref, aBox_str, aBox_bool, aBox_int, bin_eql, e1, e2]
  · have e1 : aCall Tryz.prog (den C n) 230 [.ref P 0] s = some (.bool false, s1) := by rw [← hc1]; exact q1
    obtain ⟨hb3, rfl, rfl⟩ := ret_inv hr1
    refine ⟨s1, J, ?_, p1, x1⟩
    show aCall Tryz.prog (den C (n + 1)) 229 [.box [.ref P 0] 0, .box [.int .i64 5] 0] s = _
    rw [callR en229 (box1 ..), F229_eq, F229]
    simp -implicitDefEqProofs only [sL, show ((5 : Int) == 4) = false from rfl, bs1, bs2, bs3, strip_own, aBox_ref, aBox_str, aBox_bool, aBox_int, bin_eql, e1]
theorem s180t {ts : List Tok} {m : Nat} (H : ∀ k < m, AllS ts k) : Sim ts m (gData true) vd (fnF 180 fun P => [.ref P 0, .int .i64 4]) := by
  intro n hn P s rest base k cs J b rest' cs' h hr hb
  obtain ⟨n, rfl⟩ : ∃ j, n = j + 1 := ⟨n - 1, by omega⟩
  obtain ⟨m1, b1, t1, c1, hm1, ha1, hr1, hz1⟩ := seq_inv hr
  obtain ⟨s2, J2, q2, p2, x2⟩ := (ident_sim ts m1) n (by omega) P s rest base k cs J b1 t1 c1 h ha1 (by omega)
  have e2 : aCall Tryz.prog (den C n) 181 [.ref P 0] s = some (.tup [], s2) := q2
  obtain ⟨m3, b3, t3, c3, hm3, ha3, hr3, hz3⟩ := seq_inv hr1
  obtain ⟨s4, J4, q4, p4, x4⟩ := (s224 (ts := ts) (m := m3) (fun k hk => H k (by omega))) n (by omega) P s2 t1 base k c1 J2 b3 t3 c3 p2 ha3 (by omega)
  have e4 : aCall Tryz.prog (den C n) 224 [.ref P 0] s2 = some (.tup [], s4) := q4
  obtain ⟨m5, b5, t5, c5, hm5, ha5, hr5, hz5⟩ := seq_inv hr3
  obtain ⟨s6, J6, q6, p6, x6⟩ := (expect_sim ts m5 wLBr) n (by omega) P s4 t3 base k c3 J4 b5 t5 c5 p4 ha5 (by omega)
  have e6 : aCall Tryz.prog (den C n) 184 [.ref P 0, .str [123]] s4 = some (.tup [], s6) := q6
  obtain ⟨s7, J7, q7, p7, x7⟩ := (list_simD (ts := ts) (m := m5) wRBr (v := fun P => .fn 229 [] [.box [.ref P 0] 0, .box [.int .i64 4] 0]) (fun _ => rfl) (fun k hk => s229t (fun k hk => H k (by omega)))) n (by omega) P s6 t5 base k c5 J6 b rest' cs' p6 hr5 (by omega)
  have e7 : aCall Tryz.prog (den C n) 228 [.ref P 0, .str [125], .fn 229 [] [.box [.ref P 0] 0, .box [.int .i64 4] 0]] s6 = some (.tup [], s7) := q7
  refine ⟨s7, J7, ?_, p7, (((x2.trans x4).trans x6).trans x7)⟩
  show aCall Tryz.prog (den C (n + 1)) 180 [.ref P 0, .int .i64 4] s = _
  rw [callR en180 (ref1 ..), F180_eq, F180]
  simp -implicitDefEqProofs only [sL, bs1, bs2, bs3, strip_own, aBox_ref, aBox_str, aBox_bool, aBox_int, e2, e4, e6, e7]
theorem s180f {ts : List Tok} {m : Nat} (H : ∀ k < m, AllS ts k) : Sim ts m (gData false) vd (fnF 180 fun P => [.ref P 0, .int .i64 5]) := by
  intro n hn P s rest base k cs J b rest' cs' h hr hb
  obtain ⟨n, rfl⟩ : ∃ j, n = j + 1 := ⟨n - 1, by omega⟩
  obtain ⟨m1, b1, t1, c1, hm1, ha1, hr1, hz1⟩ := seq_inv hr
  obtain ⟨s2, J2, q2, p2, x2⟩ := (ident_sim ts m1) n (by omega) P s rest base k cs J b1 t1 c1 h ha1 (by omega)
  have e2 : aCall Tryz.prog (den C n) 181 [.ref P 0] s = some (.tup [], s2) := q2
  obtain ⟨m3, b3, t3, c3, hm3, ha3, hr3, hz3⟩ := seq_inv hr1
  obtain ⟨s4, J4, q4, p4, x4⟩ := (s224 (ts := ts) (m := m3) (fun k hk => H k (by omega))) n (by omega) P s2 t1 base k c1 J2 b3 t3 c3 p2 ha3 (by omega)
  have e4 : aCall Tryz.prog (den C n) 224 [.ref P 0] s2 = some (.tup [], s4) := q4
  obtain ⟨m5, b5, t5, c5, hm5, ha5, hr5, hz5⟩ := seq_inv hr3
  obtain ⟨s6, J6, q6, p6, x6⟩ := (expect_sim ts m5 wLBr) n (by omega) P s4 t3 base k c3 J4 b5 t5 c5 p4 ha5 (by omega)
  have e6 : aCall Tryz.prog (den C n) 184 [.ref P 0, .str [123]] s4 = some (.tup [], s6) := q6
  obtain ⟨s7, J7, q7, p7, x7⟩ := (list_simD (ts := ts) (m := m5) wRBr (v := fun P => .fn 229 [] [.box [.ref P 0] 0, .box [.int .i64 5] 0]) (fun _ => rfl) (fun k hk => s229f (fun k hk => H k (by omega)))) n (by omega) P s6 t5 base k c5 J6 b rest' cs' p6 hr5 (by omega)
  have e7 : aCall Tryz.prog (den C n) 228 [.ref P 0, .str [125], .fn 229 [] [.box [.ref P 0] 0, .box [.int .i64 5] 0]] s6 = some (.tup [], s7) := q7
  refine ⟨s7, J7, ?_, p7, (((x2.trans x4).trans x6).trans x7)⟩
  show aCall Tryz.prog (den C (n + 1)) 180 [.ref P 0, .int .i64 5] s = _
  rw [callR en180 (ref1 ..), F180_eq, F180]
  simp -implicitDefEqProofs only [sL, bs1, bs2, bs3, strip_own, aBox_ref, aBox_str, aBox_bool, aBox_int, e2, e4, e6, e7]
theorem s179t {ts : List Tok} {m : Nat} (H : ∀ k < m, AllS ts k) : Sim ts m (gFunction true) vd (fnF 179 fun P => [.ref P 0, .bool true]) := by
  intro n hn P s rest base k cs J b rest' cs' h hr hb
  obtain ⟨n, rfl⟩ : ∃ j, n = j + 1 := ⟨n - 1, by omega⟩
  obtain ⟨m1, b1, t1, c1, hm1, ha1, hr1, hz1⟩ := seq_inv hr
  obtain ⟨s2, J2, q2, p2, x2⟩ := (ident_sim ts m1) n (by omega) P s rest base k cs J b1 t1 c1 h ha1 (by omega)
  have e2 : aCall Tryz.prog (den C n) 181 [.ref P 0] s = some (.tup [], s2) := q2
  obtain ⟨m3, b3, t3, c3, hm3, ha3, hr3, hz3⟩ := seq_inv hr1
  obtain ⟨s4, J4, q4, p4, x4⟩ := (s224 (ts := ts) (m := m3) (fun k hk => H k (by omega))) n (by omega) P s2 t1 base k c1 J2 b3 t3 c3 p2 ha3 (by omega)
  have e4 : aCall Tryz.prog (den C n) 224 [.ref P 0] s2 = some (.tup [], s4) := q4
  obtain ⟨m5, b5, t5, c5, hm5, ha5, hr5, hz5⟩ := seq_inv hr3
  obtain ⟨s6, J6, q6, p6, x6⟩ := (expect_sim ts m5 wLPar) n (by omega) P s4 t3 base k c3 J4 b5 t5 c5 p4 ha5 (by omega)
  have e6 : aCall Tryz.prog (den C n) 184 [.ref P 0, .str [40]] s4 = some (.tup [], s6) := q6
  obtain ⟨m7, b7, t7, c7, hm7, ha7, hr7, hz7⟩ := seq_inv hr5
  obtain ⟨s8, J8, q8, p8, x8⟩ := (s187 (ts := ts) (m := m7) wRPar (fun k hk => H k (by omega))) n (by omega) P s6 t5 base k c5 J6 b7 t7 c7 p6 ha7 (by omega)
  have e8 : aCall Tryz.prog (den C n) 187 [.ref P 0, .str [41]] s6 = some (.tup [], s8) := q8
  obtain ⟨m9, b9, t9, c9, hm9, ha9, hr9, hz9⟩ := seq_inv hr7
  obtain ⟨s10, J10, q10, p10, x10⟩ := (opt_sim (ts := ts) (m := m9) wArrow (v := fun P => .fn 185 [.ref P 0] []) (fun _ => rfl) (fun k hk => (H k (by omega)).ty)) n (by omega) P s8 t7 base k c7 J8 b9 t9 c9 p8 ha9 (by omega)
  have e10 : aCall Tryz.prog (den C n) 225 [.ref P 0, .str [45, 62], .fn 185 [.ref P 0] []] s8 = some (.tup [], s10) := q10
  obtain ⟨s11, J11, q11, p11, x11⟩ := ((H m9 (by omega)).bl) n (by omega) P s10 t9 base k c9 J10 b rest' cs' p10 hr9 (by omega)
  have e11 : aCall Tryz.prog (den C n) 227 [.ref P 0] s10 = some (.tup [], s11) := q11
  refine ⟨s11, J11, ?_, p11, (((((x2.trans x4).trans x6).trans x8).trans x10).trans x11)⟩
  show aCall Tryz.prog (den C (n + 1)) 179 [.ref P 0, .bool true] s = _
  rw [callR en179 (ref1 ..), F179_eq, F179]
  simp -implicitDefEqProofs only [sL, bs1, bs2, bs3, strip_own, aBox_ref, aBox_str, aBox_bool, aBox_int, e2, e4, e6, e8, e10, e11]
theorem s179f {ts : List Tok} {m : Nat} (H : ∀ k < m, AllS ts k) : Sim ts m (gFunction false) vd (fnF 179 fun P => [.ref P 0, .bool false]) := by
  intro n hn P s rest base k cs J b rest' cs' h hr hb
  obtain ⟨n, rfl⟩ : ∃ j, n = j + 1 := ⟨n - 1, by omega⟩
  obtain ⟨m1, b1, t1, c1, hm1, ha1, hr1, hz1⟩ := seq_inv hr
  obtain ⟨s2, J2, q2, p2, x2⟩ := (ident_sim ts m1) n (by omega) P s rest base k cs J b1 t1 c1 h ha1 (by omega)
  have e2 : aCall Tryz.prog (den C n) 181 [.ref P 0] s = some (.tup [], s2) := q2
  obtain ⟨m3, b3, t3, c3, hm3, ha3, hr3, hz3⟩ := seq_inv hr1
  obtain ⟨s4, J4, q4, p4, x4⟩ := (s224 (ts := ts) (m := m3) (fun k hk => H k (by omega))) n (by omega) P s2 t1 base k c1 J2 b3 t3 c3 p2 ha3 (by omega)
  have e4 : aCall Tryz.prog (den C n) 224 [.ref P 0] s2 = some (.tup [], s4) := q4
  obtain ⟨m5, b5, t5, c5, hm5, ha5, hr5, hz5⟩ := seq_inv hr3
  obtain ⟨s6, J6, q6, p6, x6⟩ := (expect_sim ts m5 wLPar) n (by omega) P s4 t3 base k c3 J4 b5 t5 c5 p4 ha5 (by omega)
  have e6 : aCall Tryz.prog (den C n) 184 [.ref P 0, .str [40]] s4 = some (.tup [], s6) := q6
  obtain ⟨m7, b7, t7, c7, hm7, ha7, hr7, hz7⟩ := seq_inv hr5
  obtain ⟨s8, J8, q8, p8, x8⟩ := (s187 (ts := ts) (m := m7) wRPar (fun k hk => H k (by omega))) n (by omega) P s6 t5 base k c5 J6 b7 t7 c7 p6 ha7 (by omega)
  have e8 : aCall Tryz.prog (den C n) 187 [.ref P 0, .str [41]] s6 = some (.tup [], s8) := q8
  obtain ⟨m9, b9, t9, c9, hm9, ha9, hr9, hz9⟩ := seq_inv hr7
  obtain ⟨s10, J10, q10, p10, x10⟩ := (opt_sim (ts := ts) (m := m9) wArrow (v := fun P => .fn 185 [.ref P 0] []) (fun _ => rfl) (fun k hk => (H k (by omega)).ty)) n (by omega) P s8 t7 base k c7 J8 b9 t9 c9 p8 ha9 (by omega)
  have e10 : aCall Tryz.prog (den C n) 225 [.ref P 0, .str [45, 62], .fn 185 [.ref P 0] []] s8 = some (.tup [], s10) := q10
  obtain ⟨m11, hm11, ho11⟩ := ite_inv hr9
  rcases ho11 with ⟨hc11, hr11⟩ | ⟨hc11, hr11⟩
  · obtain ⟨m12, b12, t12, c12, hm12, ha12, hr12, hz12⟩ := seq_inv hr11
    obtain ⟨s12, J12, q12, p12, x12⟩ := acc_yes [wSemi] (by decide : 1 < 50) (n := n) (by omega) p10 hc11 ha12 (by omega)
    have e12 : aCall Tryz.prog (den C n) 112 [.ref P 0, .sl 9 1 [.str [59]] .sh] s10 = some (.bool true, s12) := q12
    obtain ⟨s13, J13, q13, p13, x13⟩ := ((put_sim ts m12).2.2) n (by omega) P s12 t12 base k c12 J12 b rest' cs' p12 hr12 (by omega)
    have e13 : aCall Tryz.prog (den C n) 226 [.ref P 0] s12 = some (.tup [], s13) := q13
    refine ⟨s13, J13, ?_, p13, ((((((x2.trans x4).trans x6).trans x8).trans x10).trans x12).trans x13)⟩
    show aCall Tryz.prog (den C (n + 1)) 179 [.ref P 0, .bool false] s = _
    rw [callR en179 (ref1 ..), F179_eq, F179]
    simp -implicitDefEqProofs only [sL, bs1, bs2, bs3, strip_own, aBox_ref, aBox_str, aBox_bool, aBox_int, e2, e4, e6, e8, e10, e12, e13]
  · obtain ⟨s14, q14, p14, x14⟩ := acc_no [wSemi] (by decide : 1 < 50) (n := n) (by omega) p10 hc11
    have e14 : aCall Tryz.prog (den C n) 112 [.ref P 0, .sl 9 1 [.str [59]] .sh] s10 = some (.bool false, s14) := q14
    obtain ⟨s15, J15, q15, p15, x15⟩ := ((H m11 (by omega)).bl) n (by omega) P s14 t9 base k c9 J10 b rest' cs' p14 hr11 (by omega)
    have e15 : aCall Tryz.prog (den C n) 227 [.ref P 0] s14 = some (.tup [], s15) := q15
    refine ⟨s15, J15, ?_, p15, ((((((x2.trans x4).trans x6).trans x8).trans x10).trans x14).trans x15)⟩
    show aCall Tryz.prog (den C (n + 1)) 179 [.ref P 0, .bool false] s = _
    rw [callR en179 (ref1 ..), F179_eq, F179]
    simp -implicitDefEqProofs only [sL, bs1, bs2, bs3, strip_own, aBox_ref, aBox_str, aBox_bool, aBox_int, e2, e4, e6, e8, e10, e14, e15]
theorem s234 {ts : List Tok} {m : Nat} (H : ∀ k < m, AllS ts k) : Sim ts m (.seq .bump (.seq (gFunction false) nop)) vd (fnF 234 fun P => [.box [.ref P 0] 0]) := by
  intro n hn P s rest base k cs J b rest' cs' h hr hb
  obtain ⟨n, rfl⟩ : ∃ j, n = j + 1 := ⟨n - 1, by omega⟩
  obtain ⟨m1, b1, t1, c1, hm1, ha1, hr1, hz1⟩ := seq_inv hr
  obtain ⟨s2, J2, q2, p2, x2⟩ := (bump_sim ts m1) n (by omega) P s rest base k cs J b1 t1 c1 h ha1 (by omega)
  have e2 : aCall Tryz.prog (den C n) 113 [.ref P 0] s = some (.tup [], s2) := q2
  obtain ⟨m3, b3, t3, c3, hm3, ha3, hr3, hz3⟩ := seq_inv hr1
  obtain ⟨s4, J4, q4, p4, x4⟩ := (s179f (ts := ts) (m := m3) (fun k hk => H k (by omega))) n (by omega) P s2 t1 base k c1 J2 b3 t3 c3 p2 ha3 (by omega)
  have e4 : aCall Tryz.prog (den C n) 179 [.ref P 0, .bool false] s2 = some (.tup [], s4) := q4
  obtain ⟨hb5, rfl, rfl⟩ := ret_inv hr3
  refine ⟨s4, J4, ?_, p4, (x2.trans x4)⟩
  show aCall Tryz.prog (den C (n + 1)) 234 [.box [.ref P 0] 0] s = _
  rw [callR en234 (box1 ..), F234_eq, F234]
  simp -implicitDefEqProofs only [sL, bs1, bs2, bs3, strip_own, aBox_ref, aBox_str, aBox_bool, aBox_int, e2, e4]
theorem s235 {ts : List Tok} {m : Nat} (H : ∀ k < m, AllS ts k) : Sim ts m (.seq .bump (.seq gIdent (.seq (gOpt wEq (.call 0)) (gExpect wSemi)))) vd (fnF 235 fun P => [.box [.ref P 0] 0]) := by
  intro n hn P s rest base k cs J b rest' cs' h hr hb
  obtain ⟨n, rfl⟩ : ∃ j, n = j + 1 := ⟨n - 1, by omega⟩
  obtain ⟨m1, b1, t1, c1, hm1, ha1, hr1, hz1⟩ := seq_inv hr
  obtain ⟨s2, J2, q2, p2, x2⟩ := (bump_sim ts m1) n (by omega) P s rest base k cs J b1 t1 c1 h ha1 (by omega)
  have e2 : aCall Tryz.prog (den C n) 113 [.ref P 0] s = some (.tup [], s2) := q2
  obtain ⟨m3, b3, t3, c3, hm3, ha3, hr3, hz3⟩ := seq_inv hr1
  obtain ⟨s4, J4, q4, p4, x4⟩ := (ident_sim ts m3) n (by omega) P s2 t1 base k c1 J2 b3 t3 c3 p2 ha3 (by omega)
  have e4 : aCall Tryz.prog (den C n) 181 [.ref P 0] s2 = some (.tup [], s4) := q4
  obtain ⟨m5, b5, t5, c5, hm5, ha5, hr5, hz5⟩ := seq_inv hr3
  obtain ⟨s6, J6, q6, p6, x6⟩ := (opt_sim (ts := ts) (m := m5) wEq (v := fun P => .fn 185 [.ref P 0] []) (fun _ => rfl) (fun k hk => (H k (by omega)).ty)) n (by omega) P s4 t3 base k c3 J4 b5 t5 c5 p4 ha5 (by omega)
  have e6 : aCall Tryz.prog (den C n) 225 [.ref P 0, .str [61], .fn 185 [.ref P 0] []] s4 = some (.tup [], s6) := q6
  obtain ⟨s7, J7, q7, p7, x7⟩ := (expect_sim ts m5 wSemi) n (by omega) P s6 t5 base k c5 J6 b rest' cs' p6 hr5 (by omega)
  have e7 : aCall Tryz.prog (den C n) 184 [.ref P 0, .str [59]] s6 = some (.tup [], s7) := q7
  refine ⟨s7, J7, ?_, p7, (((x2.trans x4).trans x6).trans x7)⟩
  show aCall Tryz.prog (den C (n + 1)) 235 [.box [.ref P 0] 0] s = _
  rw [callR en235 (box1 ..), F235_eq, F235]
  simp -implicitDefEqProofs only [sL, bs1, bs2, bs3, strip_own, aBox_ref, aBox_str, aBox_bool, aBox_int, e2, e4, e6, e7]
theorem s315 {ts : List Tok} {m : Nat} (H : ∀ k < m, AllS ts k) : Sim ts m (.seq .bump (.seq (.call 5) (.seq (gOpt wColon (.call 0)) (.seq (gExpect wEq) (.seq (.call 10) (gExpect wSemi)))))) vd (fnF 315 fun P => [.ref P 0]) := by
  intro n hn P s rest base k cs J b rest' cs' h hr hb
  obtain ⟨n, rfl⟩ : ∃ j, n = j + 1 := ⟨n - 1, by omega⟩
  obtain ⟨m1, b1, t1, c1, hm1, ha1, hr1, hz1⟩ := seq_inv hr
  obtain ⟨s2, J2, q2, p2, x2⟩ := (bump_sim ts m1) n (by omega) P s rest base k cs J b1 t1 c1 h ha1 (by omega)
  have e2 : aCall Tryz.prog (den C n) 113 [.ref P 0] s = some (.tup [], s2) := q2
  obtain ⟨m3, b3, t3, c3, hm3, ha3, hr3, hz3⟩ := seq_inv hr1
  obtain ⟨s4, J4, q4, p4, x4⟩ := ((H m3 (by omega)).pa) n (by omega) P s2 t1 base k c1 J2 b3 t3 c3 p2 ha3 (by omega)
  have e4 : aCall Tryz.prog (den C n) 334 [.ref P 0] s2 = some (.tup [], s4) := q4
  obtain ⟨m5, b5, t5, c5, hm5, ha5, hr5, hz5⟩ := seq_inv hr3
  obtain ⟨s6, J6, q6, p6, x6⟩ := (opt_sim (ts := ts) (m := m5) wColon (v := fun P => .fn 185 [.ref P 0] []) (fun _ => rfl) (fun k hk => (H k (by omega)).ty)) n (by omega) P s4 t3 base k c3 J4 b5 t5 c5 p4 ha5 (by omega)
  have e6 : aCall Tryz.prog (den C n) 225 [.ref P 0, .str [58], .fn 185 [.ref P 0] []] s4 = some (.tup [], s6) := q6
  obtain ⟨m7, b7, t7, c7, hm7, ha7, hr7, hz7⟩ := seq_inv hr5
  obtain ⟨s8, J8, q8, p8, x8⟩ := (expect_sim ts m7 wEq) n (by omega) P s6 t5 base k c5 J6 b7 t7 c7 p6 ha7 (by omega)
  have e8 : aCall Tryz.prog (den C n) 184 [.ref P 0, .str [61]] s6 = some (.tup [], s8) := q8
  obtain ⟨m9, b9, t9, c9, hm9, ha9, hr9, hz9⟩ := seq_inv hr7
  obtain ⟨s10, J10, q10, p10, x10⟩ := ((H m9 (by omega)).ex) n (by omega) P s8 t7 base k c7 J8 b9 t9 c9 p8 ha9 (by omega)
  have e10 : aCall Tryz.prog (den C n) 186 [.ref P 0] s8 = some (.tup [], s10) := q10
  obtain ⟨s11, J11, q11, p11, x11⟩ := (expect_sim ts m9 wSemi) n (by omega) P s10 t9 base k c9 J10 b rest' cs' p10 hr9 (by omega)
  have e11 : aCall Tryz.prog (den C n) 184 [.ref P 0, .str [59]] s10 = some (.tup [], s11) := q11
  refine ⟨s11, J11, ?_, p11, (((((x2.trans x4).trans x6).trans x8).trans x10).trans x11)⟩
  show aCall Tryz.prog (den C (n + 1)) 315 [.ref P 0] s = _
  rw [callR en315 (ref1 ..), F315_eq, F315]
  simp -implicitDefEqProofs only [sL, bs1, bs2, bs3, strip_own, aBox_ref, aBox_str, aBox_bool, aBox_int, e2, e4, e6, e8, e10, e11]
theorem s316 {ts : List Tok} {m : Nat} (H : ∀ k < m, AllS ts k) : Sim ts m (.seq .bump (.seq (.call 10) (.call 1))) vd (fnF 316 fun P => [.box [.ref P 0] 0]) := by
  intro n hn P s rest base k cs J b rest' cs' h hr hb
  obtain ⟨n, rfl⟩ : ∃ j, n = j + 1 := ⟨n - 1, by omega⟩
  obtain ⟨m1, b1, t1, c1, hm1, ha1, hr1, hz1⟩ := seq_inv hr
  obtain ⟨s2, J2, q2, p2, x2⟩ := (bump_sim ts m1) n (by omega) P s rest base k cs J b1 t1 c1 h ha1 (by omega)
  have e2 : aCall Tryz.prog (den C n) 113 [.ref P 0] s = some (.tup [], s2) := q2
  obtain ⟨m3, b3, t3, c3, hm3, ha3, hr3, hz3⟩ := seq_inv hr1
  obtain ⟨s4, J4, q4, p4, x4⟩ := ((H m3 (by omega)).ex) n (by omega) P s2 t1 base k c1 J2 b3 t3 c3 p2 ha3 (by omega)
  have e4 : aCall Tryz.prog (den C n) 186 [.ref P 0] s2 = some (.tup [], s4) := q4
  obtain ⟨s5, J5, q5, p5, x5⟩ := ((H m3 (by omega)).bl) n (by omega) P s4 t3 base k c3 J4 b rest' cs' p4 hr3 (by omega)
  have e5 : aCall Tryz.prog (den C n) 227 [.ref P 0] s4 = some (.tup [], s5) := q5
  refine ⟨s5, J5, ?_, p5, ((x2.trans x4).trans x5)⟩
  show aCall Tryz.prog (den C (n + 1)) 316 [.box [.ref P 0] 0] s = _
  rw [callR en316 (box1 ..), F316_eq, F316]
  simp -implicitDefEqProofs only [sL, bs1, bs2, bs3, strip_own, aBox_ref, aBox_str, aBox_bool, aBox_int, e2, e4, e5]
theorem s317 {ts : List Tok} {m : Nat} (H : ∀ k < m, AllS ts k) : Sim ts m (.seq .bump (.seq (.ite (rAt [wSemi]) (.put 0) (.call 10)) (gExpect wSemi))) vd (fnF 317 fun P => [.ref P 0]) := by
  intro n hn P s rest base k cs J b rest' cs' h hr hb
  obtain ⟨n, rfl⟩ : ∃ j, n = j + 1 := ⟨n - 1, by omega⟩
  obtain ⟨m1, b1, t1, c1, hm1, ha1, hr1, hz1⟩ := seq_inv hr
  obtain ⟨s2, J2, q2, p2, x2⟩ := (bump_sim ts m1) n (by omega) P s rest base k cs J b1 t1 c1 h ha1 (by omega)
  have e2 : aCall Tryz.prog (den C n) 113 [.ref P 0] s = some (.tup [], s2) := q2
  obtain ⟨m3, b3, t3, c3, hm3, ha3, hr3, hz3⟩ := seq_inv hr1
  obtain ⟨s4, q4, p4, x4⟩ := (at_rd (ts := ts) [wSemi] (by decide : 1 < 50)).use (n := n) (by omega) p2
  obtain ⟨m4, hm4, ho4⟩ := ite_inv ha3
  rcases ho4 with ⟨hc4, hr4⟩ | ⟨hc4, hr4⟩
  · have e4 : aCall Tryz.prog (den C n) 106 [.ref P 0, .sl 9 1 [.str [59]] .sh] s2 = some (.bool true, s4) := by rw [← hc4]; exact q4
    obtain ⟨s5, J5, q5, p5, x5⟩ := ((put_sim ts m4).2.2) n (by omega) P s4 t1 base k c1 J2 b3 t3 c3 p4 hr4 (by omega)
    have e5 : aCall Tryz.prog (den C n) 226 [.ref P 0] s4 = some (.tup [], s5) := q5
    obtain ⟨s6, J6, q6, p6, x6⟩ := (expect_sim ts m3 wSemi) n (by omega) P s5 t3 base k c3 J5 b rest' cs' p5 hr3 (by omega)
    have e6 : aCall Tryz.prog (den C n) 184 [.ref P 0, .str [59]] s5 = some (.tup [], s6) := q6
    refine ⟨s6, J6, ?_, p6, (((x2.trans x4).trans x5).trans x6)⟩
    show aCall Tryz.prog (den C (n + 1)) 317 [.ref P 0] s = _
    rw [callR en317 (ref1 ..), F317_eq, F317]
    simp -implicitDefEqProofs only [sL, bs1, bs2, bs3, strip_own, aBox_ref, aBox_str, aBox_bool, aBox_int, F317_J0, upds_at, upds_nil, upd_at, argEnv_0, argEnv_1, zne, ite_false, e2, e4, e5, e6]
  · have e4 : aCall Tryz.prog (den C n) 106 [.ref P 0, .sl 9 1 [.str [59]] .sh] s2 = some (.bool false, s4) := by rw [← hc4]; exact q4
    obtain ⟨s7, J7, q7, p7, x7⟩ := ((H m4 (by omega)).ex) n (by omega) P s4 t1 base k c1 J2 b3 t3 c3 p4 hr4 (by omega)
    have e7 : aCall Tryz.prog (den C n) 186 [.ref P 0] s4 = some (.tup [], s7) := q7
    obtain ⟨s8, J8, q8, p8, x8⟩ := (expect_sim ts m3 wSemi) n (by omega) P s7 t3 base k c3 J7 b rest' cs' p7 hr3 (by omega)
    have e8 : aCall Tryz.prog (den C n) 184 [.ref P 0, .str [59]] s7 = some (.tup [], s8) := q8
    refine ⟨s8, J8, ?_, p8, (((x2.trans x4).trans x7).trans x8)⟩
    show aCall Tryz.prog (den C (n + 1)) 317 [.ref P 0] s = _
    rw [callR en317 (ref1 ..), F317_eq, F317]
    simp -implicitDefEqProofs only [sL, bs1, bs2, bs3, strip_own, aBox_ref, aBox_str, aBox_bool, aBox_int, F317_J0, upds_at, upds_nil, upd_at, argEnv_0, argEnv_1, zne, ite_false, e2, e4, e7, e8]
theorem s319 {ts : List Tok} {m : Nat} (H : ∀ k < m, AllS ts k) : Sim ts m (.seq .bump (.seq (.call 10) (gExpect wSemi))) vd (fnF 319 fun P => [.box [.ref P 0] 0]) := by
  intro n hn P s rest base k cs J b rest' cs' h hr hb
  obtain ⟨n, rfl⟩ : ∃ j, n = j + 1 := ⟨n - 1, by omega⟩
  obtain ⟨m1, b1, t1, c1, hm1, ha1, hr1, hz1⟩ := seq_inv hr
  obtain ⟨s2, J2, q2, p2, x2⟩ := (bump_sim ts m1) n (by omega) P s rest base k cs J b1 t1 c1 h ha1 (by omega)
  have e2 : aCall Tryz.prog (den C n) 113 [.ref P 0] s = some (.tup [], s2) := q2
  obtain ⟨m3, b3, t3, c3, hm3, ha3, hr3, hz3⟩ := seq_inv hr1
  obtain ⟨s4, J4, q4, p4, x4⟩ := ((H m3 (by omega)).ex) n (by omega) P s2 t1 base k c1 J2 b3 t3 c3 p2 ha3 (by omega)
  have e4 : aCall Tryz.prog (den C n) 186 [.ref P 0] s2 = some (.tup [], s4) := q4
  obtain ⟨s5, J5, q5, p5, x5⟩ := (expect_sim ts m3 wSemi) n (by omega) P s4 t3 base k c3 J4 b rest' cs' p4 hr3 (by omega)
  have e5 : aCall Tryz.prog (den C n) 184 [.ref P 0, .str [59]] s4 = some (.tup [], s5) := q5
  refine ⟨s5, J5, ?_, p5, ((x2.trans x4).trans x5)⟩
  show aCall Tryz.prog (den C (n + 1)) 319 [.box [.ref P 0] 0] s = _
  rw [callR en319 (box1 ..), F319_eq, F319]
  simp -implicitDefEqProofs only [sL, bs1, bs2, bs3, strip_own, aBox_ref, aBox_str, aBox_bool, aBox_int, e2, e4, e5]
theorem s336 {ts : List Tok} {m : Nat} (H : ∀ k < m, AllS ts k) : Sim ts m (gArgs) vd (fnF 336 fun P => [.ref P 0]) := by
  intro n hn P s rest base k cs J b rest' cs' h hr hb
  obtain ⟨n, rfl⟩ : ∃ j, n = j + 1 := ⟨n - 1, by omega⟩
  obtain ⟨m1, b1, t1, c1, hm1, ha1, hr1, hz1⟩ := seq_inv hr
  obtain ⟨s2, J2, q2, p2, x2⟩ := (bump_sim ts m1) n (by omega) P s rest base k cs J b1 t1 c1 h ha1 (by omega)
  have e2 : aCall Tryz.prog (den C n) 113 [.ref P 0] s = some (.tup [], s2) := q2
  obtain ⟨s3, J3, q3, p3, x3⟩ := (list_simD (ts := ts) (m := m1) wRPar (v := fun P => .fn 186 [.ref P 0] []) (fun _ => rfl) (fun k hk => (H k (by omega)).ex)) n (by omega) P s2 t1 base k c1 J2 b rest' cs' p2 hr1 (by omega)
  have e3 : aCall Tryz.prog (den C n) 228 [.ref P 0, .str [41], .fn 186 [.ref P 0] []] s2 = some (.tup [], s3) := q3
  refine ⟨s3, J3, ?_, p3, (x2.trans x3)⟩
  show aCall Tryz.prog (den C (n + 1)) 336 [.ref P 0] s = _
  rw [callR en336 (ref1 ..), F336_eq, F336]
  simp -implicitDefEqProofs only [sL, bs1, bs2, bs3, strip_own, aBox_ref, aBox_str, aBox_bool, aBox_int, e2, e3]
theorem s335 {ts : List Tok} {m : Nat} (H : ∀ k < m, AllS ts k) : Sim ts m (.seq .bump gArgs) vd (fnF 335 fun P => [.box [.ref P 0] 0]) := by
  intro n hn P s rest base k cs J b rest' cs' h hr hb
  obtain ⟨n, rfl⟩ : ∃ j, n = j + 1 := ⟨n - 1, by omega⟩
  obtain ⟨m1, b1, t1, c1, hm1, ha1, hr1, hz1⟩ := seq_inv hr
  obtain ⟨s2, J2, q2, p2, x2⟩ := (bump_sim ts m1) n (by omega) P s rest base k cs J b1 t1 c1 h ha1 (by omega)
  have e2 : aCall Tryz.prog (den C n) 113 [.ref P 0] s = some (.tup [], s2) := q2
  obtain ⟨s3, J3, q3, p3, x3⟩ := (s336 (ts := ts) (m := m1) (fun k hk => H k (by omega))) n (by omega) P s2 t1 base k c1 J2 b rest' cs' p2 hr1 (by omega)
  have e3 : aCall Tryz.prog (den C n) 336 [.ref P 0] s2 = some (.tup [], s3) := q3
  refine ⟨s3, J3, ?_, p3, (x2.trans x3)⟩
  show aCall Tryz.prog (den C (n + 1)) 335 [.box [.ref P 0] 0] s = _
  rw [callR en335 (box1 ..), F335_eq, F335]
  simp -implicitDefEqProofs only [sL, bs1, bs2, bs3, strip_own, aBox_ref, aBox_str, aBox_bool, aBox_int, e2, e3]
theorem s343 {ts : List Tok} {m : Nat} (H : ∀ k < m, AllS ts k) : Sim ts m (.seq .bump (.seq .bump gArgs)) vd (fnF 343 fun P => [.box [.ref P 0] 0]) := by
  intro n hn P s rest base k cs J b rest' cs' h hr hb
  obtain ⟨n, rfl⟩ : ∃ j, n = j + 1 := ⟨n - 1, by omega⟩
  obtain ⟨m1, b1, t1, c1, hm1, ha1, hr1, hz1⟩ := seq_inv hr
  obtain ⟨s2, J2, q2, p2, x2⟩ := (bump_sim ts m1) n (by omega) P s rest base k cs J b1 t1 c1 h ha1 (by omega)
  have e2 : aCall Tryz.prog (den C n) 113 [.ref P 0] s = some (.tup [], s2) := q2
  obtain ⟨m3, b3, t3, c3, hm3, ha3, hr3, hz3⟩ := seq_inv hr1
  obtain ⟨s4, J4, q4, p4, x4⟩ := (bump_sim ts m3) n (by omega) P s2 t1 base k c1 J2 b3 t3 c3 p2 ha3 (by omega)
  have e4 : aCall Tryz.prog (den C n) 113 [.ref P 0] s2 = some (.tup [], s4) := q4
  obtain ⟨s5, J5, q5, p5, x5⟩ := (s336 (ts := ts) (m := m3) (fun k hk => H k (by omega))) n (by omega) P s4 t3 base k c3 J4 b rest' cs' p4 hr3 (by omega)
  have e5 : aCall Tryz.prog (den C n) 336 [.ref P 0] s4 = some (.tup [], s5) := q5
  refine ⟨s5, J5, ?_, p5, ((x2.trans x4).trans x5)⟩
  show aCall Tryz.prog (den C (n + 1)) 343 [.box [.ref P 0] 0] s = _
  rw [callR en343 (box1 ..), F343_eq, F343]
  simp -implicitDefEqProofs only [sL, bs1, bs2, bs3, strip_own, aBox_ref, aBox_str, aBox_bool, aBox_int, e2, e4, e5]
theorem s344 {ts : List Tok} {m : Nat} (H : ∀ k < m, AllS ts k) : Sim ts m (.seq .bump gIdent) vd (fnF 344 fun P => [.box [.ref P 0] 0]) := by
  intro n hn P s rest base k cs J b rest' cs' h hr hb
  obtain ⟨n, rfl⟩ : ∃ j, n = j + 1 := ⟨n - 1, by omega⟩
  obtain ⟨m1, b1, t1, c1, hm1, ha1, hr1, hz1⟩ := seq_inv hr
  obtain ⟨s2, J2, q2, p2, x2⟩ := (bump_sim ts m1) n (by omega) P s rest base k cs J b1 t1 c1 h ha1 (by omega)
  have e2 : aCall Tryz.prog (den C n) 113 [.ref P 0] s = some (.tup [], s2) := q2
  obtain ⟨s3, J3, q3, p3, x3⟩ := (ident_sim ts m1) n (by omega) P s2 t1 base k c1 J2 b rest' cs' p2 hr1 (by omega)
  have e3 : aCall Tryz.prog (den C n) 181 [.ref P 0] s2 = some (.tup [], s3) := q3
  refine ⟨s3, J3, ?_, p3, (x2.trans x3)⟩
  show aCall Tryz.prog (den C (n + 1)) 344 [.box [.ref P 0] 0] s = _
  rw [callR en344 (box1 ..), F344_eq, F344]
  simp -implicitDefEqProofs only [sL, bs1, bs2, bs3, strip_own, aBox_ref, aBox_str, aBox_bool, aBox_int, e2, e3]
theorem s337 {ts : List Tok} {m : Nat} (H : ∀ k < m, AllS ts k) : Sim ts m (.seq .bump (.seq (.call 10) (gExpect wRPar))) vd (fnF 337 fun P => [.box [.ref P 0] 0]) := by
  intro n hn P s rest base k cs J b rest' cs' h hr hb
  obtain ⟨n, rfl⟩ : ∃ j, n = j + 1 := ⟨n - 1, by omega⟩
  obtain ⟨m1, b1, t1, c1, hm1, ha1, hr1, hz1⟩ := seq_inv hr
  obtain ⟨s2, J2, q2, p2, x2⟩ := (bump_sim ts m1) n (by omega) P s rest base k cs J b1 t1 c1 h ha1 (by omega)
  have e2 : aCall Tryz.prog (den C n) 113 [.ref P 0] s = some (.tup [], s2) := q2
  obtain ⟨m3, b3, t3, c3, hm3, ha3, hr3, hz3⟩ := seq_inv hr1
  obtain ⟨s4, J4, q4, p4, x4⟩ := ((H m3 (by omega)).ex) n (by omega) P s2 t1 base k c1 J2 b3 t3 c3 p2 ha3 (by omega)
  have e4 : aCall Tryz.prog (den C n) 186 [.ref P 0] s2 = some (.tup [], s4) := q4
  obtain ⟨s5, J5, q5, p5, x5⟩ := (expect_sim ts m3 wRPar) n (by omega) P s4 t3 base k c3 J4 b rest' cs' p4 hr3 (by omega)
  have e5 : aCall Tryz.prog (den C n) 184 [.ref P 0, .str [41]] s4 = some (.tup [], s5) := q5
  refine ⟨s5, J5, ?_, p5, ((x2.trans x4).trans x5)⟩
  show aCall Tryz.prog (den C (n + 1)) 337 [.box [.ref P 0] 0] s = _
  rw [callR en337 (box1 ..), F337_eq, F337]
  simp -implicitDefEqProofs only [sL, bs1, bs2, bs3, strip_own, aBox_ref, aBox_str, aBox_bool, aBox_int, e2, e4, e5]
theorem s355 {ts : List Tok} {m : Nat} (H : ∀ k < m, AllS ts k) : Sim ts m (.ite (rAt [wIf]) (.call 6) (.call 1)) vd (fnF 355 fun P => [.box [.ref P 0] 0]) := by
  intro n hn P s rest base k cs J b rest' cs' h hr hb
  obtain ⟨n, rfl⟩ : ∃ j, n = j + 1 := ⟨n - 1, by omega⟩
  obtain ⟨s1, q1, p1, x1⟩ := (at_rd (ts := ts) [wIf] (by decide : 1 < 50)).use (n := n) (by omega) h
  obtain ⟨m1, hm1, ho1⟩ := ite_inv hr
  rcases ho1 with ⟨hc1, hr1⟩ | ⟨hc1, hr1⟩
  · have e1 : aCall Tryz.prog (den C n) 106 [.ref P 0, .sl 9 1 [.str [105, 102]] .sh] s = some (.bool true, s1) := by rw [← hc1]; exact q1
    obtain ⟨s2, J2, q2, p2, x2⟩ := ((H m1 (by omega)).ix) n (by omega) P s1 rest base k cs J b rest' cs' p1 hr1 (by omega)
    have e2 : aCall Tryz.prog (den C n) 338 [.ref P 0] s1 = some (.tup [], s2) := q2
    refine ⟨s2, J2, ?_, p2, (x1.trans x2)⟩
    show aCall Tryz.prog (den C (n + 1)) 355 [.box [.ref P 0] 0] s = _
    rw [callR en355 (box1 ..), F355_eq, F355]
    simp -implicitDefEqProofs only [sL, bs1, bs2, bs3, strip_own, aBox_ref, aBox_str, aBox_bool, aBox_int, e1, e2]
  · have e1 : aCall Tryz.prog (den C n) 106 [.ref P 0, .sl 9 1 [.str [105, 102]] .sh] s = some (.bool false, s1) := by rw [← hc1]; exact q1
    obtain ⟨s3, J3, q3, p3, x3⟩ := ((H m1 (by omega)).bl) n (by omega) P s1 rest base k cs J b rest' cs' p1 hr1 (by omega)
    have e3 : aCall Tryz.prog (den C n) 227 [.ref P 0] s1 = some (.tup [], s3) := q3
    refine ⟨s3, J3, ?_, p3, (x1.trans x3)⟩
    show aCall Tryz.prog (den C (n + 1)) 355 [.box [.ref P 0] 0] s = _
    rw [callR en355 (box1 ..), F355_eq, F355]
    simp -implicitDefEqProofs only [sL, bs1, bs2, bs3, strip_own, aBox_ref, aBox_str, aBox_bool, aBox_int, e1, e3]
theorem s354 {ts : List Tok} {m : Nat} (H : ∀ k < m, AllS ts k) : Sim ts m (.seq .bump (.seq (.call 10) (.seq (.call 1) (gOpt wElse (.ite (rAt [wIf]) (.call 6) (.call 1)))))) vd (fnF 354 fun P => [.box [.ref P 0] 0]) := by
  intro n hn P s rest base k cs J b rest' cs' h hr hb
  obtain ⟨n, rfl⟩ : ∃ j, n = j + 1 := ⟨n - 1, by omega⟩
  obtain ⟨m1, b1, t1, c1, hm1, ha1, hr1, hz1⟩ := seq_inv hr
  obtain ⟨s2, J2, q2, p2, x2⟩ := (bump_sim ts m1) n (by omega) P s rest base k cs J b1 t1 c1 h ha1 (by omega)
  have e2 : aCall Tryz.prog (den C n) 113 [.ref P 0] s = some (.tup [], s2) := q2
  obtain ⟨m3, b3, t3, c3, hm3, ha3, hr3, hz3⟩ := seq_inv hr1
  obtain ⟨s4, J4, q4, p4, x4⟩ := ((H m3 (by omega)).ex) n (by omega) P s2 t1 base k c1 J2 b3 t3 c3 p2 ha3 (by omega)
  have e4 : aCall Tryz.prog (den C n) 186 [.ref P 0] s2 = some (.tup [], s4) := q4
  obtain ⟨m5, b5, t5, c5, hm5, ha5, hr5, hz5⟩ := seq_inv hr3
  obtain ⟨s6, J6, q6, p6, x6⟩ := ((H m5 (by omega)).bl) n (by omega) P s4 t3 base k c3 J4 b5 t5 c5 p4 ha5 (by omega)
  have e6 : aCall Tryz.prog (den C n) 227 [.ref P 0] s4 = some (.tup [], s6) := q6
  obtain ⟨s7, J7, q7, p7, x7⟩ := (opt_sim (ts := ts) (m := m5) wElse (v := fun P => .fn 355 [] [.box [.ref P 0] 0]) (fun _ => rfl) (fun k hk => s355 (fun k hk => H k (by omega)))) n (by omega) P s6 t5 base k c5 J6 b rest' cs' p6 hr5 (by omega)
  have e7 : aCall Tryz.prog (den C n) 225 [.ref P 0, .str [101, 108, 115, 101], .fn 355 [] [.box [.ref P 0] 0]] s6 = some (.tup [], s7) := q7
  refine ⟨s7, J7, ?_, p7, (((x2.trans x4).trans x6).trans x7)⟩
  show aCall Tryz.prog (den C (n + 1)) 354 [.box [.ref P 0] 0] s = _
  rw [callR en354 (box1 ..), F354_eq, F354]
  simp -implicitDefEqProofs only [sL, bs1, bs2, bs3, strip_own, aBox_ref, aBox_str, aBox_bool, aBox_int, e2, e4, e6, e7]
theorem s338 {ts : List Tok} {m : Nat} (H : ∀ k < m, AllS ts k) : Sim ts m (gIfExpr) vd (fnF 338 fun P => [.ref P 0]) := by
  intro n hn P s rest base k cs J b rest' cs' h hr hb
  obtain ⟨n, rfl⟩ : ∃ j, n = j + 1 := ⟨n - 1, by omega⟩
  obtain ⟨s1, J1, q1, p1, x1⟩ := (node_simD (ts := ts) (m := m) (k := 37) (v := fun P => .fn 354 [] [.box [.ref P 0] 0]) (fun _ => rfl) (fun k hk => s354 (fun k hk => H k (by omega)))) n (by omega) P s rest base k cs J b rest' cs' h hr (by omega)
  have e1 : aCall Tryz.prog (den C n) 110 [.ref P 0, .int .i64 37, .fn 354 [] [.box [.ref P 0] 0]] s = some (.tup [], s1) := q1
  refine ⟨s1, J1, ?_, p1, x1⟩
  show aCall Tryz.prog (den C (n + 1)) 338 [.ref P 0] s = _
  rw [callR en338 (ref1 ..), F338_eq, F338]
  simp -implicitDefEqProofs only [sL, bs1, bs2, bs3, strip_own, aBox_ref, aBox_str, aBox_bool, aBox_int, e1]
theorem s358 {ts : List Tok} {m : Nat} (H : ∀ k < m, AllS ts k) : Sim ts m (.seq (.call 5) (.seq (gExpect wFatArrow) (.call 10))) vd (fnF 358 fun P => [.box [.ref P 0] 0]) := by
  intro n hn P s rest base k cs J b rest' cs' h hr hb
  obtain ⟨n, rfl⟩ : ∃ j, n = j + 1 := ⟨n - 1, by omega⟩
  obtain ⟨m1, b1, t1, c1, hm1, ha1, hr1, hz1⟩ := seq_inv hr
  obtain ⟨s2, J2, q2, p2, x2⟩ := ((H m1 (by omega)).pa) n (by omega) P s rest base k cs J b1 t1 c1 h ha1 (by omega)
  have e2 : aCall Tryz.prog (den C n) 334 [.ref P 0] s = some (.tup [], s2) := q2
  obtain ⟨m3, b3, t3, c3, hm3, ha3, hr3, hz3⟩ := seq_inv hr1
  obtain ⟨s4, J4, q4, p4, x4⟩ := (expect_sim ts m3 wFatArrow) n (by omega) P s2 t1 base k c1 J2 b3 t3 c3 p2 ha3 (by omega)
  have e4 : aCall Tryz.prog (den C n) 184 [.ref P 0, .str [61, 62]] s2 = some (.tup [], s4) := q4
  obtain ⟨s5, J5, q5, p5, x5⟩ := ((H m3 (by omega)).ex) n (by omega) P s4 t3 base k c3 J4 b rest' cs' p4 hr3 (by omega)
  have e5 : aCall Tryz.prog (den C n) 186 [.ref P 0] s4 = some (.tup [], s5) := q5
  refine ⟨s5, J5, ?_, p5, ((x2.trans x4).trans x5)⟩
  show aCall Tryz.prog (den C (n + 1)) 358 [.box [.ref P 0] 0] s = _
  rw [callR en358 (box1 ..), F358_eq, F358]
  simp -implicitDefEqProofs only [sL, bs1, bs2, bs3, strip_own, aBox_ref, aBox_str, aBox_bool, aBox_int, e2, e4, e5]
theorem s356 {ts : List Tok} {m : Nat} (H : ∀ k < m, AllS ts k) : Sim ts m (gArm) vd (fnF 356 fun P => [.box [.ref P 0] 0]) := by
  intro n hn P s rest base k cs J b rest' cs' h hr hb
  obtain ⟨n, rfl⟩ : ∃ j, n = j + 1 := ⟨n - 1, by omega⟩
  obtain ⟨s1, q1, p1, x1⟩ := (arm_rd ts).use (n := n) (by omega) h
  obtain ⟨m1, hm1, ho1⟩ := ite_inv hr
  rcases ho1 with ⟨hc1, hr1⟩ | ⟨hc1, hr1⟩
  · have e1 : aCall Tryz.prog (den C n) 357 [.ref P 0] s = some (.bool true, s1) := by rw [← hc1]; exact q1
    obtain ⟨s2, J2, q2, p2, x2⟩ := (node_simD (ts := ts) (m := m1) (k := 36) (v := fun P => .fn 358 [] [.box [.ref P 0] 0]) (fun _ => rfl) (fun k hk => s358 (fun k hk => H k (by omega)))) n (by omega) P s1 rest base k cs J b rest' cs' p1 hr1 (by omega)
    have e2 : aCall Tryz.prog (den C n) 110 [.ref P 0, .int .i64 36, .fn 358 [] [.box [.ref P 0] 0]] s1 = some (.tup [], s2) := q2
    refine ⟨s2, J2, ?_, p2, (x1.trans x2)⟩
    show aCall Tryz.prog (den C (n + 1)) 356 [.box [.ref P 0] 0] s = _
    rw [callR en356 (box1 ..), F356_eq, F356]
    simp -implicitDefEqProofs only [sL, bs1, bs2, bs3, strip_own, aBox_ref, aBox_str, aBox_bool, aBox_int, e1, e2]
  · have e1 : aCall Tryz.prog (den C n) 357 [.ref P 0] s = some (.bool false, s1) := by rw [← hc1]; exact q1
    obtain ⟨hb3, rfl, rfl⟩ := ret_inv hr1
    refine ⟨s1, J, ?_, p1, x1⟩
    show aCall Tryz.prog (den C (n + 1)) 356 [.box [.ref P 0] 0] s = _
    rw [callR en356 (box1 ..), F356_eq, F356]
    simp -implicitDefEqProofs only [sL, bs1, bs2, bs3, strip_own, aBox_ref, aBox_str, aBox_bool, aBox_int, e1]
theorem s339 {ts : List Tok} {m : Nat} (H : ∀ k < m, AllS ts k) : Sim ts m (.seq .bump (.seq (.call 10) (.seq (gExpect wLBr) (gList wRBr gArm)))) vd (fnF 339 fun P => [.ref P 0]) := by
  intro n hn P s rest base k cs J b rest' cs' h hr hb
  obtain ⟨n, rfl⟩ : ∃ j, n = j + 1 := ⟨n - 1, by omega⟩
  obtain ⟨m1, b1, t1, c1, hm1, ha1, hr1, hz1⟩ := seq_inv hr
  obtain ⟨s2, J2, q2, p2, x2⟩ := (bump_sim ts m1) n (by omega) P s rest base k cs J b1 t1 c1 h ha1 (by omega)
  have e2 : aCall Tryz.prog (den C n) 113 [.ref P 0] s = some (.tup [], s2) := q2
  obtain ⟨m3, b3, t3, c3, hm3, ha3, hr3, hz3⟩ := seq_inv hr1
  obtain ⟨s4, J4, q4, p4, x4⟩ := ((H m3 (by omega)).ex) n (by omega) P s2 t1 base k c1 J2 b3 t3 c3 p2 ha3 (by omega)
  have e4 : aCall Tryz.prog (den C n) 186 [.ref P 0] s2 = some (.tup [], s4) := q4
  obtain ⟨m5, b5, t5, c5, hm5, ha5, hr5, hz5⟩ := seq_inv hr3
  obtain ⟨s6, J6, q6, p6, x6⟩ := (expect_sim ts m5 wLBr) n (by omega) P s4 t3 base k c3 J4 b5 t5 c5 p4 ha5 (by omega)
  have e6 : aCall Tryz.prog (den C n) 184 [.ref P 0, .str [123]] s4 = some (.tup [], s6) := q6
  obtain ⟨s7, J7, q7, p7, x7⟩ := (list_simD (ts := ts) (m := m5) wRBr (v := fun P => .fn 356 [] [.box [.ref P 0] 0]) (fun _ => rfl) (fun k hk => s356 (fun k hk => H k (by omega)))) n (by omega) P s6 t5 base k c5 J6 b rest' cs' p6 hr5 (by omega)
  have e7 : aCall Tryz.prog (den C n) 228 [.ref P 0, .str [125], .fn 356 [] [.box [.ref P 0] 0]] s6 = some (.tup [], s7) := q7
  refine ⟨s7, J7, ?_, p7, (((x2.trans x4).trans x6).trans x7)⟩
  show aCall Tryz.prog (den C (n + 1)) 339 [.ref P 0] s = _
  rw [callR en339 (ref1 ..), F339_eq, F339]
  simp -implicitDefEqProofs only [sL, bs1, bs2, bs3, strip_own, aBox_ref, aBox_str, aBox_bool, aBox_int, e2, e4, e6, e7]
theorem s360 {ts : List Tok} {m : Nat} (H : ∀ k < m, AllS ts k) : Sim ts m (.seq .bump (.seq (gExpect wColon) (.call 10))) vd (fnF 360 fun P => [.box [.ref P 0] 0]) := by
  intro n hn P s rest base k cs J b rest' cs' h hr hb
  obtain ⟨n, rfl⟩ : ∃ j, n = j + 1 := ⟨n - 1, by omega⟩
  obtain ⟨m1, b1, t1, c1, hm1, ha1, hr1, hz1⟩ := seq_inv hr
  obtain ⟨s2, J2, q2, p2, x2⟩ := (bump_sim ts m1) n (by omega) P s rest base k cs J b1 t1 c1 h ha1 (by omega)
  have e2 : aCall Tryz.prog (den C n) 113 [.ref P 0] s = some (.tup [], s2) := q2
  obtain ⟨m3, b3, t3, c3, hm3, ha3, hr3, hz3⟩ := seq_inv hr1
  obtain ⟨s4, J4, q4, p4, x4⟩ := (expect_sim ts m3 wColon) n (by omega) P s2 t1 base k c1 J2 b3 t3 c3 p2 ha3 (by omega)
  have e4 : aCall Tryz.prog (den C n) 184 [.ref P 0, .str [58]] s2 = some (.tup [], s4) := q4
  obtain ⟨s5, J5, q5, p5, x5⟩ := ((H m3 (by omega)).ex) n (by omega) P s4 t3 base k c3 J4 b rest' cs' p4 hr3 (by omega)
  have e5 : aCall Tryz.prog (den C n) 186 [.ref P 0] s4 = some (.tup [], s5) := q5
  refine ⟨s5, J5, ?_, p5, ((x2.trans x4).trans x5)⟩
  show aCall Tryz.prog (den C (n + 1)) 360 [.box [.ref P 0] 0] s = _
  rw [callR en360 (box1 ..), F360_eq, F360]
  simp -implicitDefEqProofs only [sL, bs1, bs2, bs3, strip_own, aBox_ref, aBox_str, aBox_bool, aBox_int, e2, e4, e5]
theorem s359 {ts : List Tok} {m : Nat} (H : ∀ k < m, AllS ts k) : Sim ts m (gInit) vd (fnF 359 fun P => [.box [.ref P 0] 0]) := by
  intro n hn P s rest base k cs J b rest' cs' h hr hb
  obtain ⟨n, rfl⟩ : ∃ j, n = j + 1 := ⟨n - 1, by omega⟩
  obtain ⟨s1, q1, p1, x1⟩ := (ident_rd ts).use (n := n) (by omega) h
  obtain ⟨m1, hm1, ho1⟩ := ite_inv hr
  rcases ho1 with ⟨hc1, hr1⟩ | ⟨hc1, hr1⟩
  · have e1 : aCall Tryz.prog (den C n) 230 [.ref P 0] s = some (.bool true, s1) := by rw [← hc1]; exact q1
    obtain ⟨s2, J2, q2, p2, x2⟩ := (node_simD (ts := ts) (m := m1) (k := 34) (v := fun P => .fn 360 [] [.box [.ref P 0] 0]) (fun _ => rfl) (fun k hk => s360 (fun k hk => H k (by omega)))) n (by omega) P s1 rest base k cs J b rest' cs' p1 hr1 (by omega)
    have e2 : aCall Tryz.prog (den C n) 110 [.ref P 0, .int .i64 34, .fn 360 [] [.box [.ref P 0] 0]] s1 = some (.tup [], s2) := q2
    refine ⟨s2, J2, ?_, p2, (x1.trans x2)⟩
    show aCall Tryz.prog (den C (n + 1)) 359 [.box [.ref P 0] 0] s = _
    rw [callR en359 (box1 ..), F359_eq, F359]
    simp -implicitDefEqProofs only [sL, bs1, bs2, bs3, strip_own, aBox_ref, aBox_str, aBox_bool, aBox_int, e1, e2]
  · have e1 : aCall Tryz.prog (den C n) 230 [.ref P 0] s = some (.bool false, s1) := by rw [← hc1]; exact q1
    obtain ⟨hb3, rfl, rfl⟩ := ret_inv hr1
    refine ⟨s1, J, ?_, p1, x1⟩
    show aCall Tryz.prog (den C (n + 1)) 359 [.box [.ref P 0] 0] s = _
    rw [callR en359 (box1 ..), F359_eq, F359]
    simp -implicitDefEqProofs only [sL, bs1, bs2, bs3, strip_own, aBox_ref, aBox_str, aBox_bool, aBox_int, e1]
theorem s340 {ts : List Tok} {m : Nat} (H : ∀ k < m, AllS ts k) : Sim ts m (.seq .bump (.seq (gPath false) (.seq (gExpect wLBr) (gList wRBr gInit)))) vd (fnF 340 fun P => [.ref P 0]) := by
  intro n hn P s rest base k cs J b rest' cs' h hr hb
  obtain ⟨n, rfl⟩ : ∃ j, n = j + 1 := ⟨n - 1, by omega⟩
  obtain ⟨m1, b1, t1, c1, hm1, ha1, hr1, hz1⟩ := seq_inv hr
  obtain ⟨s2, J2, q2, p2, x2⟩ := (bump_sim ts m1) n (by omega) P s rest base k cs J b1 t1 c1 h ha1 (by omega)
  have e2 : aCall Tryz.prog (den C n) 113 [.ref P 0] s = some (.tup [], s2) := q2
  obtain ⟨m3, b3, t3, c3, hm3, ha3, hr3, hz3⟩ := seq_inv hr1
  obtain ⟨s4, J4, q4, p4, x4⟩ := (s239 (ts := ts) (m := m3) false (fun k hk => H k (by omega))) n (by omega) P s2 t1 base k c1 J2 b3 t3 c3 p2 ha3 (by omega)
  have e4 : aCall Tryz.prog (den C n) 239 [.ref P 0, .bool false] s2 = some (.tup [], s4) := q4
  obtain ⟨m5, b5, t5, c5, hm5, ha5, hr5, hz5⟩ := seq_inv hr3
  obtain ⟨s6, J6, q6, p6, x6⟩ := (expect_sim ts m5 wLBr) n (by omega) P s4 t3 base k c3 J4 b5 t5 c5 p4 ha5 (by omega)
  have e6 : aCall Tryz.prog (den C n) 184 [.ref P 0, .str [123]] s4 = some (.tup [], s6) := q6
  obtain ⟨s7, J7, q7, p7, x7⟩ := (list_simD (ts := ts) (m := m5) wRBr (v := fun P => .fn 359 [] [.box [.ref P 0] 0]) (fun _ => rfl) (fun k hk => s359 (fun k hk => H k (by omega)))) n (by omega) P s6 t5 base k c5 J6 b rest' cs' p6 hr5 (by omega)
  have e7 : aCall Tryz.prog (den C n) 228 [.ref P 0, .str [125], .fn 359 [] [.box [.ref P 0] 0]] s6 = some (.tup [], s7) := q7
  refine ⟨s7, J7, ?_, p7, (((x2.trans x4).trans x6).trans x7)⟩
  show aCall Tryz.prog (den C (n + 1)) 340 [.ref P 0] s = _
  rw [callR en340 (ref1 ..), F340_eq, F340]
  simp -implicitDefEqProofs only [sL, bs1, bs2, bs3, strip_own, aBox_ref, aBox_str, aBox_bool, aBox_int, e2, e4, e6, e7]
theorem s361 {ts : List Tok} {m : Nat} : Sim ts m nop vd (cvF fun P => .fn 361 [] []) := by
  intro n hn P s rest base k cs J b rest' cs' h hr hb
  obtain ⟨n, rfl⟩ : ∃ j, n = j + 1 := ⟨n - 1, by omega⟩
  obtain ⟨-, rfl, rfl⟩ := ret_inv hr
  refine ⟨s, J, ?_, h, .refl s J⟩
  show aCall Tryz.prog (den C (n + 1)) 361 [] s = _
  have q : AN 1 361 [] (.tup []) := .intro (N := 0) en361 rfl rfl fun n _ => ⟨[], by rw [F361_eq, F361]⟩
  exact q.of (by omega) s
theorem s341 {ts : List Tok} {m : Nat} (H : ∀ k < m, AllS ts k) : Sim ts m (.seq (.ite (rAt [wBarBar]) (.seq .bump (.node 12 nop)) (.seq .bump (gParams wBar))) (.call 10)) vd (fnF 341 fun P => [.ref P 0]) := by
  intro n hn P s rest base k cs J b rest' cs' h hr hb
  obtain ⟨n, rfl⟩ : ∃ j, n = j + 1 := ⟨n - 1, by omega⟩
  obtain ⟨m1, b1, t1, c1, hm1, ha1, hr1, hz1⟩ := seq_inv hr
  obtain ⟨s2, q2, p2, x2⟩ := (at_rd (ts := ts) [wBarBar] (by decide : 1 < 50)).use (n := n) (by omega) h
  obtain ⟨m2, hm2, ho2⟩ := ite_inv ha1
  rcases ho2 with ⟨hc2, hr2⟩ | ⟨hc2, hr2⟩
  · have e2 : aCall Tryz.prog (den C n) 106 [.ref P 0, .sl 9 1 [.str [124, 124]] .sh] s = some (.bool true, s2) := by rw [← hc2]; exact q2
    obtain ⟨m3, b3, t3, c3, hm3, ha3, hr3, hz3⟩ := seq_inv hr2
    obtain ⟨s4, J4, q4, p4, x4⟩ := (bump_sim ts m3) n (by omega) P s2 rest base k cs J b3 t3 c3 p2 ha3 (by omega)
    have e4 : aCall Tryz.prog (den C n) 113 [.ref P 0] s2 = some (.tup [], s4) := q4
    obtain ⟨s5, J5, q5, p5, x5⟩ := (node_simD (ts := ts) (m := m3) (k := 12) (v := fun P => .fn 361 [] []) (fun _ => rfl) (fun k hk => s361)) n (by omega) P s4 t3 base k c3 J4 b1 t1 c1 p4 hr3 (by omega)
    have e5 : aCall Tryz.prog (den C n) 110 [.ref P 0, .int .i64 12, .fn 361 [] []] s4 = some (.tup [], s5) := q5
    obtain ⟨s6, J6, q6, p6, x6⟩ := ((H m1 (by omega)).ex) n (by omega) P s5 t1 base k c1 J5 b rest' cs' p5 hr1 (by omega)
    have e6 : aCall Tryz.prog (den C n) 186 [.ref P 0] s5 = some (.tup [], s6) := q6
    refine ⟨s6, J6, ?_, p6, (((x2.trans x4).trans x5).trans x6)⟩
    show aCall Tryz.prog (den C (n + 1)) 341 [.ref P 0] s = _
    rw [callR en341 (ref1 ..), F341_eq, F341]
    simp -implicitDefEqProofs only [sL, bs1, bs2, bs3, strip_own, aBox_ref, aBox_str, aBox_bool, aBox_int, F341_J0, upds_at, upds_nil, upd_at, argEnv_0, argEnv_1, zne, ite_false, e2, e4, e5, e6]
  · have e2 : aCall Tryz.prog (den C n) 106 [.ref P 0, .sl 9 1 [.str [124, 124]] .sh] s = some (.bool false, s2) := by rw [← hc2]; exact q2
    obtain ⟨m7, b7, t7, c7, hm7, ha7, hr7, hz7⟩ := seq_inv hr2
    obtain ⟨s8, J8, q8, p8, x8⟩ := (bump_sim ts m7) n (by omega) P s2 rest base k cs J b7 t7 c7 p2 ha7 (by omega)
    have e8 : aCall Tryz.prog (den C n) 113 [.ref P 0] s2 = some (.tup [], s8) := q8
    obtain ⟨s9, J9, q9, p9, x9⟩ := (s187 (ts := ts) (m := m7) wBar (fun k hk => H k (by omega))) n (by omega) P s8 t7 base k c7 J8 b1 t1 c1 p8 hr7 (by omega)
    have e9 : aCall Tryz.prog (den C n) 187 [.ref P 0, .str [124]] s8 = some (.tup [], s9) := q9
    obtain ⟨s10, J10, q10, p10, x10⟩ := ((H m1 (by omega)).ex) n (by omega) P s9 t1 base k c1 J9 b rest' cs' p9 hr1 (by omega)
    have e10 : aCall Tryz.prog (den C n) 186 [.ref P 0] s9 = some (.tup [], s10) := q10
    refine ⟨s10, J10, ?_, p10, (((x2.trans x8).trans x9).trans x10)⟩
    show aCall Tryz.prog (den C (n + 1)) 341 [.ref P 0] s = _
    rw [callR en341 (ref1 ..), F341_eq, F341]
    simp -implicitDefEqProofs only [sL, bs1, bs2, bs3, strip_own, aBox_ref, aBox_str, aBox_bool, aBox_int, F341_J0, upds_at, upds_nil, upd_at, argEnv_0, argEnv_1, zne, ite_false, e2, e8, e9, e10]
theorem s322 {ts : List Tok} {m : Nat} (H : ∀ k < m, AllS ts k) : Sim ts m (.seq .bump (.call 15)) vd (fnF 322 fun P => [.box [.ref P 0] 0]) := by
  intro n hn P s rest base k cs J b rest' cs' h hr hb
  obtain ⟨n, rfl⟩ : ∃ j, n = j + 1 := ⟨n - 1, by omega⟩
  obtain ⟨m1, b1, t1, c1, hm1, ha1, hr1, hz1⟩ := seq_inv hr
  obtain ⟨s2, J2, q2, p2, x2⟩ := (bump_sim ts m1) n (by omega) P s rest base k cs J b1 t1 c1 h ha1 (by omega)
  have e2 : aCall Tryz.prog (den C n) 113 [.ref P 0] s = some (.tup [], s2) := q2
  obtain ⟨s3, J3, q3, p3, x3⟩ := ((H m1 (by omega)).un) n (by omega) P s2 t1 base k c1 J2 b rest' cs' p2 hr1 (by omega)
  have e3 : aCall Tryz.prog (den C n) 285 [.ref P 0] s2 = some (.tup [], s3) := q3
  refine ⟨s3, J3, ?_, p3, (x2.trans x3)⟩
  show aCall Tryz.prog (den C (n + 1)) 322 [.box [.ref P 0] 0] s = _
  rw [callR en322 (box1 ..), F322_eq, F322]
  simp -implicitDefEqProofs only [sL, bs1, bs2, bs3, strip_own, aBox_ref, aBox_str, aBox_bool, aBox_int, e2, e3]
theorem s323 {ts : List Tok} {m : Nat} (H : ∀ k < m, AllS ts k) : Sim ts m (.seq .bump (.seq (gIf [wMut] nop) (.call 15))) vd (fnF 323 fun P => [.box [.ref P 0] 0]) := by
  intro n hn P s rest base k cs J b rest' cs' h hr hb
  obtain ⟨n, rfl⟩ : ∃ j, n = j + 1 := ⟨n - 1, by omega⟩
  obtain ⟨m1, b1, t1, c1, hm1, ha1, hr1, hz1⟩ := seq_inv hr
  obtain ⟨s2, J2, q2, p2, x2⟩ := (bump_sim ts m1) n (by omega) P s rest base k cs J b1 t1 c1 h ha1 (by omega)
  have e2 : aCall Tryz.prog (den C n) 113 [.ref P 0] s = some (.tup [], s2) := q2
  obtain ⟨m3, b3, t3, c3, hm3, ha3, hr3, hz3⟩ := seq_inv hr1
  obtain ⟨m4, hm4, ho4⟩ := ite_inv ha3
  rcases ho4 with ⟨hc4, hr4⟩ | ⟨hc4, hr4⟩
  · obtain ⟨m5, b5, t5, c5, hm5, ha5, hr5, hz5⟩ := seq_inv hr4
    obtain ⟨s5, J5, q5, p5, x5⟩ := acc_yes [wMut] (by decide : 1 < 50) (n := n) (by omega) p2 hc4 ha5 (by omega)
    have e5 : aCall Tryz.prog (den C n) 112 [.ref P 0, .sl 9 1 [.str [109, 117, 116]] .sh] s2 = some (.bool true, s5) := q5
    obtain ⟨hb6, rfl, rfl⟩ := ret_inv hr5
    obtain ⟨s7, J7, q7, p7, x7⟩ := ((H m3 (by omega)).un) n (by omega) P s5 t3 base k c3 J5 b rest' cs' p5 hr3 (by omega)
    have e7 : aCall Tryz.prog (den C n) 285 [.ref P 0] s5 = some (.tup [], s7) := q7
    refine ⟨s7, J7, ?_, p7, ((x2.trans x5).trans x7)⟩
    show aCall Tryz.prog (den C (n + 1)) 323 [.box [.ref P 0] 0] s = _
    rw [callR en323 (box1 ..), F323_eq, F323]
    simp -implicitDefEqProofs only [sL, bs1, bs2, bs3, strip_own, aBox_ref, aBox_str, aBox_bool, aBox_int, e2, e5, e7]
  · obtain ⟨s8, q8, p8, x8⟩ := acc_no [wMut] (by decide : 1 < 50) (n := n) (by omega) p2 hc4
    have e8 : aCall Tryz.prog (den C n) 112 [.ref P 0, .sl 9 1 [.str [109, 117, 116]] .sh] s2 = some (.bool false, s8) := q8
    obtain ⟨hb9, rfl, rfl⟩ := ret_inv hr4
    obtain ⟨s10, J10, q10, p10, x10⟩ := ((H m3 (by omega)).un) n (by omega) P s8 t3 base k c3 J2 b rest' cs' p8 hr3 (by omega)
    have e10 : aCall Tryz.prog (den C n) 285 [.ref P 0] s8 = some (.tup [], s10) := q10
    refine ⟨s10, J10, ?_, p10, ((x2.trans x8).trans x10)⟩
    show aCall Tryz.prog (den C (n + 1)) 323 [.box [.ref P 0] 0] s = _
    rw [callR en323 (box1 ..), F323_eq, F323]
    simp -implicitDefEqProofs only [sL, bs1, bs2, bs3, strip_own, aBox_ref, aBox_str, aBox_bool, aBox_int, e2, e8, e10]
end ParF
end
