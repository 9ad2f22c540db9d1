/- CacR, CacI, CacJ, CacK, CacL -/
import Derived.Test.YtfhoaocedkkjbaaGreatDoorD
import Derived.RangeFuncGives
import Derived.Sort.MapsRangeIn
import Derived.Maps.RangeRun
import Derived.WalkKit
import Derived.OwnWalkIn
import Derived.TacticsInMore
import Derived.RegionIn
import Derived.LoopNIn
import Derived.LoopIn
import Derived.Shelf.AbstractIn
import Derived.Shelf.SlIter.Collect
set_option linter.all false

section
namespace Go.Proofs
open Go Go.RowKit Go.Maps Go.Lib
open Go.ChangeMaps (setBlock)
open Go.MapKept (heap_set)
structure Rgs (W : World) (b r : Nat) (es : Array MapEntry) (clock : Nat) (got : List MapEntry) : Prop where
  hb : W.heap[b]? = some (.map es clock)
  hr : ∃ since c0, W.heap[r]? = some (.mapIter (some b) since (got.map (·.born)).toArray c0) ∧ (∀ x ∈ es.toList, x.born < since) ∧ since ≤ c0 ∧ since ≤ clock
  sub : ∀ e ∈ got, e ∈ es.toList
  nd : (got.map (·.born)).Nodup
theorem Rgs.of_walks {W W' : World} {b r : Nat} {es : Array MapEntry} {clock : Nat} {got : List MapEntry} (h : Rgs W b r es clock got) (hk : KeepsWalks W W') : Rgs W' b r es clock got := by
  obtain ⟨since, c0, h1, h2⟩ := h.hr
  exact ⟨hk.same b _ h.hb rfl, ⟨since, c0, hk.same r _ h1 rfl, h2⟩, h.sub, h.nd⟩
theorem Rgs.left_eq {W : World} {b r : Nat} {es : Array MapEntry} {clock : Nat} {got : List MapEntry} (h : Rgs W b r es clock got) : W.rangeLeft b r = (leftOf es (got.map (·.born)).toArray).size := by
  obtain ⟨since, c0, h1, h2⟩ := h.hr
  simp only [World.rangeLeft, h.hb, h1]
theorem Rgs.start {W : World} {b : Nat} {es : Array MapEntry} {clock : Nat} (hb : W.heap[b]? = some (.map es clock)) (hc : ∀ x ∈ es.toList, x.born < clock) : Rgs (W.alloc (.mapIter (some b) clock #[] clock)) b W.heap.size es clock [] := by
  have hlt : b < W.heap.size := (Array.getElem?_eq_some_iff.1 hb).1
  exact ⟨(RowKit.Below.heap_alloc W _ b hlt).trans hb, ⟨clock, clock, heap_alloc_new _ _, hc, Nat.le_refl _, Nat.le_refl _⟩, nofun, List.nodup_nil⟩
theorem Rgs.next {P : Program} {W : World} {b r : Nat} {es : Array MapEntry} {clock : Nat} {got : List MapEntry} (h : Rgs W b r es clock got) (hn : (es.toList.map (·.born)).Nodup) (ty : TypeId) :
    ((∀ e ∈ es.toList, e.born ∈ got.map (·.born)) ∧ (Instr.next (.pointer (some ⟨r, 0, none⟩)) false ty).run P W = .ok (.tuple #[.bool false]) W) ∨
    ∃ e w', e ∈ es.toList ∧ e.born ∉ got.map (·.born) ∧ (Instr.next (.pointer (some ⟨r, 0, none⟩)) false ty).run P W = .ok (.tuple #[.bool true, e.key, e.val]) w' ∧ Rgs w' b r es clock (got ++ [e]) ∧
      w'.rangeLeft b r < W.rangeLeft b r ∧ W.grownBy w' (some r) ∧ w'.heap.size = W.heap.size ∧ (Instr.entry (.pointer (some ⟨r, 0, none⟩))).run P w' = .ok (.tuple #[e.key, e.val]) w' := by
  obtain ⟨since, c0, hr, hold, hsc, hsk⟩ := h.hr
  have hne : r ≠ b := by
    intro e
    have := h.hb
    rw [← e, hr] at this
    cases this
  rcases run_next_at (P := P) W ty r b since c0 _ es clock hr h.hb hold hsc with ⟨h0, hrun⟩ | ⟨e, he, w1, hal, hrun⟩
  · refine .inl ⟨fun e he => ?_, hrun⟩
    have := all_seen es _ h0 e he
    simpa using this
  · right
    obtain ⟨m1, m2⟩ := mem_left he
    have hr1 : w1.heap[r]? = some (.mapIter (some b) since (got.map (·.born)).toArray c0) := by rcases hal with rfl | rfl <;> exact hr
    have hb1 : w1.heap[b]? = some (.map es clock) := by rcases hal with rfl | rfl <;> exact h.hb
    have hset := heap_set (o' := Obj.mapIter (some b) since (((got.map (·.born)).toArray).push e.born) clock) hr1
    have hb' : (setBlock w1 r (.mapIter (some b) since (((got.map (·.born)).toArray).push e.born) clock)).heap[b]? = some (.map es clock) := (hset.2 b (fun e1 => hne e1.symm)).trans hb1
    have hpush : ((got.map (·.born)).toArray).push e.born = ((got ++ [e]).map (·.born)).toArray := by simp
    have hnot : e.born ∉ got.map (·.born) := by
      intro hm
      have : ((got.map (·.born)).toArray).contains e.born = true := by simpa using hm
      rw [this] at m2; cases m2
    have hR : Rgs (setBlock w1 r (.mapIter (some b) since (((got.map (·.born)).toArray).push e.born) clock)) b r es clock (got ++ [e]) := by
      refine ⟨hb', ⟨since, clock, by rw [← hpush]; exact hset.1, hold, hsk, hsk⟩, fun x hx => ?_, ?_⟩
      · rcases List.mem_append.1 hx with hx | hx
        · exact h.sub x hx
        · rw [List.mem_singleton.1 hx]; exact m1
      · rw [List.map_append, List.nodup_append]
        refine ⟨h.nd, by simp, fun a ha c hc => ?_⟩
        simp only [List.map_cons, List.map_nil, List.mem_singleton] at hc
        subst hc
        intro e1; subst e1
        exact hnot ha
    refine ⟨e, _, m1, hnot, hrun, hR, ?_, ?_, ?_, run_entry_at _ r b since _ es clock e hset.1 hb' m1 hn⟩
    · rw [hR.left_eq, h.left_eq, ← hpush]
      exact left_shrinks es _ e he
    · rcases hal with rfl | rfl <;> exact ⟨rfl, rfl, rfl, by simp [setBlock], fun i _ hi => hset.2 i (fun e1 => hi (by rw [e1]))⟩
    · rcases hal with rfl | rfl <;> simp [setBlock]
section
variable {F : Fence} {n : Nat} {P : Program} (w : World) {ops : Array Oper} {rest : List Oper} {o : Oper} {a : Act} {Q : Exit → Act → World → Prop}
theorem wpListIn_range_rgs (hg : o.guard = none) (m : Operand) (t : TypeId) (hop : o.op = Op.range t m) (k e : TypeId) (ht : P.underlying t = some (.map k e)) (b : Nat) (es : Array MapEntry) (clock : Nat)
    (hm : a.eval m = .map (some b)) (hb : w.heap[b]? = some (.map es clock)) (hc : ∀ x ∈ es.toList, x.born < clock)
    (hK : ∀ w', Rgs w' b w.heap.size es clock [] → w.grownBy w' none → w'.heap.size = w.heap.size + 1 → wpListIn F n P ops Q rest (a.put o.dst (.pointer (some ⟨w.heap.size, 0, none⟩))) w') :
    wpListIn F n P ops Q (o :: rest) a w := by
  refine wpListIn_plain hg fun K' hK' => ?_
  unfold Oper.wpIn
  refine ⟨?_, ?_⟩
  · simp [Oper.about, hop]
  · rw [Oper.semAt_plain F _ _ (by rw [hop]; intro c hc'; cases hc')]
    simp [execOp, hop, hm, run_range_map w t k e b es clock ht hb, Result.andThen]
    exact hK' _ _ (hK _ (Rgs.start hb hc) (World.grownBy_alloc w _ none) (by simp))
theorem wpListIn_next_rgs (hg : o.guard = none) (it : Operand) (hop : o.op = Op.next it false) (b r : Nat) (es : Array MapEntry) (clock : Nat) (got : List MapEntry) (hn : (es.toList.map (·.born)).Nodup)
    (hit : a.eval it = .pointer (some ⟨r, 0, none⟩)) (h : Rgs w b r es clock got)
    (hDone : (∀ e ∈ es.toList, e.born ∈ got.map (·.born)) → wpListIn F n P ops Q rest (a.put o.dst (.tuple #[.bool false])) w)
    (hMore : ∀ (e : MapEntry) (w' : World), e ∈ es.toList → Rgs w' b r es clock (got ++ [e]) → w'.rangeLeft b r < w.rangeLeft b r →
      w.grownBy w' (some r) → w'.heap.size = w.heap.size → (Instr.entry (.pointer (some ⟨r, 0, none⟩))).run P w' = .ok (.tuple #[e.key, e.val]) w' → wpListIn F n P ops Q rest (a.put o.dst (.tuple #[.bool true, e.key, e.val])) w') :
    wpListIn F n P ops Q (o :: rest) a w := by
  refine wpListIn_plain hg fun K' hK' => ?_
  unfold Oper.wpIn
  refine ⟨by simp [Oper.about, hop], ?_⟩
  rw [Oper.semAt_plain F _ _ (by rw [hop]; intro c hc'; cases hc')]
  rcases h.next (P := P) hn o.type with ⟨h0, hrun⟩ | ⟨e, w', he, _, hrun, hrg, hlt, hgr, hsz, hen⟩
  · simp [execOp, hop, hit, hrun, Result.andThen]
    exact hK' _ _ (hDone h0)
  · simp [execOp, hop, hit, hrun, Result.andThen]
    exact hK' _ _ (hMore e w' he hrg hlt hgr hsz hen)
end
theorem Rgs.perm {W : World} {b r : Nat} {es : Array MapEntry} {clock : Nat} {got : List MapEntry} (h : Rgs W b r es clock got) (hn : (es.toList.map (·.born)).Nodup) (hall : ∀ e ∈ es.toList, e.born ∈ got.map (·.born)) : got.Perm es.toList := by
  have n1 : got.Nodup := (List.pairwise_map.1 h.nd).imp fun h e => h (congrArg _ e)
  have n2 : es.toList.Nodup := (List.pairwise_map.1 hn).imp fun h e => h (congrArg _ e)
  refine (List.perm_ext_iff_of_nodup n1 n2).2 fun x => ⟨h.sub x, fun hx => ?_⟩
  obtain ⟨y, hy, e⟩ := List.mem_map.1 (hall x hx)
  have : y = x := born_inj hn (h.sub y hy) hx e
  exact this ▸ hy
end Go.Proofs
end

section
namespace Go.Proofs
open Go Go.RowKit Go.Maps Go.Lib
theorem nodup_len : ∀ {l m : List Nat}, l.Nodup → (∀ x ∈ l, x ∈ m) → l.length ≤ m.length
  | [], _, _, _ => Nat.zero_le _
  | x :: l, m, h, hs => by
    obtain ⟨h1, h2⟩ := List.nodup_cons.1 h
    have hx := hs x (List.mem_cons_self ..)
    have := nodup_len (m := m.erase x) h2 fun y hy => (List.mem_erase_of_ne (fun e => h1 (by rw [← e]; exact hy))).2 (hs y (List.mem_cons_of_mem _ hy))
    rw [List.length_erase_of_mem hx] at this
    have hp := List.length_pos_of_mem hx
    simp only [List.length_cons]
    omega
def key3 (k : Int × Int × Int) : Value := .agg #[.int .i64 k.1, .int .i64 k.2.1, .int .i64 k.2.2]
set_option maxRecDepth 100000 in
set_option maxHeartbeats 1000000 in
theorem keys111 (F : Fence) (n : Nat) (h111 : F.fn 111) (hro : F.round = none) (hn : 1 ≤ n) (l Bm b : Nat) (es : Array MapEntry) (clock : Nat) (hnd : (es.toList.map (·.born)).Nodup) (hc : ∀ x ∈ es.toList, x.born < clock) (hkey : ∀ e ∈ es.toList, ∃ k, e.key = key3 k)
    (J : List MapEntry → World → Prop)
    (hY : ∀ pre x W, J pre W → x ∈ es.toList → pre.length < es.size → YieldAt F (n - 1) Tryz.prog l #[x.key] W fun e W' => e = .returned (.bool true) ∧ J (pre ++ [x]) W' ∧ KeepsWalks W W')
    (W : World) (hJ : AbidesFrom W.heap.size J) (hm : W.cell? ⟨Bm, 0, none⟩ = some (.map (some b))) (hb : W.heap[b]? = some (.map es clock)) (h0 : J [] W) :
    CallsIn F n Tryz.prog 111 #[.func (.yield l) #[] #[], .pointer (some ⟨Bm, 0, none⟩)] W fun e W' => (∃ v, e = .returned v) ∧ ∃ got : List MapEntry, got.Perm es.toList ∧ J got W' := by
  have mixed : Tryz.prog.follows Departure.mixedOrders = true := by kernel_rfl
  have u118 : Tryz.prog.underlying 118 = some (.map 79 161) := by kernel_rfl
  refine callsIn_of_wp Tryz.func111 rfl h111 ?_ hro
  simp only [Tryz.ntmps111, List.size_toArray, List.length_cons, List.length_nil, Nat.reduceAdd, Nat.reduceSub, Array.replicate_succ, Array.replicate_zero, List.push_toArray, List.append_toArray, List.nil_append, List.cons_append]
  gi_wp2_with (first
    | (gi_at_range; refine wpListIn_range_rgs _ rfl _ 118 rfl 79 _ u118 b es clock rfl hb hc ?_; intro w0 hrg0 hg0 hs0)
    | gi_in)
  go_frame
  gi_loopw [3] (fun _ wr => ∃ (got : List MapEntry), Rgs wr b W.heap.size es clock got ∧ J got wr)
    (fun _ wr => wr.rangeLeft b W.heap.size)
  case atStart =>
    exact ⟨[], hrg0, hJ [] W w0 none h0 hg0 (fun r e => by cases e)⟩
  case round =>
    obtain ⟨got, hrg, hJs⟩ := hrel
    gi_wp2_with (first
      | (gi_at_next; refine wpListIn_next_rgs _ rfl _ rfl b W.heap.size es clock got hnd rfl hrg ?_ ?_)
      | gi_in)
    · intro hall
      gi_wp2
      go_end0
      exact ⟨⟨_, rfl⟩, got, hrg.perm hnd (fun e he => by simpa using hall e (by simpa using he)), hJs⟩
    · intro e w2 he hrg2 hlt hg2 hs2 hen
      have hJ2 : J got w2 := hJ got wr w2 (some W.heap.size) hJs hg2 (fun r e => by cases e; exact ⟨Nat.le_refl _, (by obtain ⟨since, c0, h1, _⟩ := hrg.hr; exact ⟨_, h1, rfl⟩)⟩)
      have he' : e ∈ es.toList := by simpa using he
      have hlen : got.length < es.size := by
        have h1 := nodup_len (m := es.toList.map (·.born)) hrg2.nd fun x hx => by
          obtain ⟨y, hy, rfl⟩ := List.mem_map.1 hx
          exact List.mem_map_of_mem (hrg2.sub y hy)
        simp at h1; omega
      obtain ⟨⟨k0, k1, k2⟩, hk⟩ := hkey e he'
      have hk : e.key = .agg #[.int .i64 k0, .int .i64 k1, .int .i64 k2] := hk
      obtain ⟨w3, hw3⟩ : ∃ w3, w3 = w2.alloc (.cells #[.int .i64 k0, .int .i64 k1, .int .i64 k2] 79) := ⟨_, rfl⟩
      have hJ3 : J got w3 := hJ got w2 w3 none hJ2 (by rw [hw3]; exact World.grownBy_alloc w2 _ none) (fun r e => by cases e)
      have hrg3 : Rgs w3 b W.heap.size es clock (got ++ [e]) := hrg2.of_walks (by rw [hw3]; exact KeepsWalks.alloc _ _)
      obtain ⟨fn, tmps, assign, body, hy, hR⟩ := hY got e w3 hJ3 he' hlen
      rw [hk] at hen hy
      rw [hk]
      subst hw3
      clear hs2
      gi_wp2
      refine hR.mono ?_
      rintro en W3 ⟨rfl, hJ4, hk3⟩
      gi_wp2
      have hrg4 := hrg3.of_walks hk3
      go_roundw
      case rel => exact ⟨got ++ [e], hrg4, hJ4⟩
      case measure => rw [hrg4.left_eq, ← hrg2.left_eq]; exact hlt
end Go.Proofs
end

section
namespace Go.Proofs
open Go Go.RowKit Go.Maps Go.Lib
set_option maxHeartbeats 1000000 in
theorem keys92 (F : Fence) (n : Nat) (h92 : F.fn 92) (hro : F.round = none) (mb : Option Nat) (w : World) :
    CallsIn F n Tryz.prog 92 #[.map mb] w fun e w' => e = .returned (.func (.func 111) #[] #[.pointer (some ⟨w.heap.size, 0, none⟩)]) ∧ w' = w.alloc (.cells #[.map mb] 118) := by
  have mixed : Tryz.prog.follows Departure.mixedOrders = true := by kernel_rfl
  refine callsIn_of_wp Tryz.func92 rfl h92 ?_ hro
  simp only [Tryz.ntmps92, List.size_toArray, List.length_cons, List.length_nil, Nat.reduceAdd, Nat.reduceSub, Array.replicate_succ, Array.replicate_zero, List.push_toArray, List.append_toArray, List.nil_append, List.cons_append]
  gi_wp2
  go_ret
  exact ⟨rfl, rfl⟩
theorem keys_gives (F : Fence) (n : Nat) (h111 : F.fn 111) (hro : F.round = none) (hn : 1 ≤ n) (Bm b : Nat) (es : Array MapEntry) (clock : Nat) (hnd : (es.toList.map (·.born)).Nodup) (hc : ∀ x ∈ es.toList, x.born < clock) (kf : MapEntry → Int × Int × Int) (hkey : ∀ e ∈ es.toList, e.key = key3 (kf e))
    (w : World) (hBm : Bm < w.heap.size) (hm : w.cell? ⟨Bm, 0, none⟩ = some (.map (some b))) (hb : w.heap[b]? = some (.map es clock)) :
    SeqGives F n Tryz.prog 111 #[.pointer (some ⟨Bm, 0, none⟩)] key3 (fun ks => ks.Perm (es.toList.map kf)) es.size w := fun l J W hW hJ hY h0 => by
  have hbl : b < w.heap.size := (Array.getElem?_eq_some_iff.1 hb).1
  have h := keys111 F n h111 hro hn l Bm b es clock hnd hc (fun e he => ⟨kf e, hkey e he⟩) (fun got W => J (got.map kf) W) (fun pre x W1 hJ1 hx hl => by
      have := hY (pre.map kf) (kf x) W1 hJ1 (by simpa using hl)
      rw [hkey x hx, List.map_append]
      exact this) W (fun s W W' row h1 h2 h3 => hJ _ W W' row h1 h2 h3) ((hW.cell (p := ⟨Bm, 0, none⟩) hBm).trans hm) ((hW.block b hbl).trans hb) h0
  refine h.mono ?_
  rintro e W' ⟨h1, got, h2, h3⟩
  exact ⟨h1, got.map kf, h2.map kf, h3⟩
end Go.Proofs
end

section
namespace Go.Proofs
open Go Go.RowKit Go.Maps Go.Sort Go.Lib
def cel3 (k : Int × Int × Int) : List Value := [.int .i64 k.1, .int .i64 k.2.1, .int .i64 k.2.2]
theorem info79 : ∃ i, Tryz.prog.info? 79 = some i ∧ i.zero = some (.agg #[.int .i64 0, .int .i64 0, .int .i64 0]) ∧ i.size = 3 ∧ i.bytes = 24 := by
  have h : (Tryz.prog.info? 79).map (fun i => (i.zero, i.size, i.bytes)) = some (some (.agg #[.int .i64 0, .int .i64 0, .int .i64 0]), 3, 24) := by kernel_rfl
  cases hq : Tryz.prog.info? 79 with
  | none => rw [hq] at h; cases h
  | some i =>
    rw [hq] at h
    simp only [Option.map_some, Option.some.injEq, Prod.mk.injEq] at h
    exact ⟨i, rfl, h.1, h.2.1, h.2.2⟩
def Cac.apAssign : Code := (Code.region 2
              #[{ dst := some 5, op := Op.alloc 79, type := 0, pos := "iter.go:51", after := #[], guard := none },
                { dst := none, op := Op.store 79 (Operand.tmp 5) (Operand.tmp 7), type := 0, pos := "iter.go:51",
                  after := #[{ on := 0, ground := Ground.data }, { on := 0, ground := Ground.phase }], guard := none }]
              false)
def Cac.apBody : Code := (Code.block 1
              (Code.region 3
                #[{ dst := some 8, op := Op.load 139 (Operand.tmp 2), type := 139, pos := "iter.go:52", after := #[],
                    guard := none },
                  { dst := some 9, op := Op.load 79 (Operand.tmp 5), type := 79, pos := "iter.go:52", after := #[],
                    guard := none },
                  { dst := some 10, op := Op.buildSlice 139 1 #[(0, Operand.tmp 9)], type := 139, pos := "iter.go:52",
                    after := #[{ on := 1, ground := Ground.data }], guard := none },
                  { dst := some 11,
                    op :=
                      Op.call
                        { callee := Callee.builtin Builtin.append, args := #[Operand.tmp 8, Operand.tmp 10],
                          argTypes := #[139, 139] },
                    type := 139, pos := "iter.go:52",
                    after := #[{ on := 0, ground := Ground.data }, { on := 2, ground := Ground.data }], guard := none },
                  { dst := none, op := Op.store 139 (Operand.tmp 2) (Operand.tmp 11), type := 0, pos := "iter.go:52",
                    after :=
                      #[{ on := 3, ground := Ground.data }, { on := 3, ground := Ground.chain },
                        { on := 0, ground := Ground.phase }, { on := 1, ground := Ground.phase },
                        { on := 2, ground := Ground.phase }, { on := 3, ground := Ground.phase }],
                    guard := none }]
                false))
def Cac.apRec (fn : FuncId) (sv : Value) (Bs D : Nat) (st : LoopState) (pend : Option Code) : Loop :=
  { state := st, pending := pend, fn, tmps := #[.slice none 0 0, sv, .pointer (some ⟨Bs, 0, none⟩), undef, .slice none 0 0, undef, sv, undef, undef, undef, undef, undef, undef], params := #[7], assign := Cac.apAssign, body := Cac.apBody, defers := D }
structure Cac.ApAt (w0 : World) (fn : FuncId) (sv : Value) (Bs l D : Nat) (ss : List (Int × Int × Int)) (W : World) : Prop where
  box : ∃ v, W.heap[Bs]? = some (.cells #[v] 139 (0, 0)) ∧ W.ownsRow w0.heap.size 79 3 v ss.length (ss.flatMap cel3) ∧ (v = .slice none 0 0 ↔ ss = [])
  L : W.heap[l]? = some (.loop (Cac.apRec fn sv Bs D .ready none))
  K : W.heap[D]? = some (.deferred (some []))
  below : Below w0.heap.size w0 W
theorem Cac.ap_abides (w0 : World) (fn : FuncId) (sv : Value) (Bs l D B : Nat) (hB : w0.heap.size ≤ B) : AbidesFrom B (Cac.ApAt w0 fn sv Bs l D) := fun s W W' row h hg hrow => by
  have hrow' : ∀ r, row = some r → ∃ o : Obj, W.heap[r]? = some o ∧ o.isWalk = true := fun r e => (hrow r e).2
  obtain ⟨v, hv, hr, hn⟩ := h.box
  exact ⟨⟨v, (grownBy_keeps hg hrow' hv rfl).trans hv, ownsRow_abides_a hr hg hrow', hn⟩, (grownBy_keeps hg hrow' h.L rfl).trans h.L, (grownBy_keeps hg hrow' h.K rfl).trans h.K,
    h.below.grown hg h.below.size (fun k e => Nat.le_trans hB (hrow k e).1)⟩
set_option maxRecDepth 100000 in
set_option maxHeartbeats 2000000 in
theorem Cac.apYield (F : Fence) (m : Nat) (w0 : World) (fn : FuncId) (hfn : F.fn fn) (sv : Value) (Bs l D : Nat) (hBl : Bs ≠ l) (hDl : D ≠ l) (hDB : D ≠ Bs) (h0B : w0.heap.size ≤ Bs) (h0l : w0.heap.size ≤ l)
    (N : Nat) (hN : N ≤ maxLen) (hNb : N * 24 ≤ 140737488355328) (ss : List (Int × Int × Int)) (x : Int × Int × Int) (W : World) (h : Cac.ApAt w0 fn sv Bs l D ss W) (hlen : ss.length < N) :
    YieldAt F m Tryz.prog l #[key3 x] W fun e W' => e = .returned (.bool true) ∧ Cac.ApAt w0 fn sv Bs l D (ss ++ [x]) W' ∧ KeepsWalks W W'   := by
  obtain ⟨k0, k1, k2⟩ := x
  change YieldAt F m Tryz.prog l #[.agg #[.int .i64 k0, .int .i64 k1, .int .i64 k2]] W _
  have mixed : Tryz.prog.follows Departure.mixedOrders = true := by kernel_rfl
  have hne : (139 : TypeId) ≠ 79 := by decide
  have t139 : Tryz.prog.underlying 139 = some (.slice 79) := by kernel_rfl
  obtain ⟨i0, hi, hz0, hz1, hz2⟩ := info79
  obtain ⟨v, hv, hrow, _⟩ := h.box
  refine ⟨fn, #[.slice none 0 0, sv, .pointer (some ⟨Bs, 0, none⟩), undef, .slice none 0 0, undef, sv, (.agg #[.int .i64 k0, .int .i64 k1, .int .i64 k2]), undef, undef, undef, undef, undef], Cac.apAssign, Cac.apBody, by simpa [Cac.apRec] using run_yield (P := Tryz.prog) (args := #[(.agg #[.int .i64 k0, .int .i64 k1, .int .i64 k2])]) h.L rfl, roundIn_of_wpIn hfn ?_⟩
  obtain ⟨WA, hWA⟩ : ∃ WA, W.alloc (.cells #[.int .i64 k0, .int .i64 k1, .int .i64 k2] 79) = WA := ⟨_, rfl⟩
  have hkA : KeepsWalks W WA := by rw [← hWA]; exact KeepsWalks.alloc _ _
  have hA : Cac.ApAt w0 fn sv Bs l D ss WA := Cac.ap_abides w0 fn sv Bs l D w0.heap.size (Nat.le_refl _) ss W WA none h (by rw [← hWA]; exact World.grownBy_alloc W _ none) (fun r e => by cases e)
  have hkc : ∀ j u, [Value.int .i64 k0, .int .i64 k1, .int .i64 k2][j]? = some u → WA.cell? ⟨W.heap.size, j, none⟩ = some u := fun j u hj => by
    rw [← hWA, World.cell?_alloc_at (w := W) _ _ W.heap.size j rfl]; simpa using hj
  have hlW : l ≠ W.heap.size := by
    have := (Array.getElem?_eq_some_iff.1 h.L).1
    omega
  clear h hv hrow
  have h := hA
  obtain ⟨v, hv, hrow, _⟩ := h.box
  have hl : l < WA.heap.size := (Array.getElem?_eq_some_iff.1 h.L).1
  have hbr := run_beginRound (P := Tryz.prog) h.L rfl
  obtain ⟨W2, hW2⟩ : ∃ W2, WA.putObj l (.loop { Cac.apRec fn sv Bs D .ready none with state := .busy }) = W2 := ⟨_, rfl⟩
  rw [hW2] at hbr
  have hg2 : WA.grownBy W2 (some l) := by rw [← hW2]; exact grownBy_putObj_a _ _ _
  have hk2 : KeepsWalks WA W2 := by rw [← hW2]; exact KeepsWalks.putObj _ h.L rfl
  have hv2 : W2.heap[Bs]? = some (.cells #[v] 139 (0, 0)) := by rw [← hW2]; exact (World.putObj_heap_other hBl).trans hv
  have hK2 : W2.heap[D]? = some (.deferred (some [])) := by rw [← hW2]; exact (World.putObj_heap_other hDl).trans h.K
  have hL2 : W2.heap[l]? = some (.loop { Cac.apRec fn sv Bs D .ready none with state := .busy }) := by rw [← hW2]; exact World.putObj_heap_same hl
  have hrow2 : W2.ownsRow w0.heap.size 79 3 v ss.length (ss.flatMap cel3) := hrow.kept hg2 (ownsRow_ne_a hrow h.L (fun cur e => by first | cases e | exact hne (Obj.cells.inj e).2.1))
  have hb2 : Below w0.heap.size w0 W2 := h.below.grown hg2 h.below.size (fun k e => by cases e; exact h0l)
  obtain ⟨hc2, hf2⟩ := cell_of_box_a hv2
  have hBlt : Bs < W2.heap.size := (Array.getElem?_eq_some_iff.1 hv2).1
  have hl2 : l < W2.heap.size := (Array.getElem?_eq_some_iff.1 hL2).1
  have hDlt : D < W2.heap.size := (Array.getElem?_eq_some_iff.1 hK2).1
  have ne_of : ∀ {j : Nat} {o : Obj}, W2.heap[j]? = some o → (∀ cur, o ≠ .cells cur 79 (0, 0)) → some j ≠ v.ownBlock := fun hj hno => by
    rcases ownsRow_ne_a hrow2 hj hno with e | e
    · rw [e]; simp
    · exact fun e' => e e'.symm
  have hkc2 : ∀ j u, [Value.int .i64 k0, .int .i64 k1, .int .i64 k2][j]? = some u → W2.cell? ⟨W.heap.size, j, none⟩ = some u := fun j u hj => by
    have h1 := hkc j u hj
    have e : W2.heap[W.heap.size]? = WA.heap[W.heap.size]? := by rw [← hW2]; exact World.putObj_heap_other (fun e => hlW e.symm)
    unfold World.cell? at h1 ⊢
    rw [e]; exact h1
  have hk0 := hkc2 0 _ rfl
  have hk1 := hkc2 1 _ rfl
  have hk2c := hkc2 2 _ rfl
  clear hW2
  unfold Cac.apAssign
  gi_wp2_with gi_round_op_a
  clear hWA
  unfold Cac.apBody
  gi_wp2_with (first
    | (gi_at_builtin; refine wpListIn_append_own _ rfl _ _ 139 rfl w0.heap.size 79 i0 (.agg #[.int .i64 0, .int .i64 0, .int .i64 0]) 3 24 t139 hi hz0 hz1 hz2 rfl (by decide) _ _ _ rfl (hrow2.alloc _) ⟨W2.heap.size, 0, none⟩ 1 1 [.int .i64 k0, .int .i64 k1, .int .i64 k2] rfl rfl (fun j u hj => by rw [Addr.add_lit, Nat.zero_add, World.cell?_alloc_at (w := W2) _ _ W2.heap.size j rfl]; simpa using hj) (by intro u hu; simp at hu; rcases hu with rfl | rfl | rfl <;> rfl) (by omega) (by omega) (by have := hb2.size; simp; omega) ?_; intro v' w3 hown' hg3 hnil3
       have hv3 : w3.heap[Bs]? = some (.cells #[v] 139 (0, 0)) := (hg3.block Bs (by simp; omega) (ne_of hv2 (fun cur e => by first | cases e | exact hne (Obj.cells.inj e).2.1))).trans ((Below.heap_alloc _ _ Bs hBlt).trans hv2)
       obtain ⟨hc3, hf3⟩ := cell_of_box_a hv3
       obtain ⟨g', cap', cur', rfl, hbase', hgb', hr1, hr2, hr3, hr4⟩ : ∃ g' cap' cur', v' = .slice (some ⟨g', 0, none⟩) (ss.length + 1) cap' ∧ w0.heap.size ≤ g' ∧ w3.heap[g']? = some (.cells cur' 79 (0, 0)) ∧ ss.length + 1 ≤ cap' ∧ cap' ≤ maxLen ∧ cur'.size = cap' * 3 ∧ cur'.toList.take ((ss.length + 1) * 3) = ss.flatMap cel3 ++ [.int .i64 k0, .int .i64 k1, .int .i64 k2] := by
         rcases hown'.2 with ⟨_, h0⟩ | h'
         · exact absurd h0 (by omega)
         · exact h'
       go_frame)
    | gi_round_op_a)
  have hg3' : (W2.alloc (.cells #[.int .i64 k0, .int .i64 k1, .int .i64 k2] 79)).grownBy w3 v.ownBlock := hg3
  have hL3 : w3.heap[l]? = some (.loop { Cac.apRec fn sv Bs D .ready none with state := .busy }) := (hg3'.block l (by simp; omega) (ne_of hL2 (fun cur e => by first | cases e | exact hne (Obj.cells.inj e).2.1))).trans ((Below.heap_alloc _ _ l hl2).trans hL2)
  have hK3 : w3.heap[D]? = some (.deferred (some [])) := (hg3'.block D (by simp; omega) (ne_of hK2 (fun cur e => by first | cases e | exact hne (Obj.cells.inj e).2.1))).trans ((Below.heap_alloc _ _ D hDlt).trans hK2)
  obtain ⟨w4, hw4⟩ : ∃ w4, w3.setCell ⟨Bs, 0, none⟩ (.slice (some ⟨g', 0, none⟩) (ss.length + 1) cap') = w4 := ⟨_, rfl⟩
  rw [hw4]
  have hg4 : w3.grownBy w4 (some Bs) := by rw [← hw4]; exact grownBy_setCell0_a _ _ _
  have hv4 : w4.heap[Bs]? = some (.cells #[.slice (some ⟨g', 0, none⟩) (ss.length + 1) cap'] 139 (0, 0)) := by rw [← hw4]; exact heap_setCell_box_a _ hv3
  have hL4 : w4.heap[l]? = some (.loop { Cac.apRec fn sv Bs D .ready none with state := .busy }) := (hg4.block l (Array.getElem?_eq_some_iff.1 hL3).1 (fun e => hBl (by cases e; rfl))).trans hL3
  have hK4 : w4.heap[D]? = some (.deferred (some [])) := (hg4.block D (Array.getElem?_eq_some_iff.1 hK3).1 (fun e => hDB (by cases e; rfl))).trans hK3
  have hrow4 := hown'.kept hg4 (ownsRow_ne_a hown' hv3 (fun cur e => by first | cases e | exact hne (Obj.cells.inj e).2.1))
  have hl4 : l < w4.heap.size := (Array.getElem?_eq_some_iff.1 hL4).1
  have hb3 : Below w0.heap.size w0 w3 := (hb2.alloc hb2.size _).grown hg3' (by have := hb2.size; simp; omega) (fun k e => (hrow2.lt k e).1)
  have hb4 : Below w0.heap.size w0 w4 := hb3.grown hg4 hb3.size (fun k e => by cases e; exact h0B)
  have hk4 : KeepsWalks WA w4 := ((hk2.trans (KeepsWalks.alloc _ _)).trans (KeepsWalks.of_grownBy hg3' (ownsRow_not_walk_a (hrow2.alloc _)))).trans (by rw [← hw4]; exact KeepsWalks.setCell _ _ _)
  clear hw4
  refine ⟨_, _, run_endRound none hL4, rfl, ⟨⟨_, (World.putObj_heap_other hBl).trans hv4, ?_, by simp⟩, World.putObj_heap_same hl4, (World.putObj_heap_other hDl).trans hK4, hb4.grown (grownBy_putObj_a _ _ _) hb4.size (fun k e => by cases e; exact h0l)⟩, hkA.trans (hk4.trans (KeepsWalks.putObj _ hL4 rfl))⟩
  have := hrow4.kept (grownBy_putObj_a w4 l (.loop { { Cac.apRec fn sv Bs D .ready none with state := .busy } with state := if (none : Option Code).isNone then .ready else .done, pending := none })) (ownsRow_ne_a hrow4 hL4 (fun cur e => by first | cases e | exact hne (Obj.cells.inj e).2.1))
  rw [List.flatMap_append, List.length_append]
  exact this
set_option maxRecDepth 100000 in
set_option maxHeartbeats 2000000 in
theorem Cac.appendSeq_in (F : Fence) (n : Nat) (h11 : F.fn 120) (hro : F.round = none) (hn : 2 ≤ n) (g : Nat) (lb : Array Value) (hFg : F.fn g) (eg : ∀ args w, (callFunc g args).run Tryz.prog w = .ok (.enter g args) w)
    (S : List (Int × Int × Int) → Prop) (N : Nat) (hN : N ≤ maxLen) (hNb : N * 24 ≤ 140737488355328) (w : World) (hseq : SeqGives F (n - 1) Tryz.prog g lb key3 S N w) :
    CallsIn F n Tryz.prog 120 #[.slice none 0 0, .func (.func g) #[] lb] w fun e w' => ∃ (v : Value) (ss : List (Int × Int × Int)), e = .returned v ∧ S ss ∧ w'.ownsRow w.heap.size 79 3 v ss.length (ss.flatMap cel3) ∧ (v = .slice none 0 0 ↔ ss = []) ∧ Below w.heap.size w w' := by
  have h1 : 1 ≤ n := by omega
  have mixed : Tryz.prog.follows Departure.mixedOrders = true := by kernel_rfl
  have hne : (139 : TypeId) ≠ 79 := by decide
  have t139 : Tryz.prog.underlying 139 = some (.slice 79) := by kernel_rfl
  refine callsIn_of_wp_marks Tryz.func120 rfl h11 ?_ hro
  simp only [Tryz.ntmps120, List.size_toArray, List.length_cons, List.length_nil, Nat.reduceAdd, Nat.reduceSub, Array.replicate_succ, Array.replicate_zero, List.push_toArray, List.append_toArray, List.nil_append, List.cons_append]
  gi_wp2
  refine wpIn_rangeFunc ?_
  intro fn hfn
  rw [hro]
  obtain ⟨W0, hW0⟩ : ∃ W0, w.alloc (.cells #[.slice none 0 0] 139) = W0 := ⟨_, rfl⟩
  have hs0 : W0.heap.size = w.heap.size + 1 := by rw [← hW0]; simp
  have hv0 : W0.heap[w.heap.size]? = some (.cells #[.slice none 0 0] 139 (0, 0)) := by rw [← hW0]; exact World.alloc_heap_new w _
  have hb0 : Below w.heap.size w W0 := by rw [← hW0]; exact (Below.refl _ w).alloc (Nat.le_refl _) _
  rw [hW0]
  obtain ⟨W1, hW1⟩ : ∃ W1, (W0.alloc (.deferred (some []))).alloc (.loop (Cac.apRec fn (.func (.func g) #[] lb) w.heap.size W0.heap.size .ready none)) = W1 := ⟨_, rfl⟩
  have hold : ∀ k, k < W0.heap.size → W1.heap[k]? = W0.heap[k]? := fun k hk => by
    rw [← hW1]; exact (Below.heap_alloc _ _ k (by simp; omega)).trans (Below.heap_alloc _ _ k hk)
  have hb1 : Below w.heap.size w W1 := by rw [← hW1]; exact (hb0.alloc hb0.size _).alloc (by have := hb0.size; simp; omega) _
  have hs1 : W1.heap.size = W0.heap.size + 2 := by rw [← hW1]; simp
  have hM : Cac.ApAt w fn (.func (.func g) #[] lb) w.heap.size (W0.heap.size + 1) W0.heap.size [] W1 :=
    ⟨⟨_, (hold w.heap.size (by omega)).trans hv0, ⟨rfl, .inl ⟨rfl, rfl⟩⟩, by simp⟩,
     by rw [← hW1]; have := World.alloc_heap_new (W0.alloc (.deferred (some []))) (.loop (Cac.apRec fn (.func (.func g) #[] lb) w.heap.size W0.heap.size .ready none)); rwa [World.size_alloc] at this,
     by rw [← hW1]; exact (Below.heap_alloc _ _ _ (by simp)).trans (World.alloc_heap_new W0 _), hb1⟩
  refine ⟨W0.heap.size + 1, [{ target := .collected W0.heap.size, args := #[] }], W1, { target := .fn (.func g) lb, args := #[.func (.yield (W0.heap.size + 1)) #[] #[]] }, W1, g,
    #[.func (.yield (W0.heap.size + 1)) #[] #[]] ++ lb, W1, ?_, ?_, ?_, ?_, fun _ => h1, ?_⟩
  · rw [← hW1]; exact run_enterLoop_outer _ _ _ _ _
  · simp [resolve, go_sem]
  · intro f' hf'; simp [Target.leads] at hf'; subst hf'; exact hFg
  · simp [invoke, go_sem, eg]
  · refine (hseq (W0.heap.size + 1) (Cac.ApAt w fn (.func (.func g) #[] lb) w.heap.size (W0.heap.size + 1) W0.heap.size) W1 hb1 (Cac.ap_abides _ _ _ _ _ _ _ hb1.size)
      (fun pre x W hJ hl => Cac.apYield F (n - 1 - 1) w fn hfn _ w.heap.size (W0.heap.size + 1) W0.heap.size (by omega) (by omega) (by omega) (Nat.le_refl _) (by omega) N hN hNb pre x W hJ hl) hM).mono ?_
    rintro e W2 ⟨⟨v0, rfl⟩, ss, hS, h2⟩
    obtain ⟨v, hv, hrow, hnil⟩ := h2.box
    have hend := run_endLoop (P := Tryz.prog) h2.L (by simp [Cac.apRec])
    obtain ⟨W3, hW3⟩ : ∃ W3, W2.putObj (W0.heap.size + 1) (.loop { Cac.apRec fn (.func (.func g) #[] lb) w.heap.size W0.heap.size .ready none with state := .exhausted }) = W3 := ⟨_, rfl⟩
    rw [hW3] at hend
    have hg3 : W2.grownBy W3 (some (W0.heap.size + 1)) := by rw [← hW3]; exact grownBy_putObj_a _ _ _
    have hv3 : W3.heap[w.heap.size]? = some (.cells #[v] 139 (0, 0)) := by rw [← hW3]; exact (World.putObj_heap_other (by omega)).trans hv
    have hK3 : W3.heap[W0.heap.size]? = some (.deferred (some [])) := by rw [← hW3]; exact (World.putObj_heap_other (by omega)).trans h2.K
    have hrow3 := hrow.kept hg3 (ownsRow_ne_a hrow h2.L (fun cur e => by first | cases e | exact hne (Obj.cells.inj e).2.1))
    have hb3 : Below w.heap.size w W3 := h2.below.grown hg3 h2.below.size (fun k e => by cases e; omega)
    obtain ⟨hc3, hf3⟩ := cell_of_box_a hv3
    clear hW3
    refine ⟨none, W3, hend, ?_⟩
    gi_wp2
    rw [← hs0]
    refine ⟨by simp, .inl ⟨_, _, rfl, run_takeDeferred hK3, ?_⟩⟩
    exact ⟨_, results_tmp rfl _ _ _, v, ss, rfl, hS, hrow3.kept (grownBy_putObj_a _ _ _) (ownsRow_ne_a hrow3 hK3 (fun cur e => by first | cases e | exact hne (Obj.cells.inj e).2.1)), hnil, hb3.grown (grownBy_putObj_a _ _ _) hb3.size (fun k e => by cases e; omega)⟩
end Go.Proofs
end

section
namespace Go.Proofs
open Go Go.RowKit Go.Maps Go.Sort Go.Lib
set_option maxHeartbeats 1000000 in
theorem Cac.collect_in (F : Fence) (n : Nat) (h109 : F.fn 109) (h120 : F.fn 120) (hro : F.round = none) (hn : 3 ≤ n) (g : Nat) (lb : Array Value) (hFg : F.fn g) (eg : ∀ args w, (callFunc g args).run Tryz.prog w = .ok (.enter g args) w)
    (S : List (Int × Int × Int) → Prop) (N : Nat) (hN : N ≤ maxLen) (hNb : N * 24 ≤ 140737488355328) (w : World) (hseq : SeqGives F (n - 1 - 1) Tryz.prog g lb key3 S N w) :
    CallsIn F n Tryz.prog 109 #[.func (.func g) #[] lb] w fun e w' => ∃ (v : Value) (ss : List (Int × Int × Int)), e = .returned v ∧ S ss ∧ w'.ownsRow w.heap.size 79 3 v ss.length (ss.flatMap cel3) ∧ (v = .slice none 0 0 ↔ ss = []) ∧ Below w.heap.size w w' := by
  have h1 : 1 ≤ n := by omega
  have e120 : ∀ args w, (callFunc 120 args).run Tryz.prog w = .ok (.enter 120 args) w := enters_of Tryz.func120 (by kernel_rfl) rfl
  have mixed : Tryz.prog.follows Departure.mixedOrders = true := by kernel_rfl
  refine callsIn_of_wp Tryz.func109 rfl h109 ?_ hro
  simp only [Tryz.ntmps109, List.size_toArray, List.length_cons, List.length_nil, Nat.reduceAdd, Nat.reduceSub, Array.replicate_succ, Array.replicate_zero, List.push_toArray, List.append_toArray, List.nil_append, List.cons_append]
  gi_wp2_with (gi_at_fn 120; refine (Cac.appendSeq_in F (n - 1) h120 hro (by omega) g lb hFg eg S N hN hNb _ hseq).mono ?_; rintro e w' ⟨v, ss, rfl, hS, hrow, hnil, hb⟩)
  go_ret
  exact ⟨v, ss, rfl, hS, hrow, hnil, hb⟩
end Go.Proofs
end
