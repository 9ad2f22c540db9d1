/- CmpT, SrvT, SrvU, SrvV, SrvW, SrvX, SrvY -/
import Derived.Test.YtpfffbhhommecaaGreatDoorE
import Derived.Test.YtpfffbhhommecaaGreatDoorF
set_option linter.all false

section
namespace RopeF
open Go Go.Abs Go.Proofs Srv
abbrev TB := UInt8 × Int
def traceS (src : List UInt8) : List TB := src.mapIdx fun i b => (b, (i : Int))
def applyT (bs : List TB) : Nat → List Ed → List TB
  | o, [] => bs.drop o
  | o, x :: xs => (bs.take x.a.toNat).drop o ++ x.t.map (fun b => (b, -1)) ++ applyT bs x.b.toNat xs
theorem applyT_fst (bs : List TB) : ∀ (xs : List Ed) (o : Nat), (applyT bs o xs).map (·.1) = applyS (bs.map (·.1)) o xs
  | [], o => by simp [applyT, applyS, List.map_drop]
  | x :: xs, o => by
    simp only [applyT, applyS, List.map_append, applyT_fst bs xs, List.map_drop, List.map_take, List.map_map]
    congr 2
    have : ((fun x : TB => x.1) ∘ fun b : UInt8 => ((b, -1) : TB)) = id := rfl
    rw [this, List.map_id]
def kept (l : List TB) : List TB := l.filter fun x => x.2 != -1
theorem kept_ins (t : List UInt8) : kept (t.map (fun b => (b, -1))) = [] := by
  simp [kept]
theorem applyT_sub (bs : List TB) {len : Nat} : ∀ (xs : List Ed) (o : Nat) (p n : Int), valid len p n xs = 0 → (o : Int) ≤ p + 1 → List.Sublist (kept (applyT bs o xs)) (kept (bs.drop o))
  | [], o, p, n, _, _ => by rw [applyT]; exact List.Sublist.refl _
  | x :: xs, o, p, n, h, ho => by
    obtain ⟨k1, k2, k3, k4⟩ := valid_cons h
    have ih := applyT_sub bs xs x.b.toNat x.b _ k4 (by omega)
    rw [applyT]
    have e : kept ((bs.take x.a.toNat).drop o ++ x.t.map (fun b => (b, -1)) ++ applyT bs x.b.toNat xs) = kept ((bs.take x.a.toNat).drop o) ++ kept (applyT bs x.b.toNat xs) := by
      simp only [kept, List.filter_append]
      have := kept_ins x.t
      unfold kept at this
      rw [this, List.append_nil]
    rw [e]
    refine (List.Sublist.append (List.Sublist.refl _) ih).trans ?_
    have e2 : bs.drop o = (bs.take x.a.toNat).drop o ++ bs.drop x.a.toNat := by
      rw [List.drop_take]
      conv => lhs; rw [← List.take_append_drop (x.a.toNat - o) (bs.drop o)]
      rw [List.drop_drop, show o + (x.a.toNat - o) = x.a.toNat by omega]
    rw [e2]
    simp only [kept, List.filter_append]
    refine List.Sublist.append (List.Sublist.refl _) (List.Sublist.filter _ ?_)
    rw [show x.b.toNat = x.a.toNat + (x.b.toNat - x.a.toNat) by omega, ← List.drop_drop]
    exact List.drop_sublist _ _
theorem applyT_len (bs : List TB) {len : Nat} (hl : bs.length = len) : ∀ (xs : List Ed) (o : Nat) (p n : Int), valid len p n xs = 0 → (o : Int) ≤ p + 1 → o ≤ len → ((applyT bs o xs).length : Int) + (n - (len - o)) ≤ 2000
  | [], o, p, n, h, _, ho => by
    unfold valid at h
    split at h
    · cases h
    · rw [applyT, List.length_drop]; omega
  | x :: xs, o, p, n, h, ho, ho2 => by
    obtain ⟨k1, k2, k3, k4⟩ := valid_cons h
    have ih := applyT_len bs hl xs x.b.toNat x.b _ k4 (by omega) (by omega)
    rw [applyT]
    simp only [List.length_append, List.length_drop, List.length_take, List.length_map]
    omega
def flushS (st en : Int) (p : List UInt8) : List Ed := if st < en ∨ 0 < p.length then [⟨st, en, p⟩] else []
def canonS (len : Int) : Int → List UInt8 → List TB → List Ed
  | st, p, [] => flushS st len p
  | st, p, x :: r => if x.2 = -1 then canonS len st (p ++ [x.1]) r else flushS st x.2 p ++ canonS len (x.2 + 1) [] r
theorem sub_cons {L : List TB} {x : TB} {r : List TB} {lo : Nat} (h : List.Sublist (x :: r) (L.drop lo)) : ∃ k, lo ≤ k ∧ L[k]? = some x ∧ List.Sublist r (L.drop (k + 1)) := by
  obtain ⟨r1, r2, e, hx, hr⟩ := List.cons_sublist_iff.1 h
  obtain ⟨i, hi, e2⟩ := List.getElem_of_mem hx
  refine ⟨lo + i, by omega, ?_, ?_⟩
  · rw [← List.getElem?_drop, e, List.getElem?_append_left hi, List.getElem?_eq_getElem hi, e2]
  · rw [show lo + i + 1 = lo + (i + 1) by omega, ← List.drop_drop, e, List.drop_append]
    exact hr.trans (List.sublist_append_of_sublist_right (by rw [show i + 1 - r1.length = 0 by omega, List.drop_zero]; exact List.Sublist.refl _))
theorem trace_at {src : List UInt8} {k : Nat} {x : TB} (h : (traceS src)[k]? = some x) : x.2 = k ∧ src[k]? = some x.1 := by
  unfold traceS at h
  rw [List.getElem?_mapIdx, Option.map_eq_some_iff] at h
  obtain ⟨b, h1, rfl⟩ := h
  exact ⟨rfl, h1⟩
def From (o : Nat) (xs : List Ed) : Prop := ∀ x ∈ xs, (o : Int) ≤ x.a
theorem apply_step {src : List UInt8} {o : Nat} {b : UInt8} (hb : src[o]? = some b) : ∀ {xs : List Ed}, From (o + 1) xs → applyS src o xs = b :: applyS src (o + 1) xs
  | [], _ => by rw [applyS, applyS, List.drop_eq_getElem?_toList_append, hb]; rfl
  | x :: xs, h => by
    have := h x (List.mem_cons_self ..)
    rw [applyS, applyS]
    have e : (src.take x.a.toNat).drop o = b :: (src.take x.a.toNat).drop (o + 1) := by
      rw [List.drop_eq_getElem?_toList_append, List.getElem?_take_of_lt (by omega), hb]; rfl
    rw [e]; rfl
theorem canon_ok (src : List UInt8) : ∀ (tb : List TB) (st : Nat) (p : List UInt8), List.Sublist (kept tb) ((traceS src).drop st) → st ≤ src.length →
    From st (canonS src.length st p tb) ∧ applyS src st (canonS src.length st p tb) = p ++ tb.map (·.1) ∧
    (∀ pe n : Int, pe < st → n - (src.length - st) + p.length + tb.length ≤ 2000 → valid src.length pe n (canonS src.length st p tb) = 0) ∧ ∀ x ∈ canonS src.length st p tb, x.t.length ≤ p.length + tb.length
  | [], st, p, _, hst => by
    rw [canonS, flushS]
    by_cases c : (st : Int) < src.length ∨ 0 < p.length
    · rw [if_pos c]
      refine ⟨fun x hx => ?_, ?_, fun pe n h1 h2 => ?_, fun x hx => ?_⟩
      · rw [List.mem_singleton] at hx; subst hx; exact Int.le_refl _
      · simp [applyS]
      · unfold valid
        rw [if_neg (by simp only; omega)]
        unfold valid
        rw [if_neg (by simp only [List.length_nil] at h2 ⊢; omega)]
      · rw [List.mem_singleton] at hx; subst hx; exact Nat.le_add_right _ _
    · rw [if_neg c]
      have hp : p = [] := List.length_eq_zero_iff.1 (by omega)
      subst hp
      refine ⟨nofun, ?_, fun pe n h1 h2 => ?_, nofun⟩
      · rw [applyS, List.drop_of_length_le (by omega)]; rfl
      · unfold valid
        rw [if_neg (by simp only [List.length_nil] at h2 ⊢; omega)]
  | (b, o) :: r, st, p, h, hst => by
    rw [canonS]
    by_cases c0 : o = -1
    · subst c0
      rw [if_pos rfl]
      have hk : kept ((b, -1) :: r) = kept r := by simp [kept]
      rw [hk] at h
      obtain ⟨i1, i2, i3, i4⟩ := canon_ok src r st (p ++ [b]) h hst
      refine ⟨i1, ?_, fun pe n h1 h2 => i3 pe n h1 ?_, fun x hx => ?_⟩
      · rw [i2]; simp
      · simp only [List.length_append, List.length_cons, List.length_nil] at h2 ⊢; omega
      · have := i4 x hx
        simp only [List.length_append, List.length_cons, List.length_nil] at this ⊢; omega
    · rw [if_neg (by exact c0)]
      have hk : kept ((b, o) :: r) = (b, o) :: kept r := by simp [kept, c0]
      rw [hk] at h
      obtain ⟨k, k1, k2, k3⟩ := sub_cons h
      obtain ⟨k4, k5⟩ := trace_at k2
      simp only at k4 k5
      subst k4
      have hlt : k < src.length := (List.getElem?_eq_some_iff.1 k5).1
      obtain ⟨i1, i2, i3, i4⟩ := canon_ok src r (k + 1) [] k3 (by omega)
      have ec : ((k + 1 : Nat) : Int) = (k : Int) + 1 := by simp
      rw [ec] at i1 i2 i3 i4
      show From st (flushS st k p ++ canonS src.length ((k : Int) + 1) [] r) ∧ applyS src st (flushS st k p ++ canonS src.length ((k : Int) + 1) [] r) = _ ∧ (∀ pe n : Int, pe < st → n - (src.length - st) + p.length + ((b, (k : Int)) :: r).length ≤ 2000 → valid src.length pe n (flushS st k p ++ canonS src.length ((k : Int) + 1) [] r) = 0) ∧ ∀ x ∈ flushS st k p ++ canonS src.length ((k : Int) + 1) [] r, x.t.length ≤ p.length + ((b, (k : Int)) :: r).length
      have step := apply_step k5 i1
      rw [i2] at step
      rw [flushS]
      by_cases c : (st : Int) < k ∨ 0 < p.length
      · rw [if_pos c]
        refine ⟨fun x hx => ?_, ?_, fun pe n h1 h2 => ?_, fun x hx => ?_⟩
        · rcases List.mem_cons.1 hx with rfl | hx
          · exact Int.le_refl _
          · have := i1 x hx; omega
        · rw [List.singleton_append, applyS]
          simp only [Int.toNat_natCast, step]
          rw [List.drop_of_length_le (by simp; omega)]
          simp
        · rw [List.singleton_append]
          unfold valid
          rw [if_neg (by simp only; omega)]
          refine i3 _ _ (by simp only; omega) ?_
          simp only [List.length_cons, List.length_nil] at h2 ⊢
          omega
        · rcases List.mem_cons.1 hx with rfl | hx
          · exact Nat.le_add_right _ _
          · have := i4 x hx
            simp only [List.length_cons, List.length_nil] at this ⊢; omega
      · rw [if_neg c, List.nil_append]
        have hp : p = [] := List.length_eq_zero_iff.1 (by omega)
        have hk2 : k = st := by omega
        subst hp hk2
        refine ⟨fun x hx => ?_, ?_, fun pe n h1 h2 => i3 pe n (by omega) ?_, fun x hx => ?_⟩
        · have := i1 x hx; omega
        · rw [step]; rfl
        · simp only [List.length_cons, List.length_nil] at h2 ⊢
          omega
        · have := i4 x hx
          simp only [List.length_cons, List.length_nil] at this ⊢; omega
def composeS (src : List UInt8) (a b : List Ed) : List Ed := canonS src.length 0 [] (applyT (applyT (traceS src) 0 a) 0 b)
theorem trace_fst (src : List UInt8) : (traceS src).map (·.1) = src := by
  unfold traceS
  apply List.ext_getElem?
  intro i
  rw [List.getElem?_map, List.getElem?_mapIdx]
  cases src[i]? <;> rfl
theorem valid_of {src : List UInt8} {xs : List Ed} (h : validate src xs = 0) : src.length ≤ 2000 ∧ xs.length ≤ 50 ∧ valid src.length (-1) src.length xs = 0 := by
  unfold validate at h
  split at h
  · cases h
  · exact ⟨by omega, by omega, h⟩
theorem apply_len {src : List UInt8} {xs : List Ed} (h : validate src xs = 0) : (applyS src 0 xs).length ≤ 2000 := by
  obtain ⟨h1, h2, h3⟩ := valid_of h
  have := applyT_len (traceS src) (len := src.length) (by simp [traceS]) xs 0 (-1) src.length h3 (by omega) (by omega)
  have e := congrArg List.length (applyT_fst (traceS src) xs 0)
  rw [trace_fst, List.length_map] at e
  omega
theorem compose_law {src : List UInt8} {a b : List Ed} (ha : validate src a = 0) (hb : validate (applyS src 0 a) b = 0) (hl : (composeS src a b).length ≤ 50) :
    validate src (composeS src a b) = 0 ∧ applyS src 0 (composeS src a b) = applyS (applyS src 0 a) 0 b ∧ ∀ x ∈ composeS src a b, x.t.length ≤ 2000 := by
  obtain ⟨a1, a2, a3⟩ := valid_of ha
  obtain ⟨b1, b2, b3⟩ := valid_of hb
  have f1 := applyT_fst (traceS src) a 0
  rw [trace_fst] at f1
  have f2 := applyT_fst (applyT (traceS src) 0 a) b 0
  rw [f1] at f2
  have l1 : (applyT (traceS src) 0 a).length = (applyS src 0 a).length := by rw [← f1, List.length_map]
  have l2 : (applyT (applyT (traceS src) 0 a) 0 b).length = (applyS (applyS src 0 a) 0 b).length := by rw [← f2, List.length_map]
  have l3 := apply_len hb
  have s1 : List.Sublist (kept (applyT (traceS src) 0 a)) (traceS src) := (applyT_sub (traceS src) a 0 (-1) src.length a3 (by omega)).trans (by rw [List.drop_zero]; exact List.filter_sublist)
  have s2 : List.Sublist (kept (applyT (applyT (traceS src) 0 a) 0 b)) ((traceS src).drop 0) := by
    rw [List.drop_zero]
    refine (applyT_sub _ b 0 (-1) (applyS src 0 a).length b3 (by omega)).trans ?_
    rw [List.drop_zero]; exact s1
  obtain ⟨c1, c2, c3, c4⟩ := canon_ok src _ 0 [] s2 (by omega)
  refine ⟨?_, ?_, ?_⟩
  · unfold validate
    rw [if_neg (by omega)]
    refine c3 _ _ (by omega) ?_
    rw [l2, List.length_nil]; omega
  · unfold composeS; exact c2.trans (by rw [List.nil_append, f2])
  · intro x hx
    have := c4 x hx
    rw [l2, List.length_nil] at this; omega
end RopeF
end

section
set_option maxRecDepth 100000
namespace Srv
open Go Go.Abs Go.Proofs RopeF
abbrev tbV (x : TB) : AV := .agg [.int .u8 x.1.toNat, I x.2]
abbrev tbs (l : List TB) : List AV := l.map tbV
def cellsT : List TB → List AV
  | [] => []
  | x :: l => .int .u8 x.1.toNat :: I x.2 :: cellsT l
theorem cellsT_len (l : List TB) : (cellsT l).length = l.length * 2 := by
  induction l with
  | nil => rfl
  | cons x l ih => simp only [cellsT, List.length_cons, ih]; omega
theorem cellsT_app (l m : List TB) : cellsT (l ++ m) = cellsT l ++ cellsT m := by
  induction l with
  | nil => rfl
  | cons x l ih => simp only [List.cons_append, cellsT, ih]
theorem cellsT_strip (l : List TB) : (cellsT l).map AV.strip = cellsT l := by
  induction l with
  | nil => rfl
  | cons x l ih => simp only [cellsT, List.map_cons, ih]; rfl
theorem cellsT_plain (l : List TB) : (cellsT l).all plainC = true := by
  induction l with
  | nil => rfl
  | cons x l ih => simp only [cellsT, List.all_cons, ih]; rfl
theorem cellsT_chunks (l : List TB) : chunks 2 l.length (cellsT l) = tbs l := by
  induction l with
  | nil => rfl
  | cons x l ih =>
    show AV.agg [_, _] :: chunks 2 l.length (cellsT l) = tbV x :: tbs l
    rw [ih]
theorem under73 : Tryz.prog.underlying 73 = some (.slice 115) := by kernel_rfl
theorem sz115 : szOf Tryz.prog 115 = some 2 := by kernel_rfl
theorem info115 : Info 115 2 := infoG (by kernel_rfl)
theorem z115 : zeroOf Tryz.prog 115 = some (.agg [.int .u8 0, I 0]) := by kernel_rfl
theorem b115 (b : Nat) (o : Int) : aBuild Tryz.prog 115 [(0, .int .u8 b), (1, I o)] = some (.agg [.int .u8 b, I o]) := by kernel_rfl
theorem ix73 {n i : Nat} (h : i < n) (Q : Nat) : aIndexAddr Tryz.prog 73 (.rs 115 2 Q 0 n) (I i) = some (.ref Q (i * 2)) := by
  have : (i : Int) < n := by omega
  simp [aIndexAddr, under73, sz115, this]
theorem len73 (n Q : Nat) : aLen Tryz.prog 73 (.rs 115 2 Q 0 n) = some (I n) := by simp [aLen, under73]
theorem len73s (l : List AV) (f : Flag) : aLen Tryz.prog 73 (.sl 115 2 l f) = some (I l.length) := by simp [aLen, under73]
theorem mk73 {n : Nat} (h : 0 < n) (hn : n < 1000000) (s : Heap) : aRsMake Tryz.prog 73 (I n) (I n) s = some (.rs 115 2 s.length 0 n, s ++ [(115, (List.replicate n [AV.int .u8 0, I 0]).flatten)]) := by
  obtain ⟨i, zz, h1, h2, h3, h4, h5⟩ := info115
  have hb : (i.bytes : Int) * n ≤ 281474976710656 := by
    have h6 : i.bytes * n ≤ 100 * 1000000 := Nat.mul_le_mul h5 (by omega)
    have h7 : ((i.bytes * n : Nat) : Int) ≤ 100000000 := Int.ofNat_le.2 (Nat.le_trans h6 (by decide))
    rw [Int.natCast_mul] at h7; omega
  unfold aRsMake newMk
  rw [under73]
  simp only [h1, z115]
  rw [if_pos ⟨⟨by omega, by omega, by omega⟩, hb, by omega, ⟨h2, rfl, rfl⟩, rfl, by decide⟩]
  show some (AV.rs 115 i.size s.length 0 (n : Int).toNat, s ++ [(115, (List.replicate (n : Int).toNat [AV.int .u8 0, I 0]).flatten)]) = _
  rw [h2, Int.toNat_natCast]
theorem mk73z (s : Heap) : aRsMake Tryz.prog 73 (I 0) (I 0) s = some (.sl 115 2 [] .sh, s ++ [(deadTy, [.undef])]) := by
  obtain ⟨i, zz, h1, h2, h3, h4, h5⟩ := info115
  unfold aRsMake newMk
  rw [under73]
  simp only [h1, z115]
  rw [if_neg (fun h => absurd h.1.2.2 (by decide)), if_pos ⟨trivial, trivial⟩, h2]
theorem set2 (l : List TB) (x : TB) (r : List AV) (hr : 2 ≤ r.length) : setL (cellsT l ++ r) (l.length * 2) [.int .u8 x.1.toNat, I x.2] = cellsT (l ++ [x]) ++ r.drop 2 := by
  have hl := cellsT_len l
  rw [setL_eq _ _ _ (by simp only [List.length_append, List.length_cons, List.length_nil, hl]; omega), cellsT_app, ← hl, List.take_left]
  simp only [List.length_cons, List.length_nil, cellsT]
  rw [List.drop_append, List.drop_of_length_le (by omega), List.nil_append, show (cellsT l).length + (0 + 1 + 1) - (cellsT l).length = 2 by omega]
theorem rV_mvR {D : Den} {ρ : Operand → AV} {s : Heap} (tk : Bool) (x : Operand) : rV C D (.raw true tk (.move x)) ρ s = aPub (ρ x).strip s := rfl
theorem ix9 {src : Bytes} {i : Nat} (h : i < src.length) : aIndex Tryz.prog 9 (.str src) (I i) = some (.int .u8 src[i].toNat) := by
  have : Tryz.prog.underlying 9 = some .string := by kernel_rfl
  simp [aIndex, this, List.getElem?_eq_getElem h]
theorem tbs_noRef (l : List TB) : noRefL (tbs l) = true := by
  induction l with
  | nil => rfl
  | cons x l ih => show noRefL (tbV x :: tbs l) = true; rw [noRefL_cons, ih]; rfl
theorem traceS_take {src : Bytes} {i : Nat} (h : i < src.length) : (traceS src).take (i + 1) = (traceS src).take i ++ [(src[i], (i : Int))] := by
  rw [List.take_succ]
  congr 1
  simp [traceS, List.getElem?_mapIdx, List.getElem?_eq_getElem h]
theorem traceS_len (src : Bytes) : (traceS src).length = src.length := by simp [traceS]
theorem st115 {s : Heap} {Q k : Nat} {cs : List AV} {b : Nat} {o : Int} (h : s[Q]? = some (115, cs)) (hk : k + 2 ≤ cs.length) : aStore 2 s (.ref Q k) (.agg [.int .u8 b, I o]) = some (s.set Q (115, setL cs k [.int .u8 b, I o])) :=
  st (n := 2) h (by decide) rfl rfl hk
theorem pub73 {n : Nat} {l : List TB} (hl : l.length = n) : aPub (.rs 115 2 0 0 n) [(115, cellsT l)] = some (.sl 115 2 (tbs l) .sh, [(deadTy, [.undef])]) := by
  have e1 : (cellsT l).take (n * 2) = cellsT l := List.take_of_length_le (by rw [cellsT_len]; omega)
  simp only [aPub, aPub1, List.getElem?_cons_zero, e1, cellsT_plain, cellsT_strip]
  rw [if_pos ⟨trivial, by decide, by decide, by rw [cellsT_len]; omega, trivial⟩, ← hl, cellsT_chunks]
  rfl
theorem trace_run (src : Bytes) (hl : src.length ≤ 2000) : AC C 32 [.str src] (.sl 115 2 (tbs (traceS src)) .sh) := by
  refine .intro (by kernel_rfl) (by rfl) (by simp only [AV.noRef]; exact tbs_noRef _) ⟨2001, fun n hn => ⟨[(deadTy, [.undef])], ?_⟩⟩
  by_cases h0 : src = []
  · subst h0
    obtain ⟨n, rfl⟩ : ∃ m, n = m + 1 := ⟨n - 1, by omega⟩
    have e0 : aLen Tryz.prog 9 (.str []) = some (I 0) := lenS []
    have e1 : aLen Tryz.prog 73 (.sl 115 2 [] .sh) = some (I 0) := len73s [] .sh
    have e2 : (AV.sl 115 2 [] .sh).strip = .sl 115 2 [] .sh := rfl
    have e3 : aPub (.sl 115 2 [] .sh) [(deadTy, [.undef])] = some (.sl 115 2 [] .sh, [(deadTy, [.undef])]) := rfl
    rw [rd Tryz.func32]; conv in compF _ _ _ _ _ _ => cbv
    simp only [strip_rs, strip_mr, strip_nilf, Bool.false_eq_true, if_false, ↓kR, kE, kK, sL, C_P, Nat.reduceEqDiff, reduceIte, Tryz.f32, e0, mk73z, e2, e1, List.nil_append, sL]
    rw [aLoop_succ]
    simp only [strip_rs, strip_mr, strip_nilf, Bool.false_eq_true, if_false, ↓kR, kE, kK, sL, C_P, Nat.reduceEqDiff, reduceIte, dec00, rV_mvR, e2, e3, sL]
    rfl
  · have hp : 0 < src.length := List.length_pos_iff.2 h0
    have tl := traceS_len src
    rw [rd Tryz.func32]; conv in compF _ _ _ _ _ _ => cbv
    simp only [strip_rs, strip_mr, strip_nilf, Bool.false_eq_true, if_false, ↓kR, kE, kK, sL, C_P, Nat.reduceEqDiff, reduceIte, Tryz.f32, lenS, mk73 hp (by omega), len73, List.nil_append, List.length_nil, sL]
    refine loopI (R := fun a => a = some (AV.sl 115 2 (tbs (traceS src)) Flag.sh, [(deadTy, [.undef])])) (fun i e s1 => (∃ rest, s1 = [(115, cellsT ((traceS src).take i) ++ rest)] ∧ rest.length = (src.length - i) * 2) ∧ e 0 = .str src ∧ e 3 = .rs 115 2 0 0 src.length ∧ e 9 = I src.length ∧ e 10 = I i) src.length ?_ ?_ src.length 0 (by omega) n (by omega) _ _ ⟨⟨_, rfl, by simp⟩, rfl, rfl, rfl, rfl⟩
    · rintro i e _ k hi ⟨⟨rest, rfl, hr⟩, e0, e3, e9, e10⟩ hk
      have hlt := decide_eq_true hi
      have tk : ((traceS src).take i).length = i := by rw [List.length_take]; omega
      have q1 := st115 (s := [(115, cellsT ((traceS src).take i) ++ rest)]) (Q := 0) (k := i * 2) (b := src[i].toNat) (o := i) rfl (by rw [List.length_append, cellsT_len, tk]; omega)
      have q2 := set2 ((traceS src).take i) (src[i], (i : Int)) rest (by omega)
      rw [tk] at q2
      simp only at q2
      rw [q2, ← traceS_take hi] at q1
      simp only [strip_rs, strip_mr, strip_nilf, Bool.false_eq_true, if_false, ↓kR, kE, kK, sL, C_P, Nat.reduceEqDiff, reduceIte, e0, e3, e9, e10, hlt, ix9 hi, b115, ix73 hi, q1, wrap64 (n := (i : Int) + 1) (by omega) (by omega), sL]
      exact hk _ _ ⟨⟨rest.drop 2, rfl, by rw [List.length_drop]; omega⟩, e0, e3, e9, iS i⟩
    · rintro e _ k ⟨⟨rest, rfl, hr⟩, e0, e3, e9, e10⟩
      have hlt := decide_eq_false (Nat.lt_irrefl src.length)
      rw [Nat.sub_self, Nat.zero_mul] at hr
      have hr0 : rest = [] := List.length_eq_zero_iff.1 hr
      subst hr0
      rw [List.append_nil, List.take_of_length_le (by omega)]
      simp only [strip_rs, strip_mr, strip_nilf, Bool.false_eq_true, if_false, ↓kR, kE, kK, sL, C_P, Nat.reduceEqDiff, reduceIte, e3, e9, e10, hlt, rV_mvR, pub73 tl, sL]
end Srv
end

section
set_option maxRecDepth 100000
namespace Srv
open Go Go.Abs Go.Proofs RopeF
def outT (l : List TB) : AV := match l with
  | [] => .nils
  | x :: r => .sl 115 2 (tbs (x :: r)) .own
def IsT (v : AV) (l : List TB) : Prop := v = .sl 115 2 (tbs l) .sh ∨ (l = [] ∧ v = .nils)
theorem outT_strip (l : List TB) : IsT (outT l).strip l := by cases l <;> first | exact .inr ⟨rfl, rfl⟩ | exact .inl rfl
theorem IsT.strip {v : AV} {l : List TB} (h : IsT v l) : v.strip = v := by rcases h with rfl | ⟨_, rfl⟩ <;> rfl
theorem IsT.noRef {v : AV} {l : List TB} (h : IsT v l) : v.noRef = true := by
  rcases h with rfl | ⟨_, rfl⟩
  · simp only [AV.noRef]; exact tbs_noRef _
  · rfl
theorem outT_noRef (l : List TB) : (outT l).noRef = true := by
  cases l with
  | nil => rfl
  | cons x r => simp only [outT, AV.noRef]; exact tbs_noRef _
theorem appT (l m : List TB) {y : AV} (hy : (∃ f, y = .sl 115 2 (tbs m) f) ∨ (m = [] ∧ y = .nils)) (h : l.length + m.length < 1000000) : aAppend Tryz.prog 73 73 (outT l) y = some (outT (l ++ m)) := by
  obtain ⟨i, zz, h1, h2, h3, h4, h5⟩ := info115
  have hsrc : srcOf i.size y = some (tbs m) := by
    rcases hy with ⟨f, rfl⟩ | ⟨rfl, rfl⟩
    · simp [srcOf, h2]
    · rfl
  have hb : ∀ k, k < 1000000 → (2 * k + 768) * i.bytes ≤ 281474976710656 := fun k hk => by
    have : (2 * k + 768) * i.bytes ≤ (2 * k + 768) * 100 := Nat.mul_le_mul_left _ h5
    omega
  unfold aAppend
  rw [under73]
  rw [h2] at hsrc
  simp only [h1, h2, hsrc, h3, h4, ne_eq, not_true, if_false]
  cases l with
  | nil =>
    simp only [outT, List.nil_append]
    rw [if_pos ⟨hb _ (by simp only [List.length_map, List.length_nil] at h ⊢; omega), by simp only [List.length_map, List.length_nil] at h ⊢; omega⟩]
    cases m <;> rfl
  | cons x r =>
    simp only [outT]
    rw [if_pos ⟨trivial, trivial, hb _ (by simp only [List.length_map] at h ⊢; omega), by simp only [List.length_map] at h ⊢; omega⟩]
    simp [outT, List.map_append]
theorem subT {v : AV} {l : List TB} (h : IsT v l) {i j : Int} (h0 : 0 ≤ i) (h1 : i ≤ j) (h2 : j ≤ l.length) : ∃ y, aSl Tryz.prog 73 v (some (I i)) (some (I j)) none = some y ∧ ((∃ f, y = .sl 115 2 (tbs ((l.take j.toNat).drop i.toNat)) f) ∨ ((l.take j.toNat).drop i.toNat = [] ∧ y = .nils)) := by
  rcases h with rfl | ⟨rfl, rfl⟩
  · refine ⟨.sl 115 2 (tbs ((l.take j.toNat).drop i.toNat)) .sh, ?_, .inl ⟨_, rfl⟩⟩
    have h3 : 0 ≤ j := by omega
    have h4 : i ≤ max j 0 := by omega
    simp [aSl, under73, sz115, aSlice, aBound, h0, h2, h3, h4, List.map_take, List.map_drop]
  · simp only [List.length_nil] at h2
    have : i = 0 := by omega
    have : j = 0 := by omega
    subst i j
    exact ⟨.nils, by kernel_rfl, .inr ⟨rfl, rfl⟩⟩
theorem subT' {v : AV} {l : List TB} (h : IsT v l) {i : Int} (h0 : 0 ≤ i) (h2 : i ≤ l.length) : ∃ y, aSl Tryz.prog 73 v (some (I i)) none none = some y ∧ ((∃ f, y = .sl 115 2 (tbs (l.drop i.toNat)) f) ∨ (l.drop i.toNat = [] ∧ y = .nils)) := by
  rcases h with rfl | ⟨rfl, rfl⟩
  · refine ⟨.sl 115 2 (tbs (l.drop i.toNat)) .sh, ?_, .inl ⟨_, rfl⟩⟩
    simp [aSl, under73, sz115, aSlice, aBound, h0, h2, List.map_drop]
  · simp only [List.length_nil] at h2
    have : i = 0 := by omega
    subst i
    exact ⟨.nils, by kernel_rfl, .inr ⟨rfl, rfl⟩⟩
end Srv
end

section
set_option maxRecDepth 100000
namespace Srv
open Go Go.Abs Go.Proofs RopeF
theorem bs73 (a : AV) (b : Nat) : aBuildSlice Tryz.prog 73 1 [(0, .agg [.int .u8 b, I (-1)])] = some (.sl 115 2 [.agg [.int .u8 b, I (-1)]] .own) := by kernel_rfl
theorem len95 (l : List AV) (f : Flag) : aLen Tryz.prog 95 (.sl 5 1 l f) = some (I l.length) := by
  have : Tryz.prog.underlying 95 = some (.slice 5) := by kernel_rfl
  simp [aLen, this]
theorem ix95 {t : Bytes} {j : Nat} (h : j < t.length) : aIndexAddr Tryz.prog 95 (.sl 5 1 (byteAV t) .sh) (I j) = some (.box [.int .u8 t[j].toNat] 0) := by
  have h1 : Tryz.prog.underlying 95 = some (.slice 5) := by kernel_rfl
  have h2 : szOf Tryz.prog 5 = some 1 := by kernel_rfl
  have h3 : (byteAV t)[j]? = some (.int .u8 t[j].toNat) := by simp [byteAV, List.getElem?_eq_getElem h]
  simp [aIndexAddr, h1, h2, h3, AV.cells]
theorem conv95 (t : Bytes) : aConv Tryz.prog 9 95 (.str t) = some (.sl 5 1 (byteAV t) .sh) := by
  have h1 : Tryz.prog.underlying 95 = some (.slice 5) := by kernel_rfl
  have h2 : Tryz.prog.underlying 9 = some .string := by kernel_rfl
  have h3 : Tryz.prog.underlying 5 = some (.int .u8) := by kernel_rfl
  have h4 : isU8 Tryz.prog 5 = true := by kernel_rfl
  simp [aConv, h1, h2, h3, h4, isStr]
theorem lenB (t : Bytes) : aLen Tryz.prog 95 (.sl 5 1 (byteAV t) .sh) = some (I t.length) := by
  rw [len95]; simp [byteAV]
set_option maxHeartbeats 1000000 in
theorem applyT_run (v : AV) (bs : List TB) (hv : IsT v bs) (w : AV) (xs : List Ed) (hw : IsE w xs) (hl : bs.length ≤ 2000) (hx : xs.length ≤ 50) (hval : valid bs.length (-1) bs.length xs = 0) : AC C 31 [v, w] (outT (applyT bs 0 xs)) := by
  have tot : (applyT bs 0 xs).length ≤ 2000 := by
    have := applyT_len bs rfl xs 0 (-1) bs.length hval (by omega) (by omega)
    omega
  refine .intro (by kernel_rfl) (by simp [noRefL_cons, hv.noRef, hw.noRef, noRefL_nil]) (outT_noRef _) ⟨2100, fun n hn => ?_⟩
  suffices h : ∃ s1, den C (n + 1) 31 [v, w] [] = some (outT (applyT bs 0 xs), s1) from h
  have vs := hv.strip
  have ws := hw.strip
  rw [rd Tryz.func31]; conv in compF _ _ _ _ _ _ => cbv
  simp only [strip_rs, strip_mr, strip_nilf, Bool.false_eq_true, if_false, ↓kR, kE, kK, sL, C_P, Nat.reduceEqDiff, reduceIte, Tryz.f31, ws, hw.len, sL]
  refine loopI (R := fun a => ∃ s1, a = some (outT (applyT bs 0 xs), s1)) (fun i e s => ∃ (o : Nat) (p m : Int) (acc : List TB), valid bs.length p m (xs.drop i) = 0 ∧ (o : Int) ≤ p + 1 ∧ o ≤ bs.length ∧ acc ++ applyT bs o (xs.drop i) = applyT bs 0 xs ∧ e 5 = outT acc ∧ e 0 = v ∧ e 6 = I o ∧ e 11 = w ∧ e 12 = I xs.length ∧ e 13 = I i) xs.length ?_ ?_ xs.length 0 (by omega) n (by omega) _ _ ⟨0, -1, bs.length, [], hval, by omega, by omega, rfl, rfl, rfl, rfl, rfl, rfl, rfl⟩
  · rintro i e s0 k hi ⟨o, p, m, acc, hv0, ho, hob, hacc, e5, e0, e6, e11, e12, e13⟩ hk
    have hlt := decide_eq_true hi
    have x0 : xs[i]? = some xs[i] := List.getElem?_eq_getElem hi
    rw [List.drop_eq_getElem_cons hi] at hv0 hacc
    obtain ⟨k1, k2, k3, k4⟩ := valid_cons hv0
    rw [applyT] at hacc
    have hw' : w = .sl 70 3 (eds xs) .sh := by
      rcases hw with h | ⟨h, _⟩
      · exact h
      · subst h; cases hi
    have i1 := idx44 (f := .sh) x0
    have tl := congrArg List.length hacc
    simp only [List.length_append, List.length_map] at tl
    obtain ⟨y, y1, y2⟩ := subT hv (i := o) (j := xs[i].a) (by omega) (by omega) (by omega)
    rw [Int.toNat_natCast] at y2
    have ys : (∃ f, y = .sl 115 2 (tbs ((bs.take xs[i].a.toNat).drop o)) f) ∨ ((bs.take xs[i].a.toNat).drop o = [] ∧ y = .nils) := y2
    have ap := appT acc _ ys (by omega)
    have sa : (outT acc).strip.strip = (outT acc).strip := (outT_strip acc).strip
    have l3 : ∀ s, aLoad false true 3 (.box [I xs[i].a, I xs[i].b, .str xs[i].t] 0) s = some (xs[i].v, s) := fun s => boxG (n := 3) rfl false s
    obtain ⟨s1, es⟩ : ∃ s1, s0 ++ [(70, [I xs[i].a, I xs[i].b, AV.str xs[i].t])] = s1 := ⟨_, rfl⟩
    have at1 : s1[s0.length]? = some (70, [I xs[i].a, I xs[i].b, AV.str xs[i].t]) := by rw [← es]; exact gapp_new
    have la : aLoad false false 1 (.ref s0.length 0) s1 = some (I xs[i].a, s1) := ldv at1 (by decide) rfl
    have lb : aLoad false false 1 (.ref s0.length 1) s1 = some (I xs[i].b, s1) := ldv at1 (by decide) rfl
    have lt : aLoad false false 1 (.ref s0.length 2) s1 = some (.str xs[i].t, s1) := ldv at1 (by decide) rfl
    have s65 := store65 s0 (I 0) (I 0) (.str []) xs[i]
    rw [es] at s65
    simp only [strip_rs, strip_mr, strip_nilf, Bool.false_eq_true, if_false, ↓kR, kE, kK, sL, C_P, Nat.reduceEqDiff, reduceIte, e0, e5, e6, e11, e12, e13, hlt, hw', i1, l3, alloc65, s65, la, lt, vs, y1, ap, conv95, lenB, sL]
    refine loopI (R := fun a => ∃ s1, a = some (outT (applyT bs 0 xs), s1)) (fun j e s => s = s1 ∧ e 5 = outT (acc ++ (bs.take xs[i].a.toNat).drop o ++ (xs[i].t.take j).map (fun b => (b, -1))) ∧ e 0 = v ∧ e 8 = .ref s0.length 0 ∧ e 11 = w ∧ e 12 = I xs.length ∧ e 13 = I i ∧ e 26 = .sl 5 1 (byteAV xs[i].t) .sh ∧ e 27 = I xs[i].t.length ∧ e 28 = I j) xs[i].t.length ?_ ?_ xs[i].t.length 0 (by omega) n (by omega) _ _ ⟨rfl, by rw [List.take_zero, List.map_nil, List.append_nil]; rfl, e0, rfl, e11, e12, e13, rfl, rfl, rfl⟩
    · rintro j e' _ k' hj ⟨rfl, f5, f0, f8, f11, f12, f13, f26, f27, f28⟩ hk'
      have hlt' := decide_eq_true hj
      have lj : (xs[i].t.take j).length = j := by rw [List.length_take]; omega
      have ap' := appT (acc ++ (bs.take xs[i].a.toNat).drop o ++ (xs[i].t.take j).map (fun b => (b, -1))) [(xs[i].t[j], -1)] (y := .sl 115 2 [.agg [.int .u8 xs[i].t[j].toNat, I (-1)]] .own) (.inl ⟨_, rfl⟩) (by simp only [List.length_append, List.length_map, lj, List.length_cons, List.length_nil] at tl ⊢; omega)
      simp only [strip_rs, strip_mr, strip_nilf, Bool.false_eq_true, if_false, ↓kR, kE, kK, sL, C_P, Nat.reduceEqDiff, reduceIte, f0, f5, f8, f26, f27, f28, hlt', ix95 hj, b115, bs73 .undef, ap', wrap64 (n := (j : Int) + 1) (by omega) (by omega), sL]
      refine hk' _ _ ⟨rfl, ?_, f0, f8, f11, f12, f13, f26, f27, iS j⟩
      show outT _ = _
      rw [List.take_succ, List.getElem?_eq_getElem hj, List.map_append, ← List.append_assoc]
      rfl
    · rintro e' _ k' ⟨rfl, f5, f0, f8, f11, f12, f13, f26, f27, f28⟩
      have hlt' := decide_eq_false (Nat.lt_irrefl xs[i].t.length)
      rw [List.take_length] at f5
      simp only [strip_rs, strip_mr, strip_nilf, Bool.false_eq_true, if_false, ↓kR, kE, kK, sL, C_P, Nat.reduceEqDiff, reduceIte, f8, f13, f27, f28, hlt', lb, wrap64 (n := (i : Int) + 1) (by omega) (by omega), sL]
      have eb : ((xs[i].b.toNat : Nat) : Int) = xs[i].b := by omega
      exact hk _ _ ⟨xs[i].b.toNat, xs[i].b, _, acc ++ (bs.take xs[i].a.toNat).drop o ++ xs[i].t.map (fun b => (b, -1)), k4, by omega, by omega, by rw [← hacc]; simp only [List.append_assoc], f5, f0, by rw [eb]; rfl, f11, f12, iS i⟩
  · rintro e s k ⟨o, p, m, acc, hv0, ho, hob, hacc, e5, e0, e6, e11, e12, e13⟩
    have hlt := decide_eq_false (Nat.lt_irrefl xs.length)
    rw [List.drop_of_length_le (Nat.le_refl _), applyT] at hacc
    have tl := congrArg List.length hacc
    simp only [List.length_append] at tl
    obtain ⟨y, y1, y2⟩ := subT' hv (i := o) (by omega) (by omega)
    rw [Int.toNat_natCast] at y2
    have ap := appT acc _ y2 (by omega)
    rw [hacc] at ap
    simp only [strip_rs, strip_mr, strip_nilf, Bool.false_eq_true, if_false, ↓kR, kE, kK, sL, C_P, Nat.reduceEqDiff, reduceIte, e0, e5, e6, e11, e12, e13, hlt, vs, y1, ap, sL]
    exact ⟨s, rfl⟩
end Srv
end

section
set_option maxRecDepth 100000
namespace Srv
open Go Go.Abs Go.Proofs RopeF
def outE (l : List Ed) : AV := match l with
  | [] => .nils
  | x :: r => .sl 70 3 (eds (x :: r)) .own
theorem outE_strip (l : List Ed) : IsE (outE l).strip l := by cases l <;> first | exact .inr ⟨rfl, rfl⟩ | exact .inl rfl
theorem info70 : Info 70 3 := infoG (by kernel_rfl)
theorem info5I : Info 5 1 := infoG (by kernel_rfl)
theorem appE (l m : List Ed) (f : Flag) (h : l.length + m.length < 1000000) : aAppend Tryz.prog 22 22 (outE l) (.sl 70 3 (eds m) f) = some (outE (l ++ m)) := by
  obtain ⟨i, zz, h1, h2, h3, h4, h5⟩ := info70
  have hb : ∀ k, k < 1000000 → (2 * k + 768) * i.bytes ≤ 281474976710656 := fun k hk => by
    have : (2 * k + 768) * i.bytes ≤ (2 * k + 768) * 100 := Nat.mul_le_mul_left _ h5
    omega
  unfold aAppend
  rw [under44]
  simp only [h1, h2, srcOf, h3, h4, ne_eq, not_true, if_false, if_true]
  cases l with
  | nil =>
    simp only [outE, List.nil_append]
    rw [if_pos ⟨hb _ (by simp only [List.length_map, List.length_nil] at h ⊢; omega), by simp only [List.length_map, List.length_nil] at h ⊢; omega⟩]
    cases m <;> rfl
  | cons x r =>
    simp only [outE]
    rw [if_pos ⟨trivial, trivial, hb _ (by simp only [List.length_map] at h ⊢; omega), by simp only [List.length_map] at h ⊢; omega⟩]
    simp [outE, List.map_append]
theorem appB (l : Bytes) (b : UInt8) (h : l.length < 100000) : aAppend Tryz.prog 95 95 (bufV l) (.sl 5 1 [.int .u8 b.toNat] .own) = some (bufV (l ++ [b])) := by
  obtain ⟨i, zz, h1, h2, h3, h4, h5⟩ := info5I
  have hb : ∀ k, k < 1000000 → (2 * k + 768) * i.bytes ≤ 281474976710656 := fun k hk => by
    have : (2 * k + 768) * i.bytes ≤ (2 * k + 768) * 100 := Nat.mul_le_mul_left _ h5
    omega
  unfold aAppend
  rw [under51]
  simp only [h1, h2, srcOf, h3, h4, ne_eq, not_true, if_false, if_true]
  cases l with
  | nil =>
    simp only [bufV, List.nil_append, List.length_cons, List.length_nil]
    rw [if_pos ⟨hb _ (by omega), by omega⟩]
    rfl
  | cons x r =>
    simp only [bufV, bytesV, List.length_map, List.length_cons, List.length_nil] at h ⊢
    rw [if_pos ⟨trivial, trivial, hb _ (by omega), by omega⟩]
    simp [bufV, bytesV, List.map_append]
theorem ldT {s : Heap} {i o : Nat} {ty : TypeId} {cs : List AV} {v : AV} (h : s[i]? = some (ty, cs)) (ht : ty < deadTy) (hv : cs[o]? = some v) : aLoad true false 1 (.ref i o) s = some (v, s.set i (ty, cs.set o v.strip)) := by
  have : ¬ deadTy ≤ ty := Nat.not_le.2 ht
  simp [aLoad, aLoadT, h, ht, hv]
theorem bufV_len (p : Bytes) : aLen Tryz.prog 95 (bufV p).strip = some (I p.length) := by
  cases p with
  | nil => simp [bufV, aLen, under51, AV.strip]
  | cons b r => simp [bufV, aLen, under51, AV.strip, bytesV]
theorem bufV_conv (p : Bytes) : aConv Tryz.prog 95 9 (bufV p).strip = some (.str p) := by
  have h1 : Tryz.prog.underlying 9 = some .string := by kernel_rfl
  have h4 : isU8 Tryz.prog 5 = true := by kernel_rfl
  cases p with
  | nil => simp [bufV, AV.strip, aConv, under51, h1, h4]
  | cons b r =>
    have : bytesOf (List.map (fun b => AV.int IntKind.u8 (b.toNat : Int)) (b :: r)) = some (b :: r) := byteAV_bytes (b :: r)
    simp only [bufV, AV.strip, aConv, under51, h1, bytesV]
    rw [if_pos ⟨h4, trivial⟩, this]; rfl
structure CS (s : Heap) (st : Int) (p : Bytes) (out : List Ed) : Prop where
  out : s[0]? = some (22, [outE out])
  st : s[1]? = some (3, [I st])
  p : s[2]? = some (95, [bufV p])
theorem CS.app {s : Heap} {st : Int} {p : Bytes} {out : List Ed} (h : CS s st p out) (x : TypeId × List AV) : CS (s ++ [x]) st p out :=
  ⟨by rw [gapp_old (glt h.out)]; exact h.out, by rw [gapp_old (glt h.st)]; exact h.st, by rw [gapp_old (glt h.p)]; exact h.p⟩
theorem c55 (n : Nat) {s : Heap} {st en : Int} {p : Bytes} {out : List Ed} (h : CS s st p out) (hp : p.length < 100000) (ho : out.length < 100000) (he : -1 ≤ en) (he2 : en < 100000) : ∃ s', den C (n + 1) 55 [I en, .ref 1 0, .ref 2 0, .ref 0 0] s = some (.tup [], s') ∧ CS s' (en + 1) [] (out ++ flushS st en p) := by
  have l1 : aLoad false false 1 (.ref 1 0) s = some (I st, s) := ldv h.st (by decide) rfl
  have l2 : aLoad false false 1 (.ref 2 0) s = some ((bufV p).strip, s) := ld (n := 1) h.p (by decide) rfl (by decide)
  have ww : IntKind.i64.wrap (en + 1) = en + 1 := wrap64 (by omega) (by omega)
  have bp := bufV_len p
  have l3 : aLoad true false 1 (.ref 0 0) s = some (outE out, s.set 0 (22, [(outE out).strip])) := ldT h.out (by decide) rfl
  obtain ⟨s1, e1⟩ : ∃ s1, s.set 0 (22, [(outE out).strip]) = s1 := ⟨_, rfl⟩
  rw [e1] at l3
  have at0 : s1[0]? = some (22, [(outE out).strip]) := e1 ▸ gset_eq h.out
  have at1 : s1[1]? = some (3, [I st]) := by rw [← e1, gset_ne (by decide)]; exact h.st
  have at2 : s1[2]? = some (95, [bufV p]) := by rw [← e1, gset_ne (by decide)]; exact h.p
  have l1' : aLoad false false 1 (.ref 1 0) s1 = some (I st, s1) := ldv at1 (by decide) rfl
  have l2' : aLoad false false 1 (.ref 2 0) s1 = some ((bufV p).strip, s1) := ld (n := 1) at2 (by decide) rfl (by decide)
  have bc := bufV_conv p
  have b70 : aBuild Tryz.prog 70 [(0, I st), (1, I en), (2, .str p)] = some (Ed.v ⟨st, en, p⟩) := by kernel_rfl
  have bs : aBuildSlice Tryz.prog 22 1 [(0, Ed.v ⟨st, en, p⟩)] = some (.sl 70 3 [Ed.v ⟨st, en, p⟩] .own) := by kernel_rfl
  have ap : aAppend Tryz.prog 22 22 (outE out) (.sl 70 3 [Ed.v ⟨st, en, p⟩] .own) = some (outE (out ++ [⟨st, en, p⟩])) := appE out [⟨st, en, p⟩] .own (by simp; omega)
  obtain ⟨s2, e2⟩ : ∃ s2, s1.set 0 (22, [outE (out ++ [⟨st, en, p⟩])]) = s2 := ⟨_, rfl⟩
  have so : ∀ l : List Ed, (outE l).solid = true ∧ (outE l).cells.length = 1 ∧ stCells (outE l) = [outE l] := fun l => by cases l <;> exact ⟨rfl, rfl, rfl⟩
  obtain ⟨k1, k2, k3⟩ := so (out ++ [⟨st, en, p⟩])
  have st2 : aStore 1 s1 (.ref 0 0) (outE (out ++ [⟨st, en, p⟩])) = some s2 := by
    rw [Srv.st (n := 1) at0 (by decide) k1 k2 (by simp), k3, ← e2]; rfl
  have cs2 : CS s2 st p (out ++ [⟨st, en, p⟩]) := ⟨e2 ▸ gset_eq at0, by rw [← e2, gset_ne (by decide)]; exact at1, by rw [← e2, gset_ne (by decide)]; exact at2⟩
  have tailR : ∀ {s : Heap} {o : List Ed}, CS s st p o → ∃ s', aStore 1 s (.ref 1 0) (I (en + 1)) = some s' ∧ ∃ s'', aStore 1 s' (.ref 2 0) .nils = some s'' ∧ CS s'' (en + 1) [] o := fun {s o} h => by
    refine ⟨s.set 1 (3, [I (en + 1)]), ?_, ?_⟩
    · rw [Srv.st (n := 1) h.st (by decide) rfl rfl (by simp)]; rfl
    · have q2 : (s.set 1 (3, [I (en + 1)]))[2]? = some (95, [bufV p]) := by rw [gset_ne (by decide)]; exact h.p
      refine ⟨(s.set 1 (3, [I (en + 1)])).set 2 (95, [.nils]), ?_, ⟨?_, ?_, gset_eq q2⟩⟩
      · rw [Srv.st (n := 1) q2 (by decide) rfl rfl (by simp)]; rfl
      · rw [gset_ne (by decide), gset_ne (by decide)]; exact h.out
      · rw [gset_ne (by decide)]; exact gset_eq h.st
  obtain ⟨x1, y1, x2, y2, y3⟩ := tailR cs2
  obtain ⟨z1, w1, z2, w2, w3⟩ := tailR h
  unfold flushS
  by_cases c1 : st < en
  · have d1 := decide_eq_true c1
    rw [if_pos (.inl c1)]
    rw [rd Tryz.func55]; conv in compF _ _ _ _ _ _ => cbv
    simp only [strip_rs, strip_mr, strip_nilf, Bool.false_eq_true, if_false, ↓kR, kE, kK, sL, C_P, Nat.reduceEqDiff, reduceIte, Tryz.f55, sL]
    simp only [strip_rs, strip_mr, strip_nilf, Bool.false_eq_true, if_false, ↓kR, kE, kK, sL, C_P, Nat.reduceEqDiff, reduceIte, rC_seqj, l1, d1, l3, l1', l2', bc, b70, bs, ap, st2, ww, y1, y2, sL]
    exact ⟨x2, rfl, y3⟩
  · have d1 := decide_eq_false c1
    by_cases c2 : 0 < p.length
    · have d2 : decide ((0 : Int) < p.length) = true := decide_eq_true (by omega)
      rw [if_pos (.inr c2)]
      rw [rd Tryz.func55]; conv in compF _ _ _ _ _ _ => cbv
      simp only [strip_rs, strip_mr, strip_nilf, Bool.false_eq_true, if_false, ↓kR, kE, kK, sL, C_P, Nat.reduceEqDiff, reduceIte, Tryz.f55, sL]
      simp only [strip_rs, strip_mr, strip_nilf, Bool.false_eq_true, if_false, ↓kR, kE, kK, sL, C_P, Nat.reduceEqDiff, reduceIte, rC_seqj, l1, l2, bp, d1, d2, l3, l1', l2', bc, b70, bs, ap, st2, ww, y1, y2, sL]
      exact ⟨x2, rfl, y3⟩
    · have d2 : decide ((0 : Int) < p.length) = false := decide_eq_false (by omega)
      rw [if_neg (by rintro (h | h); exact c1 h; exact c2 h), List.append_nil]
      rw [rd Tryz.func55]; conv in compF _ _ _ _ _ _ => cbv
      simp only [strip_rs, strip_mr, strip_nilf, Bool.false_eq_true, if_false, ↓kR, kE, kK, sL, C_P, Nat.reduceEqDiff, reduceIte, Tryz.f55, sL]
      simp only [strip_rs, strip_mr, strip_nilf, Bool.false_eq_true, if_false, ↓kR, kE, kK, sL, C_P, Nat.reduceEqDiff, reduceIte, rC_seqj, l1, l2, bp, d1, d2, ww, w1, w2, sL]
      exact ⟨z2, rfl, w3⟩
end Srv
end

section
set_option maxRecDepth 100000
namespace Srv
open Go Go.Abs Go.Proofs RopeF
abbrev Cap : AV := .fn 55 [] [.ref 1 0, .ref 2 0, .ref 0 0]
theorem v55 (n : Nat) {s : Heap} {st en : Int} {p : Bytes} {out : List Ed} (h : CS s st p out) (hp : p.length < 100000) (ho : out.length < 100000) (he : -1 ≤ en) (he2 : en < 100000) : ∃ s', aCallV Tryz.prog (den C (n + 1)) Cap [I en] s = some (.tup [], s') ∧ CS s' (en + 1) [] (out ++ flushS st en p) := by
  obtain ⟨s', h1, h2⟩ := c55 n h hp ho he he2
  refine ⟨s', ?_, h2⟩
  show aCall Tryz.prog (den C (n + 1)) 55 [I en, .ref 1 0, .ref 2 0, .ref 0 0] s = _
  rw [aCall, if_pos (by kernel_rfl), if_neg (by simp [noRefL_cons, AV.noRef])]
  exact h1
theorem z22 : zeroOf Tryz.prog 22 = some (.agg [.nils]) ∨ zeroOf Tryz.prog 22 = some .nils := by
  first | exact .inr (by kernel_rfl) | exact .inl (by kernel_rfl)
theorem alloc22 (s : Heap) : aAlloc Tryz.prog 22 s = some (.ref s.length 0, s ++ [(22, [.nils])]) := by kernel_rfl
theorem alloc3 (s : Heap) : aAlloc Tryz.prog 3 s = some (.ref s.length 0, s ++ [(3, [I 0])]) := by kernel_rfl
theorem alloc95 (s : Heap) : aAlloc Tryz.prog 95 s = some (.ref s.length 0, s ++ [(95, [.nils])]) := by kernel_rfl
theorem ixT {l : List TB} {i : Nat} (h : i < l.length) (f : Flag) : aIndexAddr Tryz.prog 73 (.sl 115 2 (tbs l) f) (I i) = some (.box [.int .u8 l[i].1.toNat, I l[i].2] 0) := by
  have h3 : (tbs l)[i]? = some (tbV l[i]) := by simp [tbs, List.getElem?_eq_getElem h]
  simp [aIndexAddr, under73, sz115, h3, AV.cells]
theorem IsT.len {v : AV} {l : List TB} (h : IsT v l) : aLen Tryz.prog 73 v = some (I l.length) := by
  rcases h with rfl | ⟨rfl, rfl⟩
  · simp [aLen, under73]
  · simp [aLen, under73]
theorem outE_len (l : List Ed) : aLen Tryz.prog 22 (outE l).strip = some (I l.length) := (outE_strip l).len
theorem flush_len (st en : Int) (p : Bytes) : (flushS st en p).length ≤ 1 := by unfold flushS; split <;> simp
set_option maxHeartbeats 1000000 in
theorem canon_run (len : Nat) (hlen : len ≤ 2000) (v : AV) (l : List TB) (hv : IsT v l) (hl : l.length ≤ 2000) (hr : ∀ x ∈ l, -1 ≤ x.2 ∧ x.2 < 2000) :
    AC C 30 [I len, v] (if 50 < (canonS len 0 [] l).length then .tup [.nils, I 2] else .tup [(outE (canonS len 0 [] l)).strip, I 0]) := by
  refine .intro (by kernel_rfl) (by simp [noRefL_cons, hv.noRef, noRefL_nil, noRef_int]) (by split; rfl; simp [noRef_tup, noRefL_cons, (outE_strip _).noRef, noRef_int, noRefL_nil]) ⟨2100, fun n hn => ?_⟩
  obtain ⟨n, rfl⟩ : ∃ m, n = m + 1 := ⟨n - 1, by omega⟩
  generalize hR : (if 50 < (canonS len 0 [] l).length then AV.tup [.nils, I 2] else .tup [(outE (canonS len 0 [] l)).strip, I 0]) = R
  suffices h : ∃ s1, den C (n + 1 + 1) 30 [I len, v] [] = some (R, s1) from h
  have vs := hv.strip
  have h22 := alloc22 []
  have h3 := alloc3 [(22, [.nils])]
  have hst : aStore 1 [(22, [AV.nils]), (3, [I 0])] (.ref 1 0) (I 0) = some [(22, [AV.nils]), (3, [I 0])] := by
    rw [Srv.st (n := 1) rfl (by decide) rfl rfl (by simp)]; rfl
  have h95 := alloc95 [(22, [AV.nils]), (3, [I 0])]
  simp only [List.length_nil, List.length_cons, List.nil_append, List.cons_append, Nat.zero_add, Nat.reduceAdd] at h22 h3 h95
  rw [rd Tryz.func30]; conv in compF _ _ _ _ _ _ => cbv
  simp only [strip_rs, strip_mr, strip_nilf, Bool.false_eq_true, if_false, ↓kR, kE, kK, sL, C_P, Nat.reduceEqDiff, reduceIte, Tryz.f30, vs, hv.len, h22, h3, hst, h95, sL]
  refine loopI (R := fun a => ∃ s1, a = some (R, s1)) (fun i e s => ∃ (st : Int) (p : Bytes) (out : List Ed), CS s st p out ∧ out ++ canonS len st p (l.drop i) = canonS len 0 [] l ∧ p.length ≤ i ∧ out.length ≤ i ∧ e 0 = I len ∧ e 6 = .ref 0 0 ∧ e 8 = .ref 2 0 ∧ e 9 = Cap ∧ e 13 = v ∧ e 14 = I l.length ∧ e 15 = I i) l.length ?_ ?_ l.length 0 (by omega) (n + 1) (by omega) _ _ ⟨0, [], [], ⟨rfl, rfl, rfl⟩, rfl, by simp, by simp, rfl, rfl, rfl, rfl, rfl, rfl, rfl⟩
  · rintro i e s k hi ⟨st, p, out, cs, hE, hp, ho, e0, e6, e8, e9, e13, e14, e15⟩ hk
    have hlt := decide_eq_true hi
    have hv' : v = .sl 115 2 (tbs l) .sh := by
      rcases hv with h | ⟨h, _⟩
      · exact h
      · subst h; cases hi
    obtain ⟨r1, r2⟩ := hr _ (List.getElem_mem hi)
    rw [List.drop_eq_getElem_cons hi, canonS] at hE
    have b2 : ∀ s, aLoad false true 2 (.box [.int .u8 l[i].1.toNat, I l[i].2] 0) s = some (tbV l[i], s) := fun s => boxG (n := 2) rfl false s
    have cs1 := cs.app (115, [.int .u8 l[i].1.toNat, I l[i].2])
    obtain ⟨s1, es⟩ : ∃ s1, s ++ [(115, [AV.int .u8 l[i].1.toNat, I l[i].2])] = s1 := ⟨_, rfl⟩
    rw [es] at cs1
    have at1 : s1[s.length]? = some (115, [AV.int .u8 l[i].1.toNat, I l[i].2]) := by rw [← es]; exact gapp_new
    have hs : aStore 2 (s ++ [(115, [.int .u8 0, I 0])]) (.ref s.length 0) (tbV l[i]) = some s1 := by
      rw [stW (n := 2) (cs := [.int .u8 0, I 0]) gapp_new (by decide) rfl rfl rfl, set_end, es]
    have lo : aLoad false false 1 (.ref s.length 1) s1 = some (I l[i].2, s1) := ldv at1 (by decide) rfl
    have lb : ∀ {s2 : Heap}, s2[s.length]? = some (115, [AV.int .u8 l[i].1.toNat, I l[i].2]) → aLoad false false 1 (.ref s.length 0) s2 = some (.int .u8 l[i].1.toNat, s2) := fun h => ldv h (by decide) rfl
    have ww := wrap64 (n := (i : Int) + 1) (by omega) (by omega)
    by_cases c : l[i].2 = -1
    · have cb : (l[i].2 == -1) = true := by rw [c]; rfl
      rw [if_pos c] at hE
      have l3 := ldT (o := 0) (v := bufV p) cs1.p (by decide) rfl
      obtain ⟨s2, es2⟩ : ∃ s2, s1.set 2 (95, [(bufV p).strip]) = s2 := ⟨_, rfl⟩
      have l3' : aLoad true false 1 (.ref 2 0) s1 = some (bufV p, s2) := by rw [l3]; exact congrArg (fun x => some (_, x)) es2
      have h2lt : 2 < s.length := by have := glt cs.p; exact this
      have at2 : s2[s.length]? = some (115, [AV.int .u8 l[i].1.toNat, I l[i].2]) := by rw [← es2, gset_ne (by omega)]; exact at1
      have bs5 : aBuildSlice Tryz.prog 95 1 [(0, .int .u8 l[i].1.toNat)] = some (.sl 5 1 [.int .u8 l[i].1.toNat] .own) := by kernel_rfl
      have ap := appB p l[i].1 (by omega)
      obtain ⟨k1, k2, k3⟩ := bufV_solid (p ++ [l[i].1])
      have q2 : s2[2]? = some (95, [(bufV p).strip]) := es2 ▸ gset_eq cs1.p
      obtain ⟨s3, es3⟩ : ∃ s3, s2.set 2 (95, [bufV (p ++ [l[i].1])]) = s3 := ⟨_, rfl⟩
      have st3 : aStore 1 s2 (.ref 2 0) (bufV (p ++ [l[i].1])) = some s3 := by
        rw [Srv.st (n := 1) q2 (by decide) k1 k2 (by simp), k3, ← es3]; rfl
      have cs3 : CS s3 st (p ++ [l[i].1]) out := ⟨by rw [← es3, gset_ne (by decide), ← es2, gset_ne (by decide)]; exact cs1.out, by rw [← es3, gset_ne (by decide), ← es2, gset_ne (by decide)]; exact cs1.st, es3 ▸ gset_eq q2⟩
      simp only [strip_rs, strip_mr, strip_nilf, Bool.false_eq_true, if_false, ↓kR, kE, kK, sL, C_P, Nat.reduceEqDiff, reduceIte, rC_seqj, e0, e6, e8, e9, e13, e14, e15, hlt, hv', ixT hi, b2, allocG z115 (by decide) ⟨nofun, rfl⟩, hs, lo, cb, l3', lb at2, bs5, ap, st3, ww, sL]
      refine hk _ _ ⟨st, p ++ [l[i].1], out, cs3, hE, by rw [List.length_append]; simp only [List.length_cons, List.length_nil]; omega, by omega, e0, e6, e8, e9, e13, e14, iS i⟩
    · have cb : (l[i].2 == -1) = false := by simp [c]
      rw [if_neg c, ← List.append_assoc] at hE
      obtain ⟨s2, f1, f2⟩ := v55 n cs1 (by omega) (by omega) (en := l[i].2) (by omega) (by omega)
      simp only [strip_rs, strip_mr, strip_nilf, Bool.false_eq_true, if_false, ↓kR, kE, kK, sL, C_P, Nat.reduceEqDiff, reduceIte, rC_seqj, e0, e6, e8, e9, e13, e14, e15, hlt, hv', ixT hi, b2, allocG z115 (by decide) ⟨nofun, rfl⟩, hs, lo, cb, f1, ww, sL]
      have fl := flush_len st l[i].2 p
      refine hk _ _ ⟨l[i].2 + 1, [], _, f2, hE, Nat.zero_le _, by rw [List.length_append]; omega, e0, e6, e8, e9, e13, e14, iS i⟩
  · rintro e s k ⟨st, p, out, cs, hE, hp, ho, e0, e6, e8, e9, e13, e14, e15⟩
    have hlt := decide_eq_false (Nat.lt_irrefl l.length)
    rw [List.drop_of_length_le (Nat.le_refl _), canonS] at hE
    obtain ⟨s2, f1, f2⟩ := v55 n cs (by omega) (by omega) (en := len) (by omega) (by omega)
    rw [hE] at f2
    have lE : aLoad false false 1 (.ref 0 0) s2 = some ((outE (canonS len 0 [] l)).strip, s2) := ld (n := 1) f2.out (by decide) rfl (by decide)
    simp only [strip_rs, strip_mr, strip_nilf, Bool.false_eq_true, if_false, ↓kR, kE, kK, sL, C_P, Nat.reduceEqDiff, reduceIte, rC_seqj, e0, e6, e8, e9, e13, e14, e15, hlt, f1, lE, outE_len, (outE_strip _).strip, sL]
    rw [← hR]
    by_cases c : 50 < (canonS len 0 [] l).length
    · have d : decide ((50 : Int) < (canonS len 0 [] l).length) = true := decide_eq_true (by omega)
      rw [d, if_pos c]
      exact ⟨s2, by simp only [sL]⟩
    · have d : decide ((50 : Int) < (canonS len 0 [] l).length) = false := decide_eq_false (by omega)
      rw [d, if_neg c]
      exact ⟨s2, by simp only [sL]⟩
theorem trace_bound {src : Bytes} (h : src.length ≤ 2000) {a b : List Ed} (ha : validate src a = 0) (hb : validate (applyS src 0 a) b = 0) : ∀ x ∈ applyT (applyT (traceS src) 0 a) 0 b, -1 ≤ x.2 ∧ x.2 < 2000 := by
  obtain ⟨a1, a2, a3⟩ := valid_of ha
  obtain ⟨b1, b2, b3⟩ := valid_of hb
  intro x hx
  by_cases c : x.2 = -1
  · omega
  · have s1 : List.Sublist (RopeF.kept (applyT (traceS src) 0 a)) (traceS src) := (applyT_sub (traceS src) a 0 (-1) src.length a3 (by omega)).trans (by rw [List.drop_zero]; exact List.filter_sublist)
    have s2 : List.Sublist (RopeF.kept (applyT (applyT (traceS src) 0 a) 0 b)) (traceS src) := by
      refine (applyT_sub _ b 0 (-1) (applyS src 0 a).length b3 (by omega)).trans ?_
      rw [List.drop_zero]; exact s1
    have hm : x ∈ RopeF.kept (applyT (applyT (traceS src) 0 a) 0 b) := by
      unfold RopeF.kept
      rw [List.mem_filter]
      exact ⟨hx, by simp [c]⟩
    obtain ⟨i, hi, e⟩ := List.getElem_of_mem (s2.subset hm)
    have := trace_at (k := i) (x := x) (by rw [List.getElem?_eq_getElem hi, e])
    have hl := traceS_len src
    omega
def composeR (src : Bytes) (a b : List Ed) : AV :=
  if validate src a ≠ 0 then .tup [.nils, I (validate src a)]
  else if validate (applyS src 0 a) b ≠ 0 then .tup [.nils, I (validate (applyS src 0 a) b)]
  else if 50 < (composeS src a b).length then .tup [.nils, I 2] else .tup [(outE (composeS src a b)).strip, I 0]
theorem compose_run (src : Bytes) (v w : AV) (a b : List Ed) (hv : IsE v a) (hw : IsE w b) (ta : ∀ x ∈ a, x.t.length ≤ 140737488355328) (tb : ∀ x ∈ b, x.t.length ≤ 140737488355328) : AC C 10 [.str src, v, w] (composeR src a b) := by
  refine .intro (by kernel_rfl) (by simp [noRefL_cons, hv.noRef, hw.noRef, noRefL_nil, noRef_str]) (by unfold composeR; split; rfl; split; rfl; split; rfl; simp [noRef_tup, noRefL_cons, (outE_strip _).noRef, noRef_int, noRefL_nil]) ?_
  have vs := hv.strip
  have ws := hw.strip
  obtain ⟨N1, q1⟩ := AC.at (apply_run src v a hv ta)
  obtain ⟨N2, q2⟩ := AC.at (validate_run (applyS src 0 a) w b hw tb)
  unfold composeR
  by_cases ha : validate src a = 0
  · rw [if_pos ha] at q1
    rw [if_neg (by simpa using ha)]
    have z0 : ((0 : Int) == 0) = true := rfl
    by_cases hb : validate (applyS src 0 a) b = 0
    · rw [hb] at q2
      rw [if_neg (by simpa using hb)]
      obtain ⟨a1, a2, a3⟩ := valid_of ha
      obtain ⟨b1, b2, b3⟩ := valid_of hb
      have f1 := applyT_fst (traceS src) a 0
      rw [trace_fst] at f1
      have l1 : (applyT (traceS src) 0 a).length = (applyS src 0 a).length := by rw [← f1, List.length_map]
      have f2 := applyT_fst (applyT (traceS src) 0 a) b 0
      rw [f1] at f2
      have l2 : (applyT (applyT (traceS src) 0 a) 0 b).length = (applyS (applyS src 0 a) 0 b).length := by rw [← f2, List.length_map]
      have l3 := apply_len hb
      obtain ⟨N3, q3⟩ := AC.at (trace_run src a1)
      obtain ⟨N4, q4⟩ := AC.at (applyT_run (.sl 115 2 (tbs (traceS src)) .sh) (traceS src) (.inl rfl) v a hv (by rw [traceS_len]; exact a1) a2 (by rw [traceS_len]; exact a3))
      obtain ⟨N5, q5⟩ := AC.at (applyT_run (outT (applyT (traceS src) 0 a)).strip (applyT (traceS src) 0 a) (outT_strip _) w b hw (by rw [l1]; exact b1) b2 (by rw [l1]; exact b3))
      obtain ⟨N6, q6⟩ := AC.at (canon_run src.length a1 (outT (applyT (applyT (traceS src) 0 a) 0 b)).strip (applyT (applyT (traceS src) 0 a) 0 b) (outT_strip _) (by rw [l2]; exact l3) (trace_bound a1 ha hb))
      refine ⟨max N1 (max N2 (max N3 (max N4 (max N5 N6)))), fun n hn => ⟨[], ?_⟩⟩
      simp only [Nat.max_le] at hn
      have q1 := q1 n (by omega)
      have q2 := q2 n (by omega)
      have q3 := q3 n (by omega)
      have q4 := q4 n (by omega)
      have q5 := q5 n (by omega)
      have q6 := q6 n (by omega)
      have hs : (AV.sl 115 2 (tbs (traceS src)) .sh).strip = .sl 115 2 (tbs (traceS src)) .sh := rfl
      rw [rd Tryz.func10]; conv in compF _ _ _ _ _ _ => cbv
      simp only [strip_rs, strip_mr, strip_nilf, Bool.false_eq_true, if_false, ↓kR, kE, kK, sL, C_P, Nat.reduceEqDiff, reduceIte, Tryz.f10, sL]
      simp only [strip_rs, strip_mr, strip_nilf, Bool.false_eq_true, if_false, ↓kR, kE, kK, sL, C_P, Nat.reduceEqDiff, reduceIte, rC_seqj, vs, ws, q1, z0, q2, bne_self_eq_false, lenS, q3, hs, q4, q5, q6, sL]
      unfold composeS
      by_cases c : 50 < (canonS src.length 0 [] (applyT (applyT (traceS src) 0 a) 0 b)).length
      · rw [if_pos c]
        simp only [sL, (outE_strip _).strip]
      · rw [if_neg c]
        simp only [sL, (outE_strip _).strip]
    · have z1 : (validate (applyS src 0 a) b != 0) = true := by simp [hb]
      rw [if_pos (by simpa using hb)]
      refine ⟨max N1 N2, fun n hn => ⟨[], ?_⟩⟩
      have q1 := q1 n (by omega)
      have q2 := q2 n (by omega)
      rw [rd Tryz.func10]; conv in compF _ _ _ _ _ _ => cbv
      simp only [strip_rs, strip_mr, strip_nilf, Bool.false_eq_true, if_false, ↓kR, kE, kK, sL, C_P, Nat.reduceEqDiff, reduceIte, Tryz.f10, sL]
      simp only [strip_rs, strip_mr, strip_nilf, Bool.false_eq_true, if_false, ↓kR, kE, kK, sL, C_P, Nat.reduceEqDiff, reduceIte, rC_seqj, vs, ws, q1, z0, q2, z1, sL]
  · rw [if_neg ha] at q1
    rw [if_pos (by simpa using ha)]
    have z0 : (validate src a == 0) = false := by simp [ha]
    have z1 : (validate src a != 0) = true := by simp [ha]
    refine ⟨max N1 N2, fun n hn => ⟨[], ?_⟩⟩
    have q1 := q1 n (by omega)
    rw [rd Tryz.func10]; conv in compF _ _ _ _ _ _ => cbv
    simp only [strip_rs, strip_mr, strip_nilf, Bool.false_eq_true, if_false, ↓kR, kE, kK, sL, C_P, Nat.reduceEqDiff, reduceIte, Tryz.f10, sL]
    simp only [strip_rs, strip_mr, strip_nilf, Bool.false_eq_true, if_false, ↓kR, kE, kK, sL, C_P, Nat.reduceEqDiff, reduceIte, rC_seqj, vs, ws, q1, z0, z1, sL]
end Srv
end

section
set_option maxRecDepth 100000
namespace Srv
open Go Go.Abs Go.Proofs RopeF
theorem ex_run : AC C 9 [] (.bool true) := by
  obtain ⟨s1, h⟩ : ∃ s1, den C 60 9 [] [] = some (.bool true, s1) := by
    have : (den C 60 9 [] []).map (·.1) = some (.bool true) := by kernel_rfl
    rw [Option.map_eq_some_iff] at this
    obtain ⟨⟨a, s1⟩, e, rfl⟩ := this
    exact ⟨s1, e⟩
  exact AC.one (by kernel_rfl) rfl rfl h
theorem ev1 (t : Bytes) : aBuild Tryz.prog 35 [(0, I 1), (3, .str nm), (4, .str t)] = some (Ev 1 0 t .nils) := by kernel_rfl
theorem ev3 (k : Int) {v : AV} {a : List Ed} (hv : IsE v a) : aBuild Tryz.prog 35 [(0, I 3), (3, .str nm), (2, I k), (5, v)] = some (Ev 3 k [] v) := by
  rcases hv with rfl | ⟨_, rfl⟩ <;> kernel_rfl
theorem store40 (s : Heap) (r : R) : aStore 1 (s ++ [(40, [.nilp])]) (.ref s.length 0) (rop r) = some (s ++ [(40, [encR r])]) := by
  rw [stW (n := 1) (cs := [.nilp]) gapp_new (by decide) rfl rfl (by show [(encR r).strip] = _; rw [encR_strip]), set_end]
set_option maxHeartbeats 4000000 in
theorem law_run (src : Bytes) (v w : AV) (a b : List Ed) (hv : IsE v a) (hw : IsE w b) (ta : ∀ x ∈ a, x.t.length ≤ 140737488355328) (tb : ∀ x ∈ b, x.t.length ≤ 140737488355328) : AC C 3 [.str src, v, w] (.bool true) := by
  refine .intro (by kernel_rfl) (by simp [noRefL_cons, hv.noRef, hw.noRef, noRefL_nil, noRef_str]) (by rfl) ?_
  have vs := hv.strip
  have ws := hw.strip
  obtain ⟨N0, q0⟩ := AC.at ex_run
  have e : (if (200 : Int) < (src.length : Int) then (200 : Int) else (src.length : Int)) = ((min src.length 200 : Nat) : Int) := by split <;> omega
  have u := subTake (s := src) (i := ((min src.length 200 : Nat) : Int)) (by omega) (by omega)
  have ht : src.take (min src.length 200) = src.take 200 := by
    rw [Nat.min_def]; split
    · rw [List.take_of_length_le (Nat.le_refl _), List.take_of_length_le (by assumption)]
    · rfl
  rw [Int.toNat_natCast, ht] at u
  have hlen : (src.take 200).length ≤ 200 := by simp; omega
  generalize src.take 200 = x at *
  obtain ⟨N1, q1⟩ := AC.at (compose_run x v w a b hv hw ta tb)
  have bad : ∀ {k : Int}, k ≠ 0 → (∀ n, N1 ≤ n → ∀ s, aCall Tryz.prog (den C n) 10 [.str x, v, w] s = some (.tup [.nils, I k], s)) → ∃ N, ∀ n, N ≤ n → ∃ s1, den C (n + 1) 3 [.str src, v, w] [] = some (.bool true, s1) := by
    intro k hk q
    refine ⟨max N0 N1, fun n hn => ⟨[], ?_⟩⟩
    have q0 := q0 n (by omega)
    have q := q n (by omega)
    have z : (k != 0) = true := by simp [hk]
    rw [rd Tryz.func3]; conv in compF _ _ _ _ _ _ => cbv
    simp only [strip_rs, strip_mr, strip_nilf, Bool.false_eq_true, if_false, ↓kR, kE, kK, sL, C_P, Nat.reduceEqDiff, reduceIte, Tryz.f3, sL]
    simp only [strip_rs, strip_mr, strip_nilf, Bool.false_eq_true, if_false, ↓kR, kE, kK, sL, C_P, Nat.reduceEqDiff, reduceIte, rC_seqj, q0, lenS, e, u, vs, ws, q, z, sL]
  unfold composeR at q1
  by_cases ha : validate x a = 0
  · by_cases hb : validate (applyS x 0 a) b = 0
    · by_cases hc : 50 < (composeS x a b).length
      · rw [if_neg (by simpa using ha), if_neg (by simpa using hb), if_pos hc] at q1
        exact bad (by decide) q1
      · rw [if_neg (by simpa using ha), if_neg (by simpa using hb), if_neg hc] at q1
        obtain ⟨l1, l2, l3⟩ := compose_law ha hb (by omega)
        have hE := outE_strip (composeS x a b)
        generalize (outE (composeS x a b)).strip = E at *
        have Es := hE.strip
        obtain ⟨N2, q2⟩ := AC.at (apply_run x v a hv ta)
        rw [if_pos ha] at q2
        obtain ⟨N3, q3⟩ := AC.at (apply_run (applyS x 0 a) w b hw tb)
        rw [if_pos hb] at q3
        obtain ⟨N4, q4⟩ := AC.at (apply_run x E (composeS x a b) hE (fun y hy => by have := l3 y hy; omega))
        rw [if_pos l1, l2] at q4
        have t1 := apply_len ha
        have t2 := apply_len hb
        obtain ⟨wf, sf⟩ := R.from_ok none x trivial
        replace sf : (R.from none x).str = x := by rw [sf]; rfl
        obtain ⟨N5, q5⟩ := AC.at (New_run x (by omega))
        have q6 := Apply_run (R.from none x) wf (by rw [sf]; omega) E (composeS x a b) hE (fun y hy => by have := l3 y hy; omega)
        rw [sf, if_pos l1] at q6
        obtain ⟨r', w', s', m', q6⟩ := q6
        obtain ⟨N6, q6⟩ := AC.at q6
        have mr := WF_mass w'
        obtain ⟨N7, q7⟩ := AC.at (String_run r' (by omega))
        rw [s', l2] at q7
        generalize R.from none x = r0 at *
        generalize applyS (applyS x 0 a) 0 b = y2 at *
        generalize applyS x 0 a = y1 at *
        refine ⟨100 + (N0 + N1 + N2 + N3 + N4 + N5 + N6 + N7), fun n hn => ?_⟩
        obtain ⟨n, rfl⟩ : ∃ m, n = m + 17 := ⟨n - 17, by omega⟩
        suffices h : ∃ s1, den C (n + 17 + 1) 3 [.str src, v, w] [] = some (.bool true, s1) from h
        have q0 := q0 (n + 17) (by omega)
        have q1 := q1 (n + 17) (by omega)
        have q2 := q2 (n + 15) (by omega)
        have q3 := q3 (n + 15) (by omega)
        have q4 := q4 (n + 17) (by omega)
        have q5 := q5 (n + 17) (by omega)
        have q6 := q6 (n + 17) (by omega)
        have q7 := q7 (n + 17) (by omega)
        obtain ⟨s1, V, D, S, M, n1, n2, n3⟩ := c11 (n + 14) []
        obtain ⟨s2, Q2, P2, r2, w1, w2, w3, w4, w5⟩ := c37n (n + 2) (by omega) n2 (t := x) (by omega)
        have e12 : enterable Tryz.prog 12 = true := by kernel_rfl
        have nr : ∀ (V : Nat) (l : List AV), noRefL (.ref V 0 :: l) = false := fun V l => by simp [noRefL_cons, AV.noRef]
        have k1 : aCall Tryz.prog (den C (n + 17)) 12 [.ref V 0, Ev 1 0 x .nils] s1 = some (.tup [.nils, I 0], s2) := by
          rw [aCall, if_pos e12, if_neg (by rw [nr]; exact Bool.noConfusion)]
          exact c12w (n + 16) (by rw [aCall, if_pos (by kernel_rfl), if_neg (by rw [nr]; exact Bool.noConfusion)]; exact w1)
        obtain ⟨s3, Q3, P3, r3, x1, x2, x3, x4, x5⟩ := c39 n (by omega) w2 w3 w4 t1 (k' := 2) (by rfl) vs (q2 s2)
        have k2 : aCall Tryz.prog (den C (n + 17)) 12 [.ref V 0, Ev 3 1 [] v] s2 = some (.tup [.nils, I 0], s3) := by
          rw [aCall, if_pos e12, if_neg (by rw [nr]; exact Bool.noConfusion)]
          exact c12e (n + 16) vs (by rw [aCall, if_pos (by kernel_rfl), if_neg (by rw [nr]; exact Bool.noConfusion)]; exact x1)
        obtain ⟨s4, Q4, P4, r4, z1, z2, z3, z4, z5⟩ := c39 n (by omega) x2 x3 x4 t2 (k' := 3) (by rfl) ws (q3 s3)
        have k3 : aCall Tryz.prog (den C (n + 17)) 12 [.ref V 0, Ev 3 2 [] w] s3 = some (.tup [.nils, I 0], s4) := by
          rw [aCall, if_pos e12, if_neg (by rw [nr]; exact Bool.noConfusion)]
          exact c12e (n + 16) ws (by rw [aCall, if_pos (by kernel_rfl), if_neg (by rw [nr]; exact Bool.noConfusion)]; exact z1)
        obtain ⟨s5, e5⟩ : ∃ s5, s4 ++ [(40, [encR r'])] = s5 := ⟨_, rfl⟩
        have g5 : Gr s4 s5 := e5 ▸ Gr.app ..
        have h5 := z2.gr g5
        have m5 : M1 s5 Q4 y2 := by obtain ⟨j, h⟩ := z3; exact ⟨j, g5.at h⟩
        obtain ⟨s6, e6⟩ : ∃ s6, s5 ++ [(45, [AV.str nm, AV.str y2])] = s6 := ⟨_, rfl⟩
        have k4 : aCall Tryz.prog (den C (n + 17)) 16 [.ref V 0] s5 = some (R1 s5.length, s6) := by
          rw [aCall, if_pos (by kernel_rfl), if_neg (by rw [nr]; exact Bool.noConfusion), ← e6]
          exact c16 (n + 15) h5 m5
        have ly : aLoad false false 1 (.ref s5.length 1) s6 = some (.str y2, s6) := by
          refine ldv (ty := 45) (cs := [.str nm, .str y2]) (by rw [← e6]; exact gapp_new) (by decide) rfl
        have lr : aLoad false true 1 (.ref s4.length 0) s6 = some (rop r', s6) := by
          refine ldA (n := 1) (ty := 40) (cs := [encR r']) ?_ (by decide) (by simp) (by decide)
          rw [← e6]
          exact (Gr.app ..).at (by rw [← e5]; exact gapp_new)
        have st5 := store40 s4 r'
        rw [e5] at st5
        have e11 : enterable Tryz.prog 11 = true := by kernel_rfl
        have z00 : ((0 : Int) != 0) = false := rfl
        rw [rd Tryz.func3]; conv in compF _ _ _ _ _ _ => cbv
        simp only [strip_rs, strip_mr, strip_nilf, Bool.false_eq_true, if_false, ↓kR, kE, kK, sL, C_P, Nat.reduceEqDiff, reduceIte, Tryz.f3, sL]
        simp only [strip_rs, strip_mr, strip_nilf, Bool.false_eq_true, if_false, ↓kR, kE, kK, sL, C_P, Nat.reduceEqDiff, reduceIte, rC_seqj, q0, lenS, e, u, vs, ws, q1, z00, cFs _ _ e11, n1, ev1, ev3 1 hv, ev3 2 hw, k1, k2, k3, Es, q4, q5, q6, alloc27, st5, k4, ix1, ly, lr, q7, beq_self_eq_true, sL]
        exact ⟨s6, rfl⟩
    · rw [if_neg (by simpa using ha), if_pos (by simpa using hb)] at q1
      exact bad (by simpa using hb) q1
  · rw [if_pos (by simpa using ha)] at q1
    exact bad (by simpa using ha) q1
end Srv
end
