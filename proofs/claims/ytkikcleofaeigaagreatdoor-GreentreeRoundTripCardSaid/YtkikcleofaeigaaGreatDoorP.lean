/- ParW, ParX, ParY, ParZ, ParLo -/
import Derived.Test.YtkikcleofaeigaaGreatDoorF
import Derived.Test.YtkikcleofaeigaaGreatDoorD
import Derived.Test.YtkikcleofaeigaaGreatDoorL
import Derived.Test.YtkikcleofaeigaaGreatDoorB
import Derived.Test.YtkikcleofaeigaaGreatDoorC
set_option linter.all false

section
set_option maxRecDepth 100000
set_option maxHeartbeats 1000000
namespace ParF
open Go Go.Abs Go.Proofs Pm
theorem skp_nil {ts : List Tok} (hk : ∀ t ∈ ts, t.1 ≠ 100) (h : (pk ts).1 = 100) : skp ts = [] := by
  cases hs : skp ts with
  | nil => rfl
  | cons t r =>
    exfalso
    have hm : t ∈ ts := by
      have := skp_split ts
      rw [← this, hs]; exact List.mem_append_right _ (List.mem_cons_self ..)
    rw [pk, hs] at h
    exact hk t hm h
theorem take_all {ts : List Tok} (h : skp ts = []) : ts.takeWhile triv = ts := by
  have := skp_split ts
  rw [h, List.append_nil] at this
  exact this
theorem idx_0 (t i : Nat) : aIndexAddr Tryz.prog 50 (.rs t 3 i 0 1) (.int .i64 0) = some (.ref i 0) := idx_top t i 0
theorem file_out {ts : List Tok} (hk : ∀ t ∈ ts, t.1 ≠ 100) {n : Nat} (hn : ts.length + 20 ≤ n) {P Z : Nat} {s : Heap} {rest : List Tok} {k : Nat} {cs : List Tree} {J : List Nat} {c0 : List AV} (h : PR ts P s rest [] k cs J) (hZ : s[Z]? = some (52, c0)) (hc : c0.length = 3) (hj : Z ∉ J)
    (he : (pk rest).1 = 100) (hb : szL cs + ts.length < 900000000) :
    ∃ a s1 Q s3 s4 row, aCall Tryz.prog (den C n) 61 [.ref P 0] s = some (.tup [], s1) ∧ aLoad false false 1 (.ref P 2) s1 = some (.rs 52 3 Q 0 1, s1) ∧ aLoad false true 3 (.ref Q 0) s1 = some (.agg row, s1) ∧ pubR (some (.agg row, s1)) = some (a, s3) ∧ aStore 3 s3 (.ref Z 0) a = some s4 ∧
      aLoad false true 3 (.ref Z 0) s4 = some (a, s4) ∧ IsT (.mk k [] (cs ++ rest.map leaf)) a := by
  obtain ⟨pos, i, rfl, h⟩ := h
  have hc1 := len_le_sz cs
  have hrk : ∀ t ∈ ts.drop pos, t.1 ≠ 100 := fun t ht => hk t (List.mem_of_mem_drop ht)
  have hs0 := skp_nil hrk he
  have ht0 := take_all hs0
  have hlen := h.len
  obtain ⟨s1, i1, J1, pos1, q1, d1, p1, x1⟩ := skip_run h (by show cs.length + ts.length + 0 < _; omega) (n := n) (by omega)
  rw [ht0] at p1
  obtain ⟨tk, Q, junk, f, rfl⟩ := p1.facts
  obtain ⟨a, s3, e3, hT, l3, f3⟩ := pub_lv f.ok
  have hZ1 := (x1.fr Z (glt hZ) hj).trans hZ
  have hj1 := x1.notin (glt hZ) hj
  have hid : i1 ≠ some Z := fun e => hj1 (by rw [e]; unfold JJ; simp)
  have hZ3 := (f3 Z hid).trans hZ1
  obtain ⟨a1, a2, a3, a4⟩ := hT.cells
  have hsol : a.solid = true := by rw [a4]; rfl
  have hst : stCells a = a.cells := by rw [a4]; exact a2
  have st4 : aStore 3 s3 (.ref Z 0) a = some (s3.set Z (52, a.cells)) := by
    rw [ParF.st (n := 3) (o := 0) (v := a) hZ3 (by decide) hsol a1 (by omega), hst]
    have := setL_end [] a.cells c0 (by omega)
    rw [List.nil_append, List.nil_append] at this
    rw [show setL c0 0 a.cells = a.cells from this]
  have hr := row_length ([] ++ [(⟨k, cs ++ (ts.drop pos).map leaf, i1⟩ : Lv)])
  have ldq : aLoad false true 3 (.ref Q 0) s1 = some (.agg (Lv.row ⟨k, cs ++ (ts.drop pos).map leaf, i1⟩), s1) := by
    have := ldA (n := 3) (o := ([] : List Lv).length * 3) f.row (by decide) (by rw [app_len, hr]; show 0 + 3 ≤ 3 * 1 + _; omega) (by decide)
    rw [row_drop] at this
    exact this
  refine ⟨a, s1, Q, s3, _, _, q1, ld (o := 2) f.par (by decide) rfl (by decide), ldq, e3, st4, ?_, hT⟩
  rw [ldA (o := 0) (gset_eq hZ3) (by decide) (by omega) (by decide), List.drop_zero, List.take_of_length_le (by omega), ← a4]
theorem l21 {ts : List Tok} (hk : ∀ t ∈ ts, t.1 ≠ 100) {n P Z : Nat} : ∀ (m : Nat), m * 20 + ts.length + 120 ≤ n → ∀ s rest k cs J b rest' cs' c0, PR ts P s rest [] k cs J → s[Z]? = some (52, c0) → c0.length = 3 → Z ∉ J → run m gFile rest cs = some (b, rest', cs') → szL cs' + ts.length < 900000000 →
    ∃ a s', (∀ M n' e, m < M → e 6 = .ref P 0 → e 2 = .ref Z 0 → aLoop (F21_L0 (den C n) n') M e s = some (.tup [a, I 0], s')) ∧ IsT (.mk k [] (cs' ++ rest'.map leaf)) a := by
  intro m
  induction m with
  | zero => intro _ s rest k cs J b rest' cs' c0 h _ _ _ hr; rw [Pm.run_zero] at hr; cases hr
  | succ m ih =>
    intro hn s rest k cs J b rest' cs' c0 h hZ hc0 hj hr hb
    have hn0 : m * 20 + ts.length + 120 ≤ n := by omega
    obtain ⟨m', hm', hw⟩ := whil_inv hr
    cases hm'
    obtain ⟨sa, qa, pa, xa⟩ := (eof_rd ts).use (n := n) (by omega) h
    have qa2 : aCall Tryz.prog (den C n) 59 [.ref P 0] s = some (.bool (ev rEof rest), sa) := qa
    have hZa := (xa.fr Z (glt hZ) hj).trans hZ
    rcases hw with ⟨hc, rfl, rfl, rfl⟩ | ⟨hc, hrb, hb0⟩ | ⟨hc, tw, cw, hrb, hrw, hzw⟩
    · have he : (pk rest').1 = 100 := by
        have : (!((pk rest').1 == 100)) = false := hc
        simpa using this
      have he2 : ev rEof rest' = true := by
        show ((pk rest').1 == 100) = true
        simp [he]
      rw [he2] at qa2
      obtain ⟨a, s1, Q, s3, s4, row, e1, e2, e3, e4, e5, e6, hT⟩ := file_out hk (n := n) (by omega) pa hZa hc0 hj he (by omega)
      have hast : a.strip = a := by rw [hT.cells.2.2.2]; rfl
      refine ⟨a, s4, fun M n' e hM he6 he2 => ?_, hT⟩
      obtain ⟨M, rfl⟩ : ∃ j, M = j + 1 := ⟨M - 1, by omega⟩
      rw [aLoop, F21_L0]
      simp -implicitDefEqProofs only [sL, he6, he2, qa2, e1, e2, idx_0, e3, e4, hast, e5, e6]
    · exact absurd (val_false (by rfl) hrb) (by decide)
    · have he2 : ev rEof rest = false := by
        have : (!((pk rest).1 == 100)) = true := hc
        show ((pk rest).1 == 100) = false
        simpa using this
      rw [he2] at qa2
      obtain ⟨m1, b1, t1, c1, hm1, ha1, hr1, hz1⟩ := seq_inv hrb
      obtain ⟨-, rfl, rfl⟩ := ret_inv hr1
      have hz2 : szL cw ≤ szL cs' := hzw
      obtain ⟨s1, J1, q1, p1, x1⟩ := s60 ts m1 n (by omega) P sa rest [] k cs J b1 tw cw pa ha1 (by show 0 + _ < _; omega)
      have e1 : aCall Tryz.prog (den C n) 60 [.ref P 0] sa = some (.tup [], s1) := q1
      have hZ1 := (x1.fr Z (glt hZa) hj).trans hZa
      obtain ⟨a, s2, q2, hT⟩ := ih hn0 s1 tw k cw J1 b rest' cs' c0 p1 hZ1 hc0 (x1.notin (glt hZa) hj) hrw hb
      refine ⟨a, s2, fun M n' e hM he6 he2' => ?_, hT⟩
      obtain ⟨M, rfl⟩ : ∃ j, M = j + 1 := ⟨M - 1, by omega⟩
      rw [aLoop, F21_L0]
      simp -implicitDefEqProofs only [sL, he6, he2', qa2, e1]
      exact q2 _ _ _ (by omega) ((upds_get _ _ _ rfl).trans he6) ((upds_get _ _ _ rfl).trans he2')
def IsFile (ts : List Tok) (T : Tree) : Prop := ∃ t' es, Runs gFile ts [] false t' es ∧ (pk t').1 = 100 ∧ T = .mk 1 [] (es ++ t'.map leaf) ∧ szL es + 24 * t'.length ≤ 24 * ts.length ∧ dpL es ≤ 6 + 2 * ts.length
theorem isFile_ex (ts : List Tok) : ∃ T, IsFile ts T := by
  obtain ⟨t', es, h1, h2, h3⟩ := file_does ts
  refine ⟨_, t', es, h1, h2, rfl, ?_, ?_⟩
  · simp only [Sp] at h3; omega
  · simp only [Sp] at h3; omega
theorem toks_is (l : List UInt8) : IsToks (LexF.accV (LexF.tokz l)).strip (LexF.tokz l) := by
  rcases LexF.accV_strip (LexF.tokz l) with h | ⟨h1, h2⟩
  · exact .inr ⟨80, h⟩
  · exact .inl ⟨h2, h1⟩
theorem parse_run (l : List UInt8) (hl : l.length ≤ 2000) (hk : ∀ t ∈ LexF.tokz l, t.1 ≠ 100) : ∃ T a, IsFile (LexF.tokz l) T ∧ IsT T a ∧ AC C 21 [.str l] (.tup [a, I 0]) := by
  obtain ⟨T, hF⟩ := isFile_ex (LexF.tokz l)
  obtain ⟨t', es, h1, h2, h3, h4, h5⟩ := id hF
  obtain ⟨m, hm⟩ := run_of h1
  have hlt := LexF.tokz_length l
  have tokI := toks_is l
  generalize hts : LexF.tokz l = ts at *
  have hts1 : ts.length ≤ 2000 := by omega
  obtain ⟨N0, q0⟩ := LexF.AC.at (LexF.tok_run l)
  have ht : LexF.tokR l = .tup [(LexF.accV (LexF.tokz l)).strip, I 0] := by unfold LexF.tokR; rw [if_neg (by omega)]
  rw [ht, hts] at q0
  generalize (LexF.accV ts).strip = tk at *
  have hst := toks_strip tokI
  -- the heap when the loop begins
  let s0 : Heap := [(52, [I 0, .str [], .nils]), (52, [I 1, .str [], .nils]), (128, [tk, I 0, .rs 52 3 1 0 1])]
  have ps : PS ts 2 s0 0 ([] ++ [⟨1, [], none⟩]) (JJ 2 1 [] ⟨1, [], none⟩) :=
    Fs.ps (tk := tk) (junk := []) ⟨tokI, rfl, rfl, by decide, nofun, nofun, List.nodup_nil, rfl, nofun, Nat.zero_le _, by omega⟩
  have hrun : ∀ n, m * 20 + ts.length + 120 ≤ n → ∃ a s', (∀ M n' e, m < M → e 6 = .ref 2 0 → e 2 = .ref 0 0 → aLoop (F21_L0 (den C n) n') M e s0 = some (.tup [a, I 0], s')) ∧ IsT T a := by
    intro n hn
    rw [h3]
    exact l21 hk (Z := 0) m hn s0 ts 1 [] _ false t' es [I 0, .str [], .nils] ⟨0, none, rfl, ps⟩ rfl rfl (by unfold JJ; simp) hm (by omega)
  have hm1 : 0 < m := by
    cases m with
    | zero => rw [Pm.run_zero] at hm; cases hm
    | succ m => omega
  obtain ⟨a, s', q, hT⟩ := hrun (N0 + m * 20 + ts.length + 120) (by omega)
  refine ⟨T, a, hF, hT, AC.one (n := N0 + m * 20 + ts.length + 120 + 1) (s1 := s') en21 rfl ?_ ?_⟩
  · rw [noRef_tup, noRefL_cons, noRefL_cons, noRefL_nil, noRef_int, hT.noRef]; rfl
  · have q1 := q0 (N0 + m * 20 + ts.length + 120) (by omega) [(52, [I 0, .str [], .nils])]
    have hmn : m < N0 + m * 20 + ts.length + 120 := by omega
    generalize N0 + m * 20 + ts.length + 120 = n at *
    have hb := build52_1 (I 1) rfl rfl rfl
    have z52 : aAlloc Tryz.prog 52 [] = some (.ref 0 0, [(52, [I 0, .str [], .nils])]) := by rw [zero52]; rfl
    have rb := rsbuild (s := [(52, [I 0, .str [], .nils])]) (a := .agg [I 1, .str [], .nils]) (t := .mk 1 [] []) (.mk _ _ _ _ .nil)
    have rb : aRsBuild Tryz.prog 50 1 [(0, .agg [I 1, .str [], .nils])] [(52, [I 0, .str [], .nils])] = some (.rs 52 3 1 0 1, [(52, [I 0, .str [], .nils]), (52, [I 1, .str [], .nils])]) := rb
    have b128 : aBuild Tryz.prog 128 [(0, tk), (2, .rs 52 3 1 0 1)] = some (.agg [tk, I 0, .rs 52 3 1 0 1]) := by
      have hz : zeroOf Tryz.prog 128 = some (.agg [.nils, I 0, .nils]) := by kernel_rfl
      have hu : (match Tryz.prog.underlying 128 with | some (.struct fs) => placesOf Tryz.prog fs.toList | _ => none) = some [(0, 1), (1, 1), (2, 1)] := by kernel_rfl
      have c1 : tk.cells = [tk] := by rcases tokI with ⟨e, _⟩ | ⟨T, e⟩ <;> rw [e] <;> rfl
      have c2 : tk.solid = true := by rcases tokI with ⟨e, _⟩ | ⟨T, e⟩ <;> rw [e] <;> rfl
      have c4 : (AV.rs 52 3 1 0 1).cells = [.rs 52 3 1 0 1] := rfl
      have c5 : (AV.rs 52 3 1 0 1).solid = true := rfl
      unfold aBuild
      split at hu
      · rename_i fs hh
        rw [hz, hh]
        simp [hu, aFill, setL, c1, c2, hst, c4, c5, strip_rs, cells_int]
      · cases hu
    have bx : aBox true 128 (.agg [tk, I 0, .rs 52 3 1 0 1]) [(52, [I 0, .str [], .nils]), (52, [I 1, .str [], .nils])] = some (.ref 2 0, s0) := by
      simp [aBox, hst, strip_rs, s0]
    have q1 : aCall Tryz.prog (den C n) 58 [.str l] [(52, [I 0, .str [], .nils])] = some (.tup [tk, .int .i64 0], [(52, [I 0, .str [], .nils])]) := q1
    rw [F21_eq, F21]
    simp -implicitDefEqProofs only [sL, z52, q1, hst, show ((0 : Int) != 0) = false from rfl, hb, rb, b128, bx]
    exact q _ _ _ hmn rfl rfl
end ParF
end

section
namespace ParF
open Go Go.Abs Go.Proofs
theorem ex_den : (den C 120 34 [] []).map (·.1) = some (.bool true) := by kernel_rfl
theorem en34 : enterable C.P 34 = true := by kernel_rfl
theorem ex_run : AC C 34 [] (.bool true) := by
  have h := ex_den
  rw [Option.map_eq_some_iff] at h
  obtain ⟨⟨v, s⟩, h1, h2⟩ := h
  cases h2
  exact AC.one en34 rfl rfl h1
end ParF
end

section
set_option maxRecDepth 100000
set_option maxHeartbeats 1000000
namespace ParF
open Go Go.Abs Go.Proofs Pm
theorem len9p (s : List UInt8) : aLen Tryz.prog 9 (.str s) = some (I s.length) := LexF.len9 s
def bytesV (bs : List UInt8) : List AV := bs.map fun b => .int .u8 b.toNat
def bufV (bs : List UInt8) : AV := match bs with
  | [] => .nils
  | b :: r => .sl 5 1 (bytesV (b :: r)) .own
def Bld (s : Heap) (id : Nat) (bs : List UInt8) : Prop := ∃ a, s[id]? = some (112, [a, bufV bs]) ∧ (a = .nilp ∨ a = .ref id 0)
theorem bCheck_ok {s : Heap} {id : Nat} {a b : AV} (h : s[id]? = some (112, [a, b])) (ha : a = .nilp ∨ a = .ref id 0) : bCheck 112 [.ref id 0] s = some (.tup [], s.set id (112, [.ref id 0, b])) := by
  rcases ha with rfl | rfl
  · simp [bCheck, h]
  · simp only [bCheck, h, and_self, if_true]
    congr 2
    apply List.ext_getElem?
    intro i
    by_cases e : id = i
    · subst e
      rw [h, List.getElem?_set_self (List.getElem?_eq_some_iff.1 h).1]
    · rw [List.getElem?_set_ne e]
theorem under110 : Tryz.prog.underlying 110 = some (.slice 5) := by kernel_rfl
theorem info5' : ((Tryz.prog.info? 5).map fun i => (i.size, i.bytes, i.zero.map fun z => z.cells.size)) = some (1, 1, some 1) := by kernel_rfl
theorem info5 : ∃ i, Tryz.prog.info? 5 = some i ∧ i.size = 1 ∧ i.bytes = 1 ∧ ∃ z, i.zero = some z ∧ z.cells.size = 1 := by
  have h := info5'
  rw [Option.map_eq_some_iff] at h
  obtain ⟨i, h1, h2⟩ := h
  simp only [Prod.mk.injEq, Option.map_eq_some_iff] at h2
  exact ⟨i, h1, h2.1, h2.2.1, h2.2.2⟩
theorem app_ok (bs x : List UInt8) (h : bs.length + x.length < 1000000000) : aAppend Tryz.prog 110 9 (bufV bs) (.str x) = some (bufV (bs ++ x)) := by
  obtain ⟨i, h1, h2, h3, z, h4, h5⟩ := info5
  unfold aAppend
  rw [under110, LexF.under9]
  simp only [h1, h2, srcOf, if_true, h4, h5, ne_eq, not_true, if_false, h3, Nat.mul_one]
  cases bs with
  | nil =>
    simp only [bufV, List.nil_append]
    cases x with
    | nil => simp
    | cons a r =>
      simp only [List.length_map, List.length_cons, List.map_cons, bytesV] at *
      rw [if_pos (by omega)]
  | cons b r =>
    simp only [bufV, bytesV, List.length_map, List.length_cons, List.map_cons, List.cons_append, List.map_append] at *
    rw [if_pos ⟨trivial, trivial, by omega, by omega⟩]
theorem bufV_solid (bs : List UInt8) : (bufV bs).solid = true ∧ (bufV bs).cells.length = 1 ∧ stCells (bufV bs) = [bufV bs] := by cases bs <;> exact ⟨rfl, rfl, rfl⟩
theorem write_run (x : List UInt8) : ∃ N, ∀ n, N ≤ n → ∀ s id bs, Bld s id bs → bs.length + x.length < 1000000000 →
    aCall Tryz.prog (den C n) 50 [.ref id 0, .str x] s = some (.tup [I x.length, .nili], s.set id (112, [.ref id 0, bufV (bs ++ x)])) := by
  refine ⟨2, fun n hn s id bs ⟨a, hs, ha⟩ hb => ?_⟩
  obtain ⟨n, rfl⟩ : ∃ m, n = m + 2 := ⟨n - 2, by omega⟩
  have hlt := (List.getElem?_eq_some_iff.1 hs).1
  have hc : enterable Tryz.prog 101 = true := by kernel_rfl
  have q1 : aCall Tryz.prog (den C (n + 1)) 101 [.ref id 0] s = some (.tup [], s.set id (112, [.ref id 0, bufV bs])) := by
    simp only [aCall, hc, if_true, noRefL, AV.noRef, Bool.false_and, Bool.false_eq_true, if_false]
    rw [den_ext (e := bCheck 112) (by rfl), bCheck_ok hs ha]
  have q2 : ∀ v, aLoad true false 1 (.ref id 1) (s.set id (112, [.ref id 0, v])) = some (v, s.set id (112, [.ref id 0, v.strip])) := fun v => by
    simp [aLoad, aLoadT, List.getElem?_set_self hlt, List.set_set, deadTy]
  obtain ⟨k1, k2, k3⟩ := bufV_solid (bs ++ x)
  have q3 : ∀ v, aStore 1 (s.set id (112, [.ref id 0, v])) (.ref id 1) (bufV (bs ++ x)) = some (s.set id (112, [.ref id 0, bufV (bs ++ x)])) := fun v => by
    simp [aStore, k1, k2, k3, List.getElem?_set_self hlt, List.set_set, setL, deadTy]
  have q4 := app_ok bs x hb
  rw [aCall, en50]
  simp only [if_true, noRefL, AV.noRef, Bool.false_and, Bool.false_eq_true, if_false]
  rw [F50_eq, F50]
  simp -implicitDefEqProofs only [sL, q1, q2, q3, q4, len9p]
theorem Bld.set {s : Heap} {id : Nat} {bs : List UInt8} (h : Bld s id bs) (bs' : List UInt8) : Bld (s.set id (112, [.ref id 0, bufV bs'])) id bs' := by
  obtain ⟨a, h, _⟩ := h
  exact ⟨_, List.getElem?_set_self (List.getElem?_eq_some_iff.1 h).1, .inr rfl⟩
theorem Bld.lt {s : Heap} {id : Nat} {bs : List UInt8} (h : Bld s id bs) : id < s.length := by
  obtain ⟨a, h, _⟩ := h
  exact (List.getElem?_eq_some_iff.1 h).1
theorem Bld.app {s : Heap} {id : Nat} {bs : List UInt8} (h : Bld s id bs) (l : Heap) : Bld (s ++ l) id bs := by
  have := h.lt
  obtain ⟨a, h, q⟩ := h
  exact ⟨a, by rw [List.getElem?_append_left this, h], q⟩
theorem alloc112 (s : Heap) : aAlloc Tryz.prog 112 s = some (.ref s.length 0, s ++ [(112, [.nilp, .nils])]) := by kernel_rfl
theorem bString_ok {s : Heap} {id : Nat} {bs : List UInt8} (h : Bld s id bs) (hl : bs.length < 1000000000) : ∃ s', bString 5 [.ref id 0] s = some (.str bs, s') := by
  obtain ⟨a, h, _⟩ := h
  cases bs with
  | nil => exact ⟨s, by simp [bString, h, bufV, deadTy]⟩
  | cons b r =>
    have := asBytes_bytes (b :: r)
    refine ⟨s.set id (112, [a, .sl 5 1 (bytesV (b :: r)) .sh]), ?_⟩
    simp only [bString, h, bufV]
    rw [if_pos ⟨trivial, by decide⟩]
    simp only [bytesV, this]
    rw [if_pos (by simp at hl; omega)]
theorem bString_run {s : Heap} {id : Nat} {bs : List UInt8} (h : Bld s id bs) (hl : bs.length < 1000000000) : ∃ s', ∀ n, aCall Tryz.prog (den C (n + 1)) 51 [.ref id 0] s = some (.str bs, s') := by
  obtain ⟨s', q⟩ := bString_ok h hl
  have hc : enterable Tryz.prog 51 = true := by kernel_rfl
  refine ⟨s', fun n => ?_⟩
  simp only [aCall, hc, if_true, noRefL, AV.noRef, Bool.false_and, Bool.false_eq_true, if_false]
  rw [den_ext (e := bString 5) (by rfl), q]
theorem idx_sl {rows : List AV} {i : Nat} {a : AV} {f : Flag} (h : rows[i]? = some a) : aIndexAddr Tryz.prog 50 (.sl 52 3 rows f) (I i) = some (.box a.cells 0) := by
  have hz : szOf Tryz.prog 52 = some 3 := by kernel_rfl
  simp [aIndexAddr, under50, hz, h]
theorem len_sl (rows : List AV) (f : Flag) : aLen Tryz.prog 50 (.sl 52 3 rows f) = some (I rows.length) := by simp [aLen, under50]
theorem IsL.len : ∀ {cs : List Tree} {rows : List AV}, IsL cs rows → rows.length = cs.length
  | _, _, .nil => rfl
  | _, _, .cons _ _ _ _ _ h => by rw [List.length_cons, List.length_cons, IsL.len h]
theorem IsL.at : ∀ {cs : List Tree} {rows : List AV}, IsL cs rows → ∀ {i : Nat} {t : Tree}, cs[i]? = some t → ∃ a, rows[i]? = some a ∧ IsT t a
  | _, _, .nil, i, t, h => by simp at h
  | _, _, .cons t a cs rows h h', 0, t', e => by
    simp only [List.getElem?_cons_zero, Option.some.injEq] at e
    subst e; exact ⟨a, rfl, h⟩
  | _, _, .cons t a cs rows h h', i + 1, t', e => by
    rw [List.getElem?_cons_succ] at e
    obtain ⟨b, h1, h2⟩ := IsL.at h' e
    exact ⟨b, by rw [List.getElem?_cons_succ, h1], h2⟩
theorem IsC.facts {cs : List Tree} {ch : AV} (h : IsC cs ch) : aLen Tryz.prog 50 ch = some (I cs.length) ∧ ∀ {i : Nat} {t : Tree}, cs[i]? = some t → ∃ a, aIndexAddr Tryz.prog 50 ch (I i) = some (.box a.cells 0) ∧ IsT t a := by
  cases h with
  | nil => exact ⟨len50_nil, fun e => by simp at e⟩
  | sl cs rows h =>
    refine ⟨by rw [len_sl, h.len], fun e => ?_⟩
    obtain ⟨a, h1, h2⟩ := h.at e
    exact ⟨a, idx_sl h1, h2⟩
theorem sget {s : Heap} {i : Nat} {v : TypeId × List AV} {l : Heap} (h : i < s.length) : (s ++ l).set i v = s.set i v ++ l := List.set_append_left _ _ h
theorem put52 (s : Heap) (b : List AV) (a : AV) (h : a.cells.length = 3) (h2 : a.cells.map AV.strip = a.cells) (h3 : a.cells.all plainC = true) (h4 : a = .agg a.cells) (hb : b.length = 3) : aStore 3 (s ++ [(52, b)]) (.ref s.length 0) a = some (s ++ [(52, a.cells)]) := by
  have hsol : a.solid = true := by rw [h4]; rfl
  have hst : stCells a = a.cells := by rw [h4]; exact h2
  rw [ParF.st (n := 3) (o := 0) (v := a) (by rw [List.getElem?_append_right (Nat.le_refl _), Nat.sub_self]; rfl) (by decide) hsol h (by omega), hst]
  have := setL_end [] a.cells b (by omega)
  rw [List.nil_append, List.nil_append] at this
  rw [show setL b 0 a.cells = a.cells from this, List.set_append_right _ _ (Nat.le_refl _), Nat.sub_self]; rfl
theorem load52 (s : Heap) (a : AV) (h : a.cells.length = 3) (h4 : a = .agg a.cells) : aLoad false true 3 (.ref s.length 0) (s ++ [(52, a.cells)]) = some (a, s ++ [(52, a.cells)]) := by
  rw [ldA (o := 0) (by rw [List.getElem?_append_right (Nat.le_refl _), Nat.sub_self]; rfl) (by decide) (by omega) (by decide), List.drop_zero, List.take_of_length_le (by omega), ← h4]
theorem src_loop {ch : AV} {cs : List Tree} (hch : IsC cs ch) (hs : (srcL cs).length < 900000000) (hc : cs.length < 900000000)
    (ih : ∀ t ∈ cs, ∀ a, IsT t a → AC C 33 [a] (.str (srcT t))) : ∀ (k i : Nat) (acc : Bytes), cs.length - i = k → i ≤ cs.length → acc ++ srcL (cs.drop i) = srcL cs →
    ∃ N, ∀ f, N ≤ f → ∀ m, k < m → ∀ n' e s, Bld s 0 acc → e 14 = I i → e 13 = I cs.length → e 12 = ch → e 3 = .ref 0 0 → ∃ s', aLoop (F33_L0 (den C f) n') m e s = some (.str (srcL cs), s') := by
  obtain ⟨hl, hat⟩ := hch.facts
  intro k
  induction k with
  | zero =>
    intro i acc hk hi he
    rw [List.drop_of_length_le (by omega), srcL, List.append_nil] at he
    subst he
    refine ⟨1, fun f hf m hm n' e s hb h14 h13 h12 h3 => ?_⟩
    obtain ⟨m, rfl⟩ : ∃ j, m = j + 1 := ⟨m - 1, by omega⟩
    obtain ⟨f, rfl⟩ : ∃ j, f = j + 1 := ⟨f - 1, by omega⟩
    have c : ¬ i < cs.length := by omega
    obtain ⟨s', q2⟩ := bString_run hb (by omega)
    have q2 := q2 f
    rw [aLoop, F33_L0]
    refine ⟨s', ?_⟩
    simp -implicitDefEqProofs only [sL, h14, h13, h3, c, q2]
  | succ k ih2 =>
    intro i acc hk hi he
    have hlt : i < cs.length := by omega
    have e0 : cs[i]? = some cs[i] := List.getElem?_eq_getElem hlt
    obtain ⟨a, ha, hT⟩ := hat e0
    obtain ⟨a1, a2, a3, a4⟩ := hT.cells
    have hst : a.strip = a := by rw [a4]; rfl
    rw [List.drop_eq_getElem_cons hlt, srcL, ← List.append_assoc] at he
    have hlen : (acc ++ srcT cs[i]).length ≤ (srcL cs).length := by rw [← he]; simp
    rw [List.length_append] at hlen
    obtain ⟨N1, q1⟩ := LexF.AC.at (ih _ (List.getElem_mem hlt) a hT)
    obtain ⟨N2, q2⟩ := write_run (srcT cs[i])
    obtain ⟨N3, q3⟩ := ih2 (i + 1) (acc ++ srcT cs[i]) (by omega) (by omega) he
    refine ⟨N1 + N2 + N3, fun f hf m hm n' e s hb h14 h13 h12 h3 => ?_⟩
    obtain ⟨m, rfl⟩ : ∃ j, m = j + 1 := ⟨m - 1, by omega⟩
    have q1 := q1 f (by omega)
    have q2 := q2 f (by omega) (s ++ [(52, a.cells)]) 0 acc (hb.app _) (by omega)
    rw [sget hb.lt] at q2
    have z52 : aAlloc Tryz.prog 52 s = some (.ref s.length 0, s ++ [(52, [I 0, .str [], .nils])]) := by rw [zero52]
    have st := put52 s [I 0, .str [], .nils] a a1 a2 a3 a4 rfl
    have ldb := load52 s a a1 a4
    have lda : ∀ s, aLoad false true 3 (.box a.cells 0) s = some (a, s) := fun s => by
      rw [aLoad_agg _ _ _ _ _ (by omega), List.drop_zero, List.take_of_length_le (by omega), ← a4]
    have e2 := wadd1 (a := i) (by omega)
    rw [aLoop, F33_L0]
    simp -implicitDefEqProofs only [sL, h14, h13, h12, h3, hlt, ha, lda, z52, st, ldb, q1, q2, e2, hst]
    exact q3 f (by omega) m (by omega) n' _ _ ((hb.set _).app _) (by simp only [upds_at, upds_nil, upd_at, if_true]) ((upds_get _ _ _ rfl).trans h13) ((upds_get _ _ _ rfl).trans h12) ((upds_get _ _ _ rfl).trans h3)
theorem okL_mem : ∀ {cs : List Tree}, okL cs = true → ∀ t ∈ cs, okT t = true
  | [], _, _, h => by cases h
  | c :: cs, hk, t, h => by
    rw [okL, Bool.and_eq_true] at hk
    rcases List.mem_cons.1 h with rfl | h
    · exact hk.1
    · exact okL_mem hk.2 t h
theorem srcL_mem : ∀ {cs : List Tree}, ∀ t ∈ cs, (srcT t).length ≤ (srcL cs).length
  | [], _, h => by cases h
  | c :: cs, t, h => by
    rw [srcL, List.length_append]
    rcases List.mem_cons.1 h with rfl | h
    · omega
    · have := srcL_mem t h; omega
theorem szL_mem : ∀ {cs : List Tree}, ∀ t ∈ cs, szT t ≤ szL cs
  | [], _, h => by cases h
  | c :: cs, t, h => by
    rw [szL]
    rcases List.mem_cons.1 h with rfl | h
    · omega
    · have := szL_mem t h; omega
theorem src_run : ∀ (n : Nat) (T : Tree) (a : AV), szT T ≤ n → IsT T a → okT T = true → (srcT T).length < 900000000 → szT T < 900000000 → AC C 33 [a] (.str (srcT T)) := by
  intro n
  induction n with
  | zero => intro T a hz; cases T; rw [szT_mk] at hz; omega
  | succ n ih =>
    intro T a hz hT hok hs hsz
    cases hT with
    | mk k t cs ch hch =>
    rw [okT, Bool.and_eq_true] at hok
    rw [szT_mk] at hz hsz
    obtain ⟨c1, c2, c3⟩ := hch.strip
    obtain ⟨hl, -⟩ := hch.facts
    refine .intro en33 (by rw [noRefL_cons, noRefL_nil, noRef_agg, noRefL_cons, noRefL_cons, noRefL_cons, noRefL_nil, noRef_int, noRef_str, c3]; rfl) (by rfl) ?_
    by_cases hk : 100 ≤ k
    · rw [if_pos hk] at hok
      have hcs : cs = [] := by simpa using hok.1
      subst hcs
      refine ⟨1, fun f hf => ⟨[], ?_⟩⟩
      have hk2 : (100 : Int) ≤ (k : Int) := by omega
      rw [F33_eq, F33, srcT, srcL, List.append_nil]
      simp -implicitDefEqProofs only [sL, hk2, c1]
    · rw [if_neg hk] at hok
      have ht : t = [] := by simpa using hok.1
      subst ht
      rw [srcT_node] at hs ⊢
      have hk2 : ¬ (100 : Int) ≤ (k : Int) := by omega
      obtain ⟨N, q⟩ := src_loop hch hs (by have := len_le_sz cs; omega) (fun t ht a hT => ih t a (by have := szL_mem t ht; omega) hT (okL_mem hok.2 t ht) (by have := srcL_mem t ht; omega) (by have := szL_mem t ht; omega)) cs.length 0 [] (by omega) (by omega) rfl
      refine ⟨N + cs.length + 1, fun f hf => ?_⟩
      have hb : Bld [(112, [.nilp, .nils])] 0 [] := ⟨.nilp, rfl, .inl rfl⟩
      rw [F33_eq, F33]
      simp -implicitDefEqProofs only [sL, hk2, c1, alloc112, List.length_nil, List.nil_append, hl, decide_false]
      exact q f (by omega) f (by omega) f _ _ hb (by simp [upds_at, upd_at]) (by simp [upds_at, upd_at]) (by simp [upds_at, upd_at]) (by simp [upds_at, upd_at])
end ParF
end

section
set_option maxRecDepth 100000
set_option maxHeartbeats 1000000
namespace ParF
open Go Go.Abs Go.Proofs Pm
mutual
def eqT : Tree → Tree → Bool
  | .mk k t cs, .mk k' t' cs' => k == k' && t == t' && eqL cs cs'
def eqL : List Tree → List Tree → Bool
  | [], [] => true
  | c :: cs, d :: ds => eqT c d && eqL cs ds
  | _, _ => false
end
theorem eqL_len : ∀ {cs ds : List Tree}, eqL cs ds = true → cs.length = ds.length
  | [], [], _ => rfl
  | c :: cs, d :: ds, h => by
    rw [eqL, Bool.and_eq_true] at h
    rw [List.length_cons, List.length_cons, eqL_len h.2]
  | [], _ :: _, h => by rw [eqL] at h; cases h; all_goals nofun
  | _ :: _, [], h => by rw [eqL] at h; cases h; all_goals nofun
mutual
theorem eqT_iff : ∀ (a b : Tree), eqT a b = true ↔ a = b
  | .mk k t cs, .mk k' t' cs' => by
    rw [eqT, Bool.and_eq_true, Bool.and_eq_true, beq_iff_eq, beq_iff_eq, eqL_iff cs cs', Tree.mk.injEq, and_assoc]
theorem eqL_iff : ∀ (a b : List Tree), eqL a b = true ↔ a = b
  | [], [] => by simp [eqL]
  | c :: cs, d :: ds => by rw [eqL, Bool.and_eq_true, eqT_iff c d, eqL_iff cs ds, List.cons.injEq]
  | [], _ :: _ => by simp [eqL]
  | _ :: _, [] => by simp [eqL]
end
theorem d25_6b (x : Ans) : drawOK C 25 (regOps Tryz.f25 6) [.silent, .silent, .silent, .silent, .silent, .silent, .silent, .silent, .silent, .silent, .silent, .silent] x = x := drawOK_base (by kernel_rfl)
theorem same_loop {ch dh : AV} {cs ds : List Tree} (hch : IsC cs ch) (hdh : IsC ds dh) (hcd : cs.length = ds.length) (hc : cs.length < 900000000) (k0 k1 t0 t1 : AV)
    (ih : ∀ t ∈ cs, ∀ u a b, IsT t a → IsT u b → AC C 25 [a, b] (.bool (eqT t u))) : ∀ (k i : Nat), cs.length - i = k → i ≤ cs.length →
    ∃ N, ∀ f, N ≤ f → ∀ m, k < m → ∀ n' e s, e 30 = I i → e 29 = I cs.length → e 2 = .box [k0, t0, ch] 0 → e 3 = .box [k1, t1, dh] 0 → ∃ s', aLoop (F25_L0 (den C f) n') m e s = some (.bool (eqL (cs.drop i) (ds.drop i)), s') := by
  obtain ⟨hl, hat⟩ := hch.facts
  obtain ⟨hl', hat'⟩ := hdh.facts
  obtain ⟨c1, c2, c3⟩ := hch.strip
  obtain ⟨c1', c2', c3'⟩ := hdh.strip
  intro k
  induction k with
  | zero =>
    intro i hk hi
    rw [List.drop_of_length_le (by omega), List.drop_of_length_le (by omega), eqL]
    refine ⟨1, fun f hf m hm n' e s h30 h29 h2 h3 => ⟨s, ?_⟩⟩
    obtain ⟨m, rfl⟩ : ∃ j, m = j + 1 := ⟨m - 1, by omega⟩
    have c : ¬ i < cs.length := by omega
    rw [aLoop, F25_L0]
    simp -implicitDefEqProofs only [sL, h30, h29, c, decide_false]
  | succ k ih2 =>
    intro i hk hi
    have hlt : i < cs.length := by omega
    have hlt' : i < ds.length := by omega
    obtain ⟨a, ha, hT⟩ := hat (List.getElem?_eq_getElem hlt)
    obtain ⟨b, hb, hU⟩ := hat' (List.getElem?_eq_getElem hlt')
    obtain ⟨a1, a2, a3, a4⟩ := hT.cells
    obtain ⟨b1, b2, b3, b4⟩ := hU.cells
    have hst : a.strip = a := by rw [a4]; rfl
    have hst' : b.strip = b := by rw [b4]; rfl
    rw [List.drop_eq_getElem_cons hlt, List.drop_eq_getElem_cons hlt', eqL]
    obtain ⟨N1, q1⟩ := LexF.AC.at (ih _ (List.getElem_mem hlt) ds[i] a b hT hU)
    obtain ⟨N3, q3⟩ := ih2 (i + 1) (by omega) (by omega)
    refine ⟨N1 + N3, fun f hf m hm n' e s h30 h29 h2 h3 => ?_⟩
    obtain ⟨m, rfl⟩ : ∃ j, m = j + 1 := ⟨m - 1, by omega⟩
    have q1 := q1 f (by omega)
    have lda : ∀ s, aLoad false true 3 (.box a.cells 0) s = some (a, s) := fun s => by
      rw [aLoad_agg _ _ _ _ _ (by omega), List.drop_zero, List.take_of_length_le (by omega), ← a4]
    have ldb : ∀ s, aLoad false true 3 (.box b.cells 0) s = some (b, s) := fun s => by
      rw [aLoad_agg _ _ _ _ _ (by omega), List.drop_zero, List.take_of_length_le (by omega), ← b4]
    have e2 := wadd1 (a := i) (by omega)
    have nr : noRefL [a, b] = true := by rw [noRefL_cons, noRefL_cons, noRefL_nil, hT.noRef, hU.noRef]; rfl
    rw [aLoop, F25_L0]
    cases hv : eqT cs[i] ds[i] with
    | false =>
      rw [hv] at q1
      refine ⟨s, ?_⟩
      simp -implicitDefEqProofs only [sL, h30, h29, h2, h3, hlt, c1, c1', ha, hb, lda, ldb, hst, hst', q1, hT.noRef, hU.noRef, d25_6b, Bool.false_and]
    | true =>
      rw [hv] at q1
      simp -implicitDefEqProofs only [sL, h30, h29, h2, h3, hlt, c1, c1', ha, hb, lda, ldb, hst, hst', q1, hT.noRef, hU.noRef, d25_6b, e2, Bool.true_and]
      exact q3 f (by omega) m (by omega) n' _ _ (by simp only [upds_at, upds_nil, upd_at, if_true]) ((upds_get _ _ _ rfl).trans h29) ((upds_get _ _ _ rfl).trans h2) ((upds_get _ _ _ rfl).trans h3)
theorem same_run : ∀ (n : Nat) (T U : Tree) (a b : AV), szT T ≤ n → IsT T a → IsT U b → szT T < 900000000 → AC C 25 [a, b] (.bool (eqT T U)) := by
  intro n
  induction n with
  | zero => intro T U a b hz; cases T; rw [szT_mk] at hz; omega
  | succ n ih =>
    intro T U a b hz hT hU hsz
    have nr : noRefL [a, b] = true := by rw [noRefL_cons, noRefL_cons, noRefL_nil, hT.noRef, hU.noRef]; rfl
    cases hT with
    | mk k t cs ch hch =>
    cases hU with
    | mk k' t' ds dh hdh =>
    rw [szT_mk] at hz hsz
    obtain ⟨c1, c2, c3⟩ := hch.strip
    obtain ⟨hl, -⟩ := hch.facts
    obtain ⟨c1', c2', c3'⟩ := hdh.strip
    obtain ⟨hl', -⟩ := hdh.facts
    refine .intro en25 nr (by rfl) ?_
    rw [eqT]
    by_cases e1 : k = k'
    · subst e1
      by_cases e2 : t = t'
      · subst e2
        by_cases e3 : cs.length = ds.length
        · obtain ⟨N, q⟩ := same_loop hch hdh e3 (by have := len_le_sz cs; omega) (I k) (I k) (.str t) (.str t) (fun x hx u a b h1 h2 => ih x u a b (by have := szL_mem x hx; omega) h1 h2 (by have := szL_mem x hx; omega)) cs.length 0 (by omega) (by omega)
          rw [List.drop_zero, List.drop_zero] at q
          refine ⟨N + cs.length + 1, fun f hf => ?_⟩
          have z1 : ((k : Int) != (k : Int)) = false := by simp
          have z2 : aBin Tryz.prog .neq 9 (.str t) (.str t) = some (.bool false) := by simp [aBin, strBin]
          have z3 : ((ds.length : Int) != (ds.length : Int)) = false := by simp
          rw [e3] at hl
          rw [F25_eq, F25, show (k == k && t == t && eqL cs ds) = eqL cs ds by simp]
          simp -implicitDefEqProofs only [sL, c1, c1', hl, hl', z1, z2, z3]
          exact q f (by omega) f (by omega) f _ _ (by simp [upds_at, upd_at]) (by simp [upds_at, upd_at, e3]) (by simp [upds_at, upd_at]) (by simp [upds_at, upd_at])
        · have z : eqL cs ds = false := by
            cases h : eqL cs ds with
            | false => rfl
            | true => exact absurd (eqL_len h) e3
          have z1 : ((k : Int) != (k : Int)) = false := by simp
          have z2 : aBin Tryz.prog .neq 9 (.str t) (.str t) = some (.bool false) := by simp [aBin, strBin]
          have z3 : ((cs.length : Int) != (ds.length : Int)) = true := by simp; omega
          refine ⟨1, fun f hf => ⟨[], ?_⟩⟩
          rw [F25_eq, F25, z, Bool.and_false]
          simp -implicitDefEqProofs only [sL, c1, c1', hl, hl', z1, z2, z3]
      · have z1 : ((k : Int) != (k : Int)) = false := by simp
        have z2 : aBin Tryz.prog .neq 9 (.str t) (.str t') = some (.bool true) := by simp [aBin, strBin, e2]
        have z : (t == t') = false := by simp [e2]
        refine ⟨1, fun f hf => ⟨[], ?_⟩⟩
        rw [F25_eq, F25, z, Bool.and_false, Bool.false_and]
        simp -implicitDefEqProofs only [sL, c1, c1', hl, hl', z1, z2]
    · have z1 : ((k : Int) != (k' : Int)) = true := by simp; omega
      have z : (k == k') = false := by simp [e1]
      refine ⟨1, fun f hf => ⟨[], ?_⟩⟩
      rw [F25_eq, F25, z, Bool.false_and, Bool.false_and]
      simp -implicitDefEqProofs only [sL, c1, c1', hl, hl', z1]
end ParF
end

section
set_option maxRecDepth 100000
set_option maxHeartbeats 1000000
namespace ParF
open Go Go.Abs Go.Proofs Pm
theorem first_kind (l : List UInt8) (h : l ≠ []) : 100 < (LexF.first l).2 := by
  cases l with
  | nil => exact absurd rfl h
  | cons c r =>
    unfold LexF.first
    simp only
    repeat' split
    all_goals first
      | (unfold LexF.scanStr; split <;> exact of_decide_eq_true rfl)
      | exact of_decide_eq_true rfl
theorem tokz_kind : ∀ (n : Nat) (l : List UInt8), l.length ≤ n → ∀ t ∈ LexF.tokz l, 100 < t.1 := by
  intro n
  induction n with
  | zero =>
    intro l hl
    have : l = [] := List.length_eq_zero_iff.1 (by omega)
    subst this; nofun
  | succ n ih =>
    intro l hl t ht
    by_cases h : l = []
    · subst h; cases ht
    · rw [LexF.tokz_cons h] at ht
      rcases List.mem_cons.1 ht with rfl | ht
      · exact first_kind l h
      · have := LexF.first_bounds l h
        exact ih _ (by rw [List.length_drop]; omega) t ht
theorem srcK_eq (ts : List Tok) : srcK ts = LexF.srcOfT ts := by
  induction ts with
  | nil => rfl
  | cons t ts ih => rw [srcK, ih]; simp [LexF.srcOfT]
theorem parse_err (l : List UInt8) (hl : 2000 < l.length) : AC C 21 [.str l] (.tup [.agg [I 0, .str [], .nils], I 2]) := by
  obtain ⟨N0, q0⟩ := LexF.AC.at (LexF.tok_run l)
  have ht : LexF.tokR l = .tup [.nils, I 2] := by unfold LexF.tokR; rw [if_pos hl]
  rw [ht] at q0
  refine .intro en21 rfl rfl ⟨N0, fun n hn => ?_⟩
  have z52 : aAlloc Tryz.prog 52 [] = some (.ref 0 0, [(52, [I 0, .str [], .nils])]) := by rw [zero52]; rfl
  have hb : aBuild Tryz.prog 52 [] = some (.agg [I 0, .str [], .nils]) := by kernel_rfl
  have q1 := q0 n hn [(52, [I 0, .str [], .nils])]
  have st := put52 [] [I 0, .str [], .nils] (.agg [I 0, .str [], .nils]) rfl rfl rfl rfl rfl
  rw [List.nil_append] at st
  have ldb := load52 [] (.agg [I 0, .str [], .nils]) rfl rfl
  refine ⟨[(52, [I 0, .str [], .nils])], ?_⟩
  rw [F21_eq, F21]
  simp -implicitDefEqProofs only [sL, z52, q1, show ((2 : Int) != 0) = true from rfl, hb, st, ldb, List.length_nil, List.nil_append]
  rfl
theorem isFile_facts {l : List UInt8} {T : Tree} (h : IsFile (LexF.tokz l) T) : okT T = true ∧ srcT T = l ∧ szT T ≤ 24 * l.length + 1 ∧ ∃ cs, T = .mk 1 [] cs := by
  obtain ⟨t', es, h1, h2, h3, h4, h5⟩ := h
  subst h3
  have hk := tokz_kind l.length l (Nat.le_refl _)
  have hlt := LexF.tokz_length l
  refine ⟨?_, ?_, ?_, _, rfl⟩
  · rw [okT_node (by decide), okL_append, runs_ok h1 (fun t ht => Nat.le_of_lt (hk t ht)) rfl, okL_leaf]
    · rfl
    · intro t ht
      obtain ⟨k, rfl⟩ := runs_drop h1
      exact Nat.le_of_lt (hk t (List.mem_of_mem_drop ht))
  · have := runs_src h1
    rw [srcT_node, srcL_append, srcL_leaf, this, srcK_eq, LexF.tokz_src _ l (Nat.le_refl _)]; rfl
  · rw [szT_mk, szL_append, szL_leaf]; omega
theorem lossless_run (l : List UInt8) : AC C 10 [.str l] (.bool true) := by
  refine .intro en10 rfl rfl ?_
  obtain ⟨N1, q1⟩ := LexF.AC.at ex_run
  by_cases hl : l.length ≤ 2000
  · obtain ⟨T, a, hF, hT, hp⟩ := parse_run l hl (fun t ht => by have := tokz_kind l.length l (Nat.le_refl _) t ht; omega)
    obtain ⟨ok, src, sz, cs, rfl⟩ := isFile_facts hF
    have hs := src_run _ _ a (Nat.le_refl _) hT ok (by rw [src]; omega) (by omega)
    rw [src] at hs
    obtain ⟨N2, q2⟩ := LexF.AC.at hp
    obtain ⟨N3, q3⟩ := LexF.AC.at hs
    obtain ⟨a1, a2, a3, a4⟩ := hT.cells
    have hst : a.strip = a := by rw [a4]; rfl
    refine ⟨N1 + N2 + N3, fun n hn => ?_⟩
    have q1 := q1 n (by omega)
    have q2 := q2 n (by omega)
    have q3 := q3 n (by omega)
    have z52 : aAlloc Tryz.prog 52 [] = some (.ref 0 0, [(52, [I 0, .str [], .nils])]) := by rw [zero52]; rfl
    have st : aStore 3 [(52, [I 0, .str [], .nils])] (.ref 0 0) a = some [(52, a.cells)] := put52 [] [I 0, .str [], .nils] a a1 a2 a3 a4 rfl
    have ldb : aLoad false true 3 (.ref 0 0) [(52, a.cells)] = some (a, [(52, a.cells)]) := load52 [] a a1 a4
    have ld0 : aLoad false false 1 (.ref 0 0) [(52, a.cells)] = some (I 1, [(52, a.cells)]) := by
      cases hT; rfl
    have z2 : aBin Tryz.prog .eql 9 (.str l) (.str l) = some (.bool true) := by simp [aBin, strBin]
    refine ⟨[(52, a.cells)], ?_⟩
    rw [F10_eq, F10]
    simp -implicitDefEqProofs only [sL, q1, q2, q3, hst, z52, show ((0 : Int) != 0) = false from rfl, st, ldb, ld0, z2, show ((1 : Int) == 1) = true from rfl, decide_eq_true_eq]
  · obtain ⟨N2, q2⟩ := LexF.AC.at (parse_err l (by omega))
    have hT : IsT (.mk 0 [] []) (.agg [I 0, .str [], .nils]) := .mk _ _ _ _ .nil
    obtain ⟨N3, q3⟩ := LexF.AC.at (same_run 1 _ _ _ _ (by rw [szT_mk, szL_nil]; omega) hT hT (by rw [szT_mk, szL_nil]; omega))
    have e0 : eqT (.mk 0 [] []) (.mk 0 [] []) = true := (eqT_iff _ _).2 rfl
    rw [e0] at q3
    refine ⟨N1 + N2 + N3, fun n hn => ?_⟩
    have q1 := q1 n (by omega)
    have q2 := q2 n (by omega)
    have q3 := q3 n (by omega)
    have z52 : aAlloc Tryz.prog 52 [] = some (.ref 0 0, [(52, [I 0, .str [], .nils])]) := by rw [zero52]; rfl
    have hb : aBuild Tryz.prog 52 [] = some (.agg [I 0, .str [], .nils]) := by kernel_rfl
    have st : aStore 3 [(52, [I 0, .str [], .nils])] (.ref 0 0) (.agg [I 0, .str [], .nils]) = some [(52, [I 0, .str [], .nils])] := put52 [] [I 0, .str [], .nils] (.agg [I 0, .str [], .nils]) rfl rfl rfl rfl rfl
    have ldb : aLoad false true 3 (.ref 0 0) [(52, [I 0, .str [], .nils])] = some (.agg [I 0, .str [], .nils], [(52, [I 0, .str [], .nils])]) := load52 [] (.agg [I 0, .str [], .nils]) rfl rfl
    have z2 : (2000 : Int) < (l.length : Int) := by omega
    refine ⟨[(52, [I 0, .str [], .nils])], ?_⟩
    rw [F10_eq, F10]
    simp -implicitDefEqProofs only [sL, q1, q2, q3, z52, show ((2 : Int) != 0) = true from rfl, List.map_cons, List.map_nil, st, ldb, hb, len9p, z2]
end ParF
end
