/- EvR -/
import Derived.Test.YtfhoaocedkkjbaaGreatDoorL
import Derived.Test.YtfhoaocedkkjbaaGreatDoorN
import Derived.LaidLaws
import Derived.ProofKit
import Derived.SizedLaws
import Derived.Lib.LaidU8
import Derived.Lay
import Derived.Deep.Slices
set_option linter.all false

section
set_option maxRecDepth 100000
namespace Srv
open Go Go.Abs Go.Proofs RopeF
def lay0 (W : World) : Lay := { S := fun b o => W.cell? ⟨b, o, none⟩, live := fun _ => false, loc := fun _ => 0, sz := fun _ => 0, bs := fun _ => 0, m := false }
def ow0 (W : World) : Owns := fun b => if b < W.heap.size then .frame else .free
theorem st_0 (W : World) : Abs.St W (lay0 W) (ow0 W) [] W where
  live := fun id => by simp [lay0, has]
  imm := fun b o v h => h
  obj := fun id cs h _ => by simp at h
  used := fun b h => by unfold ow0 at h; split at h; assumption; exact absurd rfl h
  base := fun b h => by simp [ow0, h]
  below := RowKit.Below.refl _ _
theorem run_true (K75 : Cached75) {N : Nat} {g : FuncId} {args : List AV} {s' : Heap} (q : den C N g args [] = some (.bool true, s')) (hn : ∀ a ∈ args, a.isOwn = false) (W : World) (hT : SpTab W) {cargs : List Value} (ha : RelL (lay0 W) args cargs) :
    Calls Tryz.prog g cargs.toArray W fun e W' => e = .returned (.bool true) ∧ RowKit.Below W.heap.size W W' := by
  have D : DOK C W (den C N) := den_ok (fun g cs e => by cases e) (by kernel_rfl) (fun g e D args s v s' h1 hD h2 hn => ext_ok K75 W hT g e D args s v s' h1 hD h2 hn) N
  refine (D g args [] _ s' q hn (lay0 W) (ow0 W) W cargs ⟨fun g cs e => (by cases e), rfl⟩ (st_0 W) ha).mono ?_
  rintro e W' ⟨cv, rfl, L', ow', hx, hs, hr, _⟩
  cases hr
  exact ⟨rfl, hs.below⟩
theorem rel_bytes {L : Lay} (s : ByteArray) : Rel L (.str s.data.toList) (.string s) := by
  have h := Rel.str (L := L) s.data.toList
  have e : (⟨s.data.toList.toArray⟩ : ByteArray) = s := by cases s; simp
  rw [e] at h
  exact h
theorem under3r : Tryz.prog.underlying 3 = some (.int .i64) := by kernel_rfl
theorem under9r : Tryz.prog.underlying 9 = some .string := by kernel_rfl
noncomputable def fsOf (t : TypeId) : Array Field := match Tryz.prog.underlying t with | some (.struct fs) => fs | _ => #[]
theorem u70r : Tryz.prog.underlying 70 = some (.struct (fsOf 70)) := by kernel_rfl
theorem u33r : Tryz.prog.underlying 33 = some (.struct (fsOf 33)) := by kernel_rfl
theorem u35r : Tryz.prog.underlying 35 = some (.struct (fsOf 35)) := by kernel_rfl
theorem f70r : (fsOf 70).toList.map (fun f => (f.type, f.offset)) = [(3, 0), (3, 1), (9, 2)] := by kernel_rfl
theorem f33r : (fsOf 33).toList.map (fun f => (f.type, f.offset)) = [(3, 0), (3, 1), (3, 2), (3, 3), (9, 4)] := by kernel_rfl
theorem f35r : (fsOf 35).toList.map (fun f => (f.type, f.offset)) = [(3, 0), (3, 1), (3, 2), (9, 3), (9, 4), (22, 5), (33, 6)] := by kernel_rfl
theorem c3r : Tryz.prog.cellsOf 3 = 1 := by kernel_rfl
theorem c9r : Tryz.prog.cellsOf 9 = 1 := by kernel_rfl
theorem c22r : Tryz.prog.cellsOf 22 = 1 := by kernel_rfl
theorem c33r : Tryz.prog.cellsOf 33 = 5 := by kernel_rfl
theorem c35r : Tryz.prog.cellsOf 35 = 11 := by kernel_rfl
theorem c70r : Tryz.prog.cellsOf 70 = 3 := by kernel_rfl
theorem u22r : Tryz.prog.underlying 22 = some (.slice 70) := by kernel_rfl
theorem u50r : Tryz.prog.underlying 50 = some (.slice 35) := by kernel_rfl
theorem relC_of {W : World} {b : Nat} : ∀ {al : List AV} {vs : List Value} (o : Nat), RelL (lay0 W) al vs → (∀ v ∈ vs, oneC v = true) → (∀ j (h : j < vs.length), W.cell? ⟨b, o + j, none⟩ = some vs[j]) → ∀ {tl : List AV}, RelC (lay0 W) b (o + vs.length) tl → RelC (lay0 W) b o (al ++ tl)
  | _, _, o, .nil, _, _, tl, ht => ht
  | _, _, o, .cons a v al vs h t, h1, hc, tl, ht => by
    have h0 := hc 0 (by simp)
    have h0' : W.cell? ⟨b, o, none⟩ = some v := by simpa using h0
    refine .cons _ _ _ _ _ h0' (h1 v (List.mem_cons_self ..)) h (relC_of (o + 1) t (fun u hu => h1 u (List.mem_cons_of_mem _ hu)) (fun j hj => ?_) ?_)
    · have := hc (j + 1) (by simpa using hj)
      rw [show o + (j + 1) = o + 1 + j by omega] at this
      simpa using this
    · rw [List.length_cons] at ht
      rw [show o + 1 + vs.length = o + (vs.length + 1) by omega]; exact ht
section
variable {H : Type} {enc : TypeId × Value → H} {W : World} {base : Nat} {spare : Nat → Bool} {held : Bool}
theorem rows_relC {b z : Nat} (E : Nat → List AV × List Value) : ∀ (k i o : Nat), (∀ j, i ≤ j → j < i + k → RelL (lay0 W) (E j).1 (E j).2 ∧ (∀ v ∈ (E j).2, oneC v = true) ∧ (E j).2.length = z ∧ ∀ q (h : q < (E j).2.length), W.cell? ⟨b, o + (j - i) * z + q, none⟩ = some (E j).2[q]) →
    RelC (lay0 W) b o (cellsOf ((List.range' i k).map fun j => .agg (E j).1))
  | 0, i, o, _ => .nil _ _
  | k + 1, i, o, h => by
    obtain ⟨h1, h2, h3, h4⟩ := h i (Nat.le_refl _) (by omega)
    rw [List.range'_succ, List.map_cons]
    show RelC _ _ _ ((E i).1 ++ cellsOf _)
    refine relC_of o h1 h2 (fun j hj => ?_) (rows_relC (z := z) E k (i + 1) _ fun j hj hk => ?_)
    · have := h4 j hj
      rw [Nat.sub_self, Nat.zero_mul, Nat.add_zero] at this
      exact this
    · obtain ⟨k1, k2, k3, k4⟩ := h j (by omega) (by omega)
      refine ⟨k1, k2, k3, fun q hq => ?_⟩
      have := k4 q hq
      have e : (j - i) * z = z + (j - (i + 1)) * z := by
        rw [show j - i = (j - (i + 1)) + 1 by omega, Nat.add_mul, Nat.one_mul, Nat.add_comm]
      rw [h3, show o + z + (j - (i + 1)) * z = o + (j - i) * z by omega]
      exact this
theorem slice_rel {ty z : Nat} (hz : 0 < z) (a : Addr) {len cap : Nat} (E : Nat → List AV × List Value) (hlc : len ≤ cap) (hE : ∀ i, i < len → RelL (lay0 W) (E i).1 (E i).2 ∧ (∀ v ∈ (E i).2, oneC v = true) ∧ (E i).2.length = z ∧ ∀ q (h : q < (E i).2.length), W.cell? ((a.add (i * z)).add q) = some (E i).2[q]) :
    Rel (lay0 W) (.sl ty z ((List.range' 0 len).map fun j => .agg (E j).1) .sh) (.slice (some a) len cap) := by
  by_cases h0 : len = 0
  · subst h0
    exact .sl0 a ty z .sh cap (.inl rfl)
  · have hsp : a.spot = none := by
      obtain ⟨_, _, g4, g7⟩ := hE 0 (by omega)
      have := g7 0 (by omega)
      have e : (a.add (0 * z)).add 0 = a := by simp [Addr.add]
      rw [e] at this
      unfold World.cell? at this
      split at this
      · split at this
        · cases this
        · rename_i h; simpa using h
      · cases this
    obtain ⟨b, o, sp⟩ := a
    have hsp : sp = none := hsp
    subst hsp
    have add_plain : ∀ o n, Addr.add ⟨b, o, none⟩ n = ⟨b, o + n, none⟩ := fun o n => by unfold Addr.add; split <;> simp_all
    have hrel := rows_relC (W := W) (b := b) (z := z) E len 0 o (fun j _ hj => by
      obtain ⟨g2, g3, g4, g7⟩ := hE j (by omega)
      refine ⟨g2, g3, g4, fun q hq => ?_⟩
      have := g7 q hq
      rw [add_plain, add_plain] at this
      simpa [Nat.add_assoc] using this)
    have hlr : ((List.range' 0 len).map fun j => AV.agg (E j).1).length = len := by simp
    have hR := Rel.sl (L := lay0 W) b o ty z ((List.range' 0 len).map fun j => AV.agg (E j).1) .sh cap hrel (by
      intro x hx
      obtain ⟨j, hj, rfl⟩ := List.mem_map.1 hx
      obtain ⟨g2, _, g5, _⟩ := hE j (by have := List.mem_range'.1 hj; omega)
      show (E j).1.length = z
      rw [g2.length, g5]) ⟨by rw [hlr]; exact hlc, nofun⟩
    rw [hlr] at hR
    exact hR
theorem weights_mem {e : TypeId} : ∀ {l : List (DataW H)} {d : DataW H}, (DataW.weightsAll Tryz.prog e l).all (· ≤ reachBytes) = true → d ∈ l → (DataW.weights Tryz.prog e d).all (· ≤ reachBytes) = true
  | [], d, _, h => by cases h
  | c :: l, d, w, h => by
    rw [DataW.weightsAll, List.all_append, Bool.and_eq_true] at w
    rcases List.mem_cons.1 h with rfl | h
    · exact w.1
    · exact weights_mem w.2 h
abbrev edL (x : Ed) : List AV := [I x.a, I x.b, .str x.t]
instance : Inhabited Ed := ⟨⟨0, 0, []⟩⟩
instance : Inhabited Evn := ⟨⟨0, 0, 0, [], [], .nils, [], ⟨0, 0, 0, 0, []⟩⟩⟩
theorem wts70 : (fsOf 70).toList.map (·.type) = [3, 3, 9] := by kernel_rfl
theorem wts33 : (fsOf 33).toList.map (·.type) = [3, 3, 3, 3, 9] := by kernel_rfl
theorem wts35 : (fsOf 35).toList.map (·.type) = [3, 3, 3, 9, 9, 22, 33] := by kernel_rfl
theorem edit_of {fuel : Nat} {cs : List Value} {x : DataW H × List MemPlace} (h : DataW.trod enc Tryz.prog W base spare held fuel 70 cs = some x) (hw : (DataW.weights Tryz.prog 70 x.1).all (· ≤ reachBytes) = true) :
    ∃ r : Ed, RelL (lay0 W) (edL r) cs ∧ (∀ v ∈ cs, oneC v = true) ∧ cs.length = 3 ∧ r.t.length ≤ 140737488355328 := by
  obtain ⟨xs, n, _, rfl, hl, hlen, hf⟩ := DataW.trod_struct u70r h
  have h3 : cs.length = 3 := hl.trans c70r
  match cs, h3 with
  | [v0, v1, v2], _ =>
  have key : ∀ (i : Nat) (ty : TypeId) (off : Nat), [(3, 0), (3, 1), (9, 2)][i]? = some (ty, off) → DataW.trod enc Tryz.prog W base spare held n ty (([v0, v1, v2].drop off).take (Tryz.prog.cellsOf ty)) = xs[i]? := by
    intro i ty off hi
    rw [← f70r, List.getElem?_map] at hi
    obtain ⟨f, hf1, hf2⟩ := Option.map_eq_some_iff.1 hi
    cases hf2
    exact hf i f (by simpa using hf1)
  have hs : xs.length = 3 := by rw [hlen]; simpa using congrArg List.length f70r
  match xs, hs with
  | [y0, y1, y2], _ =>
  have k0 := key 0 3 0 rfl
  have k1 := key 1 3 1 rfl
  have k2 := key 2 9 2 rfl
  rw [c3r] at k0 k1
  rw [c9r] at k2
  obtain ⟨a, e0, r0, _⟩ := DataW.trod_int under3r (by simpa using k0)
  obtain ⟨b, e1, r1, _⟩ := DataW.trod_int under3r (by simpa using k1)
  obtain ⟨s, e2, r2, _⟩ := DataW.trod_string under9r (by simpa using k2)
  simp only [List.cons.injEq, and_true] at e0 e1 e2
  subst e0; subst e1; subst e2; subst r0; subst r1; subst r2
  refine ⟨⟨a, b, s.data.toList⟩, .cons _ _ _ _ (.int _ _) (.cons _ _ _ _ (.int _ _) (.cons _ _ _ _ (rel_bytes _) .nil)), ?_, rfl, ?_⟩
  · intro v hv
    simp only [List.mem_cons, List.not_mem_nil, or_false] at hv
    rcases hv with rfl | rfl | rfl <;> rfl
  · simp only [List.map_cons, List.map_nil] at hw
    unfold DataW.weights at hw
    rw [u70r] at hw
    simp only [wts70, DataW.weightsEach, List.all_append, Bool.and_eq_true, List.append_nil] at hw
    have := hw.2.2
    simp [DataW.weights] at this
    have hr : reachBytes = 140737488351232 := rfl
    simp
    omega
theorem edits_of {fuel : Nat} {v : Value} {x : DataW H × List MemPlace} (h : DataW.trod enc Tryz.prog W base spare held fuel 22 [v] = some x) (hw : (DataW.weights Tryz.prog 22 x.1).all (· ≤ reachBytes) = true) :
    ∃ a xs, IsE a xs ∧ Rel (lay0 W) a v ∧ (∀ y ∈ xs, y.t.length ≤ 140737488355328) ∧ oneC v = true := by
  rcases DataW.trod_slice u22r h with ⟨hv, _⟩ | ⟨a, len, cap, elems, rest, n', hn', hv, rfl, hb, hlc, hm, hel, hat, _, _⟩
  · have hv6 := (List.cons.inj hv).1
    subst hv6
    exact ⟨.nils, [], .inr ⟨rfl, rfl⟩, .nils, nofun, rfl⟩
  · have hv6 := (List.cons.inj hv).1
    subst hv6
    rw [c70r] at hat
    unfold DataW.weights at hw
    rw [u22r] at hw
    simp only [List.all_cons, List.all_append, Bool.and_eq_true] at hw
    obtain ⟨_, w2, _⟩ := hw
    obtain ⟨E, hE⟩ := Go.Deep.choose_lt (α := Ed × List Value) (n := len) (p := fun i p => RelL (lay0 W) (edL p.1) p.2 ∧ (∀ v ∈ p.2, oneC v = true) ∧ p.2.length = 3 ∧ p.1.t.length ≤ 140737488355328 ∧ ∀ q (h : q < p.2.length), W.cell? ((a.add (i * 3)).add q) = some p.2[q]) (fun i hi => by
      have hi' : i < elems.length := by omega
      have h1 := hat i hi
      rw [List.getElem?_eq_getElem hi', Option.bind_eq_some_iff] at h1
      obtain ⟨cs', h2, h3⟩ := h1
      obtain ⟨r, g1, g2, g3, g4⟩ := edit_of h3 (weights_mem w2 (List.mem_map_of_mem (List.getElem_mem hi')))
      obtain ⟨_, _, hc⟩ := World.cells?_some h2
      exact ⟨(r, cs'), g1, g2, g3, g4, fun q hq => by
        have hq' : q < cs'.length := hq
        have := hc q (by omega)
        rw [this]; simp⟩)
    have hr := slice_rel (W := W) (ty := 70) (z := 3) (by decide) a (cap := cap) (fun i => (edL (E i).1, (E i).2)) hlc (fun i hi => by
      obtain ⟨g1, g2, g3, _, g5⟩ := hE i hi
      exact ⟨g1, g2, g3, g5⟩)
    refine ⟨_, (List.range' 0 len).map fun i => (E i).1, .inl ?_, hr, ?_, rfl⟩
    · simp [eds, List.map_map, Function.comp_def]
    · intro y hy
      obtain ⟨i, hi, rfl⟩ := List.mem_map.1 hy
      obtain ⟨_, _, _, g4, _⟩ := hE i (by have := List.mem_range'.1 hi; omega)
      exact g4
theorem int_lt {n : Int} (h : (Lit.int .i64 n).wf = true) : n < 9223372036854775808 := by
  simp [Lit.wf, IntKind.wrap, IntKind.bits, IntKind.signed] at h
  omega
theorem req_of {fuel : Nat} {cs : List Value} {x : DataW H × List MemPlace} (h : DataW.trod enc Tryz.prog W base spare held fuel 33 cs = some x) :
    ∃ r : Req, RelL (lay0 W) (reqC r) cs ∧ (∀ v ∈ cs, oneC v = true) ∧ cs.length = 5 := by
  obtain ⟨xs, n, _, rfl, hl, hlen, hf⟩ := DataW.trod_struct u33r h
  have h3 : cs.length = 5 := hl.trans c33r
  match cs, h3 with
  | [v0, v1, v2, v3, v4], _ =>
  have key : ∀ (i : Nat) (ty : TypeId) (off : Nat), [(3, 0), (3, 1), (3, 2), (3, 3), (9, 4)][i]? = some (ty, off) → DataW.trod enc Tryz.prog W base spare held n ty (([v0, v1, v2, v3, v4].drop off).take (Tryz.prog.cellsOf ty)) = xs[i]? := by
    intro i ty off hi
    rw [← f33r, List.getElem?_map] at hi
    obtain ⟨f, hf1, hf2⟩ := Option.map_eq_some_iff.1 hi
    cases hf2
    exact hf i f (by simpa using hf1)
  have hs : xs.length = 5 := by rw [hlen]; simpa using congrArg List.length f33r
  match xs, hs with
  | [y0, y1, y2, y3, y4], _ =>
  have k0 := key 0 3 0 rfl
  have k1 := key 1 3 1 rfl
  have k2 := key 2 3 2 rfl
  have k3 := key 3 3 3 rfl
  have k4 := key 4 9 4 rfl
  rw [c3r] at k0 k1 k2 k3
  rw [c9r] at k4
  obtain ⟨a, e0, r0, _⟩ := DataW.trod_int under3r (by simpa using k0)
  obtain ⟨b, e1, r1, _⟩ := DataW.trod_int under3r (by simpa using k1)
  obtain ⟨c, e2, r2, _⟩ := DataW.trod_int under3r (by simpa using k2)
  obtain ⟨d, e3, r3, _⟩ := DataW.trod_int under3r (by simpa using k3)
  obtain ⟨s, e4, r4, _⟩ := DataW.trod_string under9r (by simpa using k4)
  simp only [List.cons.injEq, and_true] at e0 e1 e2 e3 e4
  subst e0; subst e1; subst e2; subst e3; subst e4
  refine ⟨⟨a, b, c, d, s.data.toList⟩, .cons _ _ _ _ (.int _ _) (.cons _ _ _ _ (.int _ _) (.cons _ _ _ _ (.int _ _) (.cons _ _ _ _ (.int _ _) (.cons _ _ _ _ (rel_bytes _) .nil)))), ?_, rfl⟩
  intro v hv
  simp only [List.mem_cons, List.not_mem_nil, or_false] at hv
  rcases hv with rfl | rfl | rfl | rfl | rfl <;> rfl
theorem event_of {fuel : Nat} {cs : List Value} {x : DataW H × List MemPlace} (h : DataW.trod enc Tryz.prog W base spare held fuel 35 cs = some x) (hw : (DataW.weights Tryz.prog 35 x.1).all (· ≤ reachBytes) = true) :
    ∃ e : Evn, EvOK e ∧ RelL (lay0 W) (evC e) cs ∧ (∀ v ∈ cs, oneC v = true) ∧ cs.length = 11 := by
  obtain ⟨xs, n, _, rfl, hl, hlen, hf⟩ := DataW.trod_struct u35r h
  have h3 : cs.length = 11 := hl.trans c35r
  match cs, h3 with
  | [v0, v1, v2, v3, v4, v5, v6, v7, v8, v9, v10], _ =>
  have key : ∀ (i : Nat) (ty : TypeId) (off : Nat), [(3, 0), (3, 1), (3, 2), (9, 3), (9, 4), (22, 5), (33, 6)][i]? = some (ty, off) → DataW.trod enc Tryz.prog W base spare held n ty (([v0, v1, v2, v3, v4, v5, v6, v7, v8, v9, v10].drop off).take (Tryz.prog.cellsOf ty)) = xs[i]? := by
    intro i ty off hi
    rw [← f35r, List.getElem?_map] at hi
    obtain ⟨f, hf1, hf2⟩ := Option.map_eq_some_iff.1 hi
    cases hf2
    exact hf i f (by simpa using hf1)
  have hs : xs.length = 7 := by rw [hlen]; simpa using congrArg List.length f35r
  match xs, hs with
  | [y0, y1, y2, y3, y4, y5, y6], _ =>
  have k0 := key 0 3 0 rfl
  have k1 := key 1 3 1 rfl
  have k2 := key 2 3 2 rfl
  have k3 := key 3 9 3 rfl
  have k4 := key 4 9 4 rfl
  have k5 := key 5 22 5 rfl
  have k6 := key 6 33 6 rfl
  rw [c3r] at k0 k1 k2
  rw [c9r] at k3 k4
  rw [c22r] at k5
  rw [c33r] at k6
  obtain ⟨a, e0, r0, _⟩ := DataW.trod_int under3r (by simpa using k0)
  obtain ⟨b, e1, r1, wb⟩ := DataW.trod_int under3r (by simpa using k1)
  obtain ⟨c, e2, r2, _⟩ := DataW.trod_int under3r (by simpa using k2)
  obtain ⟨s, e3, r3, _⟩ := DataW.trod_string under9r (by simpa using k3)
  obtain ⟨t, e4, r4, _⟩ := DataW.trod_string under9r (by simpa using k4)
  have k5 : DataW.trod enc Tryz.prog W base spare held n 22 [v5] = some y5 := by simpa using k5
  have k6 : DataW.trod enc Tryz.prog W base spare held n 33 [v6, v7, v8, v9, v10] = some y6 := by simpa using k6
  have hw5 : (DataW.weights Tryz.prog 22 y5.1).all (· ≤ reachBytes) = true := by
    simp only [List.map_cons, List.map_nil] at hw
    unfold DataW.weights at hw
    rw [u35r] at hw
    simp only [wts35] at hw
    simp only [DataW.weightsEach, List.all_append, Bool.and_eq_true, List.append_nil] at hw
    exact hw.2.2.2.2.2.1
  obtain ⟨ea, es, g1, g2, g3, g4⟩ := edits_of k5 hw5
  obtain ⟨r, q1, q2, _⟩ := req_of k6
  simp only [List.cons.injEq, and_true] at e0 e1 e2 e3 e4
  subst e0; subst e1; subst e2; subst e3; subst e4
  refine ⟨⟨a, b, c, s.data.toList, t.data.toList, ea, es, r⟩, ⟨g1, g3, int_lt wb⟩, .cons _ _ _ _ (.int _ _) (.cons _ _ _ _ (.int _ _) (.cons _ _ _ _ (.int _ _) (.cons _ _ _ _ (rel_bytes _) (.cons _ _ _ _ (rel_bytes _) (.cons _ _ _ _ g2 q1))))), ?_, rfl⟩
  intro v hv
  rw [List.mem_cons, List.mem_cons, List.mem_cons, List.mem_cons, List.mem_cons, List.mem_cons] at hv
  rcases hv with rfl | rfl | rfl | rfl | rfl | rfl | hv
  · rfl
  · rfl
  · rfl
  · rfl
  · rfl
  · exact g4
  · exact q2 v hv
theorem events_of {fuel : Nat} {v : Value} {x : DataW H × List MemPlace} (h : DataW.trod enc Tryz.prog W base spare held fuel 50 [v] = some x) (hw : (DataW.weights Tryz.prog 50 x.1).all (· ≤ reachBytes) = true) :
    ∃ a l, EvA a l ∧ Rel (lay0 W) a v ∧ a.isOwn = false := by
  rcases DataW.trod_slice u50r h with ⟨hv, _⟩ | ⟨a, len, cap, elems, rest, n', hn', hv, rfl, hb, hlc, hm, hel, hat, _, _⟩
  · have hv6 := (List.cons.inj hv).1
    subst hv6
    exact ⟨.nils, [], ⟨.inr ⟨rfl, rfl⟩, nofun⟩, .nils, rfl⟩
  · have hv6 := (List.cons.inj hv).1
    subst hv6
    rw [c35r] at hat
    unfold DataW.weights at hw
    rw [u50r] at hw
    simp only [List.all_cons, List.all_append, Bool.and_eq_true] at hw
    obtain ⟨_, w2, _⟩ := hw
    obtain ⟨E, hE⟩ := Go.Deep.choose_lt (α := Evn × List Value) (n := len) (p := fun i p => EvOK p.1 ∧ RelL (lay0 W) (evC p.1) p.2 ∧ (∀ v ∈ p.2, oneC v = true) ∧ p.2.length = 11 ∧ ∀ q (h : q < p.2.length), W.cell? ((a.add (i * 11)).add q) = some p.2[q]) (fun i hi => by
      have hi' : i < elems.length := by omega
      have h1 := hat i hi
      rw [List.getElem?_eq_getElem hi', Option.bind_eq_some_iff] at h1
      obtain ⟨cs', h2, h3⟩ := h1
      obtain ⟨r, g1, g2, g3, g4⟩ := event_of h3 (weights_mem w2 (List.mem_map_of_mem (List.getElem_mem hi')))
      obtain ⟨_, _, hc⟩ := World.cells?_some h2
      exact ⟨(r, cs'), g1, g2, g3, g4, fun q hq => by
        have hq' : q < cs'.length := hq
        have := hc q (by omega)
        rw [this]; simp⟩)
    have hr := slice_rel (W := W) (ty := 35) (z := 11) (by decide) a (cap := cap) (fun i => (evC (E i).1, (E i).2)) hlc (fun i hi => by
      obtain ⟨_, g1, g2, g3, g5⟩ := hE i hi
      exact ⟨g1, g2, g3, g5⟩)
    refine ⟨_, (List.range' 0 len).map fun i => (E i).1, ⟨.inl ⟨.sh, ?_⟩, ?_⟩, hr, rfl⟩
    · simp [List.map_map, Function.comp_def]
    · intro y hy
      obtain ⟨i, hi, rfl⟩ := List.mem_map.1 hy
      exact (hE i (by have := List.mem_range'.1 hi; omega)).1
theorem event_arg {fuel : Nat} {v : Value} {x : DataW H × List MemPlace} (h : DataW.trod enc Tryz.prog W base spare held fuel 35 v.cells.toList = some x) (hw : (DataW.weights Tryz.prog 35 x.1).all (· ≤ reachBytes) = true) :
    ∃ e : Evn, EvOK e ∧ Rel (lay0 W) (.agg (evC e)) v := by
  obtain ⟨e, h1, h2, h3, h4⟩ := event_of h hw
  refine ⟨e, h1, ?_⟩
  cases v with
  | agg cs => exact .agg _ cs.toList h2 h3
  | _ => exact absurd h4 (by simp [Value.cells])
end
end Srv
end
