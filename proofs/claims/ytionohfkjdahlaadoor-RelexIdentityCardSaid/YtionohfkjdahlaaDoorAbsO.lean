/- Statements: in the text's order, or in whatever order. -/
import Derived.Test.YtionohfkjdahlaaDoorAbsN
namespace Go.Abs
open Go

def edgeOns (o : Oper) : List Nat := (o.after.toList.filter (Region.binds .any)).map (·.on)

def maskOf (done : List Nat) (es : List Nat) : Nat := es.foldl (fun s e => s ||| 2 ^ e ||| done.getD e 0) 0
def masks : List Nat → List Oper → List Nat
  | done, [] => done
  | done, o :: os => masks (done ++ [maskOf done (edgeOns o)]) os

theorem maskOf_bit (done : List Nat) (x : Nat) : ∀ (es : List Nat) (s : Nat), (es.foldl (fun s e => s ||| 2 ^ e ||| done.getD e 0) s).testBit x = true → s.testBit x = true ∨ ∃ e ∈ es, x = e ∨ (done.getD e 0).testBit x = true
  | [], s, h => .inl h
  | e :: es, s, h => by
    rcases maskOf_bit done x es _ h with h | ⟨e', h1, h2⟩
    · rw [Nat.testBit_or, Nat.testBit_or, Bool.or_eq_true, Bool.or_eq_true] at h
      rcases h with (h | h) | h
      · exact .inl h
      · rw [Nat.testBit_two_pow] at h
        exact .inr ⟨e, by simp, .inl (by simpa [eq_comm] using h)⟩
      · exact .inr ⟨e, by simp, .inr h⟩
    · exact .inr ⟨e', by simp [h1], h2⟩

theorem masks_spec : ∀ (ops : List Oper) (done : List Nat), (∀ k, k < done.length → (masks done ops).getD k 0 = done.getD k 0) ∧
    ∀ i o, ops[i]? = some o → ∃ pre, pre.length = done.length + i ∧ (∀ k, k < pre.length → pre.getD k 0 = (masks done ops).getD k 0) ∧ (masks done ops).getD (done.length + i) 0 = maskOf pre (edgeOns o)
  | [], done => ⟨fun _ _ => rfl, fun i o h => by simp at h⟩
  | o :: os, done => by
    obtain ⟨h1, h2⟩ := masks_spec os (done ++ [maskOf done (edgeOns o)])
    simp only [masks]
    refine ⟨fun k hk => ?_, fun i q hq => ?_⟩
    · rw [h1 k (by simp; omega), List.getD_eq_getElem?_getD, List.getD_eq_getElem?_getD, List.getElem?_append_left hk]
    · cases i with
      | zero =>
        simp at hq
        subst hq
        refine ⟨done, rfl, fun k hk => ?_, ?_⟩
        · rw [h1 k (by simp; omega), List.getD_eq_getElem?_getD, List.getD_eq_getElem?_getD, List.getElem?_append_left hk]
        · rw [Nat.add_zero, h1 done.length (by simp), List.getD_eq_getElem?_getD, List.getElem?_append_right (Nat.le_refl _)]
          simp
      | succ i =>
        simp at hq
        obtain ⟨pre, p1, p2, p3⟩ := h2 i q hq
        refine ⟨pre, by rw [p1]; simp; omega, p2, ?_⟩
        rw [← p3]; congr 1; simp; omega

def anc (ops : List Oper) : List Nat := masks [] ops

theorem anc_bit {ops : List Oper} {j : Nat} {o : Oper} (h : ops[j]? = some o) {x : Nat} (hb : ((anc ops).getD j 0).testBit x = true) :
    ∃ e ∈ edgeOns o, x = e ∨ (e < j ∧ ((anc ops).getD e 0).testBit x = true) := by
  obtain ⟨pre, p1, p2, p3⟩ := (masks_spec ops []).2 j o h
  simp only [List.length_nil, Nat.zero_add] at p1 p3
  unfold anc at hb ⊢
  rw [p3] at hb
  rcases maskOf_bit pre x (edgeOns o) 0 hb with h | ⟨e, h1, h2⟩
  · simp at h
  · refine ⟨e, h1, h2.imp id fun h2 => ?_⟩
    by_cases he : e < j
    · exact ⟨he, by rw [← p2 e (by omega)]; exact h2⟩
    · rw [List.getD_eq_getElem?_getD, List.getElem?_eq_none (by omega)] at h2
      simp at h2

/-- What is owed first has been done. -/
theorem anc_done {ops : List Oper} {done : Nat → Prop} (hd : ∀ j o, done j → ops[j]? = some o → ∀ e ∈ edgeOns o, done e) (hn : ∀ j, done j → j < ops.length) : ∀ (n j : Nat) (o : Oper), j ≤ n → ops[j]? = some o → (∀ e ∈ edgeOns o, done e) →
    ∀ x, ((anc ops).getD j 0).testBit x = true → done x := by
  intro n
  induction n with
  | zero =>
    intro j o hj ho he x hb
    obtain ⟨e, h1, rfl | ⟨h2, _⟩⟩ := anc_bit ho hb
    · exact he _ h1
    · omega
  | succ n ih =>
    intro j o hj ho he x hb
    obtain ⟨e, h1, rfl | ⟨h2, h3⟩⟩ := anc_bit ho hb
    · exact he _ h1
    · have hde := he e h1
      obtain ⟨oe, hoe⟩ : ∃ oe, ops[e]? = some oe := ⟨_, List.getElem?_eq_getElem (hn e hde)⟩
      exact ih e oe (by omega) hoe (hd e oe hde hoe) x h3

/-- A run of the operations of a list, with their kinds. -/
inductive Run (C : Cfg) (D : Den) (f : FuncId) (N : Nat) (ops : List Oper) (K : Nat → Kind) : List Nat → Stt → Stt → Prop
  | nil (st : Stt) : Run C D f N ops K [] st st
  | cons (i : Nat) (l : List Nat) (A : Nat) (st st1 st2 : Stt) (h : exec1A C D f N ops A i st = some st1) (hk : kind1 C f ops i st = K i) (t : Run C D f N ops K l st1 st2) : Run C D f N ops K (i :: l) st st2

theorem Run.front {C : Cfg} {D : Den} {f : FuncId} {N : Nat} {ops : List Oper} {K : Nat → Kind} {i : Nat} {oi : Oper} (hi : ops[i]? = some oi) : ∀ (pre post : List Nat) (st st2 : Stt),
    (∀ x ∈ pre, ∃ ox, ops[x]? = some ox ∧ indep C f ops ox oi = true ∧ compat (K x) (K i) = true) → Run C D f N ops K (pre ++ i :: post) st st2 →
    ∃ A st1, exec1A C D f N ops A i st = some st1 ∧ kind1 C f ops i st = K i ∧ Run C D f N ops K (pre ++ post) st1 st2
  | [], post, st, st2, _, h => by
    cases h with
    | cons _ _ A _ st1 _ h hk t => exact ⟨A, st1, h, hk, t⟩
  | x :: pre, post, st, st2, hp, h => by
    cases h with
    | cons _ _ A _ sta _ h hk t =>
      obtain ⟨B, stb, b1, b2, b3⟩ := Run.front hi pre post sta st2 (fun y hy => hp y (by simp [hy])) t
      obtain ⟨ox, o1, o2, o3⟩ := hp x (by simp)
      obtain ⟨stc, c1, c2, c3, c4⟩ := swap o1 hi o2 h b1 (by rw [hk, b2]; exact o3)
      exact ⟨B, stc, c1, c3.trans b2, .cons x _ A _ stb _ c2 (c4.trans hk) b3⟩

/-- The run in the text's order, with the kinds met. -/
def execK (C : Cfg) (D : Den) (f : FuncId) (N : Nat) (ops : List Oper) : List Nat → Stt → Option (Stt × List Kind)
  | [], st => some (st, [])
  | i :: l, st => match exec1 C D f N ops i st with
    | some st' => match execK C D f N ops l st' with
      | some (st2, ks) => some (st2, kind1 C f ops i st :: ks)
      | none => none
    | none => none

def edgesBack (ops : List Oper) : Bool := (List.range ops.length).all fun j => match ops[j]? with
  | some o => (edgeOns o).all fun e => e < j
  | none => true

/-- No two operations that may change places disturb each other. -/
def pairsOK (C : Cfg) (f : FuncId) (ops : List Oper) (ks : List Kind) : Bool :=
  (List.range ops.length).all fun j => (List.range j).all fun i =>
    ((anc ops).getD j 0).testBit i || match ops[i]?, ops[j]? with
      | some a, some b => indep C f ops a b && compat (ks.getD i .silent) (ks.getD j .silent)
      | _, _ => false

def aRegion (C : Cfg) (D : Den) (f : FuncId) (N : Nat) (ops : List Oper) (draw : Bool) (st : Stt) : Option Stt :=
  if draw then
    match execK C D f N ops (List.range ops.length) st with
    | some (st', ks) => if edgesBack ops && pairsOK C f ops ks then some st' else none
    | none => none
  else execL C D f N ops (List.range ops.length) st

theorem execK_run {C : Cfg} {D : Den} {f : FuncId} {N : Nat} {ops : List Oper} : ∀ (n a : Nat) (st st' : Stt) (ks : List Kind) (K : Nat → Kind), execK C D f N ops (List.range' a n) st = some (st', ks) →
    (∀ i, i < n → K (a + i) = ks.getD i .silent) → Run C D f N ops K (List.range' a n) st st'
  | 0, a, st, st', ks, K, h, _ => by simp [execK] at h; rw [h.1]; exact .nil _
  | n + 1, a, st, st', ks, K, h, hK => by
    rw [List.range'_succ] at h ⊢
    simp only [execK] at h
    split at h
    · rename_i st1 h1
      split at h
      · rename_i st2 ks2 h2
        cases h
        refine .cons a _ _ _ st1 _ (exec1_A h1) ?_ (execK_run n (a + 1) st1 _ ks2 K h2 fun i hi => ?_)
        · have := hK 0 (by omega); simpa using this.symm
        · have := hK (i + 1) (by omega)
          rw [show a + 1 + i = a + (i + 1) by omega, this]
          simp
      · cases h
    · cases h

theorem ready_iff {ops : List Oper} {listed : Array Bool} {i : Nat} :
    i ∈ Region.ready .any ops.toArray listed ↔ i < ops.length ∧ listed.getD i true = false ∧ ∀ o, ops[i]? = some o → ∀ e ∈ edgeOns o, listed.getD e false = true := by
  unfold Region.ready
  simp only [List.mem_filter, List.mem_range, Bool.and_eq_true, Bool.not_eq_true', List.size_toArray]
  constructor
  · rintro ⟨h1, h2, h3⟩
    refine ⟨h1, h2, fun o ho e he => ?_⟩
    rw [show ops.toArray[i]? = ops[i]? by simp, ho] at h3
    simp only [Option.map_some, Option.getD_some, Array.all_eq_true'] at h3
    simp only [edgeOns, List.mem_map, List.mem_filter] at he
    obtain ⟨ed, ⟨hm, hb⟩, rfl⟩ := he
    have := h3 ed (by simpa using hm)
    simpa [hb] using this
  · rintro ⟨h1, h2, h3⟩
    refine ⟨h1, h2, ?_⟩
    obtain ⟨o, ho⟩ : ∃ o, ops[i]? = some o := ⟨_, List.getElem?_eq_getElem h1⟩
    rw [show ops.toArray[i]? = ops[i]? by simp, ho]
    simp only [Option.map_some, Option.getD_some, Array.all_eq_true']
    intro ed hm
    cases hb : Region.binds .any ed with
    | false => rfl
    | true =>
      have := h3 o ho ed.on (by simp only [edgeOns, List.mem_map, List.mem_filter]; exact ⟨ed, ⟨by simpa using hm, hb⟩, rfl⟩)
      simpa using this

theorem wpAny_ok {C : Cfg} {W0 : World} {D : Den} (E : Env0 C W0 D) {f : FuncId} {N : Nat} {ops : List Oper} (hb : edgesBack ops = true) {K : Nat → Kind}
    (hp : ∀ i j oi oj, i < j → ops[i]? = some oi → ops[j]? = some oj → ((anc ops).getD j 0).testBit i = false → indep C f ops oi oj = true ∧ compat (K i) (K j) = true) :
    ∀ (fuel : Nat) (T : List Nat) (listed : Array Bool) (st st' : Stt), listed.size = ops.length → T.length = fuel → T.Pairwise (· < ·) → (∀ i, i ∈ T ↔ i < ops.length ∧ listed.getD i true = false) →
    (∀ j o, listed.getD j false = true → ops[j]? = some o → ∀ e ∈ edgeOns o, listed.getD e false = true) → Run C D f N ops K T st st' →
    ∀ {L : Lay} {ow : Owns} {a : Act} {w : World}, GlobOK C L → Fr W0 N L ow st.1 st.2 a w → ∀ {Q : Exit → Act → World → Prop},
    (∀ L' ow' a' w', Fr W0 N L' ow' st'.1 st'.2 a' w' → Ext L ow w L' ow' w' → Q .normal a' w') → wpAny C.P .any ops.toArray Q fuel listed a w := by
  have back : ∀ j o, ops[j]? = some o → ∀ e ∈ edgeOns o, e < j := by
    intro j o ho e he
    have hj : j < ops.length := (List.getElem?_eq_some_iff.1 ho).1
    have := List.all_eq_true.1 hb j (by simpa using hj)
    simp only [ho] at this
    have := List.all_eq_true.1 this e he
    simpa using this
  intro fuel
  induction fuel with
  | zero =>
    intro T listed st st' hsz hT _ hTl _ hrun L ow a w hg h Q hq
    have : T = [] := List.length_eq_zero_iff.1 hT
    subst this
    cases hrun
    refine ⟨?_, hq L ow a w h (.refl _ _ _)⟩
    refine List.eq_nil_iff_forall_not_mem.2 fun i hi => ?_
    obtain ⟨h1, h2, _⟩ := ready_iff.1 hi
    exact absurd ((hTl i).2 ⟨h1, h2⟩) (by simp)
  | succ fuel ih =>
    intro T listed st st' hsz hT hsort hTl hdown hrun L ow a w hg h Q hq
    have listed_of : ∀ e, e < ops.length → e ∉ T → listed.getD e false = true := by
      intro e he hn
      have hlt : e < listed.size := by omega
      cases hv : listed[e] with
      | true => simp [Array.getD, hlt, hv]
      | false => exact absurd ((hTl e).2 ⟨he, by simp [Array.getD, hlt, hv]⟩) hn
    refine ⟨fun hnil => ?_, fun i hi => ?_⟩
    · exfalso
      cases T with
      | nil => simp at hT
      | cons t T =>
        have ht := (hTl t).1 (by simp)
        have : t ∈ Region.ready .any ops.toArray listed := by
          refine ready_iff.2 ⟨ht.1, ht.2, fun o ho e he => ?_⟩
          have hlt := back t o ho e he
          refine listed_of e (by omega) fun hm => ?_
          rcases List.mem_cons.1 hm with rfl | hm
          · omega
          · have := (List.pairwise_cons.1 hsort).1 e hm; omega
        rw [hnil] at this
        cases this
    · obtain ⟨r1, r2, r3⟩ := ready_iff.1 hi
      have hiT := (hTl i).2 ⟨r1, r2⟩
      obtain ⟨oi, hoi⟩ : ∃ o, ops[i]? = some o := ⟨_, List.getElem?_eq_getElem r1⟩
      obtain ⟨pre, post, rfl⟩ := List.append_of_mem hiT
      have hpre : ∀ x ∈ pre, ∃ ox, ops[x]? = some ox ∧ indep C f ops ox oi = true ∧ compat (K x) (K i) = true := by
        intro x hx
        have hxT := (hTl x).1 (by simp [hx])
        obtain ⟨ox, hox⟩ : ∃ o, ops[x]? = some o := ⟨_, List.getElem?_eq_getElem hxT.1⟩
        have hlt : x < i := (List.pairwise_append.1 hsort).2.2 x hx i (by simp)
        refine ⟨ox, hox, hp x i ox oi hlt hox hoi ?_⟩
        cases hbit : ((anc ops).getD i 0).testBit x with
        | false => rfl
        | true =>
          have := anc_done (done := fun j => listed.getD j false = true) (ops := ops) hdown (fun j hj => by
            rcases Nat.lt_or_ge j listed.size with h | h
            · omega
            · simp [Array.getD, Nat.not_lt.2 h] at hj) i i oi (Nat.le_refl _) hoi (r3 oi hoi) x hbit
          have hxl := hxT.2
          have hlt' : x < listed.size := by omega
          simp [Array.getD, hlt'] at this hxl
          rw [this] at hxl; cases hxl
      obtain ⟨A, st1, e1, e2, e3⟩ := Run.front hoi pre post st st' hpre hrun
      refine exec1A_ok E e1 hg h fun L' ow' a' w' hf hx => ?_
      have hsz' : (listed.setIfInBounds i true).size = ops.length := by simpa using hsz
      have hget : ∀ k d, (listed.setIfInBounds i true).getD k d = if k = i then true else listed.getD k d := by
        intro k d
        rw [Array.getD_eq_getD_getElem?, Array.getD_eq_getD_getElem?]
        split
        · rename_i e; subst e
          rw [Array.getElem?_setIfInBounds_self]
          rw [if_pos (by omega)]; rfl
        · rename_i e
          rw [Array.getElem?_setIfInBounds_ne (fun h => e h.symm)]
      have hnd : (pre ++ i :: post).Nodup := hsort.imp fun h => Nat.ne_of_lt h
      refine ih (pre ++ post) _ st1 st' hsz' (by simp at hT ⊢; omega) ?_ (fun k => ?_) (fun j o hj ho e he => ?_) e3 (hg.mono hx.le) hf (fun L'' ow'' a'' w'' hf' hx' => hq L'' ow'' a'' w'' hf' (hx.trans hx'))
      · rw [List.pairwise_append] at hsort ⊢
        exact ⟨hsort.1, (List.pairwise_cons.1 hsort.2.1).2, fun a ha b hb => hsort.2.2 a ha b (by simp [hb])⟩
      · rw [hget]
        have hT' := hTl k
        simp only [List.mem_append, List.mem_cons] at hT' ⊢
        rw [List.nodup_append] at hnd
        split
        · rename_i e; subst e
          constructor
          · rintro (h' | h')
            · exact absurd rfl (hnd.2.2 k h' k (by simp))
            · exact absurd h' (List.nodup_cons.1 hnd.2.1).1
          · rintro ⟨_, h'⟩; cases h'
        · rename_i e
          rw [← hT']
          constructor
          · rintro (h' | h')
            · exact .inl h'
            · exact .inr (.inr h')
          · rintro (h' | h' | h')
            · exact .inl h'
            · exact absurd h' e
            · exact .inr h'
      · rw [hget] at hj ⊢
        split
        · rfl
        · split at hj
          · rename_i e' ; subst e'
            exact r3 o ho e he
          · exact hdown j o hj ho e he

theorem region_ok {C : Cfg} {W0 : World} {D : Den} (E : Env0 C W0 D) (hm : C.P.follows .mixedOrders = true) {f : FuncId} {N id : Nat} {ops : Array Oper} {draw : Bool} {st st' : Stt} (hr : aRegion C D f N ops.toList draw st = some st') {L : Lay} {ow : Owns}
    {a : Act} {w : World} (hg : GlobOK C L) (h : Fr W0 N L ow st.1 st.2 a w) {Q : Exit → Act → World → Prop}
    (hq : ∀ L' ow' a' w', Fr W0 N L' ow' st'.1 st'.2 a' w' → Ext L ow w L' ow' w' → Q .normal a' w') : (Code.region id ops draw).wp C.P Q a w := by
  have hops : ops.toList.toArray = ops := by simp
  unfold aRegion at hr
  cases draw with
  | false =>
    simp only [Bool.false_eq_true, if_false] at hr
    refine wp_region ?_
    have := execL_ok E _ hr hg h hq
    rw [hops] at this
    simpa using this
  | true =>
    simp only [if_true] at hr
    split at hr
    · rename_i st2 ks hk
      split at hr
      · rename_i hc
        cases hr
        simp only [Bool.and_eq_true] at hc
        obtain ⟨hb, hp⟩ := hc
        refine wp_region_any hm ?_
        have hd : Fr W0 N L ow st.1 st.2 a w.drew := ⟨h.size, h.rel, fun t => (h.own t).move fun b hb => ⟨hb, fun _ => rfl, rfl⟩, drew_st h.st, h.defers⟩
        have hrun : Run C D f N ops.toList (fun i => ks.getD i .silent) (List.range ops.toList.length) st st' := by
          rw [List.range_eq_range'] at hk ⊢
          exact execK_run _ 0 _ _ ks _ hk fun i hi => by simp
        have := wpAny_ok E hb (K := fun i => ks.getD i .silent) (fun i j oi oj hij hoi hoj hbit => by
          have hj : j < ops.toList.length := (List.getElem?_eq_some_iff.1 hoj).1
          have h1 := List.all_eq_true.1 hp j (by simpa using hj)
          have h2 := List.all_eq_true.1 h1 i (by simpa using hij)
          rw [hbit, hoi, hoj] at h2
          simpa using h2) ops.toList.length (List.range ops.toList.length) (Array.replicate ops.size false) st st' (by simp) (by simp) (List.pairwise_lt_range) (fun i => by
            simp only [List.mem_range, Array.length_toList]
            refine ⟨fun hi => ⟨hi, by simp [Array.getD, hi]⟩, fun h => h.1⟩) (fun j o hj => by
              exfalso
              by_cases hlt : j < ops.size
              · simp [Array.getD, hlt] at hj
              · simp [Array.getD, hlt] at hj) hrun hg hd (fun L' ow' a' w' hf hx => hq L' ow' a' w' hf ((drew_ext (L := L) (ow := ow) (w := w)).trans hx))
        rw [hops, Array.length_toList] at this
        exact this
      · cases hr
    · cases hr

end Go.Abs
