/- Bodies and calls. -/
import Derived.Test.YtionohfkjdahlaaDoorAbsO
namespace Go.Abs
open Go

abbrev Ans := Option (AV × Heap)

structure Ks where
  norm : Env → Heap → Ans
  ret : Env → Heap → Ans
  exit : Nat → Env → Heap → Ans

/-- A loop, for at most n rounds. -/
def aLoop (F : (Env → Heap → Ans) → Env → Heap → Ans) : Nat → Env → Heap → Ans
  | 0, _, _ => none
  | n + 1, env, s => F (aLoop F n) env s

def acode (C : Cfg) (D : Den) (f : FuncId) (N fuel : Nat) : Code → Ks → Env → Heap → Ans
  | .skip, K, env, s => K.norm env s
  | .region _ ops draw, K, env, s => match aRegion C D f N ops.toList draw (env, s) with
    | some st => K.norm st.1 st.2
    | none => none
  | .seq a b, K, env, s => acode C D f N fuel a { K with norm := fun e s => acode C D f N fuel b K e s } env s
  | .cond c a b, K, env, s => match evO C env c with
    | .bool true => acode C D f N fuel a K env s
    | .bool false => acode C D f N fuel b K env s
    | _ => none
  | .block id c, K, env, s => acode C D f N fuel c { K with exit := fun i e s => if i = id then K.norm e s else K.exit i e s } env s
  | .loop c, K, env, s => aLoop (fun k e s => acode C D f N fuel c { K with norm := k } e s) fuel env s
  | .exit id, K, env, s => K.exit id env s
  | .label _, K, env, s => K.norm env s
  | .ret, K, env, s => K.ret env s
  | _, _, _, _ => none

def Post (W0 : World) (N : Nat) (K : Ks) (r : AV × Heap) (L : Lay) (ow : Owns) (w : World) : Exit → Act → World → Prop := fun e a' w' =>
  ∃ L' ow' env' s', Fr W0 N L' ow' env' s' a' w' ∧ Ext L ow w L' ow' w' ∧ match e with
    | .normal => K.norm env' s' = some r
    | .exit id => K.exit id env' s' = some r
    | .ret => K.ret env' s' = some r
    | _ => False

theorem Post.ext {W0 : World} {N : Nat} {K : Ks} {r : AV × Heap} {L L' : Lay} {ow ow' : Owns} {w w' : World} (hx : Ext L ow w L' ow' w') {e : Exit} {a : Act} {w2 : World} (h : Post W0 N K r L' ow' w' e a w2) : Post W0 N K r L ow w e a w2 := by
  obtain ⟨L2, ow2, env2, s2, h1, h2, h3⟩ := h
  exact ⟨L2, ow2, env2, s2, h1, hx.trans h2, h3⟩

/-- In a loop: behind the body stands the loop again. -/
def LoopWp (P : Program) (c : Code) (Q : Exit → Act → World → Prop) (a : Act) (w : World) : Prop :=
  ∀ (b : Frame) (k : List Item) (cs : List Frame), ∃ e a' w', Q e a' w' ∧ Arrives P (lone (b.at a (.code c :: .inLoop c :: k)) cs w) b k cs e a' w'

theorem LoopWp.step {P : Program} {c : Code} {Q : Exit → Act → World → Prop} {a : Act} {w : World} (h : c.wp P (Exit.then (LoopWp P c Q) Q) a w) : LoopWp P c Q a w := by
  intro b k cs
  obtain ⟨e, a₁, w₁, hq, harr⟩ := h b (.inLoop c :: k) cs
  cases e with
  | normal =>
    obtain ⟨e₂, a₂, w₂, hq₂, harr₂⟩ := hq b k cs
    exact ⟨e₂, a₂, w₂, hq₂, .of_steps (Steps.trans harr (.one step_inLoop)) harr₂⟩
  | exit id => exact ⟨_, a₁, w₁, hq, .pass (x := .inLoop c) rfl (fun _ _ => .inl (by simp)) harr⟩
  | goto l => exact ⟨_, a₁, w₁, hq, .pass (x := .inLoop c) rfl (fun _ _ => .inl (by simp)) harr⟩
  | ret => exact ⟨_, a₁, w₁, hq, .pass (x := .inLoop c) rfl (fun _ _ => .inl (by simp)) harr⟩
  | panic ch => exact ⟨_, a₁, w₁, hq, .pass (x := .inLoop c) rfl (fun _ _ => .inl (by simp)) harr⟩
  | outgrown => exact ⟨_, a₁, w₁, hq, .pass (x := .inLoop c) rfl (fun _ _ => .inl (by simp)) harr⟩

theorem LoopWp.loop {P : Program} {c : Code} {Q : Exit → Act → World → Prop} {a : Act} {w : World} (h : LoopWp P c Q a w) : (Code.loop c).wp P Q a w := fun b k cs =>
  let ⟨e, a', w', hq, harr⟩ := h b k cs
  ⟨e, a', w', hq, .of_steps (.one step_loop) harr⟩

theorem acode_ok {C : Cfg} {W0 : World} {D : Den} (E : Env0 C W0 D) (hm : C.P.follows .mixedOrders = true) {f : FuncId} {N fuel : Nat} : ∀ (c : Code) (K : Ks) (env : Env) (s : Heap) (r : AV × Heap), acode C D f N fuel c K env s = some r →
    ∀ {L : Lay} {ow : Owns} {a : Act} {w : World}, GlobOK C L → Fr W0 N L ow env s a w → c.wp C.P (Post W0 N K r L ow w) a w := by
  intro c
  induction c with
  | skip =>
    intro K env s r hr L ow a w hg h
    exact wp_skip ⟨L, ow, env, s, h, .refl _ _ _, hr⟩
  | region id ops draw =>
    intro K env s r hr L ow a w hg h
    simp only [acode] at hr
    split at hr
    · rename_i st hst
      exact region_ok E hm hst hg h fun L' ow' a' w' hf hx => ⟨L', ow', _, _, hf, hx, hr⟩
    · cases hr
  | seq x y ihx ihy =>
    intro K env s r hr L ow a w hg h
    simp only [acode] at hr
    refine wp_seq (wp_mono (ihx _ env s r hr hg h) fun e a' w' ⟨L', ow', env', s', hf, hx, hp⟩ => ?_)
    cases e with
    | normal => exact wp_mono (ihy K env' s' r hp (hg.mono hx.le) hf) fun e a w hq => hq.ext hx
    | exit id => exact ⟨L', ow', env', s', hf, hx, hp⟩
    | goto l => exact hp.elim
    | ret => exact ⟨L', ow', env', s', hf, hx, hp⟩
    | panic ch => exact hp.elim
    | outgrown => exact hp.elim
  | cond c x y ihx ihy =>
    intro K env s r hr L ow a w hg h
    simp only [acode] at hr
    have hv := evO_rel hg h c
    split at hr
    · rename_i hc
      rw [hc] at hv
      have he : a.eval c = .bool true := by generalize a.eval c = v at hv; cases hv; rfl
      exact wp_cond_true he (ihx K env s r hr hg h)
    · rename_i hc
      rw [hc] at hv
      have he : a.eval c = .bool false := by generalize a.eval c = v at hv; cases hv; rfl
      exact wp_cond_false he (ihy K env s r hr hg h)
    · cases hr
  | block id c ih =>
    intro K env s r hr L ow a w hg h
    simp only [acode] at hr
    refine wp_block (wp_mono (ih _ env s r hr hg h) fun e a' w' ⟨L', ow', env', s', hf, hx, hp⟩ => ?_)
    cases e with
    | normal => exact ⟨L', ow', env', s', hf, hx, hp⟩
    | exit i =>
      simp only at hp
      simp only [Exit.inBlock]
      split at hp
      · rename_i e; rw [if_pos e]; exact ⟨L', ow', env', s', hf, hx, hp⟩
      · rename_i e; rw [if_neg e]; exact ⟨L', ow', env', s', hf, hx, hp⟩
    | goto l => exact hp.elim
    | ret => exact ⟨L', ow', env', s', hf, hx, hp⟩
    | panic ch => exact hp.elim
    | outgrown => exact hp.elim
  | loop c ih =>
    intro K env s r hr L ow a w hg h
    simp only [acode] at hr
    refine LoopWp.loop ?_
    have main : ∀ n env s, aLoop (fun k e s => acode C D f N fuel c { K with norm := k } e s) n env s = some r → ∀ {L : Lay} {ow : Owns} {a : Act} {w : World}, GlobOK C L → Fr W0 N L ow env s a w → LoopWp C.P c (Post W0 N K r L ow w) a w := by
      intro n
      induction n with
      | zero => intro env s hr; cases hr
      | succ n ihn =>
        intro env s hr L ow a w hg h
        simp only [aLoop] at hr
        refine LoopWp.step (wp_mono (ih _ env s r hr hg h) fun e a' w' ⟨L', ow', env', s', hf, hx, hp⟩ => ?_)
        cases e with
        | normal =>
          intro b k cs
          obtain ⟨e2, a2, w2, q2, r2⟩ := ihn env' s' hp (hg.mono hx.le) hf b k cs
          exact ⟨e2, a2, w2, q2.ext hx, r2⟩
        | exit id => exact ⟨L', ow', env', s', hf, hx, hp⟩
        | goto l => exact hp.elim
        | ret => exact ⟨L', ow', env', s', hf, hx, hp⟩
        | panic ch => exact hp.elim
        | outgrown => exact hp.elim
    exact main fuel env s hr hg h
  | rangeFunc g ps x y => intro K env s r hr; cases hr
  | exit id =>
    intro K env s r hr L ow a w hg h
    exact wp_exit ⟨L, ow, env, s, h, .refl _ _ _, hr⟩
  | scope c => intro K env s r hr; cases hr
  | label l =>
    intro K env s r hr L ow a w hg h
    exact wp_label ⟨L, ow, env, s, h, .refl _ _ _, hr⟩
  | goto l => intro K env s r hr; cases hr
  | ret =>
    intro K env s r hr L ow a w hg h
    exact wp_ret ⟨L, ow, env, s, h, .refl _ _ _, hr⟩
  | refuse why => intro K env s r hr; cases hr

/-- One result. -/
def aRes1 (P : Program) (env : Env) (s : Heap) : ResultVar → Option AV
  | .tmp t => some (env t)
  | .cell a t => match isAggT P t, szOf P t with
    | some agg, some n => (aLoad false agg n (env a) s).map (·.1)
    | _, _ => none

def aResL (P : Program) (env : Env) (s : Heap) : List ResultVar → Option (List AV)
  | [] => some []
  | r :: rs => match aRes1 P env s r, aResL P env s rs with
    | some a, some as => some (a :: as)
    | _, _ => none

def aResult (P : Program) (rs : List ResultVar) (env : Env) (s : Heap) : Option AV :=
  match rs with
  | [r] => aRes1 P env s r
  | rs => (aResL P env s rs).map .tup

theorem res1_ok {P : Program} {W0 : World} {N : Nat} {L : Lay} {ow : Owns} {env : Env} {s : Heap} {a : Act} {w : World} (h : Fr W0 N L ow env s a w) {r : ResultVar} {x : AV} (hr : aRes1 P env s r = some x) :
    ∃ v, (match r with | .tmp t => pure (a.tmps.getD t undef) | .cell q t => do loadVar t (← asAddr (a.tmps.getD q undef)) : Sem Value).run P w = .ok v w ∧ Rel L x v ∧ ((∃ t, r = .tmp t ∧ v = a.tmps.getD t undef ∧ x = env t) ∨ x.isOwn = false) := by
  cases r with
  | tmp t =>
    cases hr
    exact ⟨_, rfl, h.rel t, .inl ⟨t, rfl, rfl, rfl⟩⟩
  | cell q t =>
    simp only [aRes1] at hr
    split at hr
    · rename_i agg n ha hz
      rw [Option.map_eq_some_iff] at hr
      obtain ⟨⟨y, s'⟩, hy, rfl⟩ := hr
      have hq := h.rel q
      simp only
      generalize a.tmps.getD q undef = v at hq ⊢
      unfold aLoad at hy
      split at hy
      · rename_i cs off hb
        rw [hb] at hq
        obtain ⟨h1, _⟩ := map_snd' hy
        obtain ⟨u, k1, k2⟩ := loadBox_ok (P := P) ha hz h1 hq h.st.imm
        refine ⟨u, ?_, k2, .inr (aLoadC_isOwn h1)⟩
        cases hq
        simpa [Instr.loadAt, Instr.sureAddr, asAddr] using k1
      · rename_i id off hb
        rw [hb] at hq
        simp only [Bool.false_and, Bool.false_eq_true, if_false] at hy
        obtain ⟨h1, _⟩ := map_snd' hy
        obtain ⟨u, k1, k2⟩ := loadObj_ok (P := P) h.st ha hz h1 hq
        refine ⟨u, ?_, k2, .inr ?_⟩
        · cases hq
          simpa [Instr.loadAt, Instr.sureAddr, asAddr] using k1
        · unfold aLoadR at h1
          split at h1
          · exact aLoadC_isOwn h1
          · cases h1
      · cases hy
    · cases hr
  where
  map_snd' {x : Option AV} {s s' : Heap} {r : AV} (h : (x.map fun r => (r, s)) = some (r, s')) : x = some r ∧ s' = s := map_snd h

theorem resL_ok {P : Program} {W0 : World} {N : Nat} {L : Lay} {ow : Owns} {env : Env} {s : Heap} {a : Act} {w : World} (h : Fr W0 N L ow env s a w) : ∀ {rs : List ResultVar} {xs : List AV}, aResL P env s rs = some xs →
    ∃ vs : List Value, (rs.mapM (fun r => (match r with | .tmp t => pure (a.tmps.getD t undef) | .cell q t => do loadVar t (← asAddr (a.tmps.getD q undef)) : Sem Value))).run P w = .ok vs w ∧ RelL L xs vs
  | [], xs, hr => by cases hr; exact ⟨[], rfl, .nil⟩
  | r :: rs, xs, hr => by
    simp only [aResL] at hr
    split at hr
    · rename_i x xs' h1 h2
      cases hr
      obtain ⟨v, k1, k2, _⟩ := res1_ok h h1
      obtain ⟨vs, m1, m2⟩ := resL_ok h h2
      exact ⟨v :: vs, by simp only [List.mapM_cons, Sem.run_bind, k1, Result.andThen_ok, m1, Sem.run_pure], .cons _ _ _ _ k2 m2⟩
    · cases hr

/-- What the caller sees of the owners. -/
def endOw (ow : Owns) (t : Option Nat) : Owns := fun b => match ow b with
  | .slot u => if t = some u then .ret else .free
  | .arg | .ret => .free
  | p => p

theorem result_ok {P : Program} {W0 : World} {N : Nat} {L : Lay} {ow : Owns} {env : Env} {s : Heap} {a : Act} {w : World} (h : Fr W0 N L ow env s a w) {fn : Func} {x : AV} (hr : aResult P fn.results.toList env s = some x) :
    ∃ v, (results fn a.tmps).run P w = .ok v w ∧ Res W0 L ow w x s v w := by
  have st : ∀ t, St W0 L (endOw ow t) s w := fun t => h.st.move (.refl L) rfl (fun b hb => ⟨by revert hb; unfold endOw; cases ow b <;> simp [Place.excl], fun _ => rfl, rfl⟩) h.st.imm
    (fun b hb => h.st.used b (fun e => hb (by simp [endOw, e]))) (fun b hb => by simp [endOw, h.st.base b hb]) h.st.below
  have ex : ∀ t, Ext L ow w L (endOw ow t) w := fun t => ⟨.refl L, fun b hb => ⟨by simp [endOw, hb], fun _ => rfl, rfl⟩, .refl w⟩
  have hmap : ∀ vs : List Value, (fn.results.toList.mapM (fun r => (match r with | .tmp t => pure (a.tmps.getD t undef) | .cell q t => do loadVar t (← asAddr (a.tmps.getD q undef)) : Sem Value))).run P w = .ok vs w →
      (results fn a.tmps).run P w = .ok (if h : vs.toArray.size = 1 then vs.toArray[0] else .tuple vs.toArray) w := by
    intro vs hv
    unfold results
    rw [← Array.toArray_toList (xs := fn.results), List.mapM_toArray]
    simp only [Sem.run_bind, Sem.run_map]
    erw [hv]
    rfl
  unfold aResult at hr
  split at hr
  · rename_i r hrs
    obtain ⟨v, k1, k2, k3⟩ := res1_ok h hr
    have := hmap [v] (by rw [hrs]; simp only [List.mapM_cons, List.mapM_nil, Sem.run_bind, k1, Result.andThen_ok, Sem.run_pure])
    refine ⟨v, by simpa using this, ?_⟩
    rcases k3 with ⟨t, rfl, rfl, rfl⟩ | k3
    · exact ⟨L, endOw ow (some t), ex _, st _, k2, (h.own t).move fun b hb => ⟨by simp [endOw, hb], fun _ => rfl, rfl⟩⟩
    · exact ⟨L, endOw ow none, ex _, st _, k2, .of_not k3⟩
  · rename_i hne
    rw [Option.map_eq_some_iff] at hr
    obtain ⟨xs, hxs, rfl⟩ := hr
    obtain ⟨vs, k1, k2⟩ := resL_ok h hxs
    have := hmap vs k1
    have hl : ¬ vs.toArray.size = 1 := by
      intro e
      have h1 := k2.length
      have h2 : xs.length = fn.results.toList.length := by
        have gen : ∀ (rs : List ResultVar) (xs : List AV), aResL P env s rs = some xs → xs.length = rs.length := by
          intro rs
          induction rs with
          | nil => intro xs h; cases h; rfl
          | cons r rs ih =>
            intro xs h
            simp only [aResL] at h
            split at h
            · rename_i h1 h2; cases h; simp [ih _ h2]
            · cases h
        exact gen _ _ hxs
      simp at e
      have h3 : fn.results.toList.length = 1 := by omega
      obtain ⟨r, hr⟩ := List.length_eq_one_iff.1 h3
      exact hne r hr
    rw [dif_neg hl] at this
    exact ⟨_, this, L, endOw ow none, ex _, st _, .tup _ _ k2, .of_not rfl⟩

def argEnv (args : List AV) : Env := fun t => args.getD t .undef

/-- The body of a function, its calls by D, its loops for at most n rounds. -/
def aBody (C : Cfg) (D : Den) (n : Nat) (g : FuncId) (fn : Func) (c : Code) (args : List AV) (s : Heap) : Ans :=
  acode C D g (args.length + (fn.ntmps - args.length)) n c
    { norm := fun env s => (aResult C.P fn.results.toList env s).map fun r => (r, s), ret := fun env s => (aResult C.P fn.results.toList env s).map fun r => (r, s), exit := fun _ _ _ => none } (argEnv args) s

/-- What a function comes to, with at most n calls inside each other. -/
def den (C : Cfg) : Nat → Den
  | 0 => fun _ _ _ => none
  | n + 1 => fun g args s => match C.ext g with
    | some e => e args s
    | none => match C.P.funcs[g]? with
      | some fn => match fn.body with
        | some c => aBody C (den C n) n g fn c args s
        | none => none
      | none => none

theorem argEnv_rel {L : Lay} : ∀ {args : List AV} {vs : List Value}, RelL L args vs → ∀ (k t : Nat), Rel L (argEnv args t) ((vs.toArray ++ Array.replicate k undef).getD t undef)
  | args, vs, h, k, t => by
    unfold argEnv
    rw [List.getD_eq_getElem?_getD, Array.getD_eq_getD_getElem?]
    cases hx : args[t]? with
    | none => exact .undef _
    | some x =>
      obtain ⟨v, hv, hr⟩ := h.get t x hx
      have : (vs.toArray ++ Array.replicate k undef)[t]? = some v := by
        rw [Array.getElem?_append_left (by simpa using (List.getElem?_eq_some_iff.1 hv).1)]
        simpa using hv
      rw [this]
      exact hr

theorem body_ok {C : Cfg} {W0 : World} {D : Den} (E : Env0 C W0 D) (hm : C.P.follows .mixedOrders = true) {n : Nat} {g : FuncId} {fn : Func} {c : Code} (hf : C.P.funcs[g]? = some fn) (hc : fn.body = some c) {args : List AV} {s : Heap} {v : AV} {s' : Heap}
    (hr : aBody C D n g fn c args s = some (v, s')) (hn : ∀ a ∈ args, a.isOwn = false) : CallSpec C W0 g args s v s' := by
  intro L ow w cargs hg hst hargs
  refine calls_of_wp hf hc ?_
  have hfr : Fr W0 (args.length + (fn.ntmps - args.length)) L ow (argEnv args) s { tmps := cargs.toArray ++ Array.replicate (fn.ntmps - cargs.toArray.size) undef, defers := [] } w := by
    refine ⟨?_, fun t => argEnv_rel hargs _ t, fun t => .of_not ?_, hst, rfl⟩
    · have := hargs.length
      simp; omega
    · unfold argEnv
      rw [List.getD_eq_getElem?_getD]
      cases hx : args[t]? with
      | none => rfl
      | some x => exact hn x (List.mem_of_getElem? hx)
  refine wp_mono (acode_ok E hm c _ _ _ _ hr hg hfr) fun e a' w' ⟨L', ow', env', s2, h1, h2, h3⟩ => ?_
  have fin : ((aResult C.P fn.results.toList env' s2).map fun r => (r, s2)) = some (v, s') → a'.defers = [] ∧ ∃ u, (results fn a'.tmps).run C.P w' = .ok u w' ∧ ∃ cv, Ending.returned u = .returned cv ∧ Res W0 L ow w v s' cv w' := by
    intro he
    obtain ⟨k1, rfl⟩ := map_snd he
    obtain ⟨u, m1, L'', ow'', m2, m3, m4, m5⟩ := result_ok h1 k1
    exact ⟨h1.defers, u, m1, u, rfl, L'', ow'', h2.trans m2, m3, m4, m5⟩
  cases e with
  | normal => exact fin h3
  | ret => exact fin h3
  | exit id => cases h3
  | goto l => exact h3.elim
  | panic ch => exact h3.elim
  | outgrown => exact h3.elim

/-- THE THEOREM: what the abstract machine comes to is what the program comes to. -/
theorem den_ok {C : Cfg} {W0 : World} (hgl : ∀ g cs, C.glob g = some cs → noRefL cs = true) (hm : C.P.follows .mixedOrders = true)
    (hext : ∀ g e args s v s', C.ext g = some e → e args s = some (v, s') → (∀ a ∈ args, a.isOwn = false) → CallSpec C W0 g args s v s') : ∀ n, DOK C W0 (den C n)
  | 0 => fun g args s v s' h => by cases h
  | n + 1 => fun g args s v s' h hn => by
    have E : Env0 C W0 (den C n) := ⟨hgl, den_ok hgl hm hext n⟩
    simp only [den] at h
    split at h
    · rename_i e he
      exact hext g e args s v s' he h hn
    · split at h
      · rename_i fn hf
        split at h
        · rename_i c hc
          exact body_ok E hm hf hc h hn
        · cases h
      · cases h

end Go.Abs
