/- Every operation does what the abstract one says. -/
import Derived.Test.YtionohfkjdahlaaDoorAbsJ
namespace Go.Abs
open Go

section
variable {C : Cfg} {W0 : World} {L : Lay} {ow : Owns} {s s' : Heap} {w : World} {r : AV}

theorem relP_map (L : Lay) {ρ : Operand → AV} {σ : Operand → Value} : ∀ (ps : List (Nat × Operand)), (∀ p ∈ ps, Rel L (ρ p.2) (σ p.2)) → RelP L (ps.map fun p => (p.1, ρ p.2)) (ps.map fun p => (p.1, σ p.2))
  | [], _ => .nil
  | p :: ps, h => .cons _ _ _ _ _ (h p (by simp)) (relP_map L ps fun q hq => h q (by simp [hq]))

theorem relL_map (L : Lay) {ρ : Operand → AV} {σ : Operand → Value} : ∀ (xs : List Operand), (∀ x ∈ xs, Rel L (ρ x) (σ x)) → RelL L (xs.map ρ) (xs.map σ)
  | [], _ => .nil
  | x :: xs, h => .cons _ _ _ _ (h x (by simp)) (relL_map L xs fun q hq => h q (by simp [hq]))

theorem map_arr {α β : Type} (f : α → β) (xs : Array α) : xs.map f = (xs.toList.map f).toArray := Array.toList_inj.1 (by simp)

theorem relO_map (L : Lay) {ρ : Operand → AV} {σ : Operand → Value} (x : Option Operand) (h : ∀ y, x = some y → Rel L (ρ y) (σ y)) : RelO L (x.map ρ) (x.map σ) := by
  cases x with
  | none => exact .none
  | some y => exact .some _ _ (h y rfl)

theorem loadT_ok {P : Program} (h : St W0 L ow s w) {t : TypeId} (ha : isAggT P t = some false) {id off : Nat} (hr : aLoadT s id off = some (r, s')) {v : Value} (hv : Rel L (.ref id off) v) :
    ∃ u, (Instr.loadAt t v).run P w = .ok u w ∧ Res W0 L ow w r s' u w := by
  unfold aLoadT at hr
  split at hr
  · rename_i cs hcs
    split at hr
    · rename_i x hx
      cases hr
      have hne : cs.2 ≠ [] := by intro e; rw [e] at hx; simp at hx
      have O := h.obj id cs hcs hne
      obtain ⟨vs, ⟨fz, hh⟩, hrel, h1, h2⟩ := O.cells
      obtain ⟨u, hu, hru⟩ := hrel.get off _ hx
      have hidl : id < s.length := (List.getElem?_eq_some_iff.1 hcs).1
      cases hv with
      | ref _ _ hid =>
        have hc : w.cell? ⟨L.loc id, off, none⟩ = some u := by simp only [World.cell?, hh]; simpa using hu
        refine ⟨u, by simp [Instr.loadAt, Instr.sureAddr, loadVar, run_isAggT ha, hc], L, fun b => if ow b = .cell id off then .ret else ow b, ?_, ?_, hru, ?_⟩
        · exact ⟨.refl L, fun b hb => ⟨by simp [hb], fun _ => rfl, rfl⟩, .refl w⟩
        · refine ⟨fun i => by rw [h.live, has_set (has_of hcs hne) (by simpa using hne)], h.imm, fun id' ds hds hds' => ?_, fun b hb => ?_, fun b hb => by simp [h.base b hb], h.below⟩
          · by_cases e' : id' = id
            · subst e'
              rw [List.getElem?_set_self hidl] at hds
              cases hds
              refine ⟨by simp [O.own], O.S, ⟨vs, ⟨fz, hh⟩, ?_, h1, fun k a q hk hq => ?_⟩, O.melt⟩
              · have := hrel.set off hru.strip
                have hset : vs.set off u = vs := by
                  apply List.ext_getElem?
                  intro i
                  by_cases hi : off = i
                  · subst hi
                    have : off < vs.length := (List.getElem?_eq_some_iff.1 hu).1
                    rw [List.getElem?_set_self this, hu]
                  · rw [List.getElem?_set_ne hi]
                rwa [hset] at this
              · by_cases hko : off = k
                · subst hko
                  have : off < cs.2.length := (List.getElem?_eq_some_iff.1 hx).1
                  rw [List.getElem?_set_self this] at hk
                  cases hk
                  exact .of_not (strip_isOwn _)
                · rw [List.getElem?_set_ne hko] at hk
                  refine (h2 k a q hk hq).move fun b hb => ⟨?_, fun _ => rfl, rfl⟩
                  rw [hb, if_neg (by intro e; injection e with _ e; exact hko e.symm)]
            · rw [List.getElem?_set_ne (fun e => e' e.symm)] at hds
              have hidlt : L.live id' = true := by rw [h.live]; exact has_of hds hds'
              refine (h.obj id' ds hds hds').move (.refl L) hidlt (fun b hb => ⟨?_, fun _ => rfl, rfl⟩)
              rcases hb with hb | ⟨k, hb⟩
              · simp [hb]
              · rw [hb, if_neg (by intro e; injection e with e _; exact e' e)]
          · refine h.used b (fun e => hb ?_)
            rw [e]; simp
        · exact (h2 off _ u hx hu).move fun b hb => ⟨by simp [hb], fun _ => rfl, rfl⟩
    · cases hr
  · cases hr

theorem load_ok {P : Program} (h : St W0 L ow s w) {t : TypeId} {tk agg : Bool} {n : Nat} (ha : isAggT P t = some agg) (hz : szOf P t = some n) {x : AV} (hr : aLoad tk agg n x s = some (r, s')) {v : Value} (hx : Rel L x v) :
    ∃ u, (Instr.loadAt t v).run P w = .ok u w ∧ Res W0 L ow w r s' u w := by
  unfold aLoad at hr
  split at hr
  · rw [Option.map_eq_some_iff] at hr
    obtain ⟨r', hr', e⟩ := hr
    cases e
    obtain ⟨u, h1, h2⟩ := loadBox_ok (P := P) ha hz hr' hx h.imm
    exact ⟨u, h1, Res.same h h2 (.of_not (aLoadC_isOwn hr'))⟩
  · split at hr
    · rename_i htk
      have : agg = false := by simp at htk; exact htk.2
      subst this
      exact loadT_ok h ha hr hx
    · rw [Option.map_eq_some_iff] at hr
      obtain ⟨r', hr', e⟩ := hr
      cases e
      obtain ⟨u, h1, h2⟩ := loadObj_ok (P := P) h ha hz hr' hx
      refine ⟨u, h1, Res.same h h2 (.of_not ?_)⟩
      unfold aLoadR at hr'
      split at hr'
      · exact aLoadC_isOwn hr'
      · cases hr'
  · cases hr

theorem map_snd {α : Type} {x : Option α} {s s' : Heap} {r : α} (h : (x.map fun r => (r, s)) = some (r, s')) : x = some r ∧ s' = s := by
  rw [Option.map_eq_some_iff] at h
  obtain ⟨y, hy, e⟩ := h
  cases e
  exact ⟨hy, rfl⟩

theorem opV_ok (hgl : ∀ g cs, C.glob g = some cs → noRefL cs = true) {D : Den} (hD : DOK C W0 D) {rf tk : Bool} {o : Oper} {ρ : Operand → AV} (hr : opV C D rf tk o.op ρ s = some (r, s')) (hg : GlobOK C L) (hst : St W0 L ow s w)
    {σ : Operand → Value} (hρ : ∀ x ∈ o.op.operands, Rel L (ρ x) (σ x)) (hown : ∀ t, takeOf tk o.op = some t → OwnAt L ow w .arg (ρ (.tmp t)) (σ (.tmp t)))
    (hconst : ∀ x, (∀ t, x ≠ .tmp t) → (ρ x).isOwn = false) : OpW C.P o σ w (Res W0 L ow w r s') := by
  have sil : ∀ {m : Sem Value} {x : Option AV}, (execOp σ o = (do pure (.value (← m)) : Sem Next)) → (x.map fun r => (r, s)) = some (r, s') → (∀ r, x = some r → ∃ u, m.run C.P w = .ok u w ∧ Rel L r u ∧ r.isOwn = false) →
      OpW C.P o σ w (Res W0 L ow w r s') := by
    intro m x he hx hm
    obtain ⟨h1, rfl⟩ := map_snd hx
    obtain ⟨u, h2, h3, h4⟩ := hm r h1
    exact opW_val he h2 (Res.same hst h3 (.of_not h4))
  unfold opV at hr
  split at hr
  case h_1 x ho => -- move
    cases hr
    have he : execOp σ o = pure (.value (σ x)) := by unfold execOp; rw [ho]
    have hx := hρ x (by rw [ho]; simp [Op.operands])
    refine .inl ⟨σ x, w, by rw [he]; rfl, ?_⟩
    split
    · rename_i htk
      by_cases ht : ∃ t, x = .tmp t
      · obtain ⟨t, rfl⟩ := ht
        exact res_arg hst hx (hown t (by rw [ho]; simp [takeOf, htk]))
      · exact Res.same hst hx (.of_not (hconst x fun t e => ht ⟨t, e⟩))
    · exact Res.same hst hx.strip (.of_not (strip_isOwn _))
  case h_2 x ho => -- assign
    cases hr
    have he : execOp σ o = pure (.value (σ x)) := by unfold execOp; rw [ho]
    have hx := hρ x (by rw [ho]; simp [Op.operands])
    refine .inl ⟨σ x, w, by rw [he]; rfl, ?_⟩
    split
    · rename_i t
      exact res_arg hst hx (hown t (by rw [ho]; rfl))
    · exact Res.same hst hx.strip (.of_not (strip_isOwn _))
  case h_3 c a b ho => -- pick
    have he : execOp σ o = (do pure (.value (← (do pure (if ← asBool (σ c) then σ a else σ b) : Sem Value))) : Sem Next) := by unfold execOp; rw [ho]; simp
    refine sil he hr fun r h => ?_
    exact aPick_ok h (hρ c (by rw [ho]; simp [Op.operands])) (hρ a (by rw [ho]; simp [Op.operands])) (hρ b (by rw [ho]; simp [Op.operands])) w
  case h_4 t ho => -- alloc
    have he : execOp σ o = (do pure (.value (← Instr.alloc t true (.tuple #[]))) : Sem Next) := by unfold execOp; rw [ho]
    unfold aAlloc at hr
    split at hr
    · rename_i a ha
      split at hr
      · rename_i hs
        cases hr
        simp only [Bool.and_eq_true, Bool.not_eq_true', List.isEmpty_eq_false_iff] at hs
        obtain ⟨u, w', h1, h2⟩ := alloc_ok (P := C.P) hst (has_end s) ha hs.1 hs.2
        rw [putAt_end] at h2
        exact opW_val he h1 h2
      · cases hr
    · cases hr
  case h_5 t x ho => -- box
    have he : execOp σ o = (do pure (.value (← Instr.box t (σ x))) : Sem Next) := by unfold execOp; rw [ho]
    have hx := hρ x (by rw [ho]; simp [Op.operands])
    unfold aBox at hr
    split at hr
    · rename_i hs
      split at hr
      · split at hr
        · cases hr
        rename_i hc
        cases hr
        obtain ⟨u, w', h1, h2⟩ := boxRef_ok (P := C.P) hst (has_end s) hx hs (by simpa using hc) t
        rw [putAt_end] at h2
        exact opW_val he h1 h2
      · cases hr
        obtain ⟨u, w', h1, h2⟩ := boxVal_ok (P := C.P) hst hx hs t
        exact opW_val he h1 h2
    · cases hr
  case h_6 t ps ho => -- build
    have he : execOp σ o = (do pure (.value (← Instr.build t (ps.map fun (i, x) => (i, σ x)))) : Sem Next) := by unfold execOp; rw [ho]
    refine sil he hr fun r h => ?_
    refine build_ok h ?_ w
    have := relP_map L (ρ := ρ) (σ := σ) ps.toList (fun p hp => hρ p.2 (by rw [ho]; simp only [Op.operands, List.mem_toArray, List.mem_map]; exact ⟨p, hp, rfl⟩))
    simpa using this
  case h_7 t n ps ho => -- buildSlice
    have he : execOp σ o = (do pure (.value (← Instr.buildSlice t n (ps.map fun (i, x) => (i, σ x)))) : Sem Next) := by unfold execOp; rw [ho]
    obtain ⟨h, rfl⟩ := map_snd hr
    have := relP_map L (ρ := ρ) (σ := σ) ps.toList (fun p hp => hρ p.2 (by rw [ho]; simp only [Op.operands, List.mem_toArray, List.mem_map]; exact ⟨p, hp, rfl⟩))
    obtain ⟨u, w', h1, h2⟩ := buildSlice_ok (P := C.P) hst h (vs := ps.map fun (i, x) => (i, σ x)) (by simpa using this)
    exact opW_val he h1 h2
  case h_8 t a ho => -- load
    have he : execOp σ o = (do pure (.value (← Instr.loadAt t (σ a))) : Sem Next) := by unfold execOp; rw [ho]
    split at hr
    · rename_i agg n ha hz
      obtain ⟨u, h1, h2⟩ := load_ok (P := C.P) hst ha hz hr (hρ a (by rw [ho]; simp [Op.operands]))
      exact opW_val he h1 h2
    · cases hr
  case h_9 t a v ho => -- store
    have he : execOp σ o = (do Instr.storeAt t (σ a) (σ v); pure .skip : Sem Next) := by unfold execOp; rw [ho]
    have hv := hρ v (by rw [ho]; simp [Op.operands])
    split at hr
    · rename_i n hz
      rw [Option.map_eq_some_iff] at hr
      obtain ⟨s1, hs1, e⟩ := hr
      cases e
      have fin : ∀ {x : AV}, aStore n s (ρ a) x = some s' → Rel L x (σ v) → OwnAt L ow w .arg x (σ v) → OpW C.P o σ w (Res W0 L ow w .undef s') := by
        intro x h1 h2 h3
        obtain ⟨w', k1, k2⟩ := store_ok (P := C.P) hst hz h1 (hρ a (by rw [ho]; simp [Op.operands])) h2 h3
        exact .inr (.inl ⟨w', by rw [he]; simp [k1], k2⟩)
      split at hs1
      · rename_i t'
        exact fin hs1 hv (hown t' (by rw [ho]; rfl))
      · exact fin hs1 hv.strip (.of_not (strip_isOwn _))
    · cases hr
  case h_10 x ho => -- nilCheck
    obtain ⟨h, rfl⟩ := map_snd hr
    obtain ⟨u, h1, h2, h3⟩ := nilCheck_ok (P := C.P) h ho (hρ x (by rw [ho]; simp [Op.operands])) w
    exact .inl ⟨u, w, h1, Res.same hst h2 (.of_not h3)⟩
  case h_11 op t x y ty ho => -- binOp
    have he : execOp σ o = (do pure (.value (← (do eqGuard op t x y (σ x) (σ y); binOp op t (σ x) (σ y)))) : Sem Next) := by unfold execOp; rw [ho]
    exact sil he hr fun r h => aBin_ok h (hρ x (by rw [ho]; simp [Op.operands])) (hρ y (by rw [ho]; simp [Op.operands])) x y w
  case h_12 op t x ho => -- unOp
    have he : execOp σ o = (do pure (.value (← Op.unary op (σ x))) : Sem Next) := by unfold execOp; rw [ho]
    exact sil he hr fun r h => aUn_ok h (hρ x (by rw [ho]; simp [Op.operands])) w
  case h_13 a b x ho => -- convert
    have he : execOp σ o = (do pure (.value (← convert a b (σ x))) : Sem Next) := by unfold execOp; rw [ho]
    exact sil he hr fun r h => aConv_ok h (hρ x (by rw [ho]; simp [Op.operands])) w
  case h_14 t x lo hi mx ho => -- slice
    have he : execOp σ o = (do pure (.value (← Instr.sliceAt t (σ x) (lo.map σ) (hi.map σ) (mx.map σ))) : Sem Next) := by unfold execOp; rw [ho]
    have fin : (∀ e, C.P.underlying t = some (.slice e) → ∃ n, szOf C.P e = some n) → ((aSl C.P t (ρ x) (lo.map ρ) (hi.map ρ) (mx.map ρ)).map fun r => (r, s)) = some (r, s') → OpW C.P o σ w (Res W0 L ow w r s') := by
      intro hsz hr
      obtain ⟨h, rfl⟩ := map_snd hr
      obtain ⟨u, h1, h2, h3⟩ := aSl_ok h hsz (hρ x (by rw [ho]; simp [Op.operands])) (relO_map L lo fun y hy => hρ y (by rw [ho]; simp [Op.operands, hy])) (relO_map L hi fun y hy => hρ y (by rw [ho]; simp [Op.operands, hy]))
        (relO_map L mx fun y hy => hρ y (by rw [ho]; simp [Op.operands, hy])) w
      exact opW_val he h1 (Res.same hst h2 h3)
    split at hr
    · rename_i e hu
      split at hr
      · rename_i n hz
        exact fin (fun e' h' => by rw [hu] at h'; cases h'; exact ⟨n, hz⟩) hr
      · cases hr
    · rename_i hne
      exact fin (fun e' h' => absurd h' (hne e')) hr
  case h_15 t x f ho => -- fieldAddr
    have he : execOp σ o = (do pure (.value (← Instr.fieldAt t (σ x) f)) : Sem Next) := by unfold execOp; rw [ho]
    split at hr
    · rename_i k hk
      exact sil he hr fun r h => fieldAddr_ok hk h (hρ x (by rw [ho]; simp [Op.operands])) w
    · cases hr
  case h_16 t x f ho => -- field
    have he : execOp σ o = (do pure (.value (← Instr.field t (σ x) f)) : Sem Next) := by unfold execOp; rw [ho]
    exact sil he hr fun r h => field_ok h (hρ x (by rw [ho]; simp [Op.operands])) w
  case h_17 t x i ho => -- indexAddr
    have he : execOp σ o = (do pure (.value (← Instr.indexAt t (σ x) (σ i))) : Sem Next) := by unfold execOp; rw [ho]
    exact sil he hr fun r h => aIndexAddr_ok h (hρ x (by rw [ho]; simp [Op.operands])) (hρ i (by rw [ho]; simp [Op.operands])) w
  case h_18 t x i ho => -- index
    have he : execOp σ o = (do pure (.value (← Instr.index t (σ x) (σ i))) : Sem Next) := by unfold execOp; rw [ho]
    exact sil he hr fun r h => aIndex_ok h (hρ x (by rw [ho]; simp [Op.operands])) (hρ i (by rw [ho]; simp [Op.operands])) w
  case h_19 x i ho => -- extract
    have he : execOp σ o = (do pure (.value (← Instr.extract (σ x) i)) : Sem Next) := by unfold execOp; rw [ho]
    exact sil he hr fun r h => extract_ok h (hρ x (by rw [ho]; simp [Op.operands])) w
  case h_20 f first captured ho => -- makeFunc
    cases hr
    have he : execOp σ o = (do pure (.value (← Instr.makeFunc (.func f) (first.map σ) (captured.map σ))) : Sem Next) := by unfold execOp; rw [ho]
    refine opW_val he (v := .func (.func f) (first.map σ) (captured.map σ)) (w' := w) rfl (Res.same hst ?_ (.of_not rfl))
    have h1 := relL_map L (ρ := ρ) (σ := σ) first.toList (fun x hx => hρ x (by rw [ho]; simp [Op.operands]; exact .inl (by simpa using hx)))
    have h2 := relL_map L (ρ := ρ) (σ := σ) captured.toList (fun x hx => hρ x (by rw [ho]; simp [Op.operands]; exact .inr (by simpa using hx)))
    have := Rel.fn f _ _ _ _ h1 h2
    rw [← map_arr, ← map_arr] at this
    exact this
  case h_21 c ho => -- call
    have hargs := relL_map L (ρ := ρ) (σ := σ) c.args.toList (fun x hx => hρ x (by rw [ho]; simp only [Op.operands, Call.operands]; exact Array.mem_append.2 (.inr (by simpa using hx))))
    split at hr
    · rename_i b hb
      obtain ⟨h, rfl⟩ := map_snd hr
      have he : execOp σ o = builtin b c.argTypes o.type (c.args.map fun | .const _ => true | _ => false) (c.args.map σ) := by
        unfold execOp; rw [ho]; simp only [resolve, hb]; rfl
      have hlist : ∀ (vs : List Value), c.args.toList.map σ = vs → c.args.map σ = vs.toArray := by
        intro vs e; rw [← e]; exact map_arr _ _
      unfold aBuiltin at h
      split at h
      · rename_i t ts x hts hxs
        rw [hxs] at hargs
        obtain ⟨v, hv⟩ : ∃ v, c.args.toList.map σ = [v] ∧ Rel L x v := by
          generalize c.args.toList.map σ = vs at hargs
          cases hargs with
          | cons _ v _ _ h1 t1 => cases t1; exact ⟨v, rfl, h1⟩
        obtain ⟨u, h1, h2, h3⟩ := aLen_ok (P := C.P) (ty := o.type) h hv.2 c.argTypes (by rw [← Array.getElem?_toList, hts]; rfl) w
        have he' : execOp σ o = (do pure (.value (← Builtin.len_ c.argTypes o.type #[v])) : Sem Next) := by rw [he, hlist _ hv.1]; rfl
        exact opW_val he' h1 (Res.same hst h2 (.of_not h3))
      · rename_i x y hxs
        rw [hxs] at hargs
        obtain ⟨u, v, huv, hu, hv⟩ : ∃ u v, c.args.toList.map σ = [u, v] ∧ Rel L x u ∧ Rel L y v := by
          generalize c.args.toList.map σ = vs at hargs
          cases hargs with
          | cons _ v _ _ h1 t1 => cases t1 with
            | cons _ v' _ _ h2 t2 => cases t2; exact ⟨v, v', rfl, h1, h2⟩
        obtain ⟨q, h1, h2, h3⟩ := aMin_ok (P := C.P) h hu hv c.argTypes o.type w
        have he' : execOp σ o = (do pure (.value (← Builtin.min_ c.argTypes o.type #[u, v])) : Sem Next) := by rw [he, hlist _ huv]; rfl
        exact opW_val he' h1 (Res.same hst h2 (.of_not h3))
      · rename_i x y hxs
        rw [hxs] at hargs
        obtain ⟨u, v, huv, hu, hv⟩ : ∃ u v, c.args.toList.map σ = [u, v] ∧ Rel L x u ∧ Rel L y v := by
          generalize c.args.toList.map σ = vs at hargs
          cases hargs with
          | cons _ v _ _ h1 t1 => cases t1 with
            | cons _ v' _ _ h2 t2 => cases t2; exact ⟨v, v', rfl, h1, h2⟩
        obtain ⟨q, h1, h2, h3⟩ := aMax_ok (P := C.P) h hu hv c.argTypes o.type w
        have he' : execOp σ o = (do pure (.value (← Builtin.max_ c.argTypes o.type #[u, v])) : Sem Next) := by rw [he, hlist _ huv]; rfl
        exact opW_val he' h1 (Res.same hst h2 (.of_not h3))
      · rename_i t t2 x y hts hxs
        rw [hxs] at hargs
        obtain ⟨u, v, huv, hu, hv⟩ : ∃ u v, c.args.toList.map σ = [u, v] ∧ Rel L x u ∧ Rel L y v := by
          generalize c.args.toList.map σ = vs at hargs
          cases hargs with
          | cons _ v _ _ h1 t1 => cases t1 with
            | cons _ v' _ _ h2 t2 => cases t2; exact ⟨v, v', rfl, h1, h2⟩
        have hta : c.argTypes = #[t, t2] := Array.toList_inj.1 (by rw [hts])
        have hox : OwnAt L ow w .arg x u := by
          cases hal : c.args.toList with
          | nil => rw [hal] at hxs; simp at hxs
          | cons a0 rest =>
            rw [hal] at hxs huv
            simp only [List.map_cons, List.cons.injEq] at hxs huv
            rw [← hxs.1, ← huv.1]
            by_cases ht : ∃ t, a0 = .tmp t
            · obtain ⟨k, rfl⟩ := ht
              refine hown k ?_
              have : (c.args[0]? : Option Operand) = some (.tmp k) := by rw [← Array.getElem?_toList, hal]; rfl
              rw [ho]; simp [takeOf, hb, this]
            · exact .of_not (hconst a0 fun t e => ht ⟨t, e⟩)
        obtain ⟨q, w', h1, h2⟩ := append_ok (P := C.P) (ty := o.type) hst h hu hv hox
        have he' : execOp σ o = (do pure (.value (← Builtin.append_ #[t, t2] o.type #[u, v])) : Sem Next) := by rw [he, hlist _ huv, hta]; rfl
        exact opW_val he' h1 h2
      · cases h
    · rename_i x hb
      have hx := hρ x (by rw [ho]; simp [Op.operands, Call.operands, hb])
      split at hr
      · rename_i g first captured hfn
        rw [hfn] at hx
        generalize hsx : σ x = fv at hx
        cases hx with
        | fn _ _ _ vs ws h1 h2 =>
          have hall := ((h1.append hargs).append h2).strip
          have hno : ∀ a ∈ (first ++ c.args.toList.map ρ ++ captured).map AV.strip, a.isOwn = false := by
            intro a ha
            obtain ⟨b, _, rfl⟩ := List.mem_map.1 ha
            exact strip_isOwn b
          obtain ⟨k1, k2⟩ := aCall_ok hgl hD hr hno hg hst hall
          refine .inr (.inr ⟨g, _, ?_, k2⟩)
          rw [← k1]
          unfold execOp
          rw [ho]
          simp only [resolve, hb, hsx, Deferred.ofValue, pure_bind, invoke]
          congr 2
          apply Array.toList_inj.1
          simp
      · cases hr
    · cases hr
  case h_22 => cases hr

end
end Go.Abs
