/- Operators, conversions, strings, indexes: the operations that only compute. -/
import Derived.Test.YtionohfkjdahlaaDoorAbsC
import Derived.Laws.StructEq
namespace Go.Abs
open Go

def intBin (op : BinOp) (k : IntKind) (a b : Int) : Option AV :=
  match op with
  | .add => some (.int k (k.wrap (a + b)))
  | .sub => some (.int k (k.wrap (a - b)))
  | .mul => some (.int k (k.wrap (a * b)))
  | .quo => if b = 0 then none else some (.int k (k.wrap (a.tdiv b)))
  | .rem => if b = 0 then none else some (.int k (a.tmod b))
  | .and => some (.int k (k.wrap (BitVec.ofInt k.bits a &&& BitVec.ofInt k.bits b).toNat))
  | .or => some (.int k (k.wrap (BitVec.ofInt k.bits a ||| BitVec.ofInt k.bits b).toNat))
  | .eql => some (.bool (a == b))
  | .neq => some (.bool (a != b))
  | .lss => some (.bool (a < b))
  | .leq => some (.bool (a ≤ b))
  | .gtr => some (.bool (a > b))
  | .geq => some (.bool (a ≥ b))
  | _ => none

def strBin (op : BinOp) (a b : List UInt8) : Option AV :=
  match op with
  | .add => if a.length + b.length ≤ 4611686018427387904 then some (.str (a ++ b)) else none
  | .eql => some (.bool (a == b))
  | .neq => some (.bool !(a == b))
  | .lss => some (.bool (Op.bytesLess a b))
  | .leq => some (.bool (Op.bytesLess a b || a == b))
  | .gtr => some (.bool !(Op.bytesLess a b || a == b))
  | .geq => some (.bool !(Op.bytesLess a b))
  | _ => none

def aPartF (P : Program) (f : Field) (cs : List AV) : Option AV :=
  match isAggT P f.type, szOf P f.type with
  | some agg, some n => aLoadC agg n cs f.offset
  | _, _ => none

def aEqL (P : Program) (eq : TypeId → AV → AV → Option Bool) (xs ys : List AV) : List Field → Option Bool
  | [] => some true
  | f :: fs =>
    if f.name ≠ "_" then
      match aPartF P f xs, aPartF P f ys with
      | some a, some b => match eq f.type a b, aEqL P eq xs ys fs with
        | some r, some q => some (r && q)
        | _, _ => none
      | _, _ => none
    else aEqL P eq xs ys fs

/-- '==' -/
def aEq (P : Program) : Nat → TypeId → AV → AV → Option Bool
  | 0, _, _, _ => none
  | d + 1, t, x, y =>
    match P.underlying t with
    | some .bool => match x, y with | .bool a, .bool b => some (a == b) | _, _ => none
    | some (.int _) => match x, y with | .int k a, .int k' b => if k = k' then some (a == b) else none | _, _ => none
    | some .string => match x, y with | .str a, .str b => some (a == b) | _, _ => none
    | some (.pointer e) => match x, y with
      | .nilp, .nilp => some true
      | .nilp, .box _ _ => some false
      | .box _ _, .nilp => some false
      | .nilp, .ref _ _ => some false
      | .ref _ _, .nilp => some false
      | .ref i o, .ref j p => match szOf P e with
        | some (_ + 1) => if i = j then some (o == p) else none
        | _ => none
      | _, _ => none
    | some (.slice _) => match x, y with
      | .nils, .nils => some true
      | .nils, .sl _ _ _ _ => some false
      | .sl _ _ _ _, .nils => some false
      | _, _ => none
    | some (.func _ _ _) => match x, y with
      | .nilf, .nilf => some true
      | .nilf, .fn _ _ _ => some false
      | .fn _ _ _, .nilf => some false
      | _, _ => none
    | some (.struct fs) => match x, y with
      | .agg xs, .agg ys => if P.stoodInHeld t then none else aEqL P (aEq P d) xs ys fs.toList
      | _, _ => none
    | _ => none

def eqOp (op : BinOp) (q : Option Bool) : Option AV :=
  match op with
  | .eql => q.map fun r => .bool r
  | .neq => q.map fun r => .bool !r
  | _ => none

def aBin (P : Program) (op : BinOp) (t : TypeId) (x y : AV) : Option AV :=
  match x, y with
  | .int k a, .int k' b => if k = k' then intBin op k a b else none
  | .str a, .str b => strBin op a b
  | .agg a, .agg b => if P.eqGuardType P.depth t then none else eqOp op (aEq P 6 t (.agg a) (.agg b))
  | .bool a, .bool b => eqOp op (aEq P 6 t (.bool a) (.bool b))
  | .nilp, .nilp => eqOp op (aEq P 6 t .nilp .nilp)
  | .nilp, .box a b => eqOp op (aEq P 6 t .nilp (.box a b))
  | .box a b, .nilp => eqOp op (aEq P 6 t (.box a b) .nilp)
  | .nilp, .ref a b => eqOp op (aEq P 6 t .nilp (.ref a b))
  | .ref a b, .nilp => eqOp op (aEq P 6 t (.ref a b) .nilp)
  | .ref a b, .ref c d => eqOp op (aEq P 6 t (.ref a b) (.ref c d))
  | .nils, .nils => eqOp op (aEq P 6 t .nils .nils)
  | .nils, .sl a b c d => eqOp op (aEq P 6 t .nils (.sl a b c d))
  | .sl a b c d, .nils => eqOp op (aEq P 6 t (.sl a b c d) .nils)
  | .nilf, .nilf => eqOp op (aEq P 6 t .nilf .nilf)
  | .nilf, .fn a b c => eqOp op (aEq P 6 t .nilf (.fn a b c))
  | .fn a b c, .nilf => eqOp op (aEq P 6 t (.fn a b c) .nilf)
  | _, _ => none

theorem intBin_ok {P : Program} {op : BinOp} {k : IntKind} {a b : Int} {t : TypeId} {r : AV} (h : intBin op k a b = some r) (L : Lay) (w : World) :
    ∃ u, (binOp op t (.int k a) (.int k b)).run P w = .ok u w ∧ Rel L r u ∧ r.isOwn = false := by
  cases op <;> simp only [intBin, reduceCtorEq] at h
  case quo => split at h
              · cases h
              · rename_i hb; cases h; exact ⟨_, by simp [binOp, Op.intDiv, hb], .int _ _, rfl⟩
  case rem => split at h
              · cases h
              · rename_i hb; cases h; exact ⟨_, by simp [binOp, Op.intDiv, hb], .int _ _, rfl⟩
  all_goals
    cases h
    exact ⟨_, by simp [binOp, Op.intArith, Op.intBits, Op.intCmp]; rfl, by constructor, rfl⟩

theorem toList_mk (s : List UInt8) : (ByteArray.mk s.toArray).toList = s := by rw [ByteArray.toList_eq]
theorem size_mk (s : List UInt8) : (ByteArray.mk s.toArray).size = s.length := by simp [ByteArray.size]
theorem append_mk (a b : List UInt8) : ByteArray.mk a.toArray ++ ByteArray.mk b.toArray = ByteArray.mk (a ++ b).toArray := by
  apply ByteArray.ext; simp

theorem strBin_ok {P : Program} {op : BinOp} {a b : List UInt8} {t : TypeId} {r : AV} (h : strBin op a b = some r) (L : Lay) (w : World) :
    ∃ u, (binOp op t (.string ⟨a.toArray⟩) (.string ⟨b.toArray⟩)).run P w = .ok u w ∧ Rel L r u ∧ r.isOwn = false := by
  cases op <;> simp only [strBin, reduceCtorEq] at h
  case add =>
    split at h
    · rename_i hb
      cases h
      refine ⟨_, ?_, .str _, rfl⟩
      have : ¬ (((a.length + b.length : Nat) : Int) > IntKind.i64.max) := by
        have : IntKind.i64.max = 9223372036854775807 := by decide
        rw [this]; omega
      simp only [binOp, Op.stringOp, size_mk, this, if_false, Sem.run_pure, append_mk]
    · cases h
  all_goals
    cases h
    exact ⟨_, by simp only [binOp, Op.stringOp, toList_mk, Sem.run_pure]; rfl, by constructor, rfl⟩

theorem partF_ok {P : Program} {f : Field} {cs : List AV} {r : AV} (h : aPartF P f cs = some r) {L : Lay} {vs : List Value} (hr : RelL L cs vs) (h1 : ∀ v ∈ vs, oneC v = true) (w : World) :
    ∃ u, (part f.type vs.toArray f.offset).run P w = .ok u w ∧ Rel L r u := by
  unfold aPartF at h
  split at h
  · rename_i ha hz; exact part_ok ha hz h hr h1 w
  · cases h

theorem aEqL_ok {P : Program} {d : Nat} {eq : TypeId → AV → AV → Option Bool} {L : Lay}
    (heq : ∀ t x y r, eq t x y = some r → ∀ u v, Rel L x u → Rel L y v → ∀ w, (Op.equalIn d t u v).run P w = .ok r w) {xs ys : List AV} {us vs : List Value} (hx : RelL L xs us) (hy : RelL L ys vs)
    (hu : ∀ v ∈ us, oneC v = true) (hv : ∀ v ∈ vs, oneC v = true) (w : World) :
    ∀ (fs : List Field) (r : Bool), aEqL P eq xs ys fs = some r → (Op.eqFields d us.toArray vs.toArray fs).run P w = .ok r w
  | [], r, h => by simp only [aEqL, Option.some.injEq] at h; subst h; simp [Op.eqFields]
  | f :: fs, r, h => by
    simp only [aEqL] at h
    split at h
    · rename_i hn
      split at h
      · rename_i a b ha hb
        split at h
        · rename_i r1 r2 h1 h2
          cases h
          obtain ⟨u, hu1, hu2⟩ := partF_ok ha hx hu w
          obtain ⟨v, hv1, hv2⟩ := partF_ok hb hy hv w
          have ih := aEqL_ok heq hx hy hu hv w fs _ h2
          have := heq _ _ _ _ h1 u v hu2 hv2 w
          simp only [Op.eqFields, hn, ne_eq, not_false_eq_true, if_true, Sem.run_bind, hu1, hv1, this, Result.andThen_ok]
          cases r1
          · simp
          · simpa using ih
        · cases h
      · cases h
    · rename_i hn
      have ih := aEqL_ok heq hx hy hu hv w fs _ h
      simp only [Op.eqFields, hn, if_false]
      exact ih

theorem bytes_beq (a b : List UInt8) : ((⟨a.toArray⟩ : ByteArray) == ⟨b.toArray⟩) = (a == b) := by
  rw [beq_toListBytes, toList_mk, toList_mk]

theorem aEq_ok {P : Program} {L : Lay} : ∀ (d d' : Nat), d ≤ d' → ∀ t x y r, aEq P d t x y = some r → ∀ u v, Rel L x u → Rel L y v → ∀ w, (Op.equalIn d' t u v).run P w = .ok r w
  | 0, _, _, t, x, y, r, h, _, _, _, _, _ => by simp [aEq] at h
  | d + 1, 0, hd, _, _, _, _, _, _, _, _, _, _ => by omega
  | d + 1, d' + 1, hd, t, x, y, r, h, u, v, hx, hy, w => by
    unfold aEq at h
    split at h
    · rename_i hu
      split at h
      · cases h; cases hx; cases hy; simp [Op.equalIn, run_under hu]
      · cases h
    · rename_i hu
      split at h
      · split at h
        · rename_i e; cases h; cases hx; cases hy; subst e; simp [Op.equalIn, run_under hu]
        · cases h
      · cases h
    · rename_i hu
      split at h
      · cases h; cases hx; cases hy; simp [Op.equalIn, run_under hu, bytes_beq]
      · cases h
    · rename_i e hu
      split at h
      · cases h; cases hx; cases hy; simp [Op.equalIn, run_under hu]
      · cases h; cases hx; cases hy; simp [Op.equalIn, run_under hu]
      · cases h; cases hx; cases hy; simp [Op.equalIn, run_under hu]
      · cases h; cases hx; cases hy; simp [Op.equalIn, run_under hu]
      · cases h; cases hx; cases hy; simp [Op.equalIn, run_under hu]
      · split at h
        · rename_i n hz
          split at h
          · rename_i e; cases h; cases hx; cases hy; subst e
            simp [Op.equalIn, run_under hu, run_szOf hz, sameAddr]
            rw [Bool.eq_iff_iff]; simp
          · cases h
        · cases h
      · cases h
    · rename_i hu
      split at h
      · cases h; cases hx; cases hy; simp [Op.equalIn, run_under hu]
      · cases h; cases hx; cases hy; simp [Op.equalIn, run_under hu]
      · cases h; cases hx; cases hy; simp [Op.equalIn, run_under hu]
      · cases h
    · rename_i hu
      split at h
      · cases h; cases hx; cases hy; simp [Op.equalIn, run_under hu]
      · cases h; cases hx; cases hy; simp [Op.equalIn, run_under hu]
      · cases h; cases hx; cases hy; simp [Op.equalIn, run_under hu]
      · cases h
    · rename_i fs hu
      split at h
      · split at h
        · cases h
        · rename_i hp
          cases hx with
          | agg _ us hxs hu1 =>
            cases hy with
            | agg _ vs hys hv1 =>
              have hf : P.fieldsOf t = fs := by simp [Program.fieldsOf, hu]
              rw [run_equalIn_struct w d' t _ _ (by rw [hf]; exact hu) (by simpa using hp), hf]
              exact aEqL_ok (fun t x y r h u v hx hy w => aEq_ok d d' (by omega) t x y r h u v hx hy w) hxs hys hu1 hv1 w _ _ h
      · cases h
    · cases h

theorem eqOp_ok {op : BinOp} {q : Option Bool} {r : AV} (h : eqOp op q = some r) : ∃ r', q = some r' ∧ (op = .eql ∧ r = .bool r' ∨ op = .neq ∧ r = .bool !r') := by
  unfold eqOp at h
  split at h
  · simp only [Option.map_eq_some_iff] at h; obtain ⟨a, ha, rfl⟩ := h; exact ⟨a, ha, .inl ⟨rfl, rfl⟩⟩
  · simp only [Option.map_eq_some_iff] at h; obtain ⟨a, ha, rfl⟩ := h; exact ⟨a, ha, .inr ⟨rfl, rfl⟩⟩
  · cases h

theorem eqBin_ok {P : Program} {op : BinOp} {t : TypeId} {x y r : AV} (h : eqOp op (aEq P 6 t x y) = some r) {L : Lay} {u v : Value} (hx : Rel L x u) (hy : Rel L y v) (X Y : Operand) (w : World)
    (hg : (eqGuard op t X Y u v).run P w = .ok () w) (e1 : binOp .eql t u v = (do pure (.bool (← Op.equal t u v)) : Sem Value)) (e2 : binOp .neq t u v = (do pure (.bool (!(← Op.equal t u v))) : Sem Value)) :
    ∃ z, ((do eqGuard op t X Y u v; binOp op t u v) : Sem Value).run P w = .ok z w ∧ Rel L r z ∧ r.isOwn = false := by
  obtain ⟨r', he, hop⟩ := eqOp_ok h
  have hq := aEq_ok 6 Op.maxDepth (by decide) t x y r' he u v hx hy w
  rcases hop with ⟨rfl, rfl⟩ | ⟨rfl, rfl⟩
  · exact ⟨.bool r', by simp [hg, e1, Op.equal, hq], .bool _, rfl⟩
  · exact ⟨.bool !r', by simp [hg, e2, Op.equal, hq], .bool _, rfl⟩

theorem ite_both {α : Type} {c : Prop} [Decidable c] {a b : α} {p : α → Prop} (ha : p a) (hb : p b) : p (if c then a else b) := by split <;> assumption

theorem plainGuard {P : Program} {op : BinOp} {t : TypeId} {X Y : Operand} {u v : Value} {w : World} (h1 : u = .nilIface → v ≠ .nilIface) (h2 : ∀ a b, u = .agg a → v ≠ .agg b) :
    (eqGuard op t X Y u v).run P w = .ok () w := by
  unfold eqGuard
  rw [Sem.run_ite]
  refine ite_both (p := fun x => x = Result.ok () w) rfl ?_
  split
  · exact absurd rfl (h1 rfl)
  · exact absurd rfl (h2 _ _ rfl)
  · rfl

theorem aBin_ok {P : Program} {op : BinOp} {t : TypeId} {x y r : AV} (h : aBin P op t x y = some r) {L : Lay} {u v : Value} (hx : Rel L x u) (hy : Rel L y v) (X Y : Operand) (w : World) :
    ∃ z, ((do eqGuard op t X Y u v; binOp op t u v) : Sem Value).run P w = .ok z w ∧ Rel L r z ∧ r.isOwn = false := by
  have plain : ∀ (hg : (eqGuard op t X Y u v).run P w = .ok () w) (hb : ∃ z, (binOp op t u v).run P w = .ok z w ∧ Rel L r z ∧ r.isOwn = false),
      ∃ z, ((do eqGuard op t X Y u v; binOp op t u v) : Sem Value).run P w = .ok z w ∧ Rel L r z ∧ r.isOwn = false := by
    intro hg ⟨z, hz⟩
    exact ⟨z, by simp [hg, hz.1], hz.2⟩
  unfold aBin at h
  split at h
  · split at h
    · rename_i e; cases e; cases hx; cases hy
      exact plain (plainGuard nofun nofun) (intBin_ok h L w)
    · cases h
  · cases hx; cases hy
    exact plain (plainGuard nofun nofun) (strBin_ok h L w)
  · split at h
    · cases h
    · rename_i hg
      have hg' : P.eqGuardType P.depth t = false := by simpa using hg
      have hg2 : (eqGuard op t X Y u v).run P w = .ok () w := by
        cases hx; cases hy; unfold eqGuard; cases op <;> simp [hg']
      cases hx with
      | agg cs vs h1 h2 =>
        cases hy with
        | agg ds us h3 h4 => exact eqBin_ok h (.agg _ _ h1 h2) (.agg _ _ h3 h4) X Y w hg2 rfl rfl
  all_goals first
    | (cases h; done)
    | (have hx' := hx; have hy' := hy; cases hx; cases hy; exact eqBin_ok h hx' hy' X Y w (plainGuard nofun nofun) rfl rfl)

end Go.Abs
