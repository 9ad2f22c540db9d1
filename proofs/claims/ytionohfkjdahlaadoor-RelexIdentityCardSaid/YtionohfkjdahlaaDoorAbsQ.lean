/- The abstract machine once more, in a form that is easily unfolded: each operation hands its result to what follows. -/
import Derived.Test.YtionohfkjdahlaaDoorAbsP
namespace Go.Abs
open Go

def oh (x : Option (AV × Heap)) (k : AV → Heap → Ans) : Ans := match x with
  | some (r, s) => k r s
  | none => none

/-- An operation under a guard: where the guard says no, nothing is done. -/
def gd (g : Option Bool) (s : Heap) (x : Option (AV × Heap)) : Option (AV × Heap) := match g with
  | some true => x
  | some false => some (.tup [], s)
  | none => none

def br (c : AV) (a b : Ans) : Ans := match c with
  | .bool true => a
  | .bool false => b
  | _ => none

def kop (C : Cfg) (D : Den) (f : FuncId) (N : Nat) (ops : List Oper) (o : Oper) (env : Env) (s : Heap) (k : Env → Heap → Ans) : Ans :=
  if dstOK N o then
    match takeOf (takes C f ops o) o.op with
    | none => oh (gd (wantedA ops o env) s (opV C D (boxRef C f o) (takes C f ops o) o.op (evO C env) s)) fun r s' => k (setE env o.dst r) s'
    | some t => match wantedA ops o env with
      | some true => oh (opV C D (boxRef C f o) (takes C f ops o) o.op (evO C env) s) fun r s' => k (setE (stripE env (some t)) o.dst r) s'
      | some false => k (setE env o.dst (.tup [])) s
      | none => none
  else none

theorem kop_eq {C : Cfg} {D : Den} {f : FuncId} {N : Nat} {ops : List Oper} {i : Nat} {o : Oper} (h : ops[i]? = some o) (env : Env) (s : Heap) (k : Env → Heap → Ans) :
    kop C D f N ops o env s k = match exec1 C D f N ops i (env, s) with | some st => k st.1 st.2 | none => none := by
  unfold kop exec1
  simp only [h]
  split
  · cases ht : takeOf (takes C f ops o) o.op with
    | none =>
      simp only
      cases wantedA ops o env with
      | none => rfl
      | some b =>
        cases b with
        | false => rfl
        | true =>
          simp only [gd]
          cases opV C D (boxRef C f o) (takes C f ops o) o.op (evO C env) s with
          | none => rfl
          | some r => rfl
    | some t =>
      simp only
      cases wantedA ops o env with
      | none => rfl
      | some b =>
        cases b with
        | false => rfl
        | true =>
          simp only
          cases opV C D (boxRef C f o) (takes C f ops o) o.op (evO C env) s with
          | none => rfl
          | some r => rfl
  · rfl

/-- The operations in the text's order. -/
def kops (C : Cfg) (D : Den) (f : FuncId) (N : Nat) (ops : List Oper) : List Oper → Env → Heap → (Env → Heap → Ans) → Ans
  | [], env, s, k => k env s
  | o :: l, env, s, k => kop C D f N ops o env s fun env s => kops C D f N ops l env s k

/-- .. and with their kinds. -/
def kopsK (C : Cfg) (D : Den) (f : FuncId) (N : Nat) (ops : List Oper) : List Oper → Env → Heap → List Kind → (List Kind → Env → Heap → Ans) → Ans
  | [], env, s, ks, k => k ks env s
  | o :: l, env, s, ks, k =>
    let kd := match wantedA ops o env with
      | some true => kindV (boxRef C f o) (takes C f ops o) o.op (evO C env)
      | _ => .silent
    kop C D f N ops o env s fun env s => kopsK C D f N ops l env s (ks ++ [kd]) k

def drawOK (C : Cfg) (f : FuncId) (ops : List Oper) (ks : List Kind) (x : Ans) : Ans := if edgesBack ops && pairsOK C f ops ks then x else none

theorem kops_eq {C : Cfg} {D : Den} {f : FuncId} {N : Nat} (ops : List Oper) (k : Env → Heap → Ans) : ∀ (l pre : List Oper) (env : Env) (s : Heap), ops = pre ++ l →
    kops C D f N ops l env s k = match execL C D f N ops (List.range' pre.length l.length) (env, s) with | some st => k st.1 st.2 | none => none
  | [], pre, env, s, _ => rfl
  | o :: l, pre, env, s, h => by
    have ho : ops[pre.length]? = some o := by rw [h]; simp
    simp only [kops, List.length_cons, List.range'_succ, execL]
    rw [kop_eq ho]
    cases exec1 C D f N ops pre.length (env, s) with
    | none => rfl
    | some st =>
      simp only
      have := kops_eq (C := C) (D := D) (f := f) (N := N) ops k l (pre ++ [o]) st.1 st.2 (by rw [h]; simp)
      rw [this]
      simp

theorem kopsK_eq {C : Cfg} {D : Den} {f : FuncId} {N : Nat} (ops : List Oper) (k : List Kind → Env → Heap → Ans) : ∀ (l pre : List Oper) (env : Env) (s : Heap) (ks : List Kind), ops = pre ++ l →
    kopsK C D f N ops l env s ks k = match execK C D f N ops (List.range' pre.length l.length) (env, s) with | some (st, ks') => k (ks ++ ks') st.1 st.2 | none => none
  | [], pre, env, s, ks, _ => by simp [kopsK, execK]
  | o :: l, pre, env, s, ks, h => by
    have ho : ops[pre.length]? = some o := by rw [h]; simp
    simp only [kopsK, List.length_cons, List.range'_succ, execK]
    rw [kop_eq ho]
    cases exec1 C D f N ops pre.length (env, s) with
    | none => rfl
    | some st =>
      simp only
      have := kopsK_eq (C := C) (D := D) (f := f) (N := N) ops k l (pre ++ [o]) st.1 st.2
      rw [this _ (by rw [h]; simp)]
      simp only [List.length_append, List.length_cons, List.length_nil, Nat.zero_add]
      cases execK C D f N ops (List.range' (pre.length + 1) l.length) st with
      | none => rfl
      | some r =>
        simp only [List.append_assoc, List.singleton_append, kind1, ho]
        rfl

def kreg (C : Cfg) (D : Den) (f : FuncId) (N : Nat) (ops : List Oper) (draw : Bool) (env : Env) (s : Heap) (k : Env → Heap → Ans) : Ans :=
  match draw with
  | false => kops C D f N ops ops env s k
  | true => kopsK C D f N ops ops env s [] fun ks env s => drawOK C f ops ks (k env s)

theorem kreg_eq {C : Cfg} {D : Den} {f : FuncId} {N : Nat} (ops : List Oper) (draw : Bool) (env : Env) (s : Heap) (k : Env → Heap → Ans) :
    kreg C D f N ops draw env s k = match aRegion C D f N ops draw (env, s) with | some st => k st.1 st.2 | none => none := by
  unfold kreg aRegion
  cases draw with
  | false =>
    simp only [Bool.false_eq_true, if_false]
    rw [kops_eq ops k ops [] env s rfl, List.range_eq_range']
    rfl
  | true =>
    simp only [if_true]
    rw [kopsK_eq ops _ ops [] env s [] rfl, List.range_eq_range']
    simp only [List.length_nil]
    cases execK C D f N ops (List.range' 0 ops.length) (env, s) with
    | none => rfl
    | some r =>
      simp only [drawOK, List.nil_append]
      split <;> rfl

def kcode (C : Cfg) (D : Den) (f : FuncId) (N fuel : Nat) : Code → Ks → Env → Heap → Ans
  | .skip, K, env, s => K.norm env s
  | .region _ ops draw, K, env, s => kreg C D f N ops.toList draw env s K.norm
  | .seq a b, K, env, s => kcode C D f N fuel a { K with norm := fun e s => kcode C D f N fuel b K e s } env s
  | .cond c a b, K, env, s => br (evO C env c) (kcode C D f N fuel a K env s) (kcode C D f N fuel b K env s)
  | .block id c, K, env, s => kcode C D f N fuel c { K with exit := fun i e s => if i = id then K.norm e s else K.exit i e s } env s
  | .loop c, K, env, s => aLoop (fun k e s => kcode C D f N fuel c { K with norm := k } e s) fuel env s
  | .exit id, K, env, s => K.exit id env s
  | .label _, K, env, s => K.norm env s
  | .ret, K, env, s => K.ret env s
  | _, _, _, _ => none

theorem kcode_eq {C : Cfg} {D : Den} {f : FuncId} {N fuel : Nat} : ∀ (c : Code) (K : Ks) (env : Env) (s : Heap), kcode C D f N fuel c K env s = acode C D f N fuel c K env s := by
  intro c
  induction c with
  | region id ops draw => intro K env s; simp only [kcode, acode, kreg_eq]; rfl
  | seq x y ihx ihy => intro K env s; simp only [kcode, acode, ihx, ihy]
  | cond c x y ihx ihy =>
    intro K env s
    simp only [kcode, acode, ihx, ihy, br]
    rfl
  | block id c ih => intro K env s; simp only [kcode, acode, ih]
  | loop c ih => intro K env s; simp only [kcode, acode, ih]
  | _ => intro K env s; rfl

def finK (P : Program) (rs : List ResultVar) (env : Env) (s : Heap) : Ans := match aResult P rs env s with
  | some r => some (r, s)
  | none => none

def kbody (C : Cfg) (D : Den) (n : Nat) (g : FuncId) (fn : Func) (args : List AV) (s : Heap) : Ans :=
  match fn.body with
  | some c => kcode C D g (args.length + (fn.ntmps - args.length)) n c { norm := finK C.P fn.results.toList, ret := finK C.P fn.results.toList, exit := fun _ _ _ => none } (argEnv args) s
  | none => none

/-- A function that is not taken by contract: its body. -/
theorem den_body {C : Cfg} {n : Nat} {g : FuncId} {fn : Func} (he : C.ext g = none) (hf : C.P.funcs[g]? = some fn) (args : List AV) (s : Heap) : den C (n + 1) g args s = kbody C (den C n) n g fn args s := by
  simp only [den, he, hf, kbody]
  cases fn.body with
  | none => rfl
  | some c =>
    simp only [kcode_eq, aBody]
    congr 2 <;> (funext env s; unfold finK; cases aResult C.P fn.results.toList env s <;> rfl)

theorem den_ext {C : Cfg} {n : Nat} {g : FuncId} {e : List AV → Heap → Option (AV × Heap)} (he : C.ext g = some e) (args : List AV) (s : Heap) : den C (n + 1) g args s = e args s := by
  simp only [den, he]

/-! ### The words of the unfolding form -/

def mp (x : Option AV) (s : Heap) : Option (AV × Heap) := x.map fun r => (r, s)
def sto (x : Option Heap) : Option (AV × Heap) := x.map fun s => (.undef, s)
def wA (x : AV) (want : Bool) : Option Bool := match x with
  | .bool b => some (b == want)
  | .tup _ => some false
  | _ => none
def upds (env : Env) (l : List (Nat × AV)) : Env := l.foldl (fun e p => upd e p.1 p.2) env
def fin1 (x : Option AV) (s : Heap) : Ans := match x with
  | some r => some (r, s)
  | none => none
def resL : List (Option AV) → Option (List AV)
  | [] => some []
  | r :: rs => match r, resL rs with
    | some a, some as => some (a :: as)
    | _, _ => none
def aCallV (P : Program) (D : Den) (x : AV) (args : List AV) (s : Heap) : Option (AV × Heap) := match x with
  | .fn g first captured => aCall P D g ((first ++ args ++ captured).map AV.strip) s
  | _ => none
def globV (C : Cfg) (g : Nat) : AV := match C.glob g with
  | some cs => .box cs 0
  | none => .undef
def kLoad (tk : Bool) (x : AV) : Kind := match x with
  | .box _ _ => .silent
  | _ => if tk then .writer else .reader
def kCall (args : List AV) : Kind := if noRefL args then .silent else .writer
def kCallV (x : AV) (args : List AV) : Kind := match x with
  | .fn _ first captured => if noRefL ((first ++ args ++ captured).map AV.strip) then .silent else .writer
  | _ => .writer
def kGd (g : Option Bool) (k : Kind) : Kind := match g with
  | some true => k
  | _ => .silent

def regOpsC : Code → Nat → Option (List Oper)
  | .region i ops _, id => if i = id then some ops.toList else none
  | .seq a b, id => match regOpsC a id with
    | some r => some r
    | none => regOpsC b id
  | .cond _ a b, id => match regOpsC a id with
    | some r => some r
    | none => regOpsC b id
  | .block _ c, id => regOpsC c id
  | .loop c, id => regOpsC c id
  | _, _ => none
/-- The operations of a function's statement. -/
def regOps (fn : Func) (id : Nat) : List Oper := match fn.body with
  | some c => (regOpsC c id).getD []
  | none => []

end Go.Abs
