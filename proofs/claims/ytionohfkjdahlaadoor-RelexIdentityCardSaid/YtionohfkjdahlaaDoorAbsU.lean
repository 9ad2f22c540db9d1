/- Unfolding a text in the abstract machine: the words' own laws. -/
import Derived.Test.YtionohfkjdahlaaDoorAbsQ
namespace Go.Abs
open Go

theorem oh_congr {x x' : Option (AV × Heap)} {k : AV → Heap → Ans} (h : x = x') : oh x k = oh x' k := by rw [h]
theorem br_congr {c c' : AV} {a b : Ans} (h : c = c') : br c a b = br c' a b := by rw [h]
theorem gd_congr {c c' : Option Bool} {s : Heap} {x : Option (AV × Heap)} (h : c = c') : gd c s x = gd c' s x := by rw [h]
attribute [congr] oh_congr br_congr gd_congr

@[simp] theorem oh_some (r : AV) (s : Heap) (k : AV → Heap → Ans) : oh (some (r, s)) k = k r s := (rfl)
@[simp] theorem mp_some (r : AV) (s : Heap) : mp (some r) s = some (r, s) := (rfl)
@[simp] theorem sto_some (s : Heap) : sto (some s) = some (.undef, s) := (rfl)
@[simp] theorem br_true (a b : Ans) : br (.bool true) a b = a := (rfl)
@[simp] theorem br_false (a b : Ans) : br (.bool false) a b = b := (rfl)
@[simp] theorem gd_true (s : Heap) (x : Option (AV × Heap)) : gd (some true) s x = x := (rfl)
@[simp] theorem gd_false (s : Heap) (x : Option (AV × Heap)) : gd (some false) s x = some (.tup [], s) := (rfl)
@[simp] theorem wA_bool (b want : Bool) : wA (.bool b) want = some (b == want) := (rfl)
theorem wA_tup (vs : List AV) (want : Bool) : wA (.tup vs) want = some false := (rfl)
theorem wA_tt : wA (.bool true) true = some true := (rfl)
theorem wA_ft : wA (.bool false) true = some false := (rfl)
theorem wA_tf : wA (.bool true) false = some false := (rfl)
theorem wA_ff : wA (.bool false) false = some true := (rfl)
theorem br_dec (p : Prop) [Decidable p] (a b : Ans) : br (.bool (decide p)) a b = if p then a else b := by by_cases h : p <;> simp [h]

@[simp] theorem strip_int (k : IntKind) (n : Int) : (AV.int k n).strip = .int k n := (rfl)
@[simp] theorem strip_str (s : List UInt8) : (AV.str s).strip = .str s := (rfl)
@[simp] theorem strip_bool (b : Bool) : (AV.bool b).strip = .bool b := (rfl)
@[simp] theorem strip_nilp : AV.nilp.strip = .nilp := (rfl)
@[simp] theorem strip_nils : AV.nils.strip = .nils := (rfl)
@[simp] theorem strip_box (cs : List AV) (o : Nat) : (AV.box cs o).strip = .box cs o := (rfl)
@[simp] theorem strip_ref (i o : Nat) : (AV.ref i o).strip = .ref i o := (rfl)
@[simp] theorem strip_agg (cs : List AV) : (AV.agg cs).strip = .agg cs := (rfl)
@[simp] theorem strip_tup (cs : List AV) : (AV.tup cs).strip = .tup cs := (rfl)
@[simp] theorem strip_undef : AV.undef.strip = .undef := (rfl)
@[simp] theorem strip_fn (f : FuncId) (a b : List AV) : (AV.fn f a b).strip = .fn f a b := (rfl)
@[simp] theorem strip_sh (t : TypeId) (z : Nat) (xs : List AV) : (AV.sl t z xs .sh).strip = .sl t z xs .sh := (rfl)
@[simp] theorem strip_full (t : TypeId) (z : Nat) (xs : List AV) : (AV.sl t z xs .full).strip = .sl t z xs .full := (rfl)
@[simp] theorem strip_own (t : TypeId) (z : Nat) (xs : List AV) : (AV.sl t z xs .own).strip = .sl t z xs .sh := (rfl)

@[simp] theorem aNilCheck_box (cs : List AV) (o : Nat) : aNilCheck (.box cs o) = some (.box cs o) := (rfl)
@[simp] theorem aNilCheck_ref (i o : Nat) : aNilCheck (.ref i o) = some (.ref i o) := (rfl)
@[simp] theorem aNilCheck_fn (f : FuncId) (a b : List AV) : aNilCheck (.fn f a b) = some (.fn f a b) := (rfl)
@[simp] theorem aAddr_box (k : Nat) (cs : List AV) (o : Nat) : aAddr k (.box cs o) = some (.box cs (o + k)) := (rfl)
@[simp] theorem aAddr_ref (k : Nat) (i o : Nat) : aAddr k (.ref i o) = some (.ref i (o + k)) := (rfl)
theorem aLoad_box (tk agg : Bool) (n : Nat) (cs : List AV) (o : Nat) (s : Heap) : aLoad tk agg n (.box cs o) s = (aLoadC agg n cs o).map fun r => (r, s) := (rfl)
theorem aLoadC_one (n : Nat) (cs : List AV) (o : Nat) : aLoadC false n cs o = cs[o]?.map AV.strip := by unfold aLoadC; cases cs[o]? <;> rfl
@[simp] theorem aLoad_one (n : Nat) (cs : List AV) (o : Nat) (s : Heap) : aLoad false false n (.box cs o) s = cs[o]?.map fun r => (r.strip, s) := by
  rw [aLoad_box, aLoadC_one]; cases cs[o]? <;> rfl
@[simp] theorem aLoad_agg (tk : Bool) (n : Nat) (cs : List AV) (o : Nat) (s : Heap) (h : o + n ≤ cs.length) : aLoad tk true n (.box cs o) s = some (.agg ((cs.drop o).take n), s) := by
  rw [aLoad_box]; unfold aLoadC; simp [h]
@[simp] theorem aPick_true (a b : AV) : aPick (.bool true) a b = some a.strip := (rfl)
@[simp] theorem aPick_false (a b : AV) : aPick (.bool false) a b = some b.strip := (rfl)
@[simp] theorem aUn_not (b : Bool) : aUn .not (.bool b) = some (.bool !b) := (rfl)
@[simp] theorem aExtract_tup (i : Nat) (vs : List AV) : aExtract i (.tup vs) = vs[i]?.map AV.strip := (rfl)
@[simp] theorem aMin_int (k : IntKind) (x y : Int) : aMin (.int k x) (.int k y) = some (.int k (if y < x then y else x)) := (rfl)
@[simp] theorem aMax_int (k : IntKind) (x y : Int) : aMax (.int k x) (.int k y) = some (.int k (if y > x then y else x)) := (rfl)
@[simp] theorem aBox_f (t : TypeId) (x : AV) (s : Heap) (h : x.solid = true) : aBox false t x s = some (.box x.cells 0, s) := by simp [aBox, h]
@[simp] theorem solid_agg (cs : List AV) : (AV.agg cs).solid = true := (rfl)
@[simp] theorem solid_box (cs : List AV) (o : Nat) : (AV.box cs o).solid = true := (rfl)
@[simp] theorem solid_nilp : AV.nilp.solid = true := (rfl)
@[simp] theorem solid_int (k : IntKind) (n : Int) : (AV.int k n).solid = true := (rfl)
@[simp] theorem solid_bool (b : Bool) : (AV.bool b).solid = true := (rfl)
@[simp] theorem solid_str (s : List UInt8) : (AV.str s).solid = true := (rfl)
@[simp] theorem cells_agg (cs : List AV) : (AV.agg cs).cells = cs := (rfl)
@[simp] theorem cells_int (k : IntKind) (n : Int) : (AV.int k n).cells = [.int k n] := (rfl)
@[simp] theorem kLoad_box (tk : Bool) (cs : List AV) (o : Nat) : kLoad tk (.box cs o) = .silent := (rfl)
@[simp] theorem kLoad_ref (i o : Nat) : kLoad false (.ref i o) = .reader := (rfl)
@[simp] theorem kGd_true (k : Kind) : kGd (some true) k = k := (rfl)
@[simp] theorem kGd_false (k : Kind) : kGd (some false) k = .silent := (rfl)
theorem kCall_ok (args : List AV) : kCall args = if noRefL args = true then .silent else .writer := by unfold kCall; cases noRefL args <;> rfl
theorem noRefL_cons (a : AV) (l : List AV) : noRefL (a :: l) = (a.noRef && noRefL l) := by simp [noRefL]
theorem noRefL_nil : noRefL [] = true := (rfl)
theorem noRef_int (k : IntKind) (n : Int) : (AV.int k n).noRef = true := (rfl)
theorem noRef_str (s : List UInt8) : (AV.str s).noRef = true := (rfl)
theorem noRef_bool (b : Bool) : (AV.bool b).noRef = true := (rfl)
theorem noRef_nilp : AV.nilp.noRef = true := (rfl)
theorem noRef_agg (cs : List AV) : (AV.agg cs).noRef = noRefL cs := by simp [AV.noRef]
theorem noRef_sl (t : TypeId) (z : Nat) (cs : List AV) (f : Flag) : (AV.sl t z cs f).noRef = noRefL cs := by simp [AV.noRef]
theorem noRef_tup (cs : List AV) : (AV.tup cs).noRef = noRefL cs := by simp [AV.noRef]
theorem drawOK_ok {C : Cfg} {f : FuncId} {ops : List Oper} {ks : List Kind} {x : Ans} (h : (edgesBack ops && pairsOK C f ops ks) = true) : drawOK C f ops ks x = x := by simp [drawOK, h]
@[simp] theorem fin1_some (r : AV) (s : Heap) : fin1 (some r) s = some (r, s) := (rfl)
@[simp] theorem resL_nil : resL [] = some [] := (rfl)
@[simp] theorem resL_some (a : AV) (l : List (Option AV)) : resL (some a :: l) = (resL l).map (a :: ·) := by simp only [resL]; cases resL l <;> rfl

theorem wrap64 {n : Int} (h1 : -9223372036854775808 ≤ n) (h2 : n < 9223372036854775808) : IntKind.i64.wrap n = n := by
  have e1 : (2 : Int) ^ 64 = 18446744073709551616 := (rfl)
  have e2 : (2 : Int) ^ (64 - 1) = 9223372036854775808 := (rfl)
  simp only [IntKind.wrap, IntKind.signed, IntKind.bits, e1, e2, Bool.true_and, decide_eq_true_eq]
  split <;> omega

section bin
variable (P : Program) (t : TypeId)
theorem bin_int (op : BinOp) (k : IntKind) (a b : Int) : aBin P op t (.int k a) (.int k b) = intBin op k a b := by simp [aBin]
@[simp] theorem bin_add (k : IntKind) (a b : Int) : aBin P .add t (.int k a) (.int k b) = some (.int k (k.wrap (a + b))) := by simp [aBin, intBin]
@[simp] theorem bin_sub (k : IntKind) (a b : Int) : aBin P .sub t (.int k a) (.int k b) = some (.int k (k.wrap (a - b))) := by simp [aBin, intBin]
@[simp] theorem bin_eql (k : IntKind) (a b : Int) : aBin P .eql t (.int k a) (.int k b) = some (.bool (a == b)) := by simp [aBin, intBin]
@[simp] theorem bin_neq (k : IntKind) (a b : Int) : aBin P .neq t (.int k a) (.int k b) = some (.bool (a != b)) := by simp [aBin, intBin]
@[simp] theorem bin_lss (k : IntKind) (a b : Int) : aBin P .lss t (.int k a) (.int k b) = some (.bool (decide (a < b))) := by simp [aBin, intBin]
@[simp] theorem bin_leq (k : IntKind) (a b : Int) : aBin P .leq t (.int k a) (.int k b) = some (.bool (decide (a ≤ b))) := by simp [aBin, intBin]
@[simp] theorem bin_gtr (k : IntKind) (a b : Int) : aBin P .gtr t (.int k a) (.int k b) = some (.bool (decide (a > b))) := by simp [aBin, intBin]
@[simp] theorem bin_geq (k : IntKind) (a b : Int) : aBin P .geq t (.int k a) (.int k b) = some (.bool (decide (a ≥ b))) := by simp [aBin, intBin]
@[simp] theorem str_eql (a b : List UInt8) : aBin P .eql t (.str a) (.str b) = some (.bool (a == b)) := by simp [aBin, strBin]
@[simp] theorem str_neq (a b : List UInt8) : aBin P .neq t (.str a) (.str b) = some (.bool !(a == b)) := by simp [aBin, strBin]
theorem str_add {a b : List UInt8} (h : a.length + b.length ≤ 4611686018427387904) : aBin P .add t (.str a) (.str b) = some (.str (a ++ b)) := by simp [aBin, strBin, h]
end bin

@[simp] theorem upds_nil (e : Env) : upds e [] = e := (rfl)
theorem upds_at (e : Env) (i : Nat) (v : AV) (l : List (Nat × AV)) : upds e ((i, v) :: l) = upds (upd e i v) l := (rfl)
theorem upd_at (e : Env) (i j : Nat) (v : AV) : upd e i v j = if j = i then v else e j := (rfl)

/-- Whatever the fuel, once there is enough of it. -/
def AC (C : Cfg) (g : FuncId) (args : List AV) (v : AV) : Prop := ∃ N, ∀ n, N ≤ n → ∀ s, aCall C.P (den C n) g args s = some (v, s)

theorem AC.intro {C : Cfg} {g : FuncId} {args : List AV} {v : AV} (he : enterable C.P g = true) (hn : noRefL args = true) (hv : v.noRef = true) (h : ∃ N, ∀ n, N ≤ n → ∃ s1, den C (n + 1) g args [] = some (v, s1)) : AC C g args v := by
  obtain ⟨N, h⟩ := h
  refine ⟨N + 1, fun n hN s => ?_⟩
  obtain ⟨m, rfl⟩ : ∃ m, n = m + 1 := ⟨n - 1, by omega⟩
  obtain ⟨s1, h1⟩ := h m (by omega)
  simp [aCall, he, hn, h1, hv]

end Go.Abs
