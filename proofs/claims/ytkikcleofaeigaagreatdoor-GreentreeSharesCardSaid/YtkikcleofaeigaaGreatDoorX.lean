/- ExtS, ExtB, ExtI, ExtD, ExtC -/
import Derived.Shelf.Small.Strs
import Derived.Shelf.Strings.Prefix
import Derived.Shelf.Strings.Split
import Derived.Shelf.Strings.Fields
import Derived.Test.YtkikcleofaeigaaGreatDoorProg
import Derived.Test.YtkikcleofaeigaaGreatDoorB
import Derived.Shelf.Strings.Builder1
import Derived.Test.YtkikcleofaeigaaGreatDoorA
import Derived.Shelf.Spec.SlicesInsertGrow
import Derived.Test.YtkikcleofaeigaaGreatDoorC
import Derived.WalkSmall
import Derived.Lib.AppendIntMem
set_option linter.all false

section
namespace Go.Proofs
open Go.Shelf
def Tryz.lays137_ren : Go.Shelf.Ren := ⟨fun | 137 => 172 | 217 => 220 | 266 => 273 | n => n, fun | 9 => 9 | 5 => 5 | 3 => 3 | n => n, fun | n => n⟩
theorem Tryz.lays137 : Go.Proofs.Lays.n137 Tryz.prog Tryz.lays137_ren := {
  mixed := by kernel_rfl
  f137 := Tryz.func172.trans (congrArg some (by kernel_rfl))
  f217 := Tryz.func220.trans (congrArg some (by kernel_rfl))
  f266 := Tryz.func273.trans (congrArg some (by kernel_rfl))
  t3 := Tryz.underlying3
  a3 := Tryz.isAgg3
  z3 := Tryz.sizeOf3
  v3 := Tryz.zeroValue3
  t5 := Tryz.underlying5
  a5 := Tryz.isAgg5
  z5 := Tryz.sizeOf5
  v5 := Tryz.zeroValue5
  t9 := Tryz.underlying9
  a9 := Tryz.isAgg9
  z9 := Tryz.sizeOf9
  v9 := Tryz.zeroValue9 }
open Go.RowKit in
theorem Tryz.strings_IndexByte (s : ByteArray) (c : Int) (w : World) :
    Calls Tryz.prog 172 #[.string s, .int .u8 c] w fun e w' => e = .returned (.int .i64 (Lib.indexByte s.data.toList c.toNat.toUInt8)) ∧ w' = w := Any.strings_IndexByte Tryz.lays137 s c w
def Tryz.lays99_ren : Go.Shelf.Ren := ⟨fun | 99 => 163 | 206 => 218 | n => n, fun | 9 => 9 | 4 => 4 | 3 => 3 | n => n, fun | n => n⟩
theorem Tryz.lays99 : Go.Proofs.Lays.n99 Tryz.prog Tryz.lays99_ren := {
  mixed := by kernel_rfl
  f99 := Tryz.func163.trans (congrArg some (by kernel_rfl))
  f206 := Tryz.func218.trans (congrArg some (by kernel_rfl))
  t3 := Tryz.underlying3
  a3 := Tryz.isAgg3
  z3 := Tryz.sizeOf3
  v3 := Tryz.zeroValue3
  t4 := Tryz.underlying4
  a4 := Tryz.isAgg4
  z4 := Tryz.sizeOf4
  v4 := Tryz.zeroValue4
  t9 := Tryz.underlying9
  a9 := Tryz.isAgg9
  z9 := Tryz.sizeOf9
  v9 := Tryz.zeroValue9 }
open Go.RowKit Go.Lib in
theorem Tryz.strings_HasPrefix (s p : ByteArray) (w : World) :
    Calls Tryz.prog 163 #[.string s, .string p] w fun e w' => e = .returned (.bool (Lib.hasPrefix s.data.toList p.data.toList)) ∧ w' = w := Any.strings_HasPrefix Tryz.lays99 s p w
def Tryz.lays157_ren : Go.Shelf.Ren := ⟨fun | 157 => 174 | 229 => 221 | 199 => 222 | 261 => 274 | 311 => 312 | 312 => 313 | n => n, fun | 9 => 9 | 31 => 215 | 3 => 3 | 5 => 5 | 4 => 4 | 119 => 280 | 0 => 0 | 40 => 282 | 152 => 310 | 21 => 21 | 154 => 312 | 51 => 298 | 141 => 314 | 196 => 337 | 193 => 334 | 198 => 340 | 49 => 338 | 194 => 335 | 201 => 343 | 226 => 354 | 46 => 230 | 227 => 355 | n => n, fun | 0 => 1 | 6 => 2 | n => n⟩
theorem Tryz.lays157 : Go.Proofs.Lays.n157 Tryz.prog Tryz.lays157_ren := {
  mixed := by kernel_rfl
  f157 := Tryz.func174.trans (congrArg some (by kernel_rfl))
  f199 := Tryz.func222.trans (congrArg some (by kernel_rfl))
  f229 := Tryz.func221.trans (congrArg some (by kernel_rfl))
  f261 := Tryz.func274.trans (congrArg some (by kernel_rfl))
  f311 := Tryz.func312.trans (congrArg some (by kernel_rfl))
  f312 := Tryz.func313.trans (congrArg some (by kernel_rfl))
  t0 := Tryz.underlying0
  a0 := Tryz.isAgg0
  z0 := Tryz.sizeOf0
  v0 := Tryz.zeroValue0
  t3 := Tryz.underlying3
  a3 := Tryz.isAgg3
  z3 := Tryz.sizeOf3
  v3 := Tryz.zeroValue3
  t4 := Tryz.underlying4
  a4 := Tryz.isAgg4
  z4 := Tryz.sizeOf4
  v4 := Tryz.zeroValue4
  t5 := Tryz.underlying5
  a5 := Tryz.isAgg5
  z5 := Tryz.sizeOf5
  v5 := Tryz.zeroValue5
  t9 := Tryz.underlying9
  a9 := Tryz.isAgg9
  z9 := Tryz.sizeOf9
  v9 := Tryz.zeroValue9
  t21 := Tryz.underlying21
  a21 := Tryz.isAgg21
  z21 := Tryz.sizeOf21
  v21 := Tryz.zeroValue21
  t31 := Tryz.underlying215
  a31 := Tryz.isAgg215
  z31 := Tryz.sizeOf215
  v31 := Tryz.zeroValue215
  t40 := Tryz.underlying282
  a40 := Tryz.isAgg282
  z40 := Tryz.sizeOf282
  v40 := Tryz.zeroValue282
  t46 := Tryz.underlying230
  a46 := Tryz.isAgg230
  z46 := Tryz.sizeOf230
  v46 := Tryz.zeroValue230
  t49 := Tryz.underlying338
  a49 := Tryz.isAgg338
  z49 := Tryz.sizeOf338
  v49 := Tryz.zeroValue338
  t51 := Tryz.underlying298
  a51 := Tryz.isAgg298
  z51 := Tryz.sizeOf298
  v51 := Tryz.zeroValue298
  t119 := Tryz.underlying280
  a119 := Tryz.isAgg280
  z119 := Tryz.sizeOf280
  t141 := Tryz.underlying314
  a141 := Tryz.isAgg314
  z141 := Tryz.sizeOf314
  v141 := Tryz.zeroValue314
  t152 := Tryz.underlying310
  a152 := Tryz.isAgg310
  z152 := Tryz.sizeOf310
  v152 := Tryz.zeroValue310
  t154 := Tryz.underlying312
  a154 := Tryz.isAgg312
  z154 := Tryz.sizeOf312
  v154 := Tryz.zeroValue312
  t193 := Tryz.underlying334
  a193 := Tryz.isAgg334
  z193 := Tryz.sizeOf334
  v193 := Tryz.zeroValue334
  t194 := Tryz.underlying335
  a194 := Tryz.isAgg335
  z194 := Tryz.sizeOf335
  v194 := Tryz.zeroValue335
  t196 := Tryz.underlying337
  a196 := Tryz.isAgg337
  z196 := Tryz.sizeOf337
  v196 := Tryz.zeroValue337
  t198 := Tryz.underlying340
  a198 := Tryz.isAgg340
  z198 := Tryz.sizeOf340
  v198 := Tryz.zeroValue340
  t201 := Tryz.underlying343
  a201 := Tryz.isAgg343
  z201 := Tryz.sizeOf343
  v201 := Tryz.zeroValue343
  t226 := Tryz.underlying354
  a226 := Tryz.isAgg354
  z226 := Tryz.sizeOf354
  v226 := Tryz.zeroValue354
  t227 := Tryz.underlying355
  a227 := Tryz.isAgg355
  z227 := Tryz.sizeOf355
  v227 := Tryz.zeroValue355
  g0 := by kernel_rfl
  g6 := by kernel_rfl }
open Go.RowKit Go.Lib in
theorem Tryz.strings_Fields (s : ByteArray) (w : World) (hs : s.size < 4294967281) (hascii : ∀ (j : Nat) b, s.data.toList[j]? = some b → b.toNat < 128) (htab : Lib.TabIs Tryz.prog w "strings.asciiSpace" .u8 Lib.asciiSpaceTab) :
    Calls Tryz.prog 174 #[.string s] w fun e w' =>
      e = .returned (.slice (some ⟨w.heap.size, 0, none⟩) (Lib.fields s.data.toList).length (Lib.fields s.data.toList).length) ∧ w' = w.alloc (.cells ((Lib.fields s.data.toList).map fun l => Value.string ⟨l.toArray⟩).toArray 9) := Any.strings_Fields Tryz.lays157 (by kernel_rfl) (by kernel_rfl) s w hs hascii htab
end Go.Proofs
end

section
namespace Go.Proofs
open Go
theorem lies_at {P : Program} {n d e : Nat} (hd : P.depth = d + 1) (hc : P.cellsOf e = 2) (hf : sameLayout P P.depth e e = true) (h : 2 ≤ n) : liesAt P P.depth e (n / P.cellsOf e) 0 e 1 = true := by
  have hn : 1 ≤ n / 2 := by omega
  rw [hc]
  have key : rowAt P (sameLayout P P.depth · e) P.depth e (n / 2) 0 1 = true := by
    generalize hF : (sameLayout P P.depth · e) = F
    have hFe : F e = true := by rw [← hF]; exact hf
    rw [hd, rowAt, hc, hFe]
    simp [hn]
  rw [hd] at key ⊢
  rw [liesAt, hd, key, Bool.true_or]
set_option maxHeartbeats 1000000 in
set_option maxRecDepth 100000 in
theorem check_used (b : Nat) (w : World) (h0 : w.cell? ⟨b, 0, none⟩ = some (.pointer (some ⟨b, 0, none⟩))) :
    Calls Tryz.prog 101 #[.pointer (some ⟨b, 0, none⟩)] w fun e w' => e = .returned (.tuple #[]) ∧ w' = w := by
  obtain ⟨j, hj, _⟩ : ∃ j, Tryz.prog.info? 112 = some j ∧ j.size = 2 := by
    have h : (Tryz.prog.info? 112).map (·.size) = some 2 := by kernel_rfl
    obtain ⟨j, hj, e⟩ := Option.map_eq_some_iff.1 h
    exact ⟨j, hj, e⟩
  have u50 : Tryz.prog.underlying 109 = some (.pointer 112) := by kernel_rfl
  go_enter Tryz.func101, Tryz.ntmps101
  go_wp2
  rw [Lib.run_neq_ptr_same w _ u50 hj]
  go_wp2
  go_end0
  exact ⟨rfl, rfl⟩
set_option maxHeartbeats 1000000 in
set_option maxRecDepth 100000 in
theorem check_fresh (b : Nat) (w : World) (h0 : w.cell? ⟨b, 0, none⟩ = some (.pointer none)) {n : Nat} (hn : 2 ≤ n) (hsh : w.shape? b = some (112, n)) (hfz : w.frozen? ⟨b, 0, none⟩ = false) :
    Calls Tryz.prog 101 #[.pointer (some ⟨b, 0, none⟩)] w fun e w' => e = .returned (.tuple #[]) ∧ w' = w.setCell ⟨b, 0, none⟩ (.pointer (some ⟨b, 0, none⟩)) := by
  obtain ⟨j, hj, hjs⟩ : ∃ j, Tryz.prog.info? 112 = some j ∧ j.size = 2 := by
    have h : (Tryz.prog.info? 112).map (·.size) = some 2 := by kernel_rfl
    obtain ⟨j, hj, e⟩ := Option.map_eq_some_iff.1 h
    exact ⟨j, hj, e⟩
  have u50 : Tryz.prog.underlying 109 = some (.pointer 112) := by kernel_rfl
  have u71 : Tryz.prog.underlying 248 = some .unsafePointer := by kernel_rfl
  have lies : liesAt Tryz.prog Tryz.prog.depth 112 (n / Tryz.prog.cellsOf 112) 0 112 1 = true :=
    lies_at (d := Tryz.prog.depth - 1) (by kernel_rfl) (by kernel_rfl) (by kernel_rfl) hn
  go_enter Tryz.func101, Tryz.ntmps101
  go_wp2
  rw [Lib.run_to_unsafe w ⟨b, 0, none⟩ u50 u71 hj (by rw [hjs]; decide) hsh (Nat.lt_of_lt_of_le (Nat.zero_lt_succ 1) hn)]
  simp only [Result.andThen]
  rw [Oper.upon_value]
  go_wp2
  rw [run_callFunc_extern Tryz.func160 (by kernel_rfl) (by kernel_rfl) (by kernel_rfl) (e := Extern.AbiNoEscape.same) (by kernel_rfl)]
  rw [Lib.run_noEscape]
  simp only [Result.andThen]
  rw [Oper.upon_value]
  go_wp2
  rw [Lib.run_from_unsafe w ⟨b, 0, none⟩ u71 u50 hj hsh lies]
  simp only [Result.andThen]
  rw [Oper.upon_value]
  go_wp2
  go_end0
  exact ⟨rfl, rfl⟩
set_option maxHeartbeats 1000000 in
set_option maxRecDepth 100000 in
theorem string_walk (b g cap : Nat) (l : List UInt8) (p : Value) (w : World) (c1' : w.cell? ⟨b, 1, none⟩ = some (.slice (some ⟨g, 0, none⟩) l.length cap)) (cur : Array Value) (fz : Nat × Nat) (hg : w.heap[g]? = some (.cells cur 5 fz))
    (hcells : ∀ j x, l[j]? = some x → w.cell? ⟨g, j, none⟩ = some (.int .u8 x.toNat)) (h0 : l ≠ []) (h1 : l.length ≤ cap) (h2 : l.length ≤ cur.size) (h63 : l.length ≤ 9223372036854775807) :
    Calls Tryz.prog 51 #[.pointer (some ⟨b, 0, none⟩)] w fun e w' => e = .returned (.string ⟨l.toArray⟩) ∧ w' = w.drew.freeze ⟨g, 0, none⟩ l.length := by
  have hl0 : l.length ≠ 0 := by simpa using h0
  have c1 : w.drew.cell? ⟨b, 1, none⟩ = some (.slice (some ⟨g, 0, none⟩) l.length cap) := c1'
  have hSD : (Builtin.unsafeSliceData_ #[110] 185 #[.slice (some ⟨g, 0, none⟩) l.length cap]).run Tryz.prog w.drew = .ok (.pointer (some ⟨g, 0, none⟩)) w.drew :=
    Lib.run_unsafeSliceData_row _ _ _ _ _ _ (by omega)
  have u70 : Tryz.prog.underlying 185 = some (.pointer 5) := by kernel_rfl
  have cB : Tryz.prog.cellsOf 5 = 1 := by kernel_rfl
  have hUS : (Builtin.unsafeString_ #[185, 3] 9 #[.pointer (some ⟨g, 0, none⟩), .int .i64 l.length]).run Tryz.prog w.drew = .ok (.string ⟨l.toArray⟩) (w.drew.freeze ⟨g, 0, none⟩ l.length) := by
    refine Lib.run_unsafeString_row w.drew 185 3 9 5 u70 cB g cur.size (by have hg' : w.drew.heap[g]? = some (.cells cur 5 fz) := hg; simp [World.shape?, hg']) l h0 h2 h63 ?_
    intro j x hx
    have := hcells j x hx
    have e : Addr.add ⟨g, 0, none⟩ j = ⟨g, j, none⟩ := by unfold Addr.add; split <;> simp_all
    rw [e]
    exact this
  go_enter Tryz.func51, Tryz.ntmps51
  go_wp2
  go_region
  all_goals (go_wp2; go_ret; exact ⟨rfl, rfl⟩)
set_option maxHeartbeats 1000000 in
set_option maxRecDepth 100000 in
theorem string_nil_walk (b : Nat) (w : World) (c1' : w.cell? ⟨b, 1, none⟩ = some (.slice none 0 0)) :
    Calls Tryz.prog 51 #[.pointer (some ⟨b, 0, none⟩)] w fun e w' => e = .returned (.string ⟨#[]⟩) ∧ w' = w.drew := by
  have hUS : ∀ (W : World) (q : Option Addr), (Builtin.unsafeString_ #[185, 3] 9 #[.pointer q, .int .i64 0]).run Tryz.prog W = .ok (.string .empty) W := fun W q => Lib.run_unsafeString_none W _ _ _ q
  have c1 : w.drew.cell? ⟨b, 1, none⟩ = some (.slice none 0 0) := c1'
  have hSD : (Builtin.unsafeSliceData_ #[110] 185 #[.slice none 0 0]).run Tryz.prog w.drew = .ok (.pointer none) w.drew := rfl
  go_enter Tryz.func51, Tryz.ntmps51
  go_wp2
  go_region
  all_goals (go_wp2; go_ret; exact ⟨rfl, rfl⟩)
end Go.Proofs
end

section
namespace Go.Proofs
open Go Go.Lib Go.RowKit
theorem run_copy_z {P : Program} (w : World) (dT sT ty elem : TypeId) (z : Nat) (b o dLen dCap : Nat) (a : Addr) (sLen sCap : Nat) (cs : List Value)
    (hu : P.underlying dT = some (.slice elem)) (hs : (P.info? elem).map (·.size) = some z) (hn : cs.length = Nat.min sLen dLen * z)
    (hsrc : ∀ j v, cs[j]? = some v → w.cell? (a.add j) = some v) (hc : ∀ j, j < cs.length → (w.cell? ⟨b, o + j, none⟩).isSome = true) (hf : ∀ j, j < cs.length → w.frozen? ⟨b, o + j, none⟩ = false) (h1 : ∀ v ∈ cs, v.oneCell' = true) :
    (Builtin.copy_ #[dT, sT] ty #[.slice (some ⟨b, o, none⟩) dLen dCap, .slice (some a) sLen sCap]).run P w = .ok (goInt (Nat.min sLen dLen)) (w.setCells b o cs) := by
  have hl := run_loadCells_list (P := P) w a cs hsrc
  have hst := run_storeCells_cells (P := P) b o cs 0 w (by simpa using hc) (by simpa using hf) h1
  cases hq : P.info? elem with
  | none => simp [hq] at hs
  | some i =>
    have hi : i.size = z := by simpa [hq] using hs
    simp [Builtin.copy_, run_underlying hu, Builtin.lenOf, Builtin.firstCells, sizeOf, typeInfo, hq, hi, ← hn, hl, hst]
theorem run_overlaps_unfrozen {P : Program} (w : World) (tS tR e : TypeId) (ht : P.underlying tS = some (.slice e)) (size : Nat) (hz : ∀ w, (Go.sizeOf e).run P w = .ok size w)
    (a b : Addr) (la ca lb cb : Nat) (hne : a.block ≠ b.block) (tA tB : TypeId) (kA kB : Nat)
    (hsa : w.shape? a.block = some (tA, kA)) (hsb : w.shape? b.block = some (tB, kB)) (hkA : kA ≠ 0) (hkB : kB ≠ 0)
    (hfb : w.frozen? b = false) (hfe : w.frozen? { block := b.block, off := kB } = false) :
    (Extern.SlicesOverlaps.overlaps #[tS, tS] #[tR] #[.slice (some a) la ca, .slice (some b) lb cb]).run P w = .ok (.bool false) w := by
  have hnb : (a.block != b.block) = true := by simpa using hne
  have hnb' : (a.block == b.block) = false := by simpa using hne
  change Sem.run P (α := Value) (do
    let some t := (#[tS, tS] : Array TypeId)[0]? | stuck "slices.overlaps: no parameter types"
    let .slice elem ← underlying t | stuck "slices.overlaps: slice type expected"
    let size ← sizeOf elem
    match (some a : Option Addr), (some b : Option Addr) with
    | some a, some b =>
      if la = 0 ∨ lb = 0 ∨ size = 0 then pure (Value.bool false)
      else if a.block != b.block && (← frozen a) && (← frozen b) then unsupported .addressObserved
      else do
        if a.block != b.block then do
          noView a; noView b
          if ← mayBeOne a b then return Value.bool ((← choose _) == 1)
        pure (Value.bool (a.block == b.block && a.off < b.off + lb * size && b.off < a.off + la * size))
    | _, _ => pure (Value.bool false)) w = _
  by_cases h0 : la = 0 ∨ lb = 0 ∨ size = 0
  · simp [run_underlying ht, hz, h0]
  · cases kB with
    | zero => exact absurd rfl hkB
    | succ kB =>
      cases kA with
      | zero => exact absurd rfl hkA
      | succ kA =>
        cases hfa : w.frozen? a <;> cases hfa2 : w.frozen? { block := a.block, off := kA + 1 } <;>
        simp [run_underlying ht, hz, h0, hnb, hnb', frozen, noView, viewAt, mayBeOne, stringish, shape, Sem.run, hsa, hsb, hfa, hfa2, hfb, hfe]
theorem ins_u50 : Tryz.prog.underlying 50 = some (.slice 52) := by kernel_rfl
theorem ins_size : (Tryz.prog.info? 52).map (·.size) = some 3 := by kernel_rfl
set_option maxHeartbeats 4000000 in
set_option maxRecDepth 100000 in
theorem insert_shift (b k c vb voff vc : Nat) (cs vs : List Value) (w : World) (hroom : k + 2 ≤ c) (hk : k < 1000000000) (hvb : vb ≠ b)
    (hcl : cs.length = 3) (hvl : vs.length = 3)
    (hcs : ∀ j v, cs[j]? = some v → w.cell? ⟨b, k * 3 + j, none⟩ = some v) (hsp : ∀ j, j < (k + 2) * 3 → (w.cell? ⟨b, j, none⟩).isSome = true) (hfz : ∀ j, w.frozen? ⟨b, j, none⟩ = false)
    (hvs : ∀ j v, vs[j]? = some v → w.cell? ⟨vb, voff + j, none⟩ = some v) (h1c : ∀ v ∈ cs, v.oneCell' = true) (h1v : ∀ v ∈ vs, v.oneCell' = true)
    (tA tB : TypeId) (kA kB : Nat) (hsa : w.shape? vb = some (tA, kA)) (hsb : w.shape? b = some (tB, kB)) (hkA : kA ≠ 0) (hkB : kB ≠ 0) :
    Calls Tryz.prog 236 #[.slice (some ⟨b, 0, none⟩) (k + 1) c, .int .i64 k, .slice (some ⟨vb, voff, none⟩) 1 vc] w fun e w' =>
      e = .returned (.slice (some ⟨b, 0, none⟩) (k + 2) c) ∧ w' = (w.drew.setCells b ((k + 1) * 3) cs).setCells b (k * 3) vs := by
  have hz1 : ¬ ((1 : Int) = 0) := by omega
  have hz2 : ¬ ((k : Int) = ((k + 1 : Nat) : Int)) := by omega
  have hov : ∀ lb cb, (callFunc 281 #[.slice (some ⟨vb, voff, none⟩) 1 vc, .slice (some ⟨b, (k + 1) * 3, none⟩) lb cb]).run Tryz.prog w = .ok (.value (.bool false)) w := fun lb cb => by
    rw [run_callFunc_extern Tryz.func281 (by kernel_rfl) (by kernel_rfl) (by kernel_rfl) (e := Extern.SlicesOverlaps.overlaps #[50, 50] #[4]) (by kernel_rfl),
      run_overlaps_unfrozen w 50 4 52 ins_u50 3 Tryz.sizeOf52 ⟨vb, voff, none⟩ ⟨b, (k + 1) * 3, none⟩ 1 vc lb cb hvb tA tB kA kB hsa hsb hkA hkB (hfz _) (hfz _)]
    rfl
  have hk2 : k + 1 + 1 - k = 2 := by omega
  have hw1 : IntKind.i64.wrap ((k : Int) + 1) = (k : Int) + 1 := by rw [IntKind.wrap_i64]; omega
  have hcp1 : ∀ ty dc sc, (Builtin.copy_ #[50, 50] ty #[.slice (some ⟨b, (k + 1) * 3, none⟩) 1 dc, .slice (some ⟨b, k * 3, none⟩) (k + 1 + 1 - k) sc]).run Tryz.prog w.drew = .ok (goInt (Nat.min (k + 1 + 1 - k) 1)) (w.drew.setCells b ((k + 1) * 3) cs) := fun ty dc sc =>
    run_copy_z w.drew _ _ ty 52 3 b ((k + 1) * 3) 1 dc ⟨b, k * 3, none⟩ (k + 1 + 1 - k) sc cs ins_u50 ins_size (by rw [hcl, hk2]; rfl)
      (fun j v hj => by rw [Addr.add_lit]; exact hcs j v hj)
      (fun j hj => hsp _ (by omega)) (fun j hj => hfz _) h1c
  obtain ⟨W1, hW1⟩ : ∃ W1, W1 = w.drew.setCells b ((k + 1) * 3) cs := ⟨_, rfl⟩
  have hsp1 : ∀ j, j < (k + 2) * 3 → (W1.cell? ⟨b, j, none⟩).isSome = true := fun j hj => by
    rw [hW1]
    exact isSome_setCells b cs ((k + 1) * 3) w.drew (fun i hi => hsp _ (by omega)) j (hsp j hj)
  have hcp2 : ∀ (W : World), (∀ x, W.cell? x = W1.cell? x) → (∀ x, W.frozen? x = W1.frozen? x) → ∀ ty dc, (Builtin.copy_ #[50, 50] ty #[.slice (some ⟨b, k * 3, none⟩) (k + 1 + 1 - k) dc, .slice (some ⟨vb, voff, none⟩) 1 vc]).run Tryz.prog W = .ok (goInt (Nat.min 1 (k + 1 + 1 - k))) (W.setCells b (k * 3) vs) := fun W hWc hWf ty dc =>
    run_copy_z W _ _ ty 52 3 b (k * 3) (k + 1 + 1 - k) dc ⟨vb, voff, none⟩ 1 vc vs ins_u50 ins_size (by rw [hvl, hk2]; rfl)
      (fun j v hj => by
        rw [Addr.add_lit, hWc, hW1, World.cell?_setCells_out b _ _ _ _ (fun h _ => absurd h hvb)]
        exact hvs j v hj)
      (fun j hj => by rw [hWc]; exact hsp1 _ (by omega)) (fun j hj => by rw [hWf, hW1, World.frozen?_setCells]; exact hfz _) h1v
  rw [← hW1] at hcp1
  clear hk2
  have hb1 : (0 : Int) ≤ (k : Int) + 1 := by omega
  have hb2 : ¬ (c = k + 1) := by omega
  have hb3 : (k : Int) ≤ (k : Int) + 1 := by omega
  have hb3' : (k : Int) ≤ (k : Int) + 1 + 1 := by omega
  have hb4 : ¬ (c = k) := by omega
  go_enter Tryz.func236, Tryz.ntmps236
  go_wp2_with (simp only [hov])
  go_region_law (refine step_copy_runI rfl _ _ 50 50 rfl _ _ (by simp [Act.eval, Act.put]) (by simp [Act.eval, Act.put]) (hcp1 _ _ _) ?_)
  all_goals (go_wp2_with (at_builtin; refine wpList_copy_runI _ rfl _ _ 50 50 rfl _ _ rfl rfl (hcp2 _ (fun _ => rfl) (fun _ => rfl) _ _) ?_))
  all_goals go_ret
  all_goals first | exact ⟨rfl, rfl⟩ | exact ⟨rfl, by rw [hW1]⟩
set_option maxHeartbeats 4000000 in
set_option maxRecDepth 100000 in
theorem insert_grow (b k c vb voff vc : Nat) (os cs vs : List Value) (w : World) (hnc : k + 1 ≤ c) (hroom : c < k + 2) (hbig : (k + 2) * 48 ≤ 140737488355328) (hvb : vb ≠ b) (z : Value) (i0 : TypeInfo) (hi0 : Tryz.prog.info? 52 = some i0) (hz0 : i0.zero = some z) (hzs : i0.size = 3) (hzb : i0.bytes = 48) (hzc : z.cells.size = 3)
    (hol : os.length = k * 3) (hcl : cs.length = 3) (hvl : vs.length = 3)
    (hos : ∀ j v, os[j]? = some v → w.cell? ⟨b, j, none⟩ = some v) (hcs : ∀ j v, cs[j]? = some v → w.cell? ⟨b, k * 3 + j, none⟩ = some v)
    (hvs : ∀ j v, vs[j]? = some v → w.cell? ⟨vb, voff + j, none⟩ = some v) (h1c : ∀ v ∈ cs, v.oneCell' = true) (h1v : ∀ v ∈ vs, v.oneCell' = true) :
    Calls Tryz.prog 236 #[.slice (some ⟨b, 0, none⟩) (k + 1) c, .int .i64 k, .slice (some ⟨vb, voff, none⟩) 1 vc] w fun e w' =>
      e = .returned (.slice (some ⟨w.heap.size, 0, none⟩) (k + 2) (grownCap w (k + 2) c 52)) ∧
      w' = (((w.alloc (.cells (os.toArray ++ Builtin.zeroCells z.cells 2 ++ Builtin.zeroCells z.cells (grownCap w (k + 2) c 52 - (k + 2))) 52)).drew.setCells w.heap.size (k * 3) vs).drew).setCells w.heap.size ((k + 1) * 3) cs := by
  have hz1 : ¬ ((1 : Int) = 0) := by omega
  have hz2 : ¬ ((k : Int) = ((k + 1 : Nat) : Int)) := by omega
  have hbw : b < w.heap.size := block_lt_of_cell (hcs 0 _ (List.getElem?_eq_getElem (by omega)))
  have hvw : vb < w.heap.size := block_lt_of_cell (hvs 0 _ (List.getElem?_eq_getElem (by omega)))
  have hold : (Builtin.firstCells i0.size k (.slice (some ⟨b, 0, none⟩) k c)).run Tryz.prog w.drew = .ok os.toArray w.drew := by
    rw [hzs]
    exact run_firstCells_some w.drew 3 k ⟨b, 0, none⟩ k c os hol (fun j v hj => by
      rw [Addr.add_lit, Nat.zero_add]; exact hos j v hj)
  have hrz : ∀ ty, (Builtin.append_ #[50, 3] ty #[.slice (some ⟨b, 0, none⟩) k c, .int .i64 ((k : Int) + 1 + 1 - (k : Int))]).run Tryz.prog w =
      .ok (.slice (some ⟨w.heap.size, 0, none⟩) (k + 2) (grownCap w (k + 2) c 52)) (w.drew.alloc (.cells (os.toArray ++ Builtin.zeroCells z.cells 2 ++ Builtin.zeroCells z.cells (grownCap w (k + 2) c 52 - (k + 2))) 52)) := fun ty => by
    have hf : Builtin.nextslicecap (k + 2) c * i0.bytes ≤ 281474976710656 := by rw [hzb]; exact growslice_fits (need := k + 2) (old := c) (bytes := 48) hroom hbig
    have hf2 : 2 * i0.bytes ≤ 281474976710656 := by omega
    have hf3 : 0 < i0.size := by omega
    have hf4 : ((k + 2 : Nat) : Int) ≤ 9223372036854775807 := by omega
    have h := Lib.run_append_grow_zeros (P := Tryz.prog) w 50 3 ty 52 i0 z .i64 .i64 ins_u50 Tryz.underlying3 hi0 hz0 (some ⟨b, 0, none⟩) k c os hold 2 (by decide) hf3 hroom hf4 hf2 hf
    rw [show (k : Int) + 1 + 1 - (k : Int) = ((2 : Nat) : Int) by omega]
    exact h
  obtain ⟨G, hG⟩ : ∃ G, G = grownCap w (k + 2) c 52 := ⟨_, rfl⟩
  obtain ⟨ROW, hROW⟩ : ∃ ROW : Array Value, ROW = os.toArray ++ Builtin.zeroCells z.cells 2 ++ Builtin.zeroCells z.cells (G - (k + 2)) := ⟨_, rfl⟩
  rw [← hG] at hrz ⊢
  rw [← hROW] at hrz ⊢
  have hRl : (k + 2) * 3 ≤ ROW.size := by
    rw [hROW]
    simp [Builtin.zeroCells, hzc, hol]
    omega
  obtain ⟨W1, hW1⟩ : ∃ W1, W1 = w.drew.alloc (.cells ROW 52) := ⟨_, rfl⟩
  rw [← hW1] at hrz
  have hN : ∀ j, j < (k + 2) * 3 → (W1.cell? ⟨w.heap.size, j, none⟩).isSome = true := fun j hj => by
    rw [hW1, World.cell?_alloc_at (w := w.drew) ROW _ w.heap.size j rfl, Array.getElem?_eq_getElem (by omega)]; rfl
  have hNf : ∀ j, W1.frozen? ⟨w.heap.size, j, none⟩ = false := fun j => by rw [hW1]; exact World.frozen?_alloc_at (w := w.drew) ROW _ w.heap.size j rfl
  have hOb : ∀ j v, w.cell? ⟨b, j, none⟩ = some v → W1.cell? ⟨b, j, none⟩ = some v := fun j v h => by rw [hW1, World.cell?_alloc_past (w := w.drew) _ b j hbw]; exact h
  have hOv : ∀ j v, w.cell? ⟨vb, j, none⟩ = some v → W1.cell? ⟨vb, j, none⟩ = some v := fun j v h => by rw [hW1, World.cell?_alloc_past (w := w.drew) _ vb j hvw]; exact h
  have hcpA : ∀ (W : World), (∀ x, W.cell? x = W1.cell? x) → (∀ x, W.frozen? x = W1.frozen? x) → ∀ ty dc, (Builtin.copy_ #[50, 50] ty #[.slice (some ⟨w.heap.size, k * 3, none⟩) 2 dc, .slice (some ⟨vb, voff, none⟩) 1 vc]).run Tryz.prog W = .ok (goInt (Nat.min 1 2)) (W.setCells w.heap.size (k * 3) vs) := fun W hWc hWf ty dc =>
    run_copy_z W _ _ ty 52 3 w.heap.size (k * 3) 2 dc ⟨vb, voff, none⟩ 1 vc vs ins_u50 ins_size (by rw [hvl]; rfl)
      (fun j v hj => by rw [Addr.add_lit, hWc]; exact hOv _ v (hvs j v hj))
      (fun j hj => by rw [hWc]; exact hN _ (by omega)) (fun j hj => by rw [hWf]; exact hNf _) h1v
  have hGn : k + 2 ≤ G := by rw [hG]; exact grownCap_ge w _ _ _
  have hG63 : G ≤ 9223372036854775807 := by
    have := grownCap_le_maxLen w (k + 2) c 52 (by unfold maxLen; omega)
    rw [← hG] at this
    unfold maxLen at this
    omega
  have hGi : ¬ (G = k) := by omega
  have hGim : ¬ (G = k + 1) := by omega
  have hci : ¬ (c = k) := by omega
  have hbN : b ≠ w.heap.size := by omega
  have hcpB : ∀ (W : World), (∀ x, W.cell? x = (W1.setCells w.heap.size (k * 3) vs).cell? x) → (∀ x, W.frozen? x = (W1.setCells w.heap.size (k * 3) vs).frozen? x) → ∀ ty dc sc, (Builtin.copy_ #[50, 50] ty #[.slice (some ⟨w.heap.size, (k + 1) * 3, none⟩) 1 dc, .slice (some ⟨b, k * 3, none⟩) 1 sc]).run Tryz.prog W = .ok (goInt (Nat.min 1 1)) (W.setCells w.heap.size ((k + 1) * 3) cs) := fun W hWc hWf ty dc sc =>
    run_copy_z W _ _ ty 52 3 w.heap.size ((k + 1) * 3) 1 dc ⟨b, k * 3, none⟩ 1 sc cs ins_u50 ins_size (by rw [hcl]; rfl)
      (fun j v hj => by
        rw [Addr.add_lit, hWc, World.cell?_setCells_out _ _ _ _ _ (fun h _ => absurd h hbN)]
        exact hOb _ v (hcs j v hj))
      (fun j hj => by rw [hWc]; exact isSome_setCells _ vs (k * 3) W1 (fun t ht => hN _ (by omega)) _ (hN _ (by omega)))
      (fun j hj => by rw [hWf, World.frozen?_setCells]; exact hNf _) h1c
  subst hW1
  have hw1 : IntKind.i64.wrap ((k : Int) + 1) = (k : Int) + 1 := by rw [IntKind.wrap_i64]; omega
  have hb1 : (0 : Int) ≤ (k : Int) + 1 := by omega
  have hb3 : (k : Int) ≤ (k : Int) + 1 := by omega
  have hb3' : (k : Int) ≤ (k : Int) + 1 + 1 := by omega
  have hz3 : (c : Int) < (k : Int) + 1 + 1 := by omega
  have hE1 : ∀ x, ((w.alloc (.cells ROW 52)).drew).cell? x = (w.drew.alloc (.cells ROW 52)).cell? x := fun x => rfl
  have hE2 : ∀ x, ((w.alloc (.cells ROW 52)).drew).frozen? x = (w.drew.alloc (.cells ROW 52)).frozen? x := fun x => rfl
  have hF1 : ∀ x, (((w.alloc (.cells ROW 52)).drew.setCells w.heap.size (k * 3) vs).drew).cell? x = ((w.drew.alloc (.cells ROW 52)).setCells w.heap.size (k * 3) vs).cell? x := fun x => rfl
  have hF2 : ∀ x, (((w.alloc (.cells ROW 52)).drew.setCells w.heap.size (k * 3) vs).drew).frozen? x = ((w.drew.alloc (.cells ROW 52)).setCells w.heap.size (k * 3) vs).frozen? x := fun x => rfl
  clear hold hROW hG hRl
  go_enter Tryz.func236, Tryz.ntmps236
  go_wp2_with (first
    | (at_builtin; refine Lib.wpList_append_run _ rfl _ _ _ _ rfl _ _ rfl rfl _ _ (hrz _) ?_)
    | (at_builtin; refine wpList_copy_runI _ rfl _ _ 50 50 rfl _ _ rfl rfl (hcpA _ hE1 hE2 _ _) ?_))
  go_region_law (refine step_copy_runI rfl _ _ 50 50 rfl (.slice (some ⟨w.heap.size, (k + 1) * 3, none⟩) 1 (G - (k + 1))) (.slice (some ⟨b, k * 3, none⟩) 1 (c - k)) (by simp [Act.eval, Act.put]) (by simp [Act.eval, Act.put]) (hcpB _ hF1 hF2 3 (G - (k + 1)) (c - k)) ?_)
  all_goals go_wp2
  all_goals go_ret
  all_goals exact ⟨rfl, rfl⟩
end Go.Proofs
end

section
namespace ParF
open Go Go.Abs Go.Proofs
theorem relL2 {L : Lay} {a b : AV} {vs : List Value} (h : RelL L [a, b] vs) : ∃ u v, vs = [u, v] ∧ Rel L a u ∧ Rel L b v := by
  cases h with
  | cons _ _ _ _ h t => cases t with
    | cons _ _ _ _ h' t' => cases t'; exact ⟨_, _, rfl, h, h'⟩
theorem relL1 {L : Lay} {a : AV} {vs : List Value} (h : RelL L [a] vs) : ∃ u, vs = [u] ∧ Rel L a u := by
  cases h with
  | cons _ _ _ _ h t => cases t; exact ⟨_, rfl, h⟩
theorem bytes_list (a : List UInt8) : (⟨a.toArray⟩ : ByteArray).data.toList = a := by simp
theorem bytes_size (a : List UInt8) : (⟨a.toArray⟩ : ByteArray).size = a.length := by show a.toArray.size = _; simp
theorem relL_strs (L : Lay) : ∀ xs : List (List UInt8), RelL L (xs.map .str) (xs.map fun l => Value.string ⟨l.toArray⟩)
  | [] => .nil
  | x :: xs => .cons _ _ _ _ (.str x) (relL_strs L xs)
theorem cellsOf_strs (xs : List (List UInt8)) : cellsOf (xs.map AV.str) = xs.map .str := by
  induction xs with
  | nil => rfl
  | cons x xs ih => show [_] ++ cellsOf (xs.map AV.str) = _; rw [ih]; rfl
theorem new_strs {W0 : World} {L : Lay} {ow : Owns} {s : Heap} {w : World} (h : St W0 L ow s w) (xs : List (List UInt8)) :
    Res W0 L ow w (.sl 9 1 (xs.map .str) .sh) s (.slice (some ⟨w.heap.size, 0, none⟩) xs.length xs.length) (w.alloc (.cells (xs.map fun l => Value.string ⟨l.toArray⟩).toArray 9)) := by
  refine ⟨L.new w.heap.size (xs.map fun l => Value.string ⟨l.toArray⟩).length (xs.map fun l => Value.string ⟨l.toArray⟩), newOw ow w.heap.size .free, new_ext h _ _ _ _, new_st h _ _ _ _, ?_, .of_not rfl⟩
  have hr := Rel.sl (L := L.new w.heap.size (xs.map fun l => Value.string ⟨l.toArray⟩).length (xs.map fun l => Value.string ⟨l.toArray⟩)) w.heap.size 0 9 1 (xs.map .str) .sh xs.length
    (new_relC h (by rw [List.take_length, cellsOf_strs]; exact relL_strs L xs) (by
      intro v hv
      rw [List.take_length] at hv
      obtain ⟨l, _, rfl⟩ := List.mem_map.1 hv
      rfl)) (by intro x hx; obtain ⟨l, _, rfl⟩ := List.mem_map.1 hx; rfl) ⟨by simp, nofun⟩
  simp only [List.length_map] at hr ⊢
  exact hr
theorem cell_at {w : World} {b : Nat} {vs : List Value} {ty : TypeId} {fz : Nat × Nat} (h : w.heap[b]? = some (.cells vs.toArray ty fz)) (o : Nat) : w.cell? ⟨b, o, none⟩ = vs[o]? := by
  simp [World.cell?, h]
theorem sz50e : szOf Tryz.prog 109 = some 1 := by kernel_rfl
theorem spec_check (W0 : World) (args : List AV) (s : Heap) (v : AV) (s' : Heap) (h : bCheck 112 args s = some (v, s')) : CallSpec C W0 101 args s v s' := by
  intro L ow w cargs hg hst hargs
  unfold bCheck at h
  split at h
  · rename_i id
    obtain ⟨u, rfl, hu⟩ := relL1 hargs
    cases hu with
    | ref _ _ hid =>
    split at h
    · rename_i t b hs
      split at h
      · rename_i ht
        subst ht
        cases h
        have O := hst.obj id _ hs (by simp) (show (112 : Nat) ≠ deadTy by decide)
        obtain ⟨vs, js, ⟨fz, hh⟩, hrel, h1, h2, h5⟩ := O.cells
        obtain ⟨u1, u2, rfl, k1, k2⟩ := relL2 hrel
        cases k1
        have hlt : id < s.length := (List.getElem?_eq_some_iff.1 hs).1
        have hres : aStore 1 s (.ref id 0) (.ref id 0) = some (s.set id (112, [.ref id 0, b])) := by
          simp [aStore, AV.solid, AV.cells, hs, setL, stCells, deadTy]
        obtain ⟨w', r1, r2, r3⟩ := store_full hst sz50e hres (.ref id 0 hid) (.ref id 0 hid) (.of_not rfl)
        have hw' := r3 id 0 [.pointer (some ⟨L.loc id, 0, none⟩)] rfl rfl
        refine (check_fresh (L.loc id) w ?_ (n := ([Value.pointer none, u2] ++ js).length) (by simp) ?_ ?_).mono ?_
        · rw [cell_at hh]; rfl
        · simp [World.shape?, hh]
        · exact O.melt 0
        · rintro e w2 ⟨rfl, rfl⟩
          refine ⟨_, rfl, ?_⟩
          obtain ⟨L', ow', x1, x2, _, _⟩ := r2
          have e : w.setCell ⟨L.loc id, 0, none⟩ (.pointer (some ⟨L.loc id, 0, none⟩)) = w' := by rw [hw']; rfl
          rw [e]
          exact ⟨L', ow', x1, x2, .tup [] [] .nil, trivial⟩
      · cases h
    · rename_i t id' b hs
      split at h
      · rename_i e
        cases h
        obtain ⟨e1, rfl⟩ := e
        subst e1
        have O := hst.obj id' _ hs (by simp) (show (112 : Nat) ≠ deadTy by decide)
        obtain ⟨vs, js, ⟨fz, hh⟩, hrel, h1, h2, h5⟩ := O.cells
        obtain ⟨u1, u2, rfl, k1, k2⟩ := relL2 hrel
        cases k1
        refine (check_used (L.loc id') w ?_).mono ?_
        · rw [cell_at hh]; rfl
        · rintro e w2 ⟨rfl, rfl⟩
          exact ⟨_, rfl, .same hst (.tup [] [] .nil) (fun _ _ _ _ => trivial)⟩
      · cases h
    · cases h
  · cases h
theorem asBytes_cons {x : AV} {xs : List AV} {bs : List UInt8} (h : asBytes (x :: xs) = some bs) : ∃ n r, x = .int .u8 n ∧ 0 ≤ n ∧ n < 256 ∧ asBytes xs = some r ∧ bs = UInt8.ofNat n.toNat :: r := by
  unfold asBytes at h
  split at h
  · rename_i e; cases e
  · rename_i n r e
    cases e
    split at h
    · rename_i hn
      rw [Option.map_eq_some_iff] at h
      obtain ⟨r, h1, rfl⟩ := h
      exact ⟨n, r, rfl, hn.1, hn.2, h1, rfl⟩
    · cases h
  · cases h
theorem asBytes_len : ∀ {xs : List AV} {bs : List UInt8}, asBytes xs = some bs → bs.length = xs.length
  | [], bs, h => by cases h; rfl
  | x :: xs, bs, h => by
    obtain ⟨n, r, rfl, _, _, h1, rfl⟩ := asBytes_cons h
    simp [asBytes_len h1]
theorem asBytes_cell {L : Lay} {w : World} (himm : ∀ b o v, L.S b o = some v → w.cell? ⟨b, o, none⟩ = some v) {g : Nat} : ∀ {xs : List AV} {bs : List UInt8} {o : Nat}, asBytes xs = some bs → RelC L g o (cellsOf xs) →
    ∀ j x, bs[j]? = some x → w.cell? ⟨g, o + j, none⟩ = some (.int .u8 x.toNat)
  | [], bs, o, h, hr, j, x, hj => by cases h; simp at hj
  | y :: xs, bs, o, h, hr, j, x, hj => by
    obtain ⟨n, r, rfl, hn0, hn1, h1, rfl⟩ := asBytes_cons h
    have hr' : RelC L g o (.int .u8 n :: cellsOf xs) := hr
    cases hr' with
    | cons _ _ _ _ v hs hv hrel t =>
      cases hrel
      cases j with
      | zero =>
        simp at hj
        subst hj
        rw [Nat.add_zero, himm _ _ _ hs]
        congr 2
        simp
        omega
      | succ j =>
        simp at hj
        have := asBytes_cell himm h1 t j x hj
        rw [show o + (j + 1) = o + 1 + j by omega]
        exact this
theorem freeze_other {w : World} {g b : Nat} (n : Nat) (h : b ≠ g) : (w.freeze ⟨g, 0, none⟩ n).heap[b]? = w.heap[b]? := by
  unfold World.freeze
  split
  · rfl
  · simp only [Array.getElem?_modify]
    rw [if_neg (fun e => h e.symm)]
theorem freeze_same {w : World} {g : Nat} (n : Nat) : Same w (w.freeze ⟨g, 0, none⟩ n) := by
  unfold World.freeze
  split
  · exact .refl w
  · exact ⟨rfl, rfl, rfl, by simp⟩
theorem freeze_cell {w : World} {g : Nat} (n o : Nat) : (w.freeze ⟨g, 0, none⟩ n).cell? ⟨g, o, none⟩ = w.cell? ⟨g, o, none⟩ := by
  unfold World.freeze
  split
  · rfl
  · simp only [World.cell?, Array.getElem?_modify, if_true]
    cases hh : w.heap[g]? with
    | none => rfl
    | some x => cases x <;> rfl
theorem spec_string (W0 : World) (args : List AV) (s : Heap) (v : AV) (s' : Heap) (h : bString 5 args s = some (v, s')) : CallSpec C W0 51 args s v s' := by
  intro L ow w cargs hg hst hargs
  unfold bString at h
  split at h
  · rename_i id
    obtain ⟨u, rfl, hu⟩ := relL1 hargs
    cases hu with
    | ref _ _ hid =>
    split at h
    · rename_i t a hs
      split at h
      case isTrue => cases h
      rename_i hdt
      cases h
      have O := hst.obj id _ hs (by simp) hdt
      obtain ⟨vs, js, ⟨fz, hh⟩, hrel, h1, h2, h5⟩ := O.cells
      obtain ⟨u1, u2, rfl, k1, k2⟩ := relL2 hrel
      cases k2
      refine (string_nil_walk (L.loc id) w ?_).mono ?_
      · rw [cell_at hh]; rfl
      · rintro e w2 ⟨rfl, rfl⟩
        exact ⟨_, rfl, L, ow, drew_ext, drew_st hst, .str [], trivial⟩
    · rename_i t a ty xs hs
      split at h
      · rename_i hty
        obtain ⟨hty, hdt⟩ := hty
        subst hty
        split at h
        · rename_i b0 bs hb
          split at h
          case isFalse => cases h
          rename_i hbig
          cases h
          have O := hst.obj id _ hs (by simp) hdt
          obtain ⟨vs, js, ⟨fz, hh⟩, hrel, h1, h2, h5⟩ := O.cells
          obtain ⟨u1, u2, rfl, k1, k2⟩ := relL2 hrel
          have hlt : id < s.length := (List.getElem?_eq_some_iff.1 hs).1
          cases k2 with
          | sl g o _ _ _ _ cap hc hz hcap =>
          obtain ⟨o1, ⟨c, fz2, o2, o3, o4⟩, o5⟩ := h2 1 _ _ rfl rfl
          simp only at o1 o2 o3 o4
          subst o3
          have hlen := asBytes_len hb
          have hne : L.loc id ≠ g := by intro e; rw [← e, O.own] at o1; cases o1
          have hlt' : g < w.heap.size := hst.used _ (by rw [o1]; simp)
          refine (string_walk (L.loc id) g cap (b0 :: bs) u1 w ?_ c fz2 o2 ?_ (by simp) (by omega) (by omega) ?_).mono ?_
          · rw [cell_at hh, hlen]; rfl
          · intro j x hx
            have := asBytes_cell hst.imm hb hc j x hx
            rwa [Nat.zero_add] at this
          · simp only [List.length_cons]; omega
          · rintro e w2 ⟨rfl, rfl⟩
            have ho : ∀ b, b ≠ g → (w.drew.freeze ⟨g, 0, none⟩ (b0 :: bs).length).heap[b]? = w.heap[b]? := fun b hb => freeze_other _ hb
            have hsame : Same w (w.drew.freeze ⟨g, 0, none⟩ (b0 :: bs).length) := Same.trans (b := w.drew) ⟨rfl, rfl, rfl, Nat.le_refl _⟩ (freeze_same _)
            have hx : Ext L ow w L ow (w.drew.freeze ⟨g, 0, none⟩ (b0 :: bs).length) := ⟨.refl L, fun b hb => ⟨hb, fun _ => rfl, ho b (by intro e; rw [e, o1] at hb; cases hb)⟩, hsame⟩
            refine ⟨_, rfl, L, ow, hx, ⟨fun i => by rw [hst.live, has_set (has_of hs (by simp)) (by simp)], fun b o x hS => ?_, fun id' ds hds hds' hdt' => ?_, fun b hb => Nat.lt_of_lt_of_le (hst.used b hb) hsame.size, hst.base, hst.below_ext hx⟩, .str _, trivial⟩
            · by_cases e : b = g
              · subst e; rw [freeze_cell]; exact hst.imm _ _ _ hS
              · rw [cell?_of_heap (ho b e)]; exact hst.imm b o x hS
            · by_cases e' : id' = id
              · subst e'
                rw [List.getElem?_set_self hlt] at hds
                cases hds
                refine ⟨O.own, O.S, ⟨[u1, _], js, ⟨fz, by rw [ho _ hne]; exact hh⟩, .cons _ _ _ _ k1 (.cons _ _ _ _ (.sl g 0 _ _ _ .sh cap hc hz ⟨hcap.1, nofun⟩) .nil), h1, ?_, h5⟩, fun o => by rw [frozen?_of_heap (ho _ hne)]; exact O.melt o⟩
                intro k b q hb' hq
                match k, hb', hq with
                | 0, hb', hq =>
                  exact (h2 0 b q hb' hq).move fun c' hc' => ⟨hc', fun _ => rfl, ho c' (by intro e; rw [e, o1] at hc'; cases hc')⟩
                | 1, hb', hq =>
                  simp at hb'
                  subst hb'
                  exact .of_not rfl
                | k + 2, hb', hq => simp at hb'
              · rw [List.getElem?_set_ne (fun e => e' e.symm)] at hds
                have hidlt : L.live id' = true := by rw [hst.live]; exact has_of hds hds'
                refine (hst.obj id' ds hds hds' hdt').move (.refl L) hidlt (fun b hb' => ⟨rfl, fun _ => rfl, ho b ?_⟩)
                intro e; rw [e, o1] at hb'
                rcases hb' with hb' | ⟨k, hb'⟩
                · cases hb'
                · injection hb' with hb'; exact e' hb'.symm
        · cases h
      · cases h
    · cases h
  · cases h
theorem below_res {W0 : World} {L : Lay} {ow : Owns} {s : Heap} {w w' : World} (h : St W0 L ow s w) (hb : RowKit.Below w.heap.size w w') {r : AV} {v : Value} (hr : Rel L r v) (hn : NoOwn r v) : Res W0 L ow w r s v w' := by
  have hx : Ext L ow w L ow w' := ⟨.refl L, fun b hf => ⟨hf, fun _ => rfl, hb.block b (h.used b (by rw [hf]; simp))⟩, ⟨hb.os, hb.tape, hb.output, hb.size⟩⟩
  refine ⟨L, ow, hx, h.move (.refl L) rfl (fun b he => ⟨rfl, fun _ => rfl, hb.block b (h.used b (by intro e; rw [e] at he; cases he))⟩) (fun b o v hS => ?_) (fun b hu => Nat.lt_of_lt_of_le (h.used b hu) hb.size) h.base (h.below_ext hx), hr, hn _ _ _ _⟩
  rw [cell?_of_heap (hb.block b (imm_lt h hS))]
  exact h.imm b o v hS
theorem info52e : ∃ (i : TypeInfo) (z : Value), Tryz.prog.info? 52 = some i ∧ i.zero = some z ∧ i.size = 3 ∧ i.bytes = 48 ∧ z.cells.size = 3 := by
  have h : ((Tryz.prog.info? 52).map fun i => (i.size, i.bytes, i.zero.map fun z => z.cells.size)) = some (3, 48, some 3) := by kernel_rfl
  rw [Option.map_eq_some_iff] at h
  obtain ⟨i, h1, h2⟩ := h
  simp only [Prod.mk.injEq, Option.map_eq_some_iff] at h2
  obtain ⟨h3, h4, z, h5, h6⟩ := h2
  exact ⟨i, z, h1, h5, h3, h4, h6⟩
theorem ins_list {α : Type} (l u c : List α) (o : Nat) (hu : u.length = 3) (hc : c.length = 3) (h : o + 6 ≤ l.length) :
    setL (setL l (o + 3) c) o u = l.take o ++ u ++ c ++ l.drop (o + 6) := by
  have h1 : setL l (o + 3) c = l.take (o + 3) ++ c ++ l.drop (o + 6) := by
    rw [setL_split c l (o + 3) (by omega), hc]
  have hlen : (setL l (o + 3) c).length = l.length := setL_length ..
  rw [setL_split u _ o (by omega), hu]
  have a1 : (setL l (o + 3) c).take o = l.take o := by
    rw [h1, List.append_assoc, List.take_append_of_le_length (by rw [List.length_take]; omega), List.take_take, Nat.min_eq_left (by omega)]
  have a2 : (setL l (o + 3) c).drop (o + 3) = c ++ l.drop (o + 6) := by
    have : (l.take (o + 3)).length = o + 3 := by rw [List.length_take]; omega
    rw [h1, List.append_assoc, List.drop_append_of_le_length (by omega), List.drop_of_length_le (by omega), List.nil_append]
  rw [a1, a2]; simp only [List.append_assoc]
theorem ins_list2 {α : Type} (l u c : List α) (o : Nat) (hu : u.length = 3) (hc : c.length = 3) (h : o + 6 ≤ l.length) :
    setL (setL l o u) (o + 3) c = l.take o ++ u ++ c ++ l.drop (o + 6) := by
  have h1 : setL l o u = l.take o ++ u ++ l.drop (o + 3) := by rw [setL_split u l o (by omega), hu]
  have hlen : (setL l o u).length = l.length := setL_length ..
  rw [setL_split c _ (o + 3) (by omega), hc]
  have hto : (l.take o).length = o := by rw [List.length_take]; omega
  have a1 : (setL l o u).take (o + 3) = l.take o ++ u := by
    rw [h1, List.take_append_of_le_length (by rw [List.length_append]; omega), List.take_of_length_le (by rw [List.length_append]; omega)]
  have a2 : (setL l o u).drop (o + 6) = l.drop (o + 6) := by
    rw [h1, List.drop_append, List.drop_of_length_le (by rw [List.length_append]; omega), List.nil_append, List.length_append, hto, hu, List.drop_drop]
    congr 1; omega
  rw [a1, show o + 3 + 3 = o + 6 from rfl, a2]
theorem spec_insert (W0 : World) (args : List AV) (s : Heap) (v : AV) (s' : Heap) (h : eInsert args s = some (v, s')) : CallSpec C W0 236 args s v s' := by
  intro L ow w cargs hg hst hargs
  unfold eInsert at h
  split at h
  case h_2 => cases h
  rename_i ty z id len k t1 z1 x f
  split at h
  case h_2 => cases h
  rename_i cs hcs
  split at h
  case isFalse => cases h
  rename_i hc
  obtain ⟨e1, rfl, rfl, hl0, hk, hx, hcl, hbig, hown0⟩ := hc
  cases h
  obtain ⟨n, rfl⟩ : ∃ n, len = n + 1 := ⟨len - 1, by omega⟩
  have hk' : k = (n : Int) := by omega
  subst hk'
  rw [Nat.add_sub_cancel] at hown0 ⊢
  -- the arguments
  obtain ⟨u1, rr, rfl, k1, hr2⟩ : ∃ u1 rr, cargs = u1 :: rr ∧ Rel L (.rs 52 3 id 0 (n + 1)) u1 ∧ RelL L [.int .i64 (n : Int), .sl t1 z1 [x] f] rr := by
    cases hargs with
    | cons _ v _ vs h t => exact ⟨v, vs, rfl, h, t⟩
  obtain ⟨u2, u3, rfl, k2, k3⟩ := relL2 hr2
  cases k2
  cases k1 with
  | rs _ _ _ _ _ cap hid hcap =>
  cases k3 with
  | sl vb voff _ _ _ _ vc hcells hz hvc =>
  obtain ⟨us, hus, hu1, huS⟩ := hcells.vals
  have hxc : cellsOf [x] = x.cells := by show x.cells ++ cellsOf [] = x.cells; exact List.append_nil _
  rw [hxc] at hus
  have hul : us.length = 3 := by rw [← hus.length, hx]
  have hne : cs.2 ≠ [] := by intro e; rw [e] at hcl; simp at hcl
  have O := hst.obj id cs hcs hne (by rw [e1]; decide)
  obtain ⟨vs, js, ⟨fz, hh⟩, hrel, h1, h2, h5⟩ := O.cells
  rw [e1] at hh
  have hvl := hrel.length
  have hlt : L.loc id < w.heap.size := hst.used _ (by rw [O.own]; simp)
  have hcell : ∀ j q, (vs ++ js)[j]? = some q → w.cell? ⟨L.loc id, j, none⟩ = some q := by
    intro j q hj
    simp only [World.cell?, hh]
    rw [List.getElem?_toArray]; exact hj
  have hvcell : ∀ j q, us[j]? = some q → w.cell? ⟨vb, voff + j, none⟩ = some q := fun j q hj => hst.imm _ _ _ (huS j q hj)
  have hvb : vb ≠ L.loc id := by
    intro e
    have := huS 0 _ (List.getElem?_eq_getElem (show 0 < us.length by omega))
    rw [e, O.S] at this; cases this
  obtain ⟨tA, kA, hsa, hkA⟩ : ∃ tA kA, w.shape? vb = some (tA, kA) ∧ kA ≠ 0 := by
    have hc0 := hvcell 0 _ (List.getElem?_eq_getElem (show 0 < us.length by omega))
    unfold World.cell? at hc0
    unfold World.shape?
    simp only at hc0
    cases hb : w.heap[vb]? with
    | none => rw [hb] at hc0; simp at hc0
    | some ob =>
      rw [hb] at hc0
      cases ob with
      | cells c t fz =>
        refine ⟨t, c.size, by simp, fun e => ?_⟩
        simp only at hc0
        have := (Array.getElem?_eq_some_iff.1 hc0).1
        omega
      | _ => simp at hc0
  -- the pieces
  have hfull : (vs ++ js).length = L.sz id := h5
  have hol : (vs.take (n * 3)).length = n * 3 := by rw [List.length_take]; omega
  have hcv : ((vs.drop (n * 3)).take 3).length = 3 := by rw [List.length_take, List.length_drop]; omega
  have hosc : ∀ j q, (vs.take (n * 3))[j]? = some q → w.cell? ⟨L.loc id, j, none⟩ = some q := fun j q hj => by
    have hjl := (List.getElem?_eq_some_iff.1 hj).1
    refine hcell j q ?_
    rw [List.getElem?_append_left (by omega)]
    rw [List.getElem?_take] at hj
    split at hj
    · exact hj
    · cases hj
  have hcvc : ∀ j q, ((vs.drop (n * 3)).take 3)[j]? = some q → w.cell? ⟨L.loc id, n * 3 + j, none⟩ = some q := fun j q hj => by
    have hjl := (List.getElem?_eq_some_iff.1 hj).1
    refine hcell _ q ?_
    rw [List.getElem?_append_left (by omega)]
    rw [List.getElem?_take, List.getElem?_drop] at hj
    split at hj
    · exact hj
    · cases hj
  have h1c : ∀ q ∈ (vs.drop (n * 3)).take 3, q.oneCell' = true := fun q hq => by rw [oneC_eq]; exact h1 q (List.mem_of_mem_drop (List.mem_of_mem_take hq))
  have h1v : ∀ q ∈ us, q.oneCell' = true := fun q hq => by rw [oneC_eq]; exact hu1 q hq
  have hds : cs.2.take (n * 3) ++ x.cells.map AV.strip ++ (cs.2.drop (n * 3)).take 3 ≠ [] := by
    intro e0
    have := congrArg List.length e0
    simp only [List.length_append, List.length_map, hx, List.length_nil] at this
    omega
  have hrow : RelL L (cs.2.take (n * 3) ++ x.cells.map AV.strip ++ (cs.2.drop (n * 3)).take 3) (vs.take (n * 3) ++ us ++ (vs.drop (n * 3)).take 3) :=
    ((hrel.take _).append hus.strip).append ((hrel.drop _).take _)
  have h1r : ∀ q ∈ vs.take (n * 3) ++ us ++ (vs.drop (n * 3)).take 3, oneC q = true := by
    intro q hq
    rcases List.mem_append.1 hq with hq | hq
    · rcases List.mem_append.1 hq with hq | hq
      · exact h1 q (List.mem_of_mem_take hq)
      · exact hu1 q hq
    · exact h1 q (List.mem_of_mem_drop (List.mem_of_mem_take hq))
  have hlt2 : (cs.2.take (n * 3)).length = n * 3 := by rw [List.length_take]; omega
  have hown : ∀ i a q, (cs.2.take (n * 3) ++ x.cells.map AV.strip ++ (cs.2.drop (n * 3)).take 3)[i]? = some a → (vs.take (n * 3) ++ us ++ (vs.drop (n * 3)).take 3)[i]? = some q → OwnAt L ow w (.cell id i) a q := by
    intro i a q ha hq
    by_cases hi : i < n * 3
    · rw [List.append_assoc, List.getElem?_append_left (by omega), List.getElem?_take_of_lt hi] at ha
      rw [List.append_assoc, List.getElem?_append_left (by omega), List.getElem?_take_of_lt hi] at hq
      exact h2 i a q ha hq
    · rw [List.append_assoc, List.getElem?_append_right (by omega)] at ha
      refine .of_not ?_
      rcases List.mem_append.1 (List.mem_of_getElem? ha) with hm | hm
      · obtain ⟨q0, _, rfl⟩ := List.mem_map.1 hm; exact strip_isOwn q0
      · have := List.all_eq_true.1 hown0 a hm
        simpa using this
  by_cases hfit : n + 2 ≤ cap
  · have hroom : n * 3 + 6 ≤ (vs ++ js).length := by
      rw [hfull]; have := hcap.2; omega
    have tk : (vs ++ js).take (n * 3) = vs.take (n * 3) := List.take_append_of_le_length (by omega)
    refine (insert_shift (L.loc id) n cap vb voff vc ((vs.drop (n * 3)).take 3) us w hfit (by omega) hvb hcv hul hcvc (fun j hj => ?_) (fun j => O.melt j) hvcell h1c h1v tA 52 kA (vs ++ js).length hsa ?_ hkA (by omega)).mono ?_
    · have hj' : j < (vs ++ js).length := by omega
      rw [hcell j _ (List.getElem?_eq_getElem hj')]; rfl
    · simp [World.shape?, hh]
    · rintro e w2 ⟨rfl, rfl⟩
      have hheap : ((w.drew.setCells (L.loc id) ((n + 1) * 3) ((vs.drop (n * 3)).take 3)).setCells (L.loc id) (n * 3) us).heap[L.loc id]? = some (.cells ((vs.take (n * 3) ++ us ++ (vs.drop (n * 3)).take 3) ++ (vs ++ js).drop (n * 3 + 6)).toArray 52 fz) := by
        rw [setCells_heap_same us (n * 3) _ (setL (vs ++ js) ((n + 1) * 3) ((vs.drop (n * 3)).take 3)) (setCells_heap_same _ _ w.drew (vs ++ js) hh)]
        rw [show (n + 1) * 3 = n * 3 + 3 by omega, ins_list _ _ _ _ hul hcv hroom, tk]
      obtain ⟨x1, x2⟩ := renew_st hst (nid := s.length) (t0 := cs.1) (e := 52) hcs hne (by rw [e1]; decide) rfl hds (b := L.loc id) (w' := (w.drew.setCells (L.loc id) ((n + 1) * 3) ((vs.drop (n * 3)).take 3)).setCells (L.loc id) (n * 3) us) (vs := vs.take (n * 3) ++ us ++ (vs.drop (n * 3)).take 3) (js := (vs ++ js).drop (n * 3 + 6)) (fz := fz) (.inl rfl)
        hheap (fun i _ hi => by rw [setCells_heap_other hi, setCells_heap_other hi]; rfl) (by rw [setCells_heap_size, setCells_heap_size]; exact Nat.le_refl _) (by rw [setCells_heap_size, setCells_heap_size]; exact hlt)
        (fun o => by rw [World.frozen?_setCells, World.frozen?_setCells]; exact O.melt o) (Same.trans (b := w.drew) ⟨rfl, rfl, rfl, Nat.le_refl _⟩ ((setCells_same _ _ _ _).trans (setCells_same _ _ _ _))) hrow h1r hown
      refine ⟨_, rfl, _, _, x1, x2, ?_, .of_not rfl⟩
      have hN : (vs.take (n * 3) ++ us ++ (vs.drop (n * 3)).take 3 ++ (vs ++ js).drop (n * 3 + 6)).length = L.sz id := by
        have hfl : vs.length + js.length = L.sz id := by rw [← List.length_append]; exact hfull
        rw [List.length_append] at hroom
        simp only [List.length_append, hol, hul, hcv, List.length_drop]
        omega
      have := Rel.rs (L := L.push s.length (L.loc id) (vs.take (n * 3) ++ us ++ (vs.drop (n * 3)).take 3 ++ (vs ++ js).drop (n * 3 + 6)).length) 52 3 s.length 0 (n + 2) cap (by simp [Lay.push]) ⟨hfit, by
        simp only [Lay.push, if_true, hN]; exact hcap.2⟩
      rwa [show (L.push s.length (L.loc id) (vs.take (n * 3) ++ us ++ (vs.drop (n * 3)).take 3 ++ (vs ++ js).drop (n * 3 + 6)).length).loc s.length = L.loc id by simp [Lay.push]] at this
  · obtain ⟨i0, z0, hi0, hz0, hzs, hzb, hzc⟩ := info52e
    refine (insert_grow (L.loc id) n cap vb voff vc (vs.take (n * 3)) ((vs.drop (n * 3)).take 3) us w hcap.1 (by omega) (by omega) hvb z0 i0 hi0 hz0 hzs hzb hzc hol hcv hul hosc hcvc hvcell h1c h1v).mono ?_
    rintro e w2 ⟨rfl, rfl⟩
    have hGn : n + 2 ≤ grownCap w (n + 2) cap 52 := grownCap_ge w _ _ _
    generalize grownCap w (n + 2) cap 52 = G at *
    obtain ⟨rest, hrest, hrl⟩ : ∃ rest : List Value, (vs.take (n * 3)).toArray ++ Builtin.zeroCells z0.cells 2 ++ Builtin.zeroCells z0.cells (G - (n + 2)) = (vs.take (n * 3) ++ rest).toArray ∧ rest.length = 6 + (G - (n + 2)) * 3 := by
      refine ⟨(Builtin.zeroCells z0.cells 2).toList ++ (Builtin.zeroCells z0.cells (G - (n + 2))).toList, by simp, ?_⟩
      rw [List.length_append]
      simp [Builtin.zeroCells, hzc]
    rw [hrest]
    have tk2 : (vs.take (n * 3) ++ rest).take (n * 3) = vs.take (n * 3) := by rw [List.take_append_of_le_length (by omega), List.take_of_length_le (by omega)]
    have dk2 : (vs.take (n * 3) ++ rest).drop (n * 3 + 6) = rest.drop 6 := by rw [List.drop_append, List.drop_of_length_le (l := vs.take (n * 3)) (by omega), List.nil_append, hol, Nat.add_sub_cancel_left]
    have hbn : ∀ i, i < w.heap.size → i ≠ w.heap.size := fun i hi => by omega
    have hheap : ((((w.alloc (.cells (vs.take (n * 3) ++ rest).toArray 52)).drew.setCells w.heap.size (n * 3) us).drew).setCells w.heap.size ((n + 1) * 3) ((vs.drop (n * 3)).take 3)).heap[w.heap.size]? = some (.cells ((vs.take (n * 3) ++ us ++ (vs.drop (n * 3)).take 3) ++ rest.drop 6).toArray 52 (0, 0)) := by
      rw [setCells_heap_same _ ((n + 1) * 3) ((w.alloc (.cells (vs.take (n * 3) ++ rest).toArray 52)).drew.setCells w.heap.size (n * 3) us).drew (setL (vs.take (n * 3) ++ rest) (n * 3) us) (setCells_heap_same us (n * 3) (w.alloc (.cells (vs.take (n * 3) ++ rest).toArray 52)).drew _ (alloc_new w _))]
      rw [show (n + 1) * 3 = n * 3 + 3 by omega, ins_list2 _ _ _ _ hul hcv (by rw [List.length_append]; omega), tk2, dk2]
    obtain ⟨x1, x2⟩ := renew_st hst (nid := s.length) (t0 := cs.1) (e := 52) hcs hne (by rw [e1]; decide) rfl hds (b := w.heap.size) (w' := (((w.alloc (.cells (vs.take (n * 3) ++ rest).toArray 52)).drew.setCells w.heap.size (n * 3) us).drew).setCells w.heap.size ((n + 1) * 3) ((vs.drop (n * 3)).take 3)) (vs := vs.take (n * 3) ++ us ++ (vs.drop (n * 3)).take 3) (js := rest.drop 6) (fz := (0, 0)) (.inr rfl)
      hheap (fun i hi hi2 => by rw [setCells_heap_other hi2]; exact (setCells_heap_other hi2 _ _ _).trans (alloc_old w _ hi)) (by rw [setCells_heap_size]; show _ ≤ (World.setCells _ _ _ _).heap.size; rw [setCells_heap_size]; show _ ≤ (w.alloc _).heap.size; simp) (by rw [setCells_heap_size]; show _ < (World.setCells _ _ _ _).heap.size; rw [setCells_heap_size]; show _ < (w.alloc _).heap.size; simp)
      (fun o => by rw [World.frozen?_setCells]; show (World.setCells _ _ _ _).frozen? _ = false; rw [World.frozen?_setCells]; exact new_melt w _ _ _)
      (Same.trans (b := w.alloc (.cells (vs.take (n * 3) ++ rest).toArray 52)) ⟨rfl, rfl, rfl, by simp⟩ (Same.trans (b := (w.alloc (.cells (vs.take (n * 3) ++ rest).toArray 52)).drew) ⟨rfl, rfl, rfl, Nat.le_refl _⟩ ((setCells_same _ _ _ _).trans (Same.trans (b := ((w.alloc (.cells (vs.take (n * 3) ++ rest).toArray 52)).drew.setCells w.heap.size (n * 3) us).drew) ⟨rfl, rfl, rfl, Nat.le_refl _⟩ (setCells_same _ _ _ _))))) hrow h1r hown
    refine ⟨_, rfl, _, _, x1, x2, ?_, .of_not rfl⟩
    have hN : (vs.take (n * 3) ++ us ++ (vs.drop (n * 3)).take 3 ++ rest.drop 6).length = G * 3 := by
      simp only [List.length_append, hol, hul, hcv, List.length_drop, hrl]
      omega
    have := Rel.rs (L := L.push s.length w.heap.size (vs.take (n * 3) ++ us ++ (vs.drop (n * 3)).take 3 ++ rest.drop 6).length) 52 3 s.length 0 (n + 2) G (by simp [Lay.push]) ⟨hGn, by
      simp only [Lay.push, if_true, hN, Nat.zero_add]; exact Nat.le_refl _⟩
    rwa [show (L.push s.length w.heap.size (vs.take (n * 3) ++ us ++ (vs.drop (n * 3)).take 3 ++ rest.drop 6).length).loc s.length = w.heap.size by simp [Lay.push]] at this
end ParF
end

section
namespace ParF
open Go Go.Abs Go.Proofs Go.Lib
theorem u56 : Tryz.prog.underlying 56 = some (.slice 197) := by kernel_rfl
theorem i197' : ((Tryz.prog.info? 197).map fun i => (i.size, i.bytes, i.zero.map fun z => z.cells.size)) = some (4, 56, some 4) := by kernel_rfl
theorem i197 : ∃ i z, Tryz.prog.info? 197 = some i ∧ i.size = 4 ∧ i.bytes = 56 ∧ i.zero = some z ∧ z.cells.size = 4 := by
  have h := i197'
  rw [Option.map_eq_some_iff] at h
  obtain ⟨i, h1, h2⟩ := h
  simp only [Prod.mk.injEq, Option.map_eq_some_iff] at h2
  obtain ⟨a, b, z, c, d⟩ := h2
  exact ⟨i, z, h1, a, b, c, d⟩
theorem eql56 (a : Option Addr) (l c : Nat) (ha : a = none → l = 0 ∧ c = 0) (w : World) : (binOp .eql 56 (.slice a l c) (.slice none 0 0)).run Tryz.prog w = .ok (.bool a.isNone) w := by
  obtain ⟨k, hk⟩ : ∃ k, Op.maxDepth = k + 1 := ⟨Op.maxDepth - 1, by decide⟩
  have hq : (Op.equalIn (k + 1) 56 (.slice a l c) (.slice none 0 0)).run Tryz.prog w = .ok a.isNone w := by
    cases a <;> simp [Op.equalIn, run_under u56]
  show ((do pure (.bool (← Op.equal 56 _ _))) : Sem Value).run Tryz.prog w = _
  simp only [Op.equal, hk, Sem.run_bind, hq, Result.andThen_ok, Sem.run_pure]
set_option maxRecDepth 100000 in
theorem clone_nil (w : World) : Calls Tryz.prog 120 #[.slice none 0 0] w fun e w' => e = .returned (.slice none 0 0) ∧ w' = w := by
  have hE : ∀ w, (binOp .eql 56 (.slice none 0 0) (.slice none 0 0)).run Tryz.prog w = .ok (.bool true) w := fun w => eql56 none 0 0 (fun _ => ⟨rfl, rfl⟩) w
  go_enter Tryz.func120, Tryz.ntmps120
  go_wp2_with (simp only [hE])
  all_goals go_ret
  all_goals exact ⟨rfl, rfl⟩
set_option maxRecDepth 100000 in
set_option maxHeartbeats 4000000 in
theorem clone_walk (b o len cap : Nat) (us : List Value) (w : World) (hl : us.length = len * 4) (hpos : 0 < len) (hbig : len < 1000000) (hc : ∀ j v, us[j]? = some v → w.cell? ⟨b, o + j, none⟩ = some v) :
    Calls Tryz.prog 120 #[.slice (some ⟨b, o, none⟩) len cap] w fun e w' => ∃ nc, ∃ rest : List Value, len ≤ nc ∧ rest.length = (nc - len) * 4 ∧ e = .returned (.slice (some ⟨w.heap.size + 1, 0, none⟩) len nc) ∧
      w' = ((w.alloc (.cells #[] 197)).drew.alloc (.cells (us ++ rest).toArray 197)) := by
  obtain ⟨i, z, h1, h2, h3, h4, h5⟩ := i197
  have hb : b < w.heap.size := block_lt_of_cell (hc 0 _ (List.getElem?_eq_getElem (by omega)))
  obtain ⟨W, hW⟩ : ∃ W, W = w.alloc (.cells #[] 197) := ⟨_, rfl⟩
  have hold : ∀ j v, us[j]? = some v → W.drew.cell? ⟨b, o + j, none⟩ = some v := by
    intro j v hj
    rw [hW]
    have := World.cell?_alloc_past (w := w) (.cells #[] 197) b (o + j) hb
    exact this.trans (hc j v hj)
  have hfc : (Builtin.firstCells i.size len (.slice (some ⟨b, o, none⟩) len cap)).run Tryz.prog W.drew = .ok us.toArray W.drew := by
    rw [h2]
    exact run_firstCells_some W.drew 4 len ⟨b, o, none⟩ len cap us hl (fun j v hj => by
      rw [Addr.add_lit]; exact hold j v hj)
  obtain ⟨nc, rest, g1, g2, g3⟩ := append_grow_run (P := Tryz.prog) (w := W) (t := 56) (t2 := 56) (ty := 56) (n := 0) (vs := []) (us := us) (base := some ⟨w.heap.size, 0, none⟩) (sCap := 0) (m := len) u56 u56 (by nofun) h1 h4 (by rw [h5, h2]) (by omega)
    (v := .slice (some ⟨b, o, none⟩) len cap) (by simp [Builtin.lenOf]) (by simp [Builtin.firstCells]; rfl) hfc (by rw [h3]; omega) (by omega)
  rw [Nat.zero_add] at g1 g2 g3
  have hsz : W.heap.size = w.heap.size + 1 := by rw [hW]; simp
  rw [hsz, List.nil_append] at g3
  rw [hW] at g3
  have hE : ∀ w, (binOp .eql 56 (.slice (some ⟨b, o, none⟩) len cap) (.slice none 0 0)).run Tryz.prog w = .ok (.bool false) w := fun w => eql56 _ len cap (by nofun) w
  go_enter Tryz.func120, Tryz.ntmps120
  go_wp2_with (first | simp only [hE] | (at_builtin; refine Lib.wpList_append_run _ rfl _ _ _ _ rfl _ _ rfl rfl _ _ g3 ?_))
  all_goals go_ret
  all_goals exact ⟨nc, rest, g1, by rw [g2, h2], rfl, rfl⟩
theorem spec_clone (W0 : World) (args : List AV) (s : Heap) (v : AV) (s' : Heap) (h : eClone args s = some (v, s')) : CallSpec C W0 120 args s v s' := by
  intro L ow w cargs hg hst hargs
  unfold eClone at h
  split at h
  · cases h
    obtain ⟨u, rfl, hu⟩ := relL1 hargs
    cases hu
    refine (clone_nil w).mono ?_
    rintro e w' ⟨rfl, rfl⟩
    exact ⟨_, rfl, .same hst .nils (.of_not rfl)⟩
  · rename_i t zz x xs f
    split at h
    case isFalse => cases h
    rename_i hcond
    obtain ⟨rfl, rfl, hbig⟩ := hcond
    cases h
    obtain ⟨u, rfl, hu⟩ := relL1 hargs
    cases hu with
    | sl b o _ _ _ _ cap hrc hz hcap =>
    obtain ⟨us, r1, r2, r3⟩ := hrc.vals
    have hul : us.length = (xs.length + 1) * 4 := by rw [← r1.length, cellsOf_length hz]; rfl
    refine (clone_walk b o (xs.length + 1) cap us w hul (by omega) (by omega) (fun j v hj => hst.imm _ _ _ (r3 j v hj))).mono ?_
    rintro e w' ⟨nc, rest, g1, g2, rfl, rfl⟩
    refine ⟨_, rfl, ?_⟩
    have e1 := new_ext hst 0 [] 197 .free
    have s1 := new_st hst 0 [] 197 .free
    have hd := drew_st s1
    have hle := new_le hst 0 []
    have hn0 : has s s.length = false := by simp [has]
    have hne : (cellsOf (x :: xs)).map AV.strip ≠ [] := by
      intro e0
      rw [List.map_eq_nil_iff] at e0
      have := cellsOf_length hz
      rw [e0] at this; simp at this
    have hst2 := push_stJ hd hn0 rest (r1.mono hle).strip r2 (fun x hx => by obtain ⟨q, _, rfl⟩ := List.mem_map.1 hx; exact strip_isOwn q) hne 197
    have hext := push_ext hd hn0 (.cells (us ++ rest).toArray 197) (us ++ rest).length
    rw [putAt_end] at hst2
    have hsz : ((w.alloc (.cells [].toArray 197)).drew).heap.size = w.heap.size + 1 := by simp
    refine ⟨_, _, e1.trans (drew_ext.trans hext), hst2, ?_, .of_not rfl⟩
    have := Rel.rs (L := (L.new w.heap.size 0 []).push s.length (w.heap.size + 1) (us ++ rest).length) 197 4 s.length 0 (xs.length + 1) nc (by simp [Lay.push]) ⟨g1, by
      simp only [Lay.push, if_true, List.length_append, hul, g2, Nat.zero_add]
      rw [← Nat.add_mul]
      exact Nat.mul_le_mul_right _ (by omega)⟩
    rw [show ((L.new w.heap.size 0 []).push s.length (w.heap.size + 1) (us ++ rest).length).loc s.length = w.heap.size + 1 by simp [Lay.push]] at this
    rw [hsz]
    exact this
  · cases h
def SpTab (w : World) : Prop := Lib.TabIs Tryz.prog w "strings.asciiSpace" .u8 Lib.asciiSpaceTab
theorem ext_ok (W0 : World) (hT : SpTab W0) (g : FuncId) (e : List AV → Heap → Option (AV × Heap)) (args : List AV) (s : Heap) (v : AV) (s' : Heap) (he : C.ext g = some e) (h : e args s = some (v, s')) : CallSpec C W0 g args s v s' := by
  have he' : (if g = 172 then some eIndex else if g = 163 then some ePrefix else if g = 174 then some eFields else if g = 236 then some eInsert else if g = 101 then some (bCheck 112) else if g = 51 then some (bString 5) else if g = 120 then some eClone else none) = some e := he
  intro L ow w cargs hg hst hargs
  split at he'
  · rename_i hg'; subst hg'; cases he'
    unfold eIndex at h
    split at h
    · rename_i a c
      cases h
      obtain ⟨u1, u2, rfl, k1, k2⟩ := relL2 hargs
      cases k1; cases k2
      refine (Tryz.strings_IndexByte ⟨a.toArray⟩ c w).mono ?_
      rintro e w' ⟨rfl, rfl⟩
      rw [bytes_list]
      exact ⟨_, rfl, .same hst (.int _ _) (.of_not rfl)⟩
    · cases h
  · split at he'
    · rename_i hg'; subst hg'; cases he'
      unfold ePrefix at h
      split at h
      · rename_i a b
        cases h
        obtain ⟨u1, u2, rfl, k1, k2⟩ := relL2 hargs
        cases k1; cases k2
        refine (Tryz.strings_HasPrefix ⟨a.toArray⟩ ⟨b.toArray⟩ w).mono ?_
        rintro e w' ⟨rfl, rfl⟩
        rw [bytes_list, bytes_list]
        exact ⟨_, rfl, .same hst (.bool _) (.of_not rfl)⟩
      · cases h
    · split at he'
      · rename_i hg'; subst hg'; cases he'
        unfold eFields at h
        split at h
        · rename_i a
          split at h
          · rename_i hc
            cases h
            obtain ⟨u1, rfl, k1⟩ := relL1 hargs
            cases k1
            have hs := Lib.tabBelow_of_tabIs hT w hst.below
            refine (Tryz.strings_Fields ⟨a.toArray⟩ w (by rw [bytes_size]; omega) (fun j b hb => ?_) hs).mono ?_
            · rw [bytes_list] at hb
              have := List.all_eq_true.1 hc.2 b (List.mem_of_getElem? hb)
              simpa using this
            · rintro e w' ⟨rfl, rfl⟩
              rw [bytes_list]
              exact ⟨_, rfl, new_strs hst (Lib.fields a)⟩
          · cases h
        · cases h
      · split at he'
        · rename_i hg'; subst hg'; cases he'
          exact spec_insert W0 args s v s' h L ow w cargs hg hst hargs
        · split at he'
          · rename_i hg'; subst hg'; cases he'
            exact spec_check W0 args s v s' h L ow w cargs hg hst hargs
          · split at he'
            · rename_i hg'; subst hg'; cases he'
              exact spec_string W0 args s v s' h L ow w cargs hg hst hargs
            · split at he'
              · rename_i hg'; subst hg'; cases he'
                exact spec_clone W0 args s v s' h L ow w cargs hg hst hargs
              · cases he'
end ParF
end
