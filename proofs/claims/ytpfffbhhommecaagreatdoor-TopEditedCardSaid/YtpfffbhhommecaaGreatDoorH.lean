/- ExtS, ExtB, ExtD, ExtC -/
import Derived.Shelf.Small.Strs
import Derived.Shelf.Strings.Prefix
import Derived.Shelf.Strings.Fields
import Derived.Test.YtpfffbhhommecaaGreatDoorProg
import Derived.Test.YtpfffbhhommecaaGreatDoorC
import Derived.Shelf.Strings.Builder1
import Derived.Test.YtpfffbhhommecaaGreatDoorD
import Derived.WalkSmall
import Derived.Lib.AppendIntMem
set_option linter.all false

section
namespace Go.Proofs
open Go.Shelf
def Tryz.lays137_ren : Go.Shelf.Ren := ⟨fun | 137 => 134 | 217 => 156 | 266 => 167 | n => n, fun | 9 => 9 | 5 => 5 | 3 => 3 | n => n, fun | n => n⟩
theorem Tryz.lays137 : Go.Proofs.Lays.n137 Tryz.prog Tryz.lays137_ren := {
  mixed := by kernel_rfl
  f137 := Tryz.func134.trans (congrArg some (by kernel_rfl))
  f217 := Tryz.func156.trans (congrArg some (by kernel_rfl))
  f266 := Tryz.func167.trans (congrArg some (by kernel_rfl))
  t3 := Tryz.underlying3
  a3 := Tryz.isAgg3
  z3 := Tryz.sizeOf3
  v3 := Tryz.zeroValue3
  t5 := Tryz.underlying5
  a5 := Tryz.isAgg5
  z5 := Tryz.sizeOf5
  v5 := Tryz.zeroValue5
  t9 := Tryz.underlying9
  a9 := Tryz.isAgg9
  z9 := Tryz.sizeOf9
  v9 := Tryz.zeroValue9 }
open Go.RowKit in
theorem Tryz.strings_IndexByte (s : ByteArray) (c : Int) (w : World) :
    Calls Tryz.prog 134 #[.string s, .int .u8 c] w fun e w' => e = .returned (.int .i64 (Lib.indexByte s.data.toList c.toNat.toUInt8)) ∧ w' = w := Any.strings_IndexByte Tryz.lays137 s c w
def Tryz.lays99_ren : Go.Shelf.Ren := ⟨fun | 99 => 125 | 206 => 152 | n => n, fun | 9 => 9 | 4 => 4 | 3 => 3 | n => n, fun | n => n⟩
theorem Tryz.lays99 : Go.Proofs.Lays.n99 Tryz.prog Tryz.lays99_ren := {
  mixed := by kernel_rfl
  f99 := Tryz.func125.trans (congrArg some (by kernel_rfl))
  f206 := Tryz.func152.trans (congrArg some (by kernel_rfl))
  t3 := Tryz.underlying3
  a3 := Tryz.isAgg3
  z3 := Tryz.sizeOf3
  v3 := Tryz.zeroValue3
  t4 := Tryz.underlying4
  a4 := Tryz.isAgg4
  z4 := Tryz.sizeOf4
  v4 := Tryz.zeroValue4
  t9 := Tryz.underlying9
  a9 := Tryz.isAgg9
  z9 := Tryz.sizeOf9
  v9 := Tryz.zeroValue9 }
open Go.RowKit Go.Lib in
theorem Tryz.strings_HasPrefix (s p : ByteArray) (w : World) :
    Calls Tryz.prog 125 #[.string s, .string p] w fun e w' => e = .returned (.bool (Lib.hasPrefix s.data.toList p.data.toList)) ∧ w' = w := Any.strings_HasPrefix Tryz.lays99 s p w
def Tryz.lays157_ren : Go.Shelf.Ren := ⟨fun | 157 => 154 | 229 => 165 | 199 => 166 | 261 => 169 | 311 => 170 | 312 => 171 | n => n, fun | 9 => 9 | 31 => 198 | 3 => 3 | 5 => 5 | 4 => 4 | 119 => 227 | 0 => 0 | 40 => 229 | 152 => 232 | 21 => 21 | 154 => 234 | 51 => 214 | 141 => 236 | 196 => 240 | 193 => 237 | 198 => 243 | 49 => 241 | 194 => 238 | 201 => 246 | 226 => 248 | 46 => 150 | 227 => 249 | n => n, fun | 0 => 1 | 6 => 2 | n => n⟩
theorem Tryz.lays157 : Go.Proofs.Lays.n157 Tryz.prog Tryz.lays157_ren := {
  mixed := by kernel_rfl
  f157 := Tryz.func154.trans (congrArg some (by kernel_rfl))
  f199 := Tryz.func166.trans (congrArg some (by kernel_rfl))
  f229 := Tryz.func165.trans (congrArg some (by kernel_rfl))
  f261 := Tryz.func169.trans (congrArg some (by kernel_rfl))
  f311 := Tryz.func170.trans (congrArg some (by kernel_rfl))
  f312 := Tryz.func171.trans (congrArg some (by kernel_rfl))
  t0 := Tryz.underlying0
  a0 := Tryz.isAgg0
  z0 := Tryz.sizeOf0
  v0 := Tryz.zeroValue0
  t3 := Tryz.underlying3
  a3 := Tryz.isAgg3
  z3 := Tryz.sizeOf3
  v3 := Tryz.zeroValue3
  t4 := Tryz.underlying4
  a4 := Tryz.isAgg4
  z4 := Tryz.sizeOf4
  v4 := Tryz.zeroValue4
  t5 := Tryz.underlying5
  a5 := Tryz.isAgg5
  z5 := Tryz.sizeOf5
  v5 := Tryz.zeroValue5
  t9 := Tryz.underlying9
  a9 := Tryz.isAgg9
  z9 := Tryz.sizeOf9
  v9 := Tryz.zeroValue9
  t21 := Tryz.underlying21
  a21 := Tryz.isAgg21
  z21 := Tryz.sizeOf21
  v21 := Tryz.zeroValue21
  t31 := Tryz.underlying198
  a31 := Tryz.isAgg198
  z31 := Tryz.sizeOf198
  v31 := Tryz.zeroValue198
  t40 := Tryz.underlying229
  a40 := Tryz.isAgg229
  z40 := Tryz.sizeOf229
  v40 := Tryz.zeroValue229
  t46 := Tryz.underlying150
  a46 := Tryz.isAgg150
  z46 := Tryz.sizeOf150
  v46 := Tryz.zeroValue150
  t49 := Tryz.underlying241
  a49 := Tryz.isAgg241
  z49 := Tryz.sizeOf241
  v49 := Tryz.zeroValue241
  t51 := Tryz.underlying214
  a51 := Tryz.isAgg214
  z51 := Tryz.sizeOf214
  v51 := Tryz.zeroValue214
  t119 := Tryz.underlying227
  a119 := Tryz.isAgg227
  z119 := Tryz.sizeOf227
  t141 := Tryz.underlying236
  a141 := Tryz.isAgg236
  z141 := Tryz.sizeOf236
  v141 := Tryz.zeroValue236
  t152 := Tryz.underlying232
  a152 := Tryz.isAgg232
  z152 := Tryz.sizeOf232
  v152 := Tryz.zeroValue232
  t154 := Tryz.underlying234
  a154 := Tryz.isAgg234
  z154 := Tryz.sizeOf234
  v154 := Tryz.zeroValue234
  t193 := Tryz.underlying237
  a193 := Tryz.isAgg237
  z193 := Tryz.sizeOf237
  v193 := Tryz.zeroValue237
  t194 := Tryz.underlying238
  a194 := Tryz.isAgg238
  z194 := Tryz.sizeOf238
  v194 := Tryz.zeroValue238
  t196 := Tryz.underlying240
  a196 := Tryz.isAgg240
  z196 := Tryz.sizeOf240
  v196 := Tryz.zeroValue240
  t198 := Tryz.underlying243
  a198 := Tryz.isAgg243
  z198 := Tryz.sizeOf243
  v198 := Tryz.zeroValue243
  t201 := Tryz.underlying246
  a201 := Tryz.isAgg246
  z201 := Tryz.sizeOf246
  v201 := Tryz.zeroValue246
  t226 := Tryz.underlying248
  a226 := Tryz.isAgg248
  z226 := Tryz.sizeOf248
  v226 := Tryz.zeroValue248
  t227 := Tryz.underlying249
  a227 := Tryz.isAgg249
  z227 := Tryz.sizeOf249
  v227 := Tryz.zeroValue249
  g0 := by kernel_rfl
  g6 := by kernel_rfl }
open Go.RowKit Go.Lib in
theorem Tryz.strings_Fields (s : ByteArray) (w : World) (hs : s.size < 4294967281) (hascii : ∀ (j : Nat) b, s.data.toList[j]? = some b → b.toNat < 128) (htab : Lib.TabIs Tryz.prog w "strings.asciiSpace" .u8 Lib.asciiSpaceTab) :
    Calls Tryz.prog 154 #[.string s] w fun e w' =>
      e = .returned (.slice (some ⟨w.heap.size, 0, none⟩) (Lib.fields s.data.toList).length (Lib.fields s.data.toList).length) ∧ w' = w.alloc (.cells ((Lib.fields s.data.toList).map fun l => Value.string ⟨l.toArray⟩).toArray 9) := Any.strings_Fields Tryz.lays157 (by kernel_rfl) (by kernel_rfl) s w hs hascii htab
end Go.Proofs
end

section
namespace Go.Proofs
open Go
theorem lies_at {P : Program} {n d e : Nat} (hd : P.depth = d + 1) (hc : P.cellsOf e = 2) (hf : sameLayout P P.depth e e = true) (h : 2 ≤ n) : liesAt P P.depth e (n / P.cellsOf e) 0 e 1 = true := by
  have hn : 1 ≤ n / 2 := by omega
  rw [hc]
  have key : rowAt P (sameLayout P P.depth · e) P.depth e (n / 2) 0 1 = true := by
    generalize hF : (sameLayout P P.depth · e) = F
    have hFe : F e = true := by rw [← hF]; exact hf
    rw [hd, rowAt, hc, hFe]
    simp [hn]
  rw [hd] at key ⊢
  rw [liesAt, hd, key, Bool.true_or]
set_option maxHeartbeats 1000000 in
set_option maxRecDepth 100000 in
theorem check_used (b : Nat) (w : World) (h0 : w.cell? ⟨b, 0, none⟩ = some (.pointer (some ⟨b, 0, none⟩))) :
    Calls Tryz.prog 77 #[.pointer (some ⟨b, 0, none⟩)] w fun e w' => e = .returned (.tuple #[]) ∧ w' = w := by
  obtain ⟨j, hj, _⟩ : ∃ j, Tryz.prog.info? 97 = some j ∧ j.size = 2 := by
    have h : (Tryz.prog.info? 97).map (·.size) = some 2 := by kernel_rfl
    obtain ⟨j, hj, e⟩ := Option.map_eq_some_iff.1 h
    exact ⟨j, hj, e⟩
  have u50 : Tryz.prog.underlying 94 = some (.pointer 97) := by kernel_rfl
  go_enter Tryz.func77, Tryz.ntmps77
  go_wp2
  rw [Lib.run_neq_ptr_same w _ u50 hj]
  go_wp2
  go_end0
  exact ⟨rfl, rfl⟩
set_option maxHeartbeats 1000000 in
set_option maxRecDepth 100000 in
theorem check_fresh (b : Nat) (w : World) (h0 : w.cell? ⟨b, 0, none⟩ = some (.pointer none)) {n : Nat} (hn : 2 ≤ n) (hsh : w.shape? b = some (97, n)) (hfz : w.frozen? ⟨b, 0, none⟩ = false) :
    Calls Tryz.prog 77 #[.pointer (some ⟨b, 0, none⟩)] w fun e w' => e = .returned (.tuple #[]) ∧ w' = w.setCell ⟨b, 0, none⟩ (.pointer (some ⟨b, 0, none⟩)) := by
  obtain ⟨j, hj, hjs⟩ : ∃ j, Tryz.prog.info? 97 = some j ∧ j.size = 2 := by
    have h : (Tryz.prog.info? 97).map (·.size) = some 2 := by kernel_rfl
    obtain ⟨j, hj, e⟩ := Option.map_eq_some_iff.1 h
    exact ⟨j, hj, e⟩
  have u50 : Tryz.prog.underlying 94 = some (.pointer 97) := by kernel_rfl
  have u71 : Tryz.prog.underlying 166 = some .unsafePointer := by kernel_rfl
  have lies : liesAt Tryz.prog Tryz.prog.depth 97 (n / Tryz.prog.cellsOf 97) 0 97 1 = true :=
    lies_at (d := Tryz.prog.depth - 1) (by kernel_rfl) (by kernel_rfl) (by kernel_rfl) hn
  go_enter Tryz.func77, Tryz.ntmps77
  go_wp2
  rw [Lib.run_to_unsafe w ⟨b, 0, none⟩ u50 u71 hj (by rw [hjs]; decide) hsh (Nat.lt_of_lt_of_le (Nat.zero_lt_succ 1) hn)]
  simp only [Result.andThen]
  rw [Oper.upon_value]
  go_wp2
  rw [run_callFunc_extern Tryz.func94 (by kernel_rfl) (by kernel_rfl) (by kernel_rfl) (e := Extern.AbiNoEscape.same) (by kernel_rfl)]
  rw [Lib.run_noEscape]
  simp only [Result.andThen]
  rw [Oper.upon_value]
  go_wp2
  rw [Lib.run_from_unsafe w ⟨b, 0, none⟩ u71 u50 hj hsh lies]
  simp only [Result.andThen]
  rw [Oper.upon_value]
  go_wp2
  go_end0
  exact ⟨rfl, rfl⟩
set_option maxHeartbeats 1000000 in
set_option maxRecDepth 100000 in
theorem string_walk (b g cap : Nat) (l : List UInt8) (p : Value) (w : World) (c1' : w.cell? ⟨b, 1, none⟩ = some (.slice (some ⟨g, 0, none⟩) l.length cap)) (cur : Array Value) (fz : Nat × Nat) (hg : w.heap[g]? = some (.cells cur 5 fz))
    (hcells : ∀ j x, l[j]? = some x → w.cell? ⟨g, j, none⟩ = some (.int .u8 x.toNat)) (h0 : l ≠ []) (h1 : l.length ≤ cap) (h2 : l.length ≤ cur.size) (h63 : l.length ≤ 9223372036854775807) :
    Calls Tryz.prog 45 #[.pointer (some ⟨b, 0, none⟩)] w fun e w' => e = .returned (.string ⟨l.toArray⟩) ∧ w' = w.drew.freeze ⟨g, 0, none⟩ l.length := by
  have hl0 : l.length ≠ 0 := by simpa using h0
  have c1 : w.drew.cell? ⟨b, 1, none⟩ = some (.slice (some ⟨g, 0, none⟩) l.length cap) := c1'
  have hSD : (Builtin.unsafeSliceData_ #[95] 142 #[.slice (some ⟨g, 0, none⟩) l.length cap]).run Tryz.prog w.drew = .ok (.pointer (some ⟨g, 0, none⟩)) w.drew :=
    Lib.run_unsafeSliceData_row _ _ _ _ _ _ (by omega)
  have u70 : Tryz.prog.underlying 142 = some (.pointer 5) := by kernel_rfl
  have cB : Tryz.prog.cellsOf 5 = 1 := by kernel_rfl
  have hUS : (Builtin.unsafeString_ #[142, 3] 9 #[.pointer (some ⟨g, 0, none⟩), .int .i64 l.length]).run Tryz.prog w.drew = .ok (.string ⟨l.toArray⟩) (w.drew.freeze ⟨g, 0, none⟩ l.length) := by
    refine Lib.run_unsafeString_row w.drew 142 3 9 5 u70 cB g cur.size (by have hg' : w.drew.heap[g]? = some (.cells cur 5 fz) := hg; simp [World.shape?, hg']) l h0 h2 h63 ?_
    intro j x hx
    have := hcells j x hx
    have e : Addr.add ⟨g, 0, none⟩ j = ⟨g, j, none⟩ := by unfold Addr.add; split <;> simp_all
    rw [e]
    exact this
  go_enter Tryz.func45, Tryz.ntmps45
  go_wp2
  go_region
  all_goals (go_wp2; go_ret; exact ⟨rfl, rfl⟩)
set_option maxHeartbeats 1000000 in
set_option maxRecDepth 100000 in
theorem string_nil_walk (b : Nat) (w : World) (c1' : w.cell? ⟨b, 1, none⟩ = some (.slice none 0 0)) :
    Calls Tryz.prog 45 #[.pointer (some ⟨b, 0, none⟩)] w fun e w' => e = .returned (.string ⟨#[]⟩) ∧ w' = w.drew := by
  have hUS : ∀ (W : World) (q : Option Addr), (Builtin.unsafeString_ #[142, 3] 9 #[.pointer q, .int .i64 0]).run Tryz.prog W = .ok (.string .empty) W := fun W q => Lib.run_unsafeString_none W _ _ _ q
  have c1 : w.drew.cell? ⟨b, 1, none⟩ = some (.slice none 0 0) := c1'
  have hSD : (Builtin.unsafeSliceData_ #[95] 142 #[.slice none 0 0]).run Tryz.prog w.drew = .ok (.pointer none) w.drew := rfl
  go_enter Tryz.func45, Tryz.ntmps45
  go_wp2
  go_region
  all_goals (go_wp2; go_ret; exact ⟨rfl, rfl⟩)
end Go.Proofs
end

section
namespace Srv
open Go Go.Abs Go.Proofs
theorem relL2 {L : Lay} {a b : AV} {vs : List Value} (h : RelL L [a, b] vs) : ∃ u v, vs = [u, v] ∧ Rel L a u ∧ Rel L b v := by
  cases h with
  | cons _ _ _ _ h t => cases t with
    | cons _ _ _ _ h' t' => cases t'; exact ⟨_, _, rfl, h, h'⟩
theorem relL1 {L : Lay} {a : AV} {vs : List Value} (h : RelL L [a] vs) : ∃ u, vs = [u] ∧ Rel L a u := by
  cases h with
  | cons _ _ _ _ h t => cases t; exact ⟨_, rfl, h⟩
theorem bytes_list (a : List UInt8) : (⟨a.toArray⟩ : ByteArray).data.toList = a := by simp
theorem bytes_size (a : List UInt8) : (⟨a.toArray⟩ : ByteArray).size = a.length := by show a.toArray.size = _; simp
theorem relL_strs (L : Lay) : ∀ xs : List (List UInt8), RelL L (xs.map .str) (xs.map fun l => Value.string ⟨l.toArray⟩)
  | [] => .nil
  | x :: xs => .cons _ _ _ _ (.str x) (relL_strs L xs)
theorem cellsOf_strs (xs : List (List UInt8)) : cellsOf (xs.map AV.str) = xs.map .str := by
  induction xs with
  | nil => rfl
  | cons x xs ih => show [_] ++ cellsOf (xs.map AV.str) = _; rw [ih]; rfl
theorem new_strs {W0 : World} {L : Lay} {ow : Owns} {s : Heap} {w : World} (h : St W0 L ow s w) (xs : List (List UInt8)) :
    Res W0 L ow w (.sl 9 1 (xs.map .str) .sh) s (.slice (some ⟨w.heap.size, 0, none⟩) xs.length xs.length) (w.alloc (.cells (xs.map fun l => Value.string ⟨l.toArray⟩).toArray 9)) := by
  refine ⟨L.new w.heap.size (xs.map fun l => Value.string ⟨l.toArray⟩).length (xs.map fun l => Value.string ⟨l.toArray⟩), newOw ow w.heap.size .free, new_ext h _ _ _ _, new_st h _ _ _ _, ?_, .of_not rfl⟩
  have hr := Rel.sl (L := L.new w.heap.size (xs.map fun l => Value.string ⟨l.toArray⟩).length (xs.map fun l => Value.string ⟨l.toArray⟩)) w.heap.size 0 9 1 (xs.map .str) .sh xs.length
    (new_relC h (by rw [List.take_length, cellsOf_strs]; exact relL_strs L xs) (by
      intro v hv
      rw [List.take_length] at hv
      obtain ⟨l, _, rfl⟩ := List.mem_map.1 hv
      rfl)) (by intro x hx; obtain ⟨l, _, rfl⟩ := List.mem_map.1 hx; rfl) ⟨by simp, nofun⟩
  simp only [List.length_map] at hr ⊢
  exact hr
theorem cell_at {w : World} {b : Nat} {vs : List Value} {ty : TypeId} {fz : Nat × Nat} (h : w.heap[b]? = some (.cells vs.toArray ty fz)) (o : Nat) : w.cell? ⟨b, o, none⟩ = vs[o]? := by
  simp [World.cell?, h]
theorem sz50e : szOf Tryz.prog 94 = some 1 := by kernel_rfl
theorem spec_check (W0 : World) (args : List AV) (s : Heap) (v : AV) (s' : Heap) (h : bCheck 97 args s = some (v, s')) : CallSpec C W0 77 args s v s' := by
  intro L ow w cargs hg hst hargs
  unfold bCheck at h
  split at h
  · rename_i id
    obtain ⟨u, rfl, hu⟩ := relL1 hargs
    cases hu with
    | ref _ _ hid =>
    split at h
    · rename_i t b hs
      split at h
      · rename_i ht
        subst ht
        cases h
        have O := hst.obj id _ hs (by simp) (show (97 : Nat) ≠ deadTy by decide)
        obtain ⟨vs, js, ⟨fz, hh⟩, hrel, h1, h2, h5⟩ := O.cells (by show (97 : Nat) ≠ mapTy; decide)
        obtain ⟨u1, u2, rfl, k1, k2⟩ := relL2 hrel
        cases k1
        have hlt : id < s.length := (List.getElem?_eq_some_iff.1 hs).1
        have hres : aStore 1 s (.ref id 0) (.ref id 0) = some (s.set id (97, [.ref id 0, b])) := by
          simp [aStore, AV.solid, AV.cells, hs, setL, stCells, deadTy]
        obtain ⟨w', r1, r2, r3⟩ := store_full hst sz50e hres (.ref id 0 hid) (.ref id 0 hid) (.of_not rfl)
        have hw' := r3 id 0 [.pointer (some ⟨L.loc id, 0, none⟩)] rfl rfl
        refine (check_fresh (L.loc id) w ?_ (n := ([Value.pointer none, u2] ++ js).length) (by simp) ?_ ?_).mono ?_
        · rw [cell_at hh]; rfl
        · simp [World.shape?, hh]
        · exact O.melt 0
        · rintro e w2 ⟨rfl, rfl⟩
          refine ⟨_, rfl, ?_⟩
          obtain ⟨L', ow', x1, x2, _, _⟩ := r2
          have e : w.setCell ⟨L.loc id, 0, none⟩ (.pointer (some ⟨L.loc id, 0, none⟩)) = w' := by rw [hw']; rfl
          rw [e]
          exact ⟨L', ow', x1, x2, .tup [] [] .nil, trivial⟩
      · cases h
    · rename_i t id' b hs
      split at h
      · rename_i e
        cases h
        obtain ⟨e1, rfl⟩ := e
        subst e1
        have O := hst.obj id' _ hs (by simp) (show (97 : Nat) ≠ deadTy by decide)
        obtain ⟨vs, js, ⟨fz, hh⟩, hrel, h1, h2, h5⟩ := O.cells (by show (97 : Nat) ≠ mapTy; decide)
        obtain ⟨u1, u2, rfl, k1, k2⟩ := relL2 hrel
        cases k1
        refine (check_used (L.loc id') w ?_).mono ?_
        · rw [cell_at hh]; rfl
        · rintro e w2 ⟨rfl, rfl⟩
          exact ⟨_, rfl, .same hst (.tup [] [] .nil) (fun _ _ _ _ => trivial)⟩
      · cases h
    · cases h
  · cases h
theorem asBytes_cons {x : AV} {xs : List AV} {bs : List UInt8} (h : asBytes (x :: xs) = some bs) : ∃ n r, x = .int .u8 n ∧ 0 ≤ n ∧ n < 256 ∧ asBytes xs = some r ∧ bs = UInt8.ofNat n.toNat :: r := by
  unfold asBytes at h
  split at h
  · rename_i e; cases e
  · rename_i n r e
    cases e
    split at h
    · rename_i hn
      rw [Option.map_eq_some_iff] at h
      obtain ⟨r, h1, rfl⟩ := h
      exact ⟨n, r, rfl, hn.1, hn.2, h1, rfl⟩
    · cases h
  · cases h
theorem asBytes_len : ∀ {xs : List AV} {bs : List UInt8}, asBytes xs = some bs → bs.length = xs.length
  | [], bs, h => by cases h; rfl
  | x :: xs, bs, h => by
    obtain ⟨n, r, rfl, _, _, h1, rfl⟩ := asBytes_cons h
    simp [asBytes_len h1]
theorem asBytes_cell {L : Lay} {w : World} (himm : ∀ b o v, L.S b o = some v → w.cell? ⟨b, o, none⟩ = some v) {g : Nat} : ∀ {xs : List AV} {bs : List UInt8} {o : Nat}, asBytes xs = some bs → RelC L g o (cellsOf xs) →
    ∀ j x, bs[j]? = some x → w.cell? ⟨g, o + j, none⟩ = some (.int .u8 x.toNat)
  | [], bs, o, h, hr, j, x, hj => by cases h; simp at hj
  | y :: xs, bs, o, h, hr, j, x, hj => by
    obtain ⟨n, r, rfl, hn0, hn1, h1, rfl⟩ := asBytes_cons h
    have hr' : RelC L g o (.int .u8 n :: cellsOf xs) := hr
    cases hr' with
    | cons _ _ _ _ v hs hv hrel t =>
      cases hrel
      cases j with
      | zero =>
        simp at hj
        subst hj
        rw [Nat.add_zero, himm _ _ _ hs]
        congr 2
        simp
        omega
      | succ j =>
        simp at hj
        have := asBytes_cell himm h1 t j x hj
        rw [show o + (j + 1) = o + 1 + j by omega]
        exact this
theorem freeze_other {w : World} {g b : Nat} (n : Nat) (h : b ≠ g) : (w.freeze ⟨g, 0, none⟩ n).heap[b]? = w.heap[b]? := by
  unfold World.freeze
  split
  · rfl
  · simp only [Array.getElem?_modify]
    rw [if_neg (fun e => h e.symm)]
theorem freeze_same {m : Bool} {w : World} {g : Nat} (n : Nat) : Same m w (w.freeze ⟨g, 0, none⟩ n) := by
  unfold World.freeze
  split
  · exact .refl w
  · exact ⟨rfl, rfl, rfl, by simp, fun _ => Nat.le_refl _⟩
theorem freeze_cell {w : World} {g : Nat} (n o : Nat) : (w.freeze ⟨g, 0, none⟩ n).cell? ⟨g, o, none⟩ = w.cell? ⟨g, o, none⟩ := by
  unfold World.freeze
  split
  · rfl
  · simp only [World.cell?, Array.getElem?_modify, if_true]
    cases hh : w.heap[g]? with
    | none => rfl
    | some x => cases x <;> rfl
theorem spec_string (W0 : World) (args : List AV) (s : Heap) (v : AV) (s' : Heap) (h : bString 5 args s = some (v, s')) : CallSpec C W0 45 args s v s' := by
  intro L ow w cargs hg hst hargs
  unfold bString at h
  split at h
  · rename_i id
    obtain ⟨u, rfl, hu⟩ := relL1 hargs
    cases hu with
    | ref _ _ hid =>
    split at h
    · rename_i t a hs
      split at h
      case isTrue => cases h
      rename_i hdt
      cases h
      have hdl := Nat.lt_of_not_le hdt
      have O := hst.obj id _ hs (by simp) (lt_dead hdl).1
      obtain ⟨vs, js, ⟨fz, hh⟩, hrel, h1, h2, h5⟩ := O.cells (lt_dead hdl).2
      obtain ⟨u1, u2, rfl, k1, k2⟩ := relL2 hrel
      cases k2
      refine (string_nil_walk (L.loc id) w ?_).mono ?_
      · rw [cell_at hh]; rfl
      · rintro e w2 ⟨rfl, rfl⟩
        exact ⟨_, rfl, L, ow, drew_ext, drew_st hst, .str [], trivial⟩
    · rename_i t a ty xs hs
      split at h
      · rename_i hty
        obtain ⟨hty, hdt⟩ := hty
        subst hty
        split at h
        · rename_i b0 bs hb
          split at h
          case isFalse => cases h
          rename_i hbig
          cases h
          have O := hst.obj id _ hs (by simp) (lt_dead hdt).1
          obtain ⟨vs, js, ⟨fz, hh⟩, hrel, h1, h2, h5⟩ := O.cells (lt_dead hdt).2
          obtain ⟨u1, u2, rfl, k1, k2⟩ := relL2 hrel
          have hlt : id < s.length := (List.getElem?_eq_some_iff.1 hs).1
          cases k2 with
          | sl0 _ _ _ _ _ hf => simp [asBytes] at hb
          | sl g o _ _ _ _ cap hc hz hcap =>
          obtain ⟨o1, ⟨c, fz2, o2, o3, o4⟩, o5⟩ := h2 1 _ _ rfl rfl
          simp only at o1 o2 o3 o4
          subst o3
          have hlen := asBytes_len hb
          have hne : L.loc id ≠ g := by intro e; rw [← e, O.own] at o1; cases o1
          have hlt' : g < w.heap.size := hst.used _ (by rw [o1]; simp)
          refine (string_walk (L.loc id) g cap (b0 :: bs) u1 w ?_ c fz2 o2 ?_ (by simp) (by omega) (by omega) ?_).mono ?_
          · rw [cell_at hh, hlen]; rfl
          · intro j x hx
            have := asBytes_cell hst.imm hb hc j x hx
            rwa [Nat.zero_add] at this
          · simp only [List.length_cons]; omega
          · rintro e w2 ⟨rfl, rfl⟩
            have ho : ∀ b, b ≠ g → (w.drew.freeze ⟨g, 0, none⟩ (b0 :: bs).length).heap[b]? = w.heap[b]? := fun b hb => freeze_other _ hb
            have hsame : Same L.m w (w.drew.freeze ⟨g, 0, none⟩ (b0 :: bs).length) := Same.trans (b := w.drew) ⟨rfl, rfl, rfl, Nat.le_refl _, fun _ => Nat.le_succ _⟩ (freeze_same _)
            have hx : Ext L ow w L ow (w.drew.freeze ⟨g, 0, none⟩ (b0 :: bs).length) := ⟨.refl L, fun b hb => ⟨hb, fun _ => rfl, ho b (by intro e; rw [e, o1] at hb; cases hb)⟩, hsame⟩
            refine ⟨_, rfl, L, ow, hx, ⟨fun i => by rw [hst.live, has_set (has_of hs (by simp)) (by simp)], fun b o x hS => ?_, fun id' ds hds hds' hdt' => ?_, fun b hb => Nat.lt_of_lt_of_le (hst.used b hb) hsame.size, hst.base, hst.below_ext hx⟩, .str _, trivial⟩
            · by_cases e : b = g
              · subst e; rw [freeze_cell]; exact hst.imm _ _ _ hS
              · rw [cell?_of_heap (ho b e)]; exact hst.imm b o x hS
            · by_cases e' : id' = id
              · subst e'
                rw [List.getElem?_set_self hlt] at hds
                cases hds
                refine ⟨O.own, O.S, fun _ => ⟨[u1, _], js, ⟨fz, by rw [ho _ hne]; exact hh⟩, .cons _ _ _ _ k1 (.cons _ _ _ _ (.sl g 0 _ _ _ .sh cap hc hz ⟨hcap.1, nofun⟩) .nil), h1, ?_, h5⟩, fun hm => absurd hm (lt_dead hdt).2, fun o => by rw [frozen?_of_heap (ho _ hne)]; exact O.melt o⟩
                intro k b q hb' hq
                match k, hb', hq with
                | 0, hb', hq =>
                  exact (h2 0 b q hb' hq).move fun c' hc' => ⟨hc', fun _ => rfl, ho c' (by intro e; rw [e, o1] at hc'; cases hc')⟩
                | 1, hb', hq =>
                  simp at hb'
                  subst hb'
                  exact .of_not rfl
                | k + 2, hb', hq => simp at hb'
              · rw [List.getElem?_set_ne (fun e => e' e.symm)] at hds
                have hidlt : L.live id' = true := by rw [hst.live]; exact has_of hds hds'
                refine (hst.obj id' ds hds hds' hdt').move (.refl L) hidlt (fun b hb' => ⟨rfl, fun _ => rfl, ho b ?_⟩)
                intro e; rw [e, o1] at hb'
                rcases hb' with hb' | ⟨k, hb'⟩
                · cases hb'
                · injection hb' with hb'; exact e' hb'.symm
        · cases h
      · cases h
    · cases h
  · cases h
end Srv
end

section
namespace Srv
open Go Go.Abs Go.Proofs Go.Lib
def SpTab (w : World) : Prop := Lib.TabIs Tryz.prog w "strings.asciiSpace" .u8 Lib.asciiSpaceTab
theorem ext_ok (W0 : World) (hT : SpTab W0) (g : FuncId) (e : List AV → Heap → Option (AV × Heap)) (args : List AV) (s : Heap) (v : AV) (s' : Heap) (he : C.ext g = some e) (h : e args s = some (v, s')) : CallSpec C W0 g args s v s' := by
  have he' : (if g = 134 then some eIndex else if g = 125 then some ePrefix else if g = 154 then some eFields else if g = 77 then some (bCheck 97) else if g = 45 then some (bString 5) else none) = some e := he
  intro L ow w cargs hg hst hargs
  split at he'
  · rename_i hg'; subst hg'; cases he'
    unfold eIndex at h
    split at h
    · rename_i a c
      cases h
      obtain ⟨u1, u2, rfl, k1, k2⟩ := relL2 hargs
      cases k1; cases k2
      refine (Tryz.strings_IndexByte ⟨a.toArray⟩ c w).mono ?_
      rintro e w' ⟨rfl, rfl⟩
      rw [bytes_list]
      exact ⟨_, rfl, .same hst (.int _ _) (.of_not rfl)⟩
    · cases h
  · split at he'
    · rename_i hg'; subst hg'; cases he'
      unfold ePrefix at h
      split at h
      · rename_i a b
        cases h
        obtain ⟨u1, u2, rfl, k1, k2⟩ := relL2 hargs
        cases k1; cases k2
        refine (Tryz.strings_HasPrefix ⟨a.toArray⟩ ⟨b.toArray⟩ w).mono ?_
        rintro e w' ⟨rfl, rfl⟩
        rw [bytes_list, bytes_list]
        exact ⟨_, rfl, .same hst (.bool _) (.of_not rfl)⟩
      · cases h
    · split at he'
      · rename_i hg'; subst hg'; cases he'
        unfold eFields at h
        split at h
        · rename_i a
          split at h
          · rename_i hc
            cases h
            obtain ⟨u1, rfl, k1⟩ := relL1 hargs
            cases k1
            have hs := Lib.tabBelow_of_tabIs hT w hst.below
            refine (Tryz.strings_Fields ⟨a.toArray⟩ w (by rw [bytes_size]; omega) (fun j b hb => ?_) hs).mono ?_
            · rw [bytes_list] at hb
              have := List.all_eq_true.1 hc.2 b (List.mem_of_getElem? hb)
              simpa using this
            · rintro e w' ⟨rfl, rfl⟩
              rw [bytes_list]
              exact ⟨_, rfl, new_strs hst (Lib.fields a)⟩
          · cases h
        · cases h
      · split at he'
        · rename_i hg'; subst hg'; cases he'
          exact spec_check W0 args s v s' h L ow w cargs hg hst hargs
        · split at he'
          · rename_i hg'; subst hg'; cases he'
            exact spec_string W0 args s v s' h L ow w cargs hg hst hargs
          · cases he'
end Srv
end
