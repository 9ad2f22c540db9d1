/- ExtB, ExtS, ExtD, DelS, InsS -/
import Derived.Test.YtfhoaocedkkjbaaGreatDoorC
import Derived.Test.YtfhoaocedkkjbaaGreatDoorProg
import Derived.Shelf.Strings.Builder1
import Derived.Shelf.Small.Strs
import Derived.Shelf.Strings.Prefix
import Derived.Shelf.Strings.Fields
import Derived.Test.YtfhoaocedkkjbaaGreatDoorD
import Derived.WalkSmall
import Derived.Lib.AppendIntMem
import Derived.Test.YtfhoaocedkkjbaaGreatDoorX
set_option linter.all false

section
namespace Go.Proofs
open Go
theorem lies_at {P : Program} {n d e : Nat} (hd : P.depth = d + 1) (hc : P.cellsOf e = 2) (hf : sameLayout P P.depth e e = true) (h : 2 ≤ n) : liesAt P P.depth e (n / P.cellsOf e) 0 e 1 = true := by
  have hn : 1 ≤ n / 2 := by omega
  rw [hc]
  have key : rowAt P (sameLayout P P.depth · e) P.depth e (n / 2) 0 1 = true := by
    generalize hF : (sameLayout P P.depth · e) = F
    have hFe : F e = true := by rw [← hF]; exact hf
    rw [hd, rowAt, hc, hFe]
    simp [hn]
  rw [hd] at key ⊢
  rw [liesAt, hd, key, Bool.true_or]
set_option maxHeartbeats 1000000 in
set_option maxRecDepth 100000 in
theorem check_used (b : Nat) (w : World) (h0 : w.cell? ⟨b, 0, none⟩ = some (.pointer (some ⟨b, 0, none⟩))) :
    Calls Tryz.prog 77 #[.pointer (some ⟨b, 0, none⟩)] w fun e w' => e = .returned (.tuple #[]) ∧ w' = w := by
  obtain ⟨j, hj, _⟩ : ∃ j, Tryz.prog.info? 97 = some j ∧ j.size = 2 := by
    have h : (Tryz.prog.info? 97).map (·.size) = some 2 := by kernel_rfl
    obtain ⟨j, hj, e⟩ := Option.map_eq_some_iff.1 h
    exact ⟨j, hj, e⟩
  have u50 : Tryz.prog.underlying 94 = some (.pointer 97) := by kernel_rfl
  go_enter Tryz.func77, Tryz.ntmps77
  go_wp2
  rw [Lib.run_neq_ptr_same w _ u50 hj]
  go_wp2
  go_end0
  exact ⟨rfl, rfl⟩
set_option maxHeartbeats 1000000 in
set_option maxRecDepth 100000 in
theorem check_fresh (b : Nat) (w : World) (h0 : w.cell? ⟨b, 0, none⟩ = some (.pointer none)) {n : Nat} (hn : 2 ≤ n) (hsh : w.shape? b = some (97, n)) (hfz : w.frozen? ⟨b, 0, none⟩ = false) :
    Calls Tryz.prog 77 #[.pointer (some ⟨b, 0, none⟩)] w fun e w' => e = .returned (.tuple #[]) ∧ w' = w.setCell ⟨b, 0, none⟩ (.pointer (some ⟨b, 0, none⟩)) := by
  obtain ⟨j, hj, hjs⟩ : ∃ j, Tryz.prog.info? 97 = some j ∧ j.size = 2 := by
    have h : (Tryz.prog.info? 97).map (·.size) = some 2 := by kernel_rfl
    obtain ⟨j, hj, e⟩ := Option.map_eq_some_iff.1 h
    exact ⟨j, hj, e⟩
  have u50 : Tryz.prog.underlying 94 = some (.pointer 97) := by kernel_rfl
  have u71 : Tryz.prog.underlying 166 = some .unsafePointer := by kernel_rfl
  have lies : liesAt Tryz.prog Tryz.prog.depth 97 (n / Tryz.prog.cellsOf 97) 0 97 1 = true :=
    lies_at (d := Tryz.prog.depth - 1) (by kernel_rfl) (by kernel_rfl) (by kernel_rfl) hn
  go_enter Tryz.func77, Tryz.ntmps77
  go_wp2
  rw [Lib.run_to_unsafe w ⟨b, 0, none⟩ u50 u71 hj (by rw [hjs]; decide) hsh (Nat.lt_of_lt_of_le (Nat.zero_lt_succ 1) hn)]
  simp only [Result.andThen]
  rw [Oper.upon_value]
  go_wp2
  rw [run_callFunc_extern Tryz.func94 (by kernel_rfl) (by kernel_rfl) (by kernel_rfl) (e := Extern.AbiNoEscape.same) (by kernel_rfl)]
  rw [Lib.run_noEscape]
  simp only [Result.andThen]
  rw [Oper.upon_value]
  go_wp2
  rw [Lib.run_from_unsafe w ⟨b, 0, none⟩ u71 u50 hj hsh lies]
  simp only [Result.andThen]
  rw [Oper.upon_value]
  go_wp2
  go_end0
  exact ⟨rfl, rfl⟩
set_option maxHeartbeats 1000000 in
set_option maxRecDepth 100000 in
theorem string_walk (b g cap : Nat) (l : List UInt8) (p : Value) (w : World) (c1' : w.cell? ⟨b, 1, none⟩ = some (.slice (some ⟨g, 0, none⟩) l.length cap)) (cur : Array Value) (fz : Nat × Nat) (hg : w.heap[g]? = some (.cells cur 5 fz))
    (hcells : ∀ j x, l[j]? = some x → w.cell? ⟨g, j, none⟩ = some (.int .u8 x.toNat)) (h0 : l ≠ []) (h1 : l.length ≤ cap) (h2 : l.length ≤ cur.size) (h63 : l.length ≤ 9223372036854775807) :
    Calls Tryz.prog 45 #[.pointer (some ⟨b, 0, none⟩)] w fun e w' => e = .returned (.string ⟨l.toArray⟩) ∧ w' = w.drew.freeze ⟨g, 0, none⟩ l.length := by
  have hl0 : l.length ≠ 0 := by simpa using h0
  have c1 : w.drew.cell? ⟨b, 1, none⟩ = some (.slice (some ⟨g, 0, none⟩) l.length cap) := c1'
  have hSD : (Builtin.unsafeSliceData_ #[95] 142 #[.slice (some ⟨g, 0, none⟩) l.length cap]).run Tryz.prog w.drew = .ok (.pointer (some ⟨g, 0, none⟩)) w.drew :=
    Lib.run_unsafeSliceData_row _ _ _ _ _ _ (by omega)
  have u70 : Tryz.prog.underlying 142 = some (.pointer 5) := by kernel_rfl
  have cB : Tryz.prog.cellsOf 5 = 1 := by kernel_rfl
  have hUS : (Builtin.unsafeString_ #[142, 3] 9 #[.pointer (some ⟨g, 0, none⟩), .int .i64 l.length]).run Tryz.prog w.drew = .ok (.string ⟨l.toArray⟩) (w.drew.freeze ⟨g, 0, none⟩ l.length) := by
    refine Lib.run_unsafeString_row w.drew 142 3 9 5 u70 cB g cur.size (by have hg' : w.drew.heap[g]? = some (.cells cur 5 fz) := hg; simp [World.shape?, hg']) l h0 h2 h63 ?_
    intro j x hx
    have := hcells j x hx
    have e : Addr.add ⟨g, 0, none⟩ j = ⟨g, j, none⟩ := by unfold Addr.add; split <;> simp_all
    rw [e]
    exact this
  go_enter Tryz.func45, Tryz.ntmps45
  go_wp2
  go_region
  all_goals (go_wp2; go_ret; exact ⟨rfl, rfl⟩)
set_option maxHeartbeats 1000000 in
set_option maxRecDepth 100000 in
theorem string_nil_walk (b : Nat) (w : World) (c1' : w.cell? ⟨b, 1, none⟩ = some (.slice none 0 0)) :
    Calls Tryz.prog 45 #[.pointer (some ⟨b, 0, none⟩)] w fun e w' => e = .returned (.string ⟨#[]⟩) ∧ w' = w.drew := by
  have hUS : ∀ (W : World) (q : Option Addr), (Builtin.unsafeString_ #[142, 3] 9 #[.pointer q, .int .i64 0]).run Tryz.prog W = .ok (.string .empty) W := fun W q => Lib.run_unsafeString_none W _ _ _ q
  have c1 : w.drew.cell? ⟨b, 1, none⟩ = some (.slice none 0 0) := c1'
  have hSD : (Builtin.unsafeSliceData_ #[95] 142 #[.slice none 0 0]).run Tryz.prog w.drew = .ok (.pointer none) w.drew := rfl
  go_enter Tryz.func45, Tryz.ntmps45
  go_wp2
  go_region
  all_goals (go_wp2; go_ret; exact ⟨rfl, rfl⟩)
end Go.Proofs
end

section
namespace Go.Proofs
open Go.Shelf
def Tryz.lays137_ren : Go.Shelf.Ren := ⟨fun | 137 => 134 | 217 => 156 | 266 => 167 | n => n, fun | 9 => 9 | 5 => 5 | 3 => 3 | n => n, fun | n => n⟩
theorem Tryz.lays137 : Go.Proofs.Lays.n137 Tryz.prog Tryz.lays137_ren := {
  mixed := by kernel_rfl
  f137 := Tryz.func134.trans (congrArg some (by kernel_rfl))
  f217 := Tryz.func156.trans (congrArg some (by kernel_rfl))
  f266 := Tryz.func167.trans (congrArg some (by kernel_rfl))
  t3 := Tryz.underlying3
  a3 := Tryz.isAgg3
  z3 := Tryz.sizeOf3
  v3 := Tryz.zeroValue3
  t5 := Tryz.underlying5
  a5 := Tryz.isAgg5
  z5 := Tryz.sizeOf5
  v5 := Tryz.zeroValue5
  t9 := Tryz.underlying9
  a9 := Tryz.isAgg9
  z9 := Tryz.sizeOf9
  v9 := Tryz.zeroValue9 }
open Go.RowKit in
theorem Tryz.strings_IndexByte (s : ByteArray) (c : Int) (w : World) :
    Calls Tryz.prog 134 #[.string s, .int .u8 c] w fun e w' => e = .returned (.int .i64 (Lib.indexByte s.data.toList c.toNat.toUInt8)) ∧ w' = w := Any.strings_IndexByte Tryz.lays137 s c w
def Tryz.lays99_ren : Go.Shelf.Ren := ⟨fun | 99 => 125 | 206 => 152 | n => n, fun | 9 => 9 | 4 => 4 | 3 => 3 | n => n, fun | n => n⟩
theorem Tryz.lays99 : Go.Proofs.Lays.n99 Tryz.prog Tryz.lays99_ren := {
  mixed := by kernel_rfl
  f99 := Tryz.func125.trans (congrArg some (by kernel_rfl))
  f206 := Tryz.func152.trans (congrArg some (by kernel_rfl))
  t3 := Tryz.underlying3
  a3 := Tryz.isAgg3
  z3 := Tryz.sizeOf3
  v3 := Tryz.zeroValue3
  t4 := Tryz.underlying4
  a4 := Tryz.isAgg4
  z4 := Tryz.sizeOf4
  v4 := Tryz.zeroValue4
  t9 := Tryz.underlying9
  a9 := Tryz.isAgg9
  z9 := Tryz.sizeOf9
  v9 := Tryz.zeroValue9 }
open Go.RowKit Go.Lib in
theorem Tryz.strings_HasPrefix (s p : ByteArray) (w : World) :
    Calls Tryz.prog 125 #[.string s, .string p] w fun e w' => e = .returned (.bool (Lib.hasPrefix s.data.toList p.data.toList)) ∧ w' = w := Any.strings_HasPrefix Tryz.lays99 s p w
def Tryz.lays157_ren : Go.Shelf.Ren := ⟨fun | 157 => 154 | 229 => 165 | 199 => 166 | 261 => 169 | 311 => 170 | 312 => 171 | n => n, fun | 9 => 9 | 31 => 198 | 3 => 3 | 5 => 5 | 4 => 4 | 119 => 227 | 0 => 0 | 40 => 229 | 152 => 232 | 21 => 21 | 154 => 234 | 51 => 214 | 141 => 236 | 196 => 240 | 193 => 237 | 198 => 243 | 49 => 241 | 194 => 238 | 201 => 246 | 226 => 248 | 46 => 150 | 227 => 249 | n => n, fun | 0 => 1 | 6 => 2 | n => n⟩
theorem Tryz.lays157 : Go.Proofs.Lays.n157 Tryz.prog Tryz.lays157_ren := {
  mixed := by kernel_rfl
  f157 := Tryz.func154.trans (congrArg some (by kernel_rfl))
  f199 := Tryz.func166.trans (congrArg some (by kernel_rfl))
  f229 := Tryz.func165.trans (congrArg some (by kernel_rfl))
  f261 := Tryz.func169.trans (congrArg some (by kernel_rfl))
  f311 := Tryz.func170.trans (congrArg some (by kernel_rfl))
  f312 := Tryz.func171.trans (congrArg some (by kernel_rfl))
  t0 := Tryz.underlying0
  a0 := Tryz.isAgg0
  z0 := Tryz.sizeOf0
  v0 := Tryz.zeroValue0
  t3 := Tryz.underlying3
  a3 := Tryz.isAgg3
  z3 := Tryz.sizeOf3
  v3 := Tryz.zeroValue3
  t4 := Tryz.underlying4
  a4 := Tryz.isAgg4
  z4 := Tryz.sizeOf4
  v4 := Tryz.zeroValue4
  t5 := Tryz.underlying5
  a5 := Tryz.isAgg5
  z5 := Tryz.sizeOf5
  v5 := Tryz.zeroValue5
  t9 := Tryz.underlying9
  a9 := Tryz.isAgg9
  z9 := Tryz.sizeOf9
  v9 := Tryz.zeroValue9
  t21 := Tryz.underlying21
  a21 := Tryz.isAgg21
  z21 := Tryz.sizeOf21
  v21 := Tryz.zeroValue21
  t31 := Tryz.underlying198
  a31 := Tryz.isAgg198
  z31 := Tryz.sizeOf198
  v31 := Tryz.zeroValue198
  t40 := Tryz.underlying229
  a40 := Tryz.isAgg229
  z40 := Tryz.sizeOf229
  v40 := Tryz.zeroValue229
  t46 := Tryz.underlying150
  a46 := Tryz.isAgg150
  z46 := Tryz.sizeOf150
  v46 := Tryz.zeroValue150
  t49 := Tryz.underlying241
  a49 := Tryz.isAgg241
  z49 := Tryz.sizeOf241
  v49 := Tryz.zeroValue241
  t51 := Tryz.underlying214
  a51 := Tryz.isAgg214
  z51 := Tryz.sizeOf214
  v51 := Tryz.zeroValue214
  t119 := Tryz.underlying227
  a119 := Tryz.isAgg227
  z119 := Tryz.sizeOf227
  t141 := Tryz.underlying236
  a141 := Tryz.isAgg236
  z141 := Tryz.sizeOf236
  v141 := Tryz.zeroValue236
  t152 := Tryz.underlying232
  a152 := Tryz.isAgg232
  z152 := Tryz.sizeOf232
  v152 := Tryz.zeroValue232
  t154 := Tryz.underlying234
  a154 := Tryz.isAgg234
  z154 := Tryz.sizeOf234
  v154 := Tryz.zeroValue234
  t193 := Tryz.underlying237
  a193 := Tryz.isAgg237
  z193 := Tryz.sizeOf237
  v193 := Tryz.zeroValue237
  t194 := Tryz.underlying238
  a194 := Tryz.isAgg238
  z194 := Tryz.sizeOf238
  v194 := Tryz.zeroValue238
  t196 := Tryz.underlying240
  a196 := Tryz.isAgg240
  z196 := Tryz.sizeOf240
  v196 := Tryz.zeroValue240
  t198 := Tryz.underlying243
  a198 := Tryz.isAgg243
  z198 := Tryz.sizeOf243
  v198 := Tryz.zeroValue243
  t201 := Tryz.underlying246
  a201 := Tryz.isAgg246
  z201 := Tryz.sizeOf246
  v201 := Tryz.zeroValue246
  t226 := Tryz.underlying248
  a226 := Tryz.isAgg248
  z226 := Tryz.sizeOf248
  v226 := Tryz.zeroValue248
  t227 := Tryz.underlying249
  a227 := Tryz.isAgg249
  z227 := Tryz.sizeOf249
  v227 := Tryz.zeroValue249
  g0 := by kernel_rfl
  g6 := by kernel_rfl }
open Go.RowKit Go.Lib in
theorem Tryz.strings_Fields (s : ByteArray) (w : World) (hs : s.size < 4294967281) (hascii : ∀ (j : Nat) b, s.data.toList[j]? = some b → b.toNat < 128) (htab : Lib.TabIs Tryz.prog w "strings.asciiSpace" .u8 Lib.asciiSpaceTab) :
    Calls Tryz.prog 154 #[.string s] w fun e w' =>
      e = .returned (.slice (some ⟨w.heap.size, 0, none⟩) (Lib.fields s.data.toList).length (Lib.fields s.data.toList).length) ∧ w' = w.alloc (.cells ((Lib.fields s.data.toList).map fun l => Value.string ⟨l.toArray⟩).toArray 9) := Any.strings_Fields Tryz.lays157 (by kernel_rfl) (by kernel_rfl) s w hs hascii htab
end Go.Proofs
end

section
namespace Srv
open Go Go.Abs Go.Proofs
theorem relL2 {L : Lay} {a b : AV} {vs : List Value} (h : RelL L [a, b] vs) : ∃ u v, vs = [u, v] ∧ Rel L a u ∧ Rel L b v := by
  cases h with
  | cons _ _ _ _ h t => cases t with
    | cons _ _ _ _ h' t' => cases t'; exact ⟨_, _, rfl, h, h'⟩
theorem relL1 {L : Lay} {a : AV} {vs : List Value} (h : RelL L [a] vs) : ∃ u, vs = [u] ∧ Rel L a u := by
  cases h with
  | cons _ _ _ _ h t => cases t; exact ⟨_, rfl, h⟩
theorem bytes_list (a : List UInt8) : (⟨a.toArray⟩ : ByteArray).data.toList = a := by simp
theorem bytes_size (a : List UInt8) : (⟨a.toArray⟩ : ByteArray).size = a.length := by show a.toArray.size = _; simp
theorem relL_strs (L : Lay) : ∀ xs : List (List UInt8), RelL L (xs.map .str) (xs.map fun l => Value.string ⟨l.toArray⟩)
  | [] => .nil
  | x :: xs => .cons _ _ _ _ (.str x) (relL_strs L xs)
theorem cellsOf_strs (xs : List (List UInt8)) : cellsOf (xs.map AV.str) = xs.map .str := by
  induction xs with
  | nil => rfl
  | cons x xs ih => show [_] ++ cellsOf (xs.map AV.str) = _; rw [ih]; rfl
theorem new_strs {W0 : World} {L : Lay} {ow : Owns} {s : Heap} {w : World} (h : St W0 L ow s w) (xs : List (List UInt8)) :
    Res W0 L ow w (.sl 9 1 (xs.map .str) .sh) s (.slice (some ⟨w.heap.size, 0, none⟩) xs.length xs.length) (w.alloc (.cells (xs.map fun l => Value.string ⟨l.toArray⟩).toArray 9)) := by
  refine ⟨L.new w.heap.size (xs.map fun l => Value.string ⟨l.toArray⟩).length (xs.map fun l => Value.string ⟨l.toArray⟩), newOw ow w.heap.size .free, new_ext h _ _ _ _, new_st h _ _ _ _, ?_, .of_not rfl⟩
  have hr := Rel.sl (L := L.new w.heap.size (xs.map fun l => Value.string ⟨l.toArray⟩).length (xs.map fun l => Value.string ⟨l.toArray⟩)) w.heap.size 0 9 1 (xs.map .str) .sh xs.length
    (new_relC h (by rw [List.take_length, cellsOf_strs]; exact relL_strs L xs) (by
      intro v hv
      rw [List.take_length] at hv
      obtain ⟨l, _, rfl⟩ := List.mem_map.1 hv
      rfl)) (by intro x hx; obtain ⟨l, _, rfl⟩ := List.mem_map.1 hx; rfl) ⟨by simp, nofun⟩
  simp only [List.length_map] at hr ⊢
  exact hr
theorem cell_at {w : World} {b : Nat} {vs : List Value} {ty : TypeId} {fz : Nat × Nat} (h : w.heap[b]? = some (.cells vs.toArray ty fz)) (o : Nat) : w.cell? ⟨b, o, none⟩ = vs[o]? := by
  simp [World.cell?, h]
theorem sz50e : szOf Tryz.prog 94 = some 1 := by kernel_rfl
theorem spec_check (W0 : World) (args : List AV) (s : Heap) (v : AV) (s' : Heap) (h : bCheck 97 args s = some (v, s')) : CallSpec C W0 77 args s v s' := by
  intro L ow w cargs hg hst hargs
  unfold bCheck at h
  split at h
  · rename_i id
    obtain ⟨u, rfl, hu⟩ := relL1 hargs
    cases hu with
    | ref _ _ hid =>
    split at h
    · rename_i t b hs
      split at h
      · rename_i ht
        subst ht
        cases h
        have O := hst.obj id _ hs (by simp) (show (97 : Nat) ≠ deadTy by decide)
        have hb0 := O.head rfl
        obtain ⟨vs, js, ⟨fz, ps, hp, hh⟩, hrel, h1, h2, h5⟩ := O.cells (by show (97 : Nat) ≠ mapTy; decide)
        rw [hb0] at hp
        obtain rfl := List.length_eq_zero_iff.1 hp
        rw [List.nil_append] at hh
        obtain ⟨u1, u2, rfl, k1, k2⟩ := relL2 hrel
        cases k1
        have hlt : id < s.length := (List.getElem?_eq_some_iff.1 hs).1
        have hres : aStore 1 s (.ref id 0) (.ref id 0) = some (s.set id (97, [.ref id 0, b])) := by
          simp [aStore, AV.solid, AV.cells, hs, setL, stCells, deadTy]
        obtain ⟨w', r1, r2, r3⟩ := store_full hst sz50e hres (.ref id 0 hid) (.ref id 0 hid) (.of_not rfl)
        have ez : L.bs id + 0 = 0 := by rw [hb0]
        have hw' := r3 id 0 [.pointer (some ⟨L.loc id, L.bs id + 0, none⟩)] rfl rfl
        rw [ez] at hw' ⊢
        refine (check_fresh (L.loc id) w ?_ (n := ([Value.pointer none, u2] ++ js).length) (by simp) ?_ ?_).mono ?_
        · rw [cell_at hh]; rfl
        · simp [World.shape?, hh]
        · exact O.melt 0
        · rintro e w2 ⟨rfl, rfl⟩
          refine ⟨_, rfl, ?_⟩
          obtain ⟨L', ow', x1, x2, _, _⟩ := r2
          have e : w.setCell ⟨L.loc id, 0, none⟩ (.pointer (some ⟨L.loc id, 0, none⟩)) = w' := by rw [hw']; rfl
          rw [e]
          exact ⟨L', ow', x1, x2, .tup [] [] .nil, trivial⟩
      · cases h
    · rename_i t id' b hs
      split at h
      · rename_i e
        cases h
        obtain ⟨e1, rfl⟩ := e
        subst e1
        have O := hst.obj id' _ hs (by simp) (show (97 : Nat) ≠ deadTy by decide)
        have hb0 := O.head rfl
        obtain ⟨vs, js, ⟨fz, ps, hp, hh⟩, hrel, h1, h2, h5⟩ := O.cells (by show (97 : Nat) ≠ mapTy; decide)
        rw [hb0] at hp
        obtain rfl := List.length_eq_zero_iff.1 hp
        rw [List.nil_append] at hh
        obtain ⟨u1, u2, rfl, k1, k2⟩ := relL2 hrel
        cases k1
        have ez : L.bs id' + 0 = 0 := by rw [hb0]
        rw [ez] at hh ⊢
        refine (check_used (L.loc id') w ?_).mono ?_
        · rw [cell_at hh]; rfl
        · rintro e w2 ⟨rfl, rfl⟩
          exact ⟨_, rfl, .same hst (.tup [] [] .nil) (fun _ _ _ _ => trivial)⟩
      · cases h
    · cases h
  · cases h
theorem asBytes_cons {x : AV} {xs : List AV} {bs : List UInt8} (h : asBytes (x :: xs) = some bs) : ∃ n r, x = .int .u8 n ∧ 0 ≤ n ∧ n < 256 ∧ asBytes xs = some r ∧ bs = UInt8.ofNat n.toNat :: r := by
  unfold asBytes at h
  split at h
  · rename_i e; cases e
  · rename_i n r e
    cases e
    split at h
    · rename_i hn
      rw [Option.map_eq_some_iff] at h
      obtain ⟨r, h1, rfl⟩ := h
      exact ⟨n, r, rfl, hn.1, hn.2, h1, rfl⟩
    · cases h
  · cases h
theorem asBytes_len : ∀ {xs : List AV} {bs : List UInt8}, asBytes xs = some bs → bs.length = xs.length
  | [], bs, h => by cases h; rfl
  | x :: xs, bs, h => by
    obtain ⟨n, r, rfl, _, _, h1, rfl⟩ := asBytes_cons h
    simp [asBytes_len h1]
theorem asBytes_cell {L : Lay} {w : World} (himm : ∀ b o v, L.S b o = some v → w.cell? ⟨b, o, none⟩ = some v) {g : Nat} : ∀ {xs : List AV} {bs : List UInt8} {o : Nat}, asBytes xs = some bs → RelC L g o (cellsOf xs) →
    ∀ j x, bs[j]? = some x → w.cell? ⟨g, o + j, none⟩ = some (.int .u8 x.toNat)
  | [], bs, o, h, hr, j, x, hj => by cases h; simp at hj
  | y :: xs, bs, o, h, hr, j, x, hj => by
    obtain ⟨n, r, rfl, hn0, hn1, h1, rfl⟩ := asBytes_cons h
    have hr' : RelC L g o (.int .u8 n :: cellsOf xs) := hr
    cases hr' with
    | cons _ _ _ _ v hs hv hrel t =>
      cases hrel
      cases j with
      | zero =>
        simp at hj
        subst hj
        rw [Nat.add_zero, himm _ _ _ hs]
        congr 2
        simp
        omega
      | succ j =>
        simp at hj
        have := asBytes_cell himm h1 t j x hj
        rw [show o + (j + 1) = o + 1 + j by omega]
        exact this
theorem freeze_other {w : World} {g b : Nat} (n : Nat) (h : b ≠ g) : (w.freeze ⟨g, 0, none⟩ n).heap[b]? = w.heap[b]? := by
  unfold World.freeze
  split
  · rfl
  · simp only [Array.getElem?_modify]
    rw [if_neg (fun e => h e.symm)]
theorem freeze_same {m : Bool} {w : World} {g : Nat} (n : Nat) : Same m w (w.freeze ⟨g, 0, none⟩ n) := by
  unfold World.freeze
  split
  · exact .refl w
  · exact ⟨rfl, rfl, rfl, by simp, fun _ => Nat.le_refl _⟩
theorem freeze_cell {w : World} {g : Nat} (n o : Nat) : (w.freeze ⟨g, 0, none⟩ n).cell? ⟨g, o, none⟩ = w.cell? ⟨g, o, none⟩ := by
  unfold World.freeze
  split
  · rfl
  · simp only [World.cell?, Array.getElem?_modify, if_true]
    cases hh : w.heap[g]? with
    | none => rfl
    | some x => cases x <;> rfl
theorem spec_string (W0 : World) (args : List AV) (s : Heap) (v : AV) (s' : Heap) (h : bString 5 args s = some (v, s')) : CallSpec C W0 45 args s v s' := by
  intro L ow w cargs hg hst hargs
  unfold bString at h
  split at h
  · rename_i id
    obtain ⟨u, rfl, hu⟩ := relL1 hargs
    cases hu with
    | ref _ _ hid =>
    split at h
    · rename_i t a hs
      split at h
      case isTrue => cases h
      rename_i hdt
      cases h
      obtain rfl : t = headTy := Classical.byContradiction hdt
      have O := hst.obj id _ hs (by simp) (show (97 : Nat) ≠ deadTy by decide)
      have hb0 := O.head rfl
      obtain ⟨vs, js, ⟨fz, ps, hp, hh⟩, hrel, h1, h2, h5⟩ := O.cells (by show (97 : Nat) ≠ mapTy; decide)
      rw [hb0] at hp
      obtain rfl := List.length_eq_zero_iff.1 hp
      rw [List.nil_append] at hh
      obtain ⟨u1, u2, rfl, k1, k2⟩ := relL2 hrel
      cases k2
      have ez : L.bs id + 0 = 0 := by rw [hb0]
      rw [ez]
      refine (string_nil_walk (L.loc id) w ?_).mono ?_
      · rw [cell_at hh]; rfl
      · rintro e w2 ⟨rfl, rfl⟩
        exact ⟨_, rfl, L, ow, drew_ext, drew_st hst, .str [], trivial⟩
    · rename_i t a ty xs hs
      split at h
      · rename_i hty
        obtain ⟨hty, hdt⟩ := hty
        subst hty
        subst hdt
        split at h
        · rename_i b0 bs hb
          split at h
          case isFalse => cases h
          rename_i hbig
          cases h
          have O := hst.obj id _ hs (by simp) (show (97 : Nat) ≠ deadTy by decide)
          have hb0 := O.head rfl
          obtain ⟨vs, js, ⟨fz, ps, hp, hh⟩, hrel, h1, h2, h5⟩ := O.cells (by show (97 : Nat) ≠ mapTy; decide)
          rw [hb0] at hp
          have hp' := List.length_eq_zero_iff.1 hp
          subst hp'
          rw [List.nil_append] at hh
          obtain ⟨u1, u2, rfl, k1, k2⟩ := relL2 hrel
          have hlt : id < s.length := (List.getElem?_eq_some_iff.1 hs).1
          cases k2 with
          | sl0 _ _ _ _ _ hf => simp [asBytes] at hb
          | sl g o _ _ _ _ cap hc hz hcap =>
          obtain ⟨o1, ⟨c, fz2, o2, o3, o4⟩, o5⟩ := h2 1 _ _ rfl rfl
          simp only at o1 o2 o3 o4
          subst o3
          have hlen := asBytes_len hb
          have hne : L.loc id ≠ g := by intro e; rw [← e, O.own] at o1; cases o1
          have hlt' : g < w.heap.size := hst.used _ (by rw [o1]; simp)
          have ez : L.bs id + 0 = 0 := by rw [hb0]
          rw [ez]
          refine (string_walk (L.loc id) g cap (b0 :: bs) u1 w ?_ c fz2 o2 ?_ (by simp) (by omega) (by omega) ?_).mono ?_
          · rw [cell_at hh, hlen]; rfl
          · intro j x hx
            have := asBytes_cell hst.imm hb hc j x hx
            rwa [Nat.zero_add] at this
          · simp only [List.length_cons]; omega
          · rintro e w2 ⟨rfl, rfl⟩
            have ho : ∀ b, b ≠ g → (w.drew.freeze ⟨g, 0, none⟩ (b0 :: bs).length).heap[b]? = w.heap[b]? := fun b hb => freeze_other _ hb
            have hsame : Same L.m w (w.drew.freeze ⟨g, 0, none⟩ (b0 :: bs).length) := Same.trans (b := w.drew) ⟨rfl, rfl, rfl, Nat.le_refl _, fun _ => Nat.le_succ _⟩ (freeze_same _)
            have hx : Ext L ow w L ow (w.drew.freeze ⟨g, 0, none⟩ (b0 :: bs).length) := ⟨.refl L, fun b hb => ⟨hb, fun _ => rfl, ho b (by intro e; rw [e, o1] at hb; cases hb)⟩, hsame⟩
            refine ⟨_, rfl, L, ow, hx, ⟨fun i => by rw [hst.live, has_set (has_of hs (by simp)) (by simp)], fun b o x hS => ?_, fun id' ds hds hds' hdt' => ?_, fun b hb => Nat.lt_of_lt_of_le (hst.used b hb) hsame.size, hst.base, hst.below_ext hx⟩, .str _, trivial⟩
            · by_cases e : b = g
              · subst e; rw [freeze_cell]; exact hst.imm _ _ _ hS
              · rw [cell?_of_heap (ho b e)]; exact hst.imm b o x hS
            · by_cases e' : id' = id
              · subst e'
                rw [List.getElem?_set_self hlt] at hds
                cases hds
                refine ⟨O.own, O.S, fun _ => ⟨[u1, _], js, ⟨fz, [], by rw [hb0]; rfl, by rw [ho _ hne]; exact hh⟩, .cons _ _ _ _ k1 (.cons _ _ _ _ (.sl g 0 _ _ _ .sh cap hc hz ⟨hcap.1, nofun⟩) .nil), h1, ?_, h5⟩, fun hm => absurd hm (show ¬ (97 : Nat) = mapTy by decide), fun o => by rw [frozen?_of_heap (ho _ hne)]; exact O.melt o, O.head⟩
                intro k b q hb' hq
                match k, hb', hq with
                | 0, hb', hq =>
                  exact (h2 0 b q hb' hq).move fun c' hc' => ⟨hc', fun _ => rfl, ho c' (by intro e; rw [e, o1] at hc'; cases hc')⟩
                | 1, hb', hq =>
                  simp at hb'
                  subst hb'
                  exact .of_not rfl
                | k + 2, hb', hq => simp at hb'
              · rw [List.getElem?_set_ne (fun e => e' e.symm)] at hds
                have hidlt : L.live id' = true := by rw [hst.live]; exact has_of hds hds'
                refine (hst.obj id' ds hds hds' hdt').move (.refl L) hidlt (fun b hb' => ⟨rfl, fun _ => rfl, ho b ?_⟩)
                intro e; rw [e, o1] at hb'
                rcases hb' with hb' | ⟨k, hb'⟩
                · cases hb'
                · injection hb' with hb'; exact e' hb'.symm
        · cases h
      · cases h
    · cases h
  · cases h
end Srv
end

section
namespace Srv
open Go Go.Abs Go.Proofs Go.RowKit
theorem setCells_app (b : Nat) : ∀ (us vs : List Value) (o : Nat) (w : World), (w.setCells b o us).setCells b (o + us.length) vs = w.setCells b o (us ++ vs)
  | [], vs, o, w => rfl
  | u :: us, vs, o, w => by
    rw [List.cons_append, World.setCells, World.setCells, ← setCells_app b us vs (o + 1), List.length_cons, show o + (us.length + 1) = o + 1 + us.length by omega]
def DelW (f : FuncId) (z : Nat) (zs : List Value) : Prop := ∀ (b off cap len i : Nat) (news : List Value) (w : World), i + 1 ≤ len → len ≤ cap → len < 1000000 →
  news.length = (len - (i + 1)) * z → (∀ j u, news[j]? = some u → w.cell? ⟨b, off + (i + 1) * z + j, none⟩ = some u) → (∀ v ∈ news, v.oneCell' = true) →
  (∀ j, j < len * z → (w.cell? ⟨b, off + j, none⟩).isSome = true) → (∀ j, w.frozen? ⟨b, j, none⟩ = false) →
  Calls Tryz.prog f #[.slice (some ⟨b, off, none⟩) len cap, .int .i64 i, .int .i64 ((i : Int) + 1)] w fun e w' =>
    e = .returned (.slice (some ⟨b, off, none⟩) (len - 1) cap) ∧ w' = (w.drew.setCells b (off + i * z) news).setCells b (off + (len - 1) * z) zs
theorem relL3 {L : Lay} {a b c : AV} {vs : List Value} (h : RelL L [a, b, c] vs) : ∃ u v x, vs = [u, v, x] ∧ Rel L a u ∧ Rel L b v ∧ Rel L c x := by
  cases h with
  | cons _ _ _ _ h t =>
    obtain ⟨u, v, rfl, h1, h2⟩ := relL2 t
    exact ⟨_, _, _, rfl, h, h1, h2⟩
theorem spec_del {f : FuncId} {ty z : Nat} {zc : List AV} {zs : List Value} (K : DelW f z zs) (hty : ty < deadTy) (hzl : zs.length = z) (hz0 : 0 < z) (hzr : ∀ L, RelL L zc zs) (hzo : ∀ v ∈ zs, oneC v = true) (hzn : ∀ x ∈ zc, x.isOwn = false)
    (W0 : World) (args : List AV) (s : Heap) (v : AV) (s' : Heap) (h : eDel ty z zc args s = some (v, s')) : CallSpec C W0 f args s v s' := by
  intro L ow w cargs hg hst hargs
  unfold eDel at h
  split at h
  rotate_left
  · cases h
  rename_i ty' z' id off len i j
  split at h
  rotate_left
  · cases h
  rename_i hc
  obtain ⟨⟨rfl, rfl⟩, ⟨hi0, rfl, hil⟩, hlen⟩ := hc
  split at h
  rotate_left
  · cases h
  rename_i t cs hs
  split at h
  rotate_left
  · cases h
  rename_i hb
  obtain ⟨rfl, hfit⟩ := hb
  cases h
  obtain ⟨n, rfl⟩ : ∃ n : Nat, i = n := ⟨i.toNat, by omega⟩
  rw [Int.toNat_natCast]
  obtain ⟨u1, u2, u3, rfl, k1, k2, k3⟩ := relL3 hargs
  cases k2; cases k3
  have hn : n + 1 ≤ len := by omega
  cases k1 with
  | rs0 a _ _ _ _ hl => exact absurd hn (by omega)
  | rs _ _ _ _ _ cap hid hcap =>
    have hne : cs ≠ [] := hst.at hid hs
    have O := hst.obj id _ hs hne (lt_dead hty).1
    obtain ⟨vs, js, ⟨fz, ps, hp, hh⟩, hrel, h1, h2, h5⟩ := O.cells (lt_dead hty).2
    have hvl := hrel.length
    have hpos : n * z' + z' + (len - (n + 1)) * z' = len * z' := by
      have : len = n + 1 + (len - (n + 1)) := by omega
      conv => rhs; rw [this]
      rw [Nat.add_mul, Nat.add_mul, Nat.one_mul]
    have hpos1 : n * z' + (len - (n + 1)) * z' = (len - 1) * z' := by
      rw [← Nat.add_mul]; congr 1; omega
    obtain ⟨news, hnews⟩ : ∃ news, news = ((vs.drop off).take (len * z')).drop ((n + 1) * z') := ⟨_, rfl⟩
    have e1 : (n + 1) * z' = n * z' + z' := by rw [Nat.add_mul, Nat.one_mul]
    have hnl : news.length = (len - (n + 1)) * z' := by
      rw [hnews]
      simp only [List.length_drop, List.length_take]
      dsimp only at hvl hfit
      omega
    have hnm : ∀ q ∈ news, q ∈ vs := fun q hq => by
      rw [hnews] at hq
      exact List.mem_of_mem_drop (List.mem_of_mem_take (List.mem_of_mem_drop hq))
    have hng : ∀ q x, news[q]? = some x → vs[off + (n + 1) * z' + q]? = some x := fun q x hq => by
      rw [hnews, List.getElem?_drop, List.getElem?_take] at hq
      split at hq
      · rw [List.getElem?_drop] at hq
        rw [show off + (n + 1) * z' + q = off + ((n + 1) * z' + q) by omega]; exact hq
      · cases hq
    have hcapb : cap ≤ 9223372036854775807 ∨ 9223372036854775807 < cap := by omega
    have hcl : ∀ k x, vs[k]? = some x → w.cell? ⟨L.loc id, L.bs id + k, none⟩ = some x := fun k x hk => cellsAt hp hh hk
    have hsome : ∀ k, k < vs.length → (w.cell? ⟨L.loc id, L.bs id + k, none⟩).isSome = true := fun k hk => by
      rw [hcl k _ (List.getElem?_eq_getElem hk)]; rfl
    refine (K (L.loc id) (L.bs id + off) cap len n news w hn hcap.1 ?_ hnl (fun j u hj => ?_) (fun q hq => by rw [oneC_eq]; exact h1 q (hnm q hq)) (fun j hj => ?_) (fun j => O.melt j)).mono ?_
    · exact hlen
    · rw [show L.bs id + off + (n + 1) * z' + j = L.bs id + (off + (n + 1) * z' + j) by omega]
      exact hcl _ _ (hng j u hj)
    · rw [Nat.add_assoc]
      exact hsome _ (by dsimp only at hvl hfit; omega)
    · rintro e w' ⟨rfl, rfl⟩
      refine ⟨_, rfl, ?_⟩
      have hst' := drew_st hst
      have hul : (news ++ zs).length = (len - (n + 1)) * z' + z' := by rw [List.length_append, hnl, hzl]
      obtain ⟨_, _, r3⟩ := cells_res hst' (id := id) (off := off + n * z') hs hid hty
        (show RelL L (((((cs.drop off).take (len * z')).drop ((n + 1) * z')).map AV.strip) ++ zc) (news ++ zs) by rw [hnews]; exact (((hrel.drop off).take (len * z')).drop ((n + 1) * z')).strip.append (hzr L))
        (by intro u hu; rcases List.mem_append.1 hu with hu | hu; exact h1 u (hnm u hu); exact hzo u hu)
        (by intro x hx; rcases List.mem_append.1 hx with hx | hx
            · obtain ⟨y, _, rfl⟩ := List.mem_map.1 hx; exact strip_isOwn y
            · exact hzn x hx)
        (by rw [hul]; dsimp only; omega)
      have hr : Rel L (.rs t z' id off (len - 1)) (.slice (some ⟨L.loc id, L.bs id + off, none⟩) (len - 1) cap) := .rs t z' id off (len - 1) cap hid ⟨by omega, hcap.2⟩
      obtain ⟨L', ow', x1, x2, x3, x4⟩ := r3 _ _ hr rfl
      have ew : (w.drew.setCells (L.loc id) (L.bs id + off + n * z') news).setCells (L.loc id) (L.bs id + off + (len - 1) * z') zs = w.drew.setCells (L.loc id) (L.bs id + (off + n * z')) (news ++ zs) := by
        rw [← setCells_app, hnl, show L.bs id + (off + n * z') + (len - (n + 1)) * z' = L.bs id + off + (len - 1) * z' by omega, show L.bs id + (off + n * z') = L.bs id + off + n * z' by omega]
      rw [ew]
      exact ⟨L', ow', drew_ext.trans x1, x2, x3, x4⟩
theorem relL_cells (L : Lay) (n : Int) : RelL L [.int .i64 n] [.int .i64 n] := .cons _ _ _ _ (.int _ _) .nil
theorem info_of {ty z : Nat} (h : (Tryz.prog.info? ty).map (·.size) = some z) : ∃ i, Tryz.prog.info? ty = some i ∧ i.size = z := by
  cases hq : Tryz.prog.info? ty with
  | none => rw [hq] at h; cases h
  | some i => rw [hq] at h; exact ⟨i, rfl, by simpa using h⟩
theorem w68 : DelW 68 2 [.string ⟨#[]⟩, .string ⟨#[]⟩] := by
  obtain ⟨i0, h1, h2⟩ := info_of (ty := 45) (z := 2) (by kernel_rfl)
  intro b off cap len i news w a1 a2 a3 a4 a5 a6 a7 a8
  exact del_walk68 b off cap len i news w a1 a2 a3 i0 h1 h2 _ Tryz.zeroValue45 _ rfl rfl (by intro v hv; simp at hv; subst hv; rfl) a4 a5 a6 a7 a8
theorem w69 : DelW 69 1 [.int .i64 0] := by
  obtain ⟨i0, h1, h2⟩ := info_of (ty := 3) (z := 1) (by kernel_rfl)
  intro b off cap len i news w a1 a2 a3 a4 a5 a6 a7 a8
  exact del_walk69 b off cap len i news w a1 a2 a3 i0 h1 h2 _ Tryz.zeroValue3 _ rfl rfl (by intro v hv; simp at hv; subst hv; rfl) a4 a5 a6 a7 a8
theorem w71 : DelW 71 5 [.int .i64 0, .int .i64 0, .int .i64 0, .int .i64 0, .string ⟨#[]⟩] := by
  obtain ⟨i0, h1, h2⟩ := info_of (ty := 33) (z := 5) (by kernel_rfl)
  intro b off cap len i news w a1 a2 a3 a4 a5 a6 a7 a8
  exact del_walk71 b off cap len i news w a1 a2 a3 i0 h1 h2 _ Tryz.zeroValue33 _ rfl rfl (by intro v hv; simp at hv; rcases hv with rfl | rfl <;> rfl) a4 a5 a6 a7 a8
theorem spec68 (W0 : World) (args : List AV) (s : Heap) (v : AV) (s' : Heap) (h : eDel 45 2 [.str [], .str []] args s = some (v, s')) : CallSpec C W0 68 args s v s' :=
  spec_del w68 (by decide) rfl (by decide) (fun L => .cons _ _ _ _ (.str []) (.cons _ _ _ _ (.str []) .nil)) (by intro v hv; simp at hv; subst hv; rfl) (by intro v hv; simp at hv; subst hv; rfl) W0 args s v s' h
theorem spec69 (W0 : World) (args : List AV) (s : Heap) (v : AV) (s' : Heap) (h : eDel 3 1 [.int .i64 0] args s = some (v, s')) : CallSpec C W0 69 args s v s' :=
  spec_del w69 (by decide) rfl (by decide) (fun L => .cons _ _ _ _ (.int _ _) .nil) (by intro v hv; simp at hv; subst hv; rfl) (by intro v hv; simp at hv; subst hv; rfl) W0 args s v s' h
theorem spec71 (W0 : World) (args : List AV) (s : Heap) (v : AV) (s' : Heap) (h : eDel 33 5 [.int .i64 0, .int .i64 0, .int .i64 0, .int .i64 0, .str []] args s = some (v, s')) : CallSpec C W0 71 args s v s' :=
  spec_del w71 (by decide) rfl (by decide) (fun L => .cons _ _ _ _ (.int _ _) (.cons _ _ _ _ (.int _ _) (.cons _ _ _ _ (.int _ _) (.cons _ _ _ _ (.int _ _) (.cons _ _ _ _ (.str []) .nil))))) (by intro v hv; simp at hv; rcases hv with rfl | rfl <;> rfl) (by intro v hv; simp at hv; rcases hv with rfl | rfl <;> rfl) W0 args s v s' h
set_option maxHeartbeats 1000000 in
set_option maxRecDepth 100000 in
theorem compareString (a b : ByteArray) (w : World) : Calls Tryz.prog 83 #[.string a, .string b] w fun e w' => e = .returned (.int .i64 (Lib.compareBytes a.data.toList b.data.toList)) ∧ w' = w := by
  have mixed : Tryz.prog.follows Departure.mixedOrders = true := by kernel_rfl
  go_enter Tryz.func83, Tryz.ntmps83
  go_wp2
  rw [run_callFunc_extern Tryz.func102 (by kernel_rfl) (by kernel_rfl) (by kernel_rfl) (e := Extern.BytealgCompare.compare) (by kernel_rfl), Lib.run_compareString]
  simp only [Result.andThen]
  rw [Oper.upon_value]
  go_wp2
  go_ret
  exact ⟨rfl, rfl⟩
set_option maxHeartbeats 1000000 in
set_option maxRecDepth 100000 in
theorem compare65 (a b : ByteArray) (w : World) : Calls Tryz.prog 65 #[.string a, .string b] w fun e w' => e = .returned (.int .i64 (Lib.compareBytes a.data.toList b.data.toList)) ∧ w' = w := by
  have mixed : Tryz.prog.follows Departure.mixedOrders = true := by kernel_rfl
  have e83 : ∀ args w, (callFunc 83 args).run Tryz.prog w = .ok (.enter 83 args) w := enters_of Tryz.func83 (by kernel_rfl) rfl
  go_enter Tryz.func65, Tryz.ntmps65
  go_wp2_with (go_at_fn 83; refine (compareString _ _ _).mono ?_; rintro e w' ⟨rfl, rfl⟩)
  all_goals (go_ret; exact ⟨rfl, rfl⟩)
theorem spec65 (W0 : World) (args : List AV) (s : Heap) (v : AV) (s' : Heap) (h : eCompare args s = some (v, s')) : CallSpec C W0 65 args s v s' := by
  intro L ow w cargs hg hst hargs
  unfold eCompare at h
  split at h
  · rename_i a c
    cases h
    obtain ⟨u1, u2, rfl, k1, k2⟩ := relL2 hargs
    cases k1; cases k2
    refine (compare65 ⟨a.toArray⟩ ⟨c.toArray⟩ w).mono ?_
    rintro e w' ⟨rfl, rfl⟩
    rw [bytes_list, bytes_list]
    exact ⟨_, rfl, .same hst (.int _ _) (.of_not rfl)⟩
  · cases h
end Srv
end

section
set_option maxRecDepth 100000
namespace Srv
open Go Go.Abs Go.Proofs Go.RowKit
theorem ins_list {α : Type} (X us C : List α) (a : Nat) (h : a + us.length + C.length ≤ X.length) : setL (setL X (a + us.length) C) a us = X.take a ++ us ++ C ++ X.drop (a + us.length + C.length) := by
  have l1 : (X.take (a + us.length)).length = a + us.length := by rw [List.length_take]; omega
  rw [setL_split us _ a (by rw [setL_length]; omega), setL_split C X _ h]
  have e1 : (X.take (a + us.length) ++ C ++ X.drop (a + us.length + C.length)).take a = X.take a := by
    rw [List.append_assoc, List.take_append_of_le_length (by omega), List.take_take, Nat.min_eq_left (by omega)]
  have e2 : (X.take (a + us.length) ++ C ++ X.drop (a + us.length + C.length)).drop (a + us.length) = C ++ X.drop (a + us.length + C.length) := by
    rw [List.append_assoc, List.drop_left' l1]
  rw [e1, e2]
  simp only [List.append_assoc]
theorem ins_list2 {α : Type} (X us C : List α) (a : Nat) (h : a + us.length + C.length ≤ X.length) : setL (setL X a us) (a + us.length) C = X.take a ++ us ++ C ++ X.drop (a + us.length + C.length) := by
  have l1 : (X.take a ++ us).length = a + us.length := by rw [List.length_append, List.length_take]; omega
  rw [setL_split C _ _ (by rw [setL_length]; omega), setL_split us X a (by omega)]
  have e1 : (X.take a ++ us ++ X.drop (a + us.length)).take (a + us.length) = X.take a ++ us := List.take_left' l1
  have e2 : (X.take a ++ us ++ X.drop (a + us.length)).drop (a + us.length + C.length) = X.drop (a + us.length + C.length) := by
    rw [← List.drop_drop, List.drop_left' l1, List.drop_drop]
  rw [e1, e2]
structure InsW (f sl ty z : Nat) : Prop where
  hend : ∀ (base : Option Addr) (n c : Nat) (A : Addr) (vc : Nat) (q : Value) (w w' : World), n < 1000000 → (base = none → n = 0) →
    (∀ ty, (Builtin.append_ #[sl, sl] ty #[.slice base n c, .slice (some A) 1 vc]).run Tryz.prog w = .ok q w') →
    Calls Tryz.prog f #[.slice base n c, .int .i64 n, .slice (some A) 1 vc] w fun e w2 => e = .returned q ∧ w2 = w'
  hshift : ∀ (b off n c i vb voff vc : Nat) (cs vs : List Value) (w : World), i < n → n + 1 ≤ c → n < 1000000 → vb ≠ b →
    cs.length = (n - i) * z → vs.length = z →
    (∀ j v, cs[j]? = some v → w.cell? ⟨b, off + i * z + j, none⟩ = some v) → (∀ j, j < (n + 1) * z → (w.cell? ⟨b, off + j, none⟩).isSome = true) → (∀ j, w.frozen? ⟨b, j, none⟩ = false) →
    (∀ j v, vs[j]? = some v → w.cell? ⟨vb, voff + j, none⟩ = some v) → (∀ v ∈ cs, v.oneCell' = true) → (∀ v ∈ vs, v.oneCell' = true) →
    ∀ (tA tB : TypeId) (kA kB : Nat), w.shape? vb = some (tA, kA) → w.shape? b = some (tB, kB) → kA ≠ 0 → kB ≠ 0 →
    Calls Tryz.prog f #[.slice (some ⟨b, off, none⟩) n c, .int .i64 i, .slice (some ⟨vb, voff, none⟩) 1 vc] w fun e w' =>
      e = .returned (.slice (some ⟨b, off, none⟩) (n + 1) c) ∧ w' = (w.drew.setCells b (off + (i + 1) * z) cs).setCells b (off + i * z) vs
  hgrow : ∀ (b off n c i vb voff vc : Nat) (os cs vs : List Value) (w : World), i < n → n ≤ c → c < n + 1 → n < 1000000 → vb ≠ b →
    ∃ zl : Nat → Array Value, (∀ m, (zl m).size = m * z) ∧ (os.length = i * z → cs.length = (n - i) * z → vs.length = z →
    (∀ j v, os[j]? = some v → w.cell? ⟨b, off + j, none⟩ = some v) → (∀ j v, cs[j]? = some v → w.cell? ⟨b, off + i * z + j, none⟩ = some v) →
    (∀ j v, vs[j]? = some v → w.cell? ⟨vb, voff + j, none⟩ = some v) → (∀ v ∈ cs, v.oneCell' = true) → (∀ v ∈ vs, v.oneCell' = true) →
    Calls Tryz.prog f #[.slice (some ⟨b, off, none⟩) n c, .int .i64 i, .slice (some ⟨vb, voff, none⟩) 1 vc] w fun e w' =>
      e = .returned (.slice (some ⟨w.heap.size, 0, none⟩) (n + 1) (grownCap w (n + 1) c ty)) ∧
      w' = (((w.alloc (.cells (os.toArray ++ zl (n + 1 - i) ++ zl (grownCap w (n + 1) c ty - (n + 1))) ty)).drew.setCells w.heap.size (i * z) vs).drew).setCells w.heap.size ((i + 1) * z) cs)
theorem srcOf_one {z t : Nat} {e : AV} {fl : Flag} {s : Heap} (hz : e.cells.length = z) : srcH z (.sl t z [e] fl) s = some [e] := by
  simp [srcH, srcOf, hz]
theorem spec_ins {f sl ty z : Nat} (K : InsW f sl ty z) (hty : ty < deadTy) (hz0 : 0 < z) (hu : Tryz.prog.underlying sl = some (.slice ty)) {i0 : TypeInfo} (hi0 : Tryz.prog.info? ty = some i0) {zv : Value} (hzero : i0.zero = some zv) (hzs : zv.cells.size = i0.size) (hiz : i0.size = z) (hib : i0.bytes ≤ 1000) (hhead : ty ≠ headTy)
    (W0 : World) (args : List AV) (s : Heap) (v : AV) (s' : Heap) (h : eIns ty z args s = some (v, s')) : CallSpec C W0 f args s v s' := by
  intro L ow w cargs hg hst hargs
  unfold eIns at h
  split at h
  rotate_left
  · cases h
  rename_i x i tv z' e fl
  split at h
  rotate_left
  · cases h
  rename_i hc
  obtain ⟨hel, rfl⟩ := hc
  obtain ⟨u1, u2, u3, rfl, k1, k2, k3⟩ := relL3 hargs
  cases k2
  have hy := k3
  have hsrc : srcH z' (.sl tv z' [e] fl) s = some [e] := srcOf_one hel
  cases k3 with
  | sl vb voff _ _ _ _ vc hcells hz hvc =>
  have hbnd : ∀ m, m ≤ 1000000 → (m + m / 4 + 512) * i0.bytes ≤ 281474976710656 := fun m hm => Nat.le_trans (Nat.mul_le_mul (show m + m / 4 + 512 ≤ 2000000 by omega) hib) (by decide)
  have hcl1 : (cellsOf [e]).map AV.strip = e.cells.map AV.strip := by show (e.cells ++ []).map AV.strip = _; rw [List.append_nil]
  have nilroad : ∀ (u : Value) (xx : AV) (base : Option Addr), u = .slice base 0 0 → Rel L xx u → aRsAppend Tryz.prog sl sl xx (.sl tv z' [e] fl) s = some (.rs ty z' s.length 0 1, s ++ [(ty, e.cells.map AV.strip)]) → i = 0 →
      Calls Tryz.prog f #[u, .int .i64 i, .slice (some ⟨vb, voff, none⟩) [e].length vc] w fun en w' => ∃ cv, en = .returned cv ∧ Res W0 L ow w (.rs ty z' s.length 0 1) (s ++ [(ty, e.cells.map AV.strip)]) cv w' := by
    intro u xx base hue hxu happ hi
    subst hue hi
    obtain ⟨q, w', h1, h2⟩ := rsAppend_ok (P := Tryz.prog) (ty := 0) hst happ hxu hy
    refine (K.hend base 0 0 ⟨vb, voff, none⟩ vc q w w' (by decide) (fun _ => rfl) (fun ty => h1)).mono ?_
    rintro en w2 ⟨rfl, rfl⟩
    exact ⟨_, rfl, h2⟩
  have happ1 : ∀ xx, (xx = .nils ∨ ∃ a b, xx = .sl a b [] .full) → aRsAppend Tryz.prog sl sl xx (.sl tv z' [e] fl) s = some (.rs ty z' s.length 0 1, s ++ [(ty, e.cells.map AV.strip)]) := by
    intro xx hxx
    have hb : bound i0 1 := ⟨hbnd 1 (by decide), by decide⟩
    have c1 : ¬ (zv.cells.size ≠ i0.size ∨ deadTy ≤ ty ∨ i0.size = 0) := by
      rintro (h | h | h)
      · exact h hzs
      · exact absurd hty (Nat.not_lt_of_le h)
      · omega
    unfold aRsAppend
    rcases hxx with rfl | ⟨a, b, rfl⟩
    · simp only [hu, hi0, hiz, hsrc, hzero]
      rw [if_neg (by rw [← hiz]; exact c1)]
      simp only [List.length_cons, List.length_nil]
      rw [if_pos hb, hcl1]
    · simp only [hu, hi0, hiz, hsrc, hzero]
      rw [if_neg (by rw [← hiz]; exact c1)]
      simp only [List.length_cons, List.length_nil]
      rw [if_pos hb, hcl1]
  split at h
  · -- nil
    split at h
    · rename_i hi
      cases h
      cases k1
      exact nilroad _ _ none rfl .nils (happ1 _ (.inl rfl)) hi
    · cases h
  · split at h
    · rename_i hi
      cases h
      have hx := k1
      cases k1 with
      | sl b o _ _ _ _ cap hh hz hc =>
        obtain rfl : cap = 0 := hc.2 rfl
        exact nilroad _ _ _ rfl hx (happ1 _ (.inr ⟨_, _, rfl⟩)) hi.1
      | sl0 a _ _ _ cap hf =>
        obtain rfl : cap = 0 := by
          rcases hf with hf | hf
          · cases hf
          · exact hf.2
        exact nilroad _ _ _ rfl hx (happ1 _ (.inr ⟨_, _, rfl⟩)) hi.1
    · cases h
  · rename_i ty1 z1 id len
    split at h
    rotate_left
    · cases h
    rename_i hc
    obtain ⟨⟨rfl, rfl⟩, ⟨hi1, hi2⟩, hl1, hl2⟩ := hc
    split at h
    rotate_left
    · cases h
    rename_i t cs hs
    split at h
    rotate_left
    · cases h
    rename_i hb
    obtain ⟨rfl, hfit⟩ := hb
    cases h
    obtain ⟨n, rfl⟩ : ∃ n : Nat, i = n := ⟨i.toNat, by omega⟩
    rw [Int.toNat_natCast]
    have hnl : n ≤ len := by omega
    by_cases hend : n = len
    · -- at the end
      subst hend
      have hx := k1
      obtain ⟨base, cap, rfl, _, _⟩ := k1.rs_base
      have hne : cs ≠ [] := by
        intro e0; subst e0
        have := Nat.mul_pos hl1 hz0
        simp at hfit; omega
      have hx' : Rel L (.rs t i0.size id 0 n) (.slice (some base) n cap) := by rw [hiz]; exact hx
      obtain ⟨q, w', h1, h2⟩ := rsApp_core (P := Tryz.prog) (ty := 0) hst hu hu (by intro k e; cases e) hi0 hzero hzs (by omega) hty (ys := [e]) (ks := (cs.take (n * z1)).map AV.strip) (by rw [hiz]; exact hsrc) hy (id := id) (off := 0) (len := n) (cs := cs) hs (by rw [hiz]; omega) hne (by omega) (hbnd _ (by simp; omega)) (by simp; omega) (.inl rfl)
        (fun vs hr => by rw [List.drop_zero, hiz]; exact (hr.take _).strip)
        (fun vs _ k a q ha _ => by
          obtain ⟨y, _, rfl⟩ := List.mem_map.1 (List.mem_of_getElem? ha)
          exact .of_not (strip_isOwn y)) hx'
      refine (K.hend (some base) n cap ⟨vb, voff, none⟩ vc q w w' (by omega) (fun e => by cases e) (fun ty => h1)).mono ?_
      rintro en w2 ⟨rfl, rfl⟩
      refine ⟨_, rfl, ?_⟩
      have e1 : (cs.take (n * z1)).drop (n * z1) = [] := List.drop_of_length_le (by rw [List.length_take]; omega)
      rw [e1, List.map_nil, List.append_nil, ← hcl1]
      rw [hiz] at h2
      exact h2
    · -- in the middle
      have hlt0 : n < len := by omega
      cases k1 with
      | rs0 a _ _ _ _ hl => exact absurd hlt0 (by omega)
      | rs _ _ _ _ _ cap hid hcap =>
      obtain ⟨us, hus, hu1, huS⟩ := hcells.vals
      have hxc : cellsOf [e] = e.cells := by show e.cells ++ cellsOf [] = e.cells; exact List.append_nil _
      rw [hxc] at hus
      have hul : us.length = z1 := by rw [← hus.length, hel]
      have hne : cs ≠ [] := hst.at hid hs
      have O := hst.obj id _ hs hne (lt_dead hty).1
      obtain ⟨vs, js, ⟨fz, ps, hp, hh⟩, hrel, h1, h2, h5⟩ := O.cells (lt_dead hty).2
      have hvl := hrel.length
      have hlt : L.loc id < w.heap.size := hst.used _ (by rw [O.own]; simp)
      dsimp only at hvl hh hrel
      have hcell : ∀ k x, vs[k]? = some x → w.cell? ⟨L.loc id, L.bs id + k, none⟩ = some x := fun k x hk => cellsAt hp hh hk
      have hvcell : ∀ j q, us[j]? = some q → w.cell? ⟨vb, voff + j, none⟩ = some q := fun j q hj => hst.imm _ _ _ (huS j q hj)
      have hvb : vb ≠ L.loc id := by
        intro e
        have := huS 0 _ (List.getElem?_eq_getElem (show 0 < us.length by omega))
        rw [e, O.S] at this; cases this
      obtain ⟨tA, kA, hsa, hkA⟩ : ∃ tA kA, w.shape? vb = some (tA, kA) ∧ kA ≠ 0 := by
        have hc0 := hvcell 0 _ (List.getElem?_eq_getElem (show 0 < us.length by omega))
        unfold World.cell? at hc0
        unfold World.shape?
        simp only at hc0
        cases hb : w.heap[vb]? with
        | none => rw [hb] at hc0; simp at hc0
        | some ob =>
          rw [hb] at hc0
          cases ob with
          | cells c t fz =>
            refine ⟨t, c.size, by simp, fun e => ?_⟩
            simp only at hc0
            have := (Array.getElem?_eq_some_iff.1 hc0).1
            omega
          | _ => simp at hc0
      -- the pieces
      have m1 : len * z1 = n * z1 + (len - n) * z1 := by rw [← Nat.add_mul]; congr 1; omega
      have m2 : (n + 1) * z1 = n * z1 + z1 := by rw [Nat.add_mul, Nat.one_mul]
      have m3 : (len + 1) * z1 = len * z1 + z1 := by rw [Nat.add_mul, Nat.one_mul]
      obtain ⟨Av, hAv⟩ : ∃ Av, Av = vs.take (n * z1) := ⟨_, rfl⟩
      obtain ⟨Cv, hCv⟩ : ∃ Cv, Cv = (vs.take (len * z1)).drop (n * z1) := ⟨_, rfl⟩
      have hol : Av.length = n * z1 := by rw [hAv, List.length_take]; omega
      have hcv : Cv.length = (len - n) * z1 := by rw [hCv, List.length_drop, List.length_take]; omega
      have hosc : ∀ j q, Av[j]? = some q → w.cell? ⟨L.loc id, L.bs id + 0 + j, none⟩ = some q := fun j q hj => by
        rw [Nat.add_zero]
        refine hcell j q ?_
        rw [hAv, List.getElem?_take] at hj
        split at hj
        · exact hj
        · cases hj
      have hcvc : ∀ j q, Cv[j]? = some q → w.cell? ⟨L.loc id, L.bs id + 0 + n * z1 + j, none⟩ = some q := fun j q hj => by
        rw [Nat.add_zero, Nat.add_assoc]
        refine hcell _ q ?_
        rw [hCv, List.getElem?_drop, List.getElem?_take] at hj
        split at hj
        · exact hj
        · cases hj
      have h1A : ∀ q ∈ Av, oneC q = true := fun q hq => by rw [hAv] at hq; exact h1 q (List.mem_of_mem_take hq)
      have h1C : ∀ q ∈ Cv, oneC q = true := fun q hq => by rw [hCv] at hq; exact h1 q (List.mem_of_mem_take (List.mem_of_mem_drop hq))
      have h1c : ∀ q ∈ Cv, q.oneCell' = true := fun q hq => by rw [oneC_eq]; exact h1C q hq
      have h1v : ∀ q ∈ us, q.oneCell' = true := fun q hq => by rw [oneC_eq]; exact hu1 q hq
      obtain ⟨ds, hdsE⟩ : ∃ ds, ds = (cs.take (n * z1)).map AV.strip ++ e.cells.map AV.strip ++ ((cs.take (len * z1)).drop (n * z1)).map AV.strip := ⟨_, rfl⟩
      rw [← hdsE]
      have hds : ds ≠ [] := by
        intro e0
        have := congrArg List.length e0
        rw [hdsE] at this
        simp only [List.length_append, List.length_map, hel, List.length_nil] at this
        omega
      have hrow : RelL L ds (Av ++ us ++ Cv) := by
        rw [hdsE, hAv, hCv]
        exact ((hrel.take _).strip.append hus.strip).append ((hrel.take _).drop _).strip
      have h1r : ∀ q ∈ Av ++ us ++ Cv, oneC q = true := by
        intro q hq
        rcases List.mem_append.1 hq with hq | hq
        · rcases List.mem_append.1 hq with hq | hq
          · exact h1A q hq
          · exact hu1 q hq
        · exact h1C q hq
      have hdso : ∀ a ∈ ds, a.isOwn = false := by
        intro a ha
        rw [hdsE] at ha
        rcases List.mem_append.1 ha with ha | ha
        · rcases List.mem_append.1 ha with ha | ha
          all_goals (obtain ⟨y, _, rfl⟩ := List.mem_map.1 ha; exact strip_isOwn y)
        · obtain ⟨y, _, rfl⟩ := List.mem_map.1 ha; exact strip_isOwn y
      have hown : ∀ i a q, ds[i]? = some a → (Av ++ us ++ Cv)[i]? = some q → OwnAt L ow w (.cell id i) a q := fun i a q ha _ => .of_not (hdso a (List.mem_of_getElem? ha))
      have hlN : (Av ++ us ++ Cv).length = (len + 1) * z1 := by simp only [List.length_append, hol, hul, hcv]; omega
      by_cases hroom : len + 1 ≤ cap
      · have hr1 : (len + 1) * z1 ≤ (vs ++ js).length := by
          rw [h5]; have := Nat.mul_le_mul_right z1 hroom; have := hcap.2; omega
        have hrX : n * z1 + us.length + Cv.length ≤ (vs ++ js).length := by rw [hul, hcv]; omega
        have tk : (vs ++ js).take (n * z1) = Av := by rw [hAv]; exact List.take_append_of_le_length (by omega)
        have hKK := K.hshift (L.loc id) (L.bs id + 0) len cap n vb voff vc Cv us w hlt0 hroom hl2 hvb hcv hul hcvc (fun j hj => by
            rw [Nat.add_zero]; exact cellsSome hp hh (by omega)) (fun j => O.melt j) hvcell h1c h1v tA t kA (ps ++ (vs ++ js)).length hsa (by simp [World.shape?, hh]) hkA (by
              rw [List.length_append]; have : 0 < (len + 1) * z1 := Nat.mul_pos (by omega) hz0
              omega)
        refine hKK.mono ?_
        rintro en w2 ⟨rfl, rfl⟩
        have hheap : ((w.drew.setCells (L.loc id) (L.bs id + 0 + (n + 1) * z1) Cv).setCells (L.loc id) (L.bs id + 0 + n * z1) us).heap[L.loc id]? = some (.cells (ps ++ ((Av ++ us ++ Cv) ++ (vs ++ js).drop (n * z1 + us.length + Cv.length))).toArray t fz) := by
          rw [setCells_heap_same us _ _ _ (setCells_heap_same Cv _ w.drew (ps ++ (vs ++ js)) hh), Nat.add_zero, ← hp, setL_pre, setL_pre, m2, ← hul, Nat.add_assoc, hul, ← Nat.add_assoc]
          have := ins_list (vs ++ js) us Cv (n * z1) hrX
          rw [hul] at this
          rw [this, tk]
        obtain ⟨x1, x2⟩ := renew_st hst (nid := s.length) (t0 := t) (e := t) hs hne hty hty rfl hds (b := L.loc id) (b0 := L.bs id) (w' := (w.drew.setCells (L.loc id) (L.bs id + 0 + (n + 1) * z1) Cv).setCells (L.loc id) (L.bs id + 0 + n * z1) us) (ps := ps) (vs := Av ++ us ++ Cv) (js := (vs ++ js).drop (n * z1 + us.length + Cv.length)) (fz := fz) (.inl rfl) (fun e => absurd e hhead) hp
          hheap (fun i _ hi => by rw [setCells_heap_other hi, setCells_heap_other hi]; rfl) (by rw [setCells_heap_size, setCells_heap_size]; exact Nat.le_refl _) (by rw [setCells_heap_size, setCells_heap_size]; exact hlt)
          (fun o => by rw [World.frozen?_setCells, World.frozen?_setCells]; exact O.melt o) (Same.trans (b := w.drew) ⟨rfl, rfl, rfl, Nat.le_refl _, fun _ => Nat.le_succ _⟩ ((setCells_same _ _ _ _).trans (setCells_same _ _ _ _))) hrow h1r hown
        refine ⟨_, rfl, _, _, x1, x2, ?_, .of_not rfl⟩
        have hN : ((Av ++ us ++ Cv) ++ (vs ++ js).drop (n * z1 + us.length + Cv.length)).length = L.sz id := by
          rw [List.length_append, hlN, List.length_drop, h5, hul, hcv, m3, m1]
          have : (len + 1) * z1 ≤ L.sz id := by rw [← h5]; exact hr1
          omega
        have := Rel.rs (L := L.push s.length (L.loc id) ((Av ++ us ++ Cv) ++ (vs ++ js).drop (n * z1 + us.length + Cv.length)).length (L.bs id)) t z1 s.length 0 (len + 1) cap (by simp [Lay.push]) ⟨hroom, by
          simp only [Lay.push, if_true, hN]; exact hcap.2⟩
        rwa [show (L.push s.length (L.loc id) ((Av ++ us ++ Cv) ++ (vs ++ js).drop (n * z1 + us.length + Cv.length)).length (L.bs id)).loc s.length = L.loc id by simp [Lay.push], show (L.push s.length (L.loc id) ((Av ++ us ++ Cv) ++ (vs ++ js).drop (n * z1 + us.length + Cv.length)).length (L.bs id)).bs s.length = L.bs id by simp [Lay.push]] at this
      · obtain ⟨zl, hzl, hKK⟩ := K.hgrow (L.loc id) (L.bs id + 0) len cap n vb voff vc Av Cv us w hlt0 hcap.1 (by omega) hl2 hvb
        refine (hKK hol hcv hul hosc hcvc hvcell h1c h1v).mono ?_
        rintro en w2 ⟨rfl, rfl⟩
        have hGn : len + 1 ≤ grownCap w (len + 1) cap t := grownCap_ge w _ _ _
        generalize grownCap w (len + 1) cap t = G at *
        obtain ⟨rest, hrest, hrl⟩ : ∃ rest : List Value, Av.toArray ++ zl (len + 1 - n) ++ zl (G - (len + 1)) = (Av ++ rest).toArray ∧ rest.length = (G - n) * z1 := by
          refine ⟨(zl (len + 1 - n)).toList ++ (zl (G - (len + 1))).toList, by simp, ?_⟩
          rw [List.length_append, Array.length_toList, Array.length_toList, hzl, hzl, ← Nat.add_mul]
          congr 1; omega
        rw [hrest]
        have hGz : G * z1 = n * z1 + (G - n) * z1 := by rw [← Nat.add_mul]; congr 1; omega
        have hG1 : (len + 1) * z1 ≤ G * z1 := Nat.mul_le_mul_right _ hGn
        have hrX : n * z1 + us.length + Cv.length ≤ (Av ++ rest).length := by rw [List.length_append, hol, hrl, hul, hcv]; omega
        have tk2 : (Av ++ rest).take (n * z1) = Av := List.take_left' hol
        have hheap : ((((w.alloc (.cells (Av ++ rest).toArray t)).drew.setCells w.heap.size (n * z1) us).drew).setCells w.heap.size ((n + 1) * z1) Cv).heap[w.heap.size]? = some (.cells ([] ++ ((Av ++ us ++ Cv) ++ (Av ++ rest).drop (n * z1 + us.length + Cv.length))).toArray t (0, 0)) := by
          rw [setCells_heap_same _ ((n + 1) * z1) ((w.alloc (.cells (Av ++ rest).toArray t)).drew.setCells w.heap.size (n * z1) us).drew (setL (Av ++ rest) (n * z1) us) (setCells_heap_same us (n * z1) (w.alloc (.cells (Av ++ rest).toArray t)).drew _ (alloc_new w _))]
          have := ins_list2 (Av ++ rest) us Cv (n * z1) hrX
          rw [hul] at this
          rw [m2, this, tk2, hul, List.nil_append]
        obtain ⟨x1, x2⟩ := renew_st hst (nid := s.length) (t0 := t) (e := t) hs hne hty hty rfl hds (b := w.heap.size) (b0 := 0) (w' := (((w.alloc (.cells (Av ++ rest).toArray t)).drew.setCells w.heap.size (n * z1) us).drew).setCells w.heap.size ((n + 1) * z1) Cv) (ps := []) (vs := Av ++ us ++ Cv) (js := (Av ++ rest).drop (n * z1 + us.length + Cv.length)) (fz := (0, 0)) (.inr rfl) (fun _ => rfl) rfl
          hheap (fun i hi hi2 => by rw [setCells_heap_other hi2]; exact (setCells_heap_other hi2 _ _ _).trans (alloc_old w _ hi)) (by rw [setCells_heap_size]; show _ ≤ (World.setCells _ _ _ _).heap.size; rw [setCells_heap_size]; show _ ≤ (w.alloc _).heap.size; simp) (by rw [setCells_heap_size]; show _ < (World.setCells _ _ _ _).heap.size; rw [setCells_heap_size]; show _ < (w.alloc _).heap.size; simp)
          (fun o => by rw [World.frozen?_setCells]; show (World.setCells _ _ _ _).frozen? _ = false; rw [World.frozen?_setCells]; exact new_melt w _ _ _)
          (Same.trans (b := w.alloc (.cells (Av ++ rest).toArray t)) ⟨rfl, rfl, rfl, by simp, fun _ => Nat.le_refl _⟩ (Same.trans (b := (w.alloc (.cells (Av ++ rest).toArray t)).drew) ⟨rfl, rfl, rfl, Nat.le_refl _, fun _ => Nat.le_succ _⟩ ((setCells_same _ _ _ _).trans (Same.trans (b := ((w.alloc (.cells (Av ++ rest).toArray t)).drew.setCells w.heap.size (n * z1) us).drew) ⟨rfl, rfl, rfl, Nat.le_refl _, fun _ => Nat.le_succ _⟩ (setCells_same _ _ _ _))))) hrow h1r hown
        refine ⟨_, rfl, _, _, x1, x2, ?_, .of_not rfl⟩
        have hN : ((Av ++ us ++ Cv) ++ (Av ++ rest).drop (n * z1 + us.length + Cv.length)).length = G * z1 := by
          rw [List.length_append, hlN, List.length_drop, List.length_append, hol, hrl, hul, hcv]
          omega
        have := Rel.rs (L := L.push s.length w.heap.size ((Av ++ us ++ Cv) ++ (Av ++ rest).drop (n * z1 + us.length + Cv.length)).length) t z1 s.length 0 (len + 1) G (by simp [Lay.push]) ⟨hGn, by
          simp only [Lay.push, if_true, hN, Nat.zero_add]; exact Nat.le_refl _⟩
        rwa [show (L.push s.length w.heap.size ((Av ++ us ++ Cv) ++ (Av ++ rest).drop (n * z1 + us.length + Cv.length)).length).loc s.length = w.heap.size by simp [Lay.push], show (L.push s.length w.heap.size ((Av ++ us ++ Cv) ++ (Av ++ rest).drop (n * z1 + us.length + Cv.length)).length).bs s.length = 0 by simp [Lay.push]] at this
  · cases h
theorem info_of2 {ty z : Nat} (h : (Tryz.prog.info? ty).map (fun i => (i.size, decide (i.bytes ≤ 1000), (i.zero.map fun z => z.cells.size) == some z)) = some (z, true, true)) : ∃ i zv, Tryz.prog.info? ty = some i ∧ i.zero = some zv ∧ i.size = z ∧ i.bytes ≤ 1000 ∧ zv.cells.size = z := by
  cases hq : Tryz.prog.info? ty with
  | none => rw [hq] at h; cases h
  | some i =>
    rw [hq] at h
    simp only [Option.map_some, Option.some.injEq, Prod.mk.injEq, decide_eq_true_eq, beq_iff_eq] at h
    obtain ⟨h1, h2, h3⟩ := h
    cases hz : i.zero with
    | none => rw [hz] at h3; cases h3
    | some zv => rw [hz] at h3; exact ⟨i, zv, rfl, hz, h1, h2, by simpa using h3⟩
theorem i45 : ∃ i zv, Tryz.prog.info? 45 = some i ∧ i.zero = some zv ∧ i.size = 2 ∧ i.bytes ≤ 1000 ∧ zv.cells.size = 2 := info_of2 (by kernel_rfl)
theorem i3 : ∃ i zv, Tryz.prog.info? 3 = some i ∧ i.zero = some zv ∧ i.size = 1 ∧ i.bytes ≤ 1000 ∧ zv.cells.size = 1 := info_of2 (by kernel_rfl)
theorem w66 : InsW 66 46 45 2 where
  hend := ins_end66
  hshift := ins_shift66
  hgrow := fun b off n c i vb voff vc os cs vs w h1 h2 h3 h4 h5 => by
    obtain ⟨i0, zv, k1, k2, k3, k4, k5⟩ := i45
    refine ⟨Builtin.zeroCells zv.cells, fun m => by simp [Builtin.zeroCells, k5], fun a1 a2 a3 a4 a5 a6 a7 a8 => ?_⟩
    exact ins_grow66 b off n c i vb voff vc os cs vs w h1 h2 h3 h4 h5 zv i0 k1 k2 k3 k4 k5 a1 a2 a3 a4 a5 a6 a7 a8
theorem w67 : InsW 67 59 3 1 where
  hend := ins_end67
  hshift := ins_shift67
  hgrow := fun b off n c i vb voff vc os cs vs w h1 h2 h3 h4 h5 => by
    obtain ⟨i0, zv, k1, k2, k3, k4, k5⟩ := i3
    refine ⟨Builtin.zeroCells zv.cells, fun m => by simp [Builtin.zeroCells, k5], fun a1 a2 a3 a4 a5 a6 a7 a8 => ?_⟩
    exact ins_grow67 b off n c i vb voff vc os cs vs w h1 h2 h3 h4 h5 zv i0 k1 k2 k3 k4 k5 a1 a2 a3 a4 a5 a6 a7 a8
theorem spec66 (W0 : World) (args : List AV) (s : Heap) (v : AV) (s' : Heap) (h : eIns 45 2 args s = some (v, s')) : CallSpec C W0 66 args s v s' := by
  obtain ⟨i0, zv, k1, k2, k3, k4, k5⟩ := i45
  exact spec_ins w66 (by decide) (by decide) ins_u66 k1 k2 (by rw [k5, k3]) k3 k4 (by decide) W0 args s v s' h
theorem spec67 (W0 : World) (args : List AV) (s : Heap) (v : AV) (s' : Heap) (h : eIns 3 1 args s = some (v, s')) : CallSpec C W0 67 args s v s' := by
  obtain ⟨i0, zv, k1, k2, k3, k4, k5⟩ := i3
  exact spec_ins w67 (by decide) (by decide) ins_u67 k1 k2 (by rw [k5, k3]) k3 k4 (by decide) W0 args s v s' h
end Srv
end
