/- CacP0, CacP, CacQ, CacS, CacT -/
import Derived.Shelf.SlSortCmp.WholeK
import Derived.Shelf.SlSortCmp.NoneTotal
import Derived.Test.YtfhoaocedkkjbaaGreatDoorProg
import Derived.Test.YtfhoaocedkkjbaaGreatDoorR
import Derived.Test.YtfhoaocedkkjbaaGreatDoorD
import Derived.Test.YtfhoaocedkkjbaaGreatDoorN
set_option linter.all false

section
namespace Go.Proofs
open Go.Shelf
def Tryz.sort110_ren : Go.Shelf.Ren := ⟨fun | 6 => 110 | 15 => 122 | 14 => 121 | 28 => 150 | 29 => 151 | 20 => 142 | 21 => 143 | 22 => 144 | 23 => 145 | 24 => 146 | 25 => 147 | 26 => 148 | 27 => 149 | 46 => 160 | 47 => 161 | 48 => 162 | 49 => 163 | 50 => 164 | 57 => 168 | n => n, fun | 22 => 139 | 24 => 79 | 25 => 164 | 3 => 3 | 39 => 150 | 0 => 0 | 53 => 214 | 55 => 216 | 4 => 4 | 46 => 208 | 45 => 207 | 50 => 127 | 5 => 5 | 9 => 9 | 66 => 221 | 70 => 225 | 76 => 230 | 77 => 182 | n => n, fun | n => n⟩
theorem Tryz.sort110 : Go.Proofs.SlLaysF0.n6 Tryz.prog Tryz.sort110_ren := {
  mixed := by kernel_rfl
  f6 := ⟨Tryz.f110.name, by decide, Tryz.func110.trans (congrArg some (by kernel_rfl))⟩
  f14 := ⟨Tryz.f121.name, by decide, Tryz.func121.trans (congrArg some (by kernel_rfl))⟩
  f15 := Tryz.func122.trans (congrArg some (by kernel_rfl))
  f20 := ⟨Tryz.f142.name, by decide, Tryz.func142.trans (congrArg some (by kernel_rfl))⟩
  f21 := ⟨Tryz.f143.name, by decide, Tryz.func143.trans (congrArg some (by kernel_rfl))⟩
  f22 := ⟨Tryz.f144.name, by decide, Tryz.func144.trans (congrArg some (by kernel_rfl))⟩
  f23 := ⟨Tryz.f145.name, by decide, Tryz.func145.trans (congrArg some (by kernel_rfl))⟩
  f24 := ⟨Tryz.f146.name, by decide, Tryz.func146.trans (congrArg some (by kernel_rfl))⟩
  f25 := ⟨Tryz.f147.name, by decide, Tryz.func147.trans (congrArg some (by kernel_rfl))⟩
  f26 := ⟨Tryz.f148.name, by decide, Tryz.func148.trans (congrArg some (by kernel_rfl))⟩
  f27 := ⟨Tryz.f149.name, by decide, Tryz.func149.trans (congrArg some (by kernel_rfl))⟩
  f28 := Tryz.func150.trans (congrArg some (by kernel_rfl))
  f29 := Tryz.func151.trans (congrArg some (by kernel_rfl))
  f46 := ⟨Tryz.f160.name, by decide, Tryz.func160.trans (congrArg some (by kernel_rfl))⟩
  f47 := Tryz.func161.trans (congrArg some (by kernel_rfl))
  f48 := Tryz.func162.trans (congrArg some (by kernel_rfl))
  f49 := ⟨Tryz.f163.name, by decide, Tryz.func163.trans (congrArg some (by kernel_rfl))⟩
  f50 := ⟨Tryz.f164.name, by decide, Tryz.func164.trans (congrArg some (by kernel_rfl))⟩
  f57 := ⟨Tryz.f168.name, by decide, Tryz.func168.trans (congrArg some (by kernel_rfl))⟩
  t0 := Tryz.underlying0
  a0 := Tryz.isAgg0
  z0 := Tryz.sizeOf0
  v0 := Tryz.zeroValue0
  t3 := Tryz.underlying3
  a3 := Tryz.isAgg3
  z3 := Tryz.sizeOf3
  v3 := Tryz.zeroValue3
  t4 := Tryz.underlying4
  a4 := Tryz.isAgg4
  z4 := Tryz.sizeOf4
  v4 := Tryz.zeroValue4
  t5 := Tryz.underlying5
  a5 := Tryz.isAgg5
  z5 := Tryz.sizeOf5
  v5 := Tryz.zeroValue5
  t9 := Tryz.underlying9
  a9 := Tryz.isAgg9
  z9 := Tryz.sizeOf9
  v9 := Tryz.zeroValue9
  t22 := Tryz.underlying139
  a22 := Tryz.isAgg139
  z22 := Tryz.sizeOf139
  v22 := Tryz.zeroValue139
  t25 := Tryz.underlying164
  a25 := Tryz.isAgg164
  z25 := Tryz.sizeOf164
  v25 := Tryz.zeroValue164
  t39 := Tryz.underlying150
  a39 := Tryz.isAgg150
  z39 := Tryz.sizeOf150
  v39 := Tryz.zeroValue150
  t45 := Tryz.underlying207
  a45 := Tryz.isAgg207
  z45 := Tryz.sizeOf207
  v45 := Tryz.zeroValue207
  t46 := Tryz.underlying208
  a46 := Tryz.isAgg208
  z46 := Tryz.sizeOf208
  v46 := Tryz.zeroValue208
  t50 := Tryz.underlying127
  a50 := Tryz.isAgg127
  z50 := Tryz.sizeOf127
  v50 := Tryz.zeroValue127
  t53 := Tryz.underlying214
  a53 := Tryz.isAgg214
  z53 := Tryz.sizeOf214
  v53 := Tryz.zeroValue214
  t55 := Tryz.underlying216
  a55 := Tryz.isAgg216
  z55 := Tryz.sizeOf216
  v55 := Tryz.zeroValue216
  t66 := Tryz.underlying221
  a66 := Tryz.isAgg221
  z66 := Tryz.sizeOf221
  v66 := Tryz.zeroValue221
  t70 := Tryz.underlying225
  a70 := Tryz.isAgg225
  z70 := Tryz.sizeOf225
  v70 := Tryz.zeroValue225
  t76 := Tryz.underlying230
  a76 := Tryz.isAgg230
  z76 := Tryz.sizeOf230
  v76 := Tryz.zeroValue230
  t77 := Tryz.underlying182
  a77 := Tryz.isAgg182
  z77 := Tryz.sizeOf182
  v77 := Tryz.zeroValue182 }
end Go.Proofs
end

section
namespace Go.Proofs
open Go Go.RowKit Go.Maps Go.Lib Go.Sort Go.Shelf
abbrev Sk (ss : List (Int × Int × Int)) := { k : Int × Int × Int // k ∈ ss }
theorem attach_flat (ss : List (Int × Int × Int)) : ss.attach.flatMap (fun x => cel3 x.1) = ss.flatMap cel3 := by
  rw [← List.flatMap_map (f := fun x : Sk ss => x.1) (g := cel3), List.attach_map_subtype_val]
theorem swo_int {α : Type} (f : α → Int) : SWO (ltOf fun x y => f x - f y) where
  irrefl x := by simp [ltOf]
  trans x y z h1 h2 := by simp [ltOf] at *; omega
  ntrans x y z h1 h2 := by simp [ltOf] at *; omega
theorem Cac.sort110 (Bd : Nat) (W : World) (ss : List (Int × Int × Int)) (hne : ss ≠ []) (lu : Int × Int × Int → Int) (hlen : ss.length < 1000000) (B : Nat) (hcmp : ∀ W', RowKit.Below B W W' → ∀ x ∈ ss, ∀ y ∈ ss, Calls Tryz.prog 93 #[key3 x, key3 y, .pointer (some ⟨Bd, 0, none⟩)] W' fun e w' => e = .returned (.int .i64 (lu x - lu y)) ∧ ∃ q os', w' = grow (W'.drewN q) os')
    (gb cap : Nat) (hB : B ≤ gb) (cur : Array Value) (hgb : W.heap[gb]? = some (.cells cur 79 (0, 0))) (ht : cur.toList.take (ss.length * 3) = ss.flatMap cel3) :
    Calls Tryz.prog 110 #[.slice (some ⟨gb, 0, none⟩) ss.length cap, .func (.func 93) #[] #[.pointer (some ⟨Bd, 0, none⟩)]] W fun e w' => e = .returned (.tuple #[]) ∧ RowKit.Below B W w' ∧
      ∃ m : List (Int × Int × Int), m.Perm ss ∧ m.Pairwise (fun a b => ¬ lu b < lu a) ∧ ∀ j u, (m.flatMap cel3)[j]? = some u → w'.cell? ⟨gb, j, none⟩ = some u := by
  haveI : Inhabited (Sk ss) := ⟨⟨ss.head hne, List.head_mem hne⟩⟩
  have eg : ∀ args w, (callFunc 93 args).run Tryz.prog w = .ok (.enter 93 args) w := enters_of Tryz.func93 (by kernel_rfl) rfl
  have hbl : ∀ n (d' : Array (Sk ss)) os, RowKit.Below B W (sortWorldK (fun x : Sk ss => cel3 x.1) 3 W gb 0 n d' os) := fun n d' os => by
    obtain ⟨g1, g2, g3, g4, g5⟩ := grownBy_sortedK (fun x : Sk ss => cel3 x.1) 3 (w := W) (g := gb) (n := n) (os := os) d'
    refine ⟨g1, g2, g3, g4, fun k hk => ?_⟩
    have hgl := (Array.getElem?_eq_some_iff.1 hgb).1
    exact g5 k (by omega) (by intro e; cases e; omega)
  have hd : (ss.attach.toArray).size = ss.length := by simp
  have h := AnyQ.slices_SortFunc Tryz.sort110 3 Tryz.isAgg79 Tryz.sizeOf79 (fun x : Sk ss => cel3 x.1) (fun _ => rfl) (fun x v hv => by simp [cel3] at hv; rcases hv with rfl | rfl | rfl <;> rfl) (fun x y => lu x.1 - lu y.1) (swo_int fun x : Sk ss => lu x.1) 93 #[.pointer (some ⟨Bd, 0, none⟩)] gb 0 cap ss.attach.toArray W eg
    (fun n os dk _ x y => hcmp _ (hbl n dk os) x.1 x.2 y.1 y.2)
    (holdsK_of_block _ 3 (fun _ => rfl) hgb _ (by rw [hd, ht]; exact (attach_flat ss).symm)) (Array.getElem?_eq_some_iff.1 hgb).1 (by rw [hd]; omega)
  rw [hd] at h
  refine Calls.mono (f := 110) h ?_
  rintro e w' ⟨rfl, d', n, os, ⟨hs, _, hp⟩, hso, rfl⟩
  rw [hd] at hs
  have hm : (d'.toList.map fun x => x.1).flatMap cel3 = d'.toList.flatMap fun x : Sk ss => cel3 x.1 := by rw [List.flatMap_map]
  refine ⟨rfl, hbl n d' os, d'.toList.map fun x => x.1, ?_, ?_, fun j u hj => ?_⟩
  · have e1 : (d'.extract 0 ss.length).toList = d'.toList := by rw [← hs]; simp
    have e2 : (ss.attach.toArray.extract 0 ss.length).toList = ss.attach := by simp; exact List.take_of_length_le (by simp)
    rw [e1, e2] at hp
    have := hp.map (fun x : Sk ss => x.1)
    rwa [List.attach_map_subtype_val] at this
  · rw [List.pairwise_map, List.pairwise_iff_getElem]
    intro i j hi hj hij
    have := hso i j (Nat.zero_le _) hij (by rw [← hs]; simpa using hj)
    have hi' : i < d'.size := by simpa using hi
    have hj' : j < d'.size := by simpa using hj
    simp only [ltOf, decide_eq_false_iff_not] at this
    rw [getElem!_pos d' j hj', getElem!_pos d' i hi'] at this
    simp only [Array.getElem_toList]
    omega
  · rw [hm] at hj
    refine holdsK_cells _ 3 (fun _ => rfl) ?_ j u hj
    exact holdsK_sortWorldK_c _ 3 W gb 0 ss.attach.toArray d' n os (holdsK_of_block _ 3 (fun _ => rfl) hgb _ (by rw [hd, ht]; exact (attach_flat ss).symm)) (Array.getElem?_eq_some_iff.1 hgb).1 (by rw [hd, hs])
set_option maxHeartbeats 1000000 in
theorem Cac.sorted91 (Bm Bd : Nat) (W : World) (ks : List (Int × Int × Int)) (lu : Int × Int × Int → Int) (hlen : ks.length < 1000000) (hseq : SeqGives Fence.wide 5 Tryz.prog 111 #[.pointer (some ⟨Bm, 0, none⟩)] key3 (fun xs => xs.Perm ks) ks.length W)
    (hcmp : ∀ W', RowKit.Below W.heap.size W W' → ∀ x ∈ ks, ∀ y ∈ ks, Calls Tryz.prog 93 #[key3 x, key3 y, .pointer (some ⟨Bd, 0, none⟩)] W' fun e w' => e = .returned (.int .i64 (lu x - lu y)) ∧ ∃ q os', w' = grow (W'.drewN q) os') :
    Calls Tryz.prog 91 #[.func (.func 111) #[] #[.pointer (some ⟨Bm, 0, none⟩)], .func (.func 93) #[] #[.pointer (some ⟨Bd, 0, none⟩)]] W fun e w' => ∃ (v : Value) (m : List (Int × Int × Int)), e = .returned v ∧ RowKit.Below W.heap.size W w' ∧ m.Perm ks ∧ m.Pairwise (fun a b => ¬ lu b < lu a) ∧
      ((v = .slice none 0 0 ∧ m = []) ∨ ∃ g cap, v = .slice (some ⟨g, 0, none⟩) m.length cap ∧ m ≠ [] ∧ W.heap.size ≤ g ∧ m.length ≤ cap ∧ ∀ j u, (m.flatMap cel3)[j]? = some u → w'.cell? ⟨g, j, none⟩ = some u) := by
  have mixed : Tryz.prog.follows Departure.mixedOrders = true := by kernel_rfl
  have e111 : ∀ args w, (callFunc 111 args).run Tryz.prog w = .ok (.enter 111 args) w := enters_of Tryz.func111 (by kernel_rfl) rfl
  have e109 : ∀ args w, (callFunc 109 args).run Tryz.prog w = .ok (.enter 109 args) w := enters_of Tryz.func109 (by kernel_rfl) rfl
  have e110 : ∀ args w, (callFunc 110 args).run Tryz.prog w = .ok (.enter 110 args) w := enters_of Tryz.func110 (by kernel_rfl) rfl
  have hc := callsIn_wide.1 (Cac.collect_in Fence.wide 7 trivial trivial rfl (by decide) 111 #[.pointer (some ⟨Bm, 0, none⟩)] trivial e111 (fun xs => xs.Perm ks) ks.length (by unfold maxLen; omega) (by omega) W hseq)
  have main : ∀ (v : Value) (ss : List (Int × Int × Int)) (w' : World), ss.Perm ks → w'.ownsRow W.heap.size 79 3 v ss.length (ss.flatMap cel3) → (v = .slice none 0 0 ↔ ss = []) → RowKit.Below W.heap.size W w' →
      Calls Tryz.prog 110 #[v, .func (.func 93) #[] #[.pointer (some ⟨Bd, 0, none⟩)]] w' fun e w'' => e = .returned (.tuple #[]) ∧ RowKit.Below W.heap.size W w'' ∧ ∃ m : List (Int × Int × Int), m.Perm ks ∧ m.Pairwise (fun a b => ¬ lu b < lu a) ∧
      ((v = .slice none 0 0 ∧ m = []) ∨ ∃ g cap, v = .slice (some ⟨g, 0, none⟩) m.length cap ∧ m ≠ [] ∧ W.heap.size ≤ g ∧ m.length ≤ cap ∧ ∀ j u, (m.flatMap cel3)[j]? = some u → w''.cell? ⟨g, j, none⟩ = some u) := by
    intro v ss w' hp hrow hnil hb
    rcases hrow.2 with ⟨rfl, _⟩ | ⟨gb, cap, cur, rfl, hbase, hgb, r1, r2, r3, r4⟩
    · refine Calls.mono (f := 110) (AnyF.slices_SortFunc_none Tryz.sort110 none 0 _ w') ?_
      rintro e w'' ⟨rfl, rfl⟩
      have e0 := hnil.1 rfl
      subst e0
      exact ⟨rfl, hb, [], hp, .nil, .inl ⟨rfl, rfl⟩⟩
    · have hne : ss ≠ [] := fun e => by have := hnil.2 e; cases this
      refine (Cac.sort110 Bd w' ss hne lu (by rw [hp.length_eq]; exact hlen) W.heap.size (fun W' hb' x hx y hy => hcmp W' (hb.trans hb') x (hp.mem_iff.1 hx) y (hp.mem_iff.1 hy)) gb cap hbase cur hgb r4).mono ?_
      rintro e w'' ⟨rfl, hb', m, hm, hso, hcl⟩
      refine ⟨rfl, hb.trans hb', m, hm.trans hp, hso, .inr ⟨gb, cap, by rw [hm.length_eq], fun e => ?_, hbase, by rw [hm.length_eq]; exact r1, hcl⟩⟩
      subst e; exact hne (List.nil_perm.1 hm)
  clear hcmp hseq
  go_enter Tryz.func91, Tryz.ntmps91
  go_wp2_with (first
    | (go_at_fn 109; refine hc.mono ?_; rintro e w' ⟨v, ss, rfl, hp, hrow, hnil, hb⟩)
    | (go_at_fn 110; refine (main v ss _ hp hrow hnil hb).mono ?_; rintro e w'' ⟨rfl, hb', m, hm⟩))
  go_ret
  exact ⟨v, rfl, hb', m, hm⟩
end Go.Proofs
end

section
namespace Go.Proofs
open Go Go.RowKit Go.Maps Go.Lib Go.Sort Go.Shelf
set_option maxRecDepth 100000 in
set_option maxHeartbeats 1000000 in
theorem Cac.cached75 (w : World) (D d0 b : Nat) (es : Array MapEntry) (clock : Nat) (ks : List (Int × Int × Int)) (lu : Int × Int × Int → Int) (hdb : w.cell? ⟨D, d0 + 2, none⟩ = some (.map (some b))) (hmb : w.heap[b]? = some (.map es clock))
    (hnd : (es.toList.map (·.born)).Nodup) (hc : ∀ x ∈ es.toList, x.born < clock) (kf : MapEntry → Int × Int × Int) (hkey : ∀ e ∈ es.toList, e.key = key3 (kf e)) (hks : es.toList.map kf = ks) (hlen : ks.length < 1000000)
    (hcmp : ∀ Bd W', RowKit.Below w.heap.size w W' → W'.cell? ⟨Bd, 0, none⟩ = some (.pointer (some ⟨D, d0, none⟩)) → ∀ x ∈ ks, ∀ y ∈ ks, Calls Tryz.prog 93 #[key3 x, key3 y, .pointer (some ⟨Bd, 0, none⟩)] W' fun e w' => e = .returned (.int .i64 (lu x - lu y)) ∧ ∃ q os', w' = grow (W'.drewN q) os') :
    Calls Tryz.prog 75 #[.pointer (some ⟨D, d0, none⟩)] w fun e w' => ∃ (v : Value) (m : List (Int × Int × Int)), e = .returned v ∧ RowKit.Below w.heap.size w w' ∧ m.Perm ks ∧ m.Pairwise (fun a b => ¬ lu b < lu a) ∧
      ((v = .slice none 0 0 ∧ m = []) ∨ ∃ g cap, v = .slice (some ⟨g, 0, none⟩) m.length cap ∧ m ≠ [] ∧ w.heap.size ≤ g ∧ m.length ≤ cap ∧ ∀ j u, (m.flatMap cel3)[j]? = some u → w'.cell? ⟨g, j, none⟩ = some u) := by
  have mixed : Tryz.prog.follows Departure.mixedOrders = true := by kernel_rfl
  have e92 : ∀ args w, (callFunc 92 args).run Tryz.prog w = .ok (.enter 92 args) w := enters_of Tryz.func92 (by kernel_rfl) rfl
  have e91 : ∀ args w, (callFunc 91 args).run Tryz.prog w = .ok (.enter 91 args) w := enters_of Tryz.func91 (by kernel_rfl) rfl
  obtain ⟨V, hV⟩ : ∃ V, w.alloc (.cells #[.pointer (some ⟨D, d0, none⟩)] 76) = V := ⟨_, rfl⟩
  obtain ⟨V2, hV2⟩ : ∃ V2, V.alloc (.cells #[.map (some b)] 118) = V2 := ⟨_, rfl⟩
  have hs1 : V.heap.size = w.heap.size + 1 := by rw [← hV]; simp
  have hs2 : V2.heap.size = V.heap.size + 1 := by rw [← hV2]; simp
  have hb1 : RowKit.Below w.heap.size w V := by rw [← hV]; exact (RowKit.Below.refl _ w).alloc (Nat.le_refl _) _
  have hb2' : RowKit.Below V.heap.size V V2 := by rw [← hV2]; exact (RowKit.Below.refl _ V).alloc (Nat.le_refl _) _
  have hb2 : RowKit.Below w.heap.size w V2 := hb1.trans (hb2'.mono (by omega))
  have hbx : V.cell? ⟨w.heap.size, 0, none⟩ = some (.pointer (some ⟨D, d0, none⟩)) := by rw [← hV, World.cell?_alloc_at (w := w) _ _ w.heap.size 0 rfl]; rfl
  have hbl : b < w.heap.size := (Array.getElem?_eq_some_iff.1 hmb).1
  have hDl : D < w.heap.size := World.block_lt_of_cell? w (a := _) hdb
  have hdb1 : V.cell? ⟨D, d0 + 2, none⟩ = some (.map (some b)) := by rw [← hdb]; exact Go.Abs.cell?_of_heap (hb1.block _ hDl) _
  have h92 := callsIn_wide.1 (keys92 Fence.wide 1 trivial rfl (some b) V)
  rw [hV2] at h92
  have hes : es.size = ks.length := by rw [← hks]; simp
  have hsq : SeqGives Fence.wide 5 Tryz.prog 111 #[.pointer (some ⟨V.heap.size, 0, none⟩)] key3 (fun xs => xs.Perm ks) ks.length V2 := by
    have := keys_gives Fence.wide 5 trivial rfl (by decide) V.heap.size b es clock hnd hc kf hkey V2 (by omega) (by rw [← hV2, World.cell?_alloc_at (w := V) _ _ V.heap.size 0 rfl]; rfl) ((hb2.block b hbl).trans hmb)
    rwa [hks, hes] at this
  have h91 := Cac.sorted91 V.heap.size w.heap.size V2 ks lu hlen hsq fun W' hb' x hx y hy => hcmp w.heap.size W' (hb2.trans (hb'.mono hb2.size)) (by
    rw [← hbx]; exact Go.Abs.cell?_of_heap ((hb'.block _ (by omega)).trans (hb2'.block _ (by omega))) _) x hx y hy
  have h91 : Calls Tryz.prog 91 #[.func (.func 111) #[] #[.pointer (some ⟨V.heap.size, 0, none⟩)], .func (.func 93) #[] #[.pointer (some ⟨w.heap.size, 0, none⟩)]] V2 fun e w' => ∃ (v : Value) (m : List (Int × Int × Int)), e = .returned v ∧ RowKit.Below w.heap.size w w' ∧ m.Perm ks ∧ m.Pairwise (fun a b => ¬ lu b < lu a) ∧
      ((v = .slice none 0 0 ∧ m = []) ∨ ∃ g cap, v = .slice (some ⟨g, 0, none⟩) m.length cap ∧ m ≠ [] ∧ w.heap.size ≤ g ∧ m.length ≤ cap ∧ ∀ j u, (m.flatMap cel3)[j]? = some u → w'.cell? ⟨g, j, none⟩ = some u) := by
    refine h91.mono ?_
    rintro e w' ⟨v, m, rfl, hb, hp, hso, hv⟩
    refine ⟨v, m, rfl, hb2.trans (hb.mono hb2.size), hp, hso, ?_⟩
    rcases hv with hv | ⟨g, cap, h1, h2, h3, h4⟩
    · exact .inl hv
    · exact .inr ⟨g, cap, h1, h2, by omega, h4⟩
  rw [hs1] at h92 h91
  clear hcmp hsq hb1 hb2 hb2' hmb hkey hdb hc hnd
  go_enter Tryz.func75, Tryz.ntmps75
  go_wp2_with (first
    | (go_at_fn 92; refine h92.mono ?_; rintro e w' ⟨rfl, rfl⟩)
    | (go_at_fn 91; refine h91.mono ?_; rintro e w' ⟨v, m, rfl, hm⟩))
  go_ret
  exact ⟨v, rfl, hm.1, m, hm.2⟩
end Go.Proofs
end

section
namespace Srv
open Go Go.Abs
theorem insK_perm (x : Int × AV) : ∀ l, (insK x l).Perm (x :: l)
  | [] => .refl _
  | y :: l => by
    unfold insK
    split
    · exact .refl _
    · exact (List.Perm.cons y (insK_perm x l)).trans (.swap _ _ _)
theorem sortK_perm : ∀ l, (sortK l).Perm l
  | [] => .refl _
  | x :: l => (insK_perm x (sortK l)).trans (.cons x (sortK_perm l))
theorem insK_sorted (x : Int × AV) : ∀ {l : List (Int × AV)}, l.Pairwise (fun a b => a.1 < b.1) → (∀ y ∈ l, x.1 ≠ y.1) → (insK x l).Pairwise (fun a b => a.1 < b.1)
  | [], _, _ => List.pairwise_singleton _ _
  | y :: l, h, hd => by
    obtain ⟨h1, h2⟩ := List.pairwise_cons.1 h
    unfold insK
    split
    · rename_i hlt
      refine List.pairwise_cons.2 ⟨fun z hz => ?_, h⟩
      rcases List.mem_cons.1 hz with rfl | hz
      · exact hlt
      · exact Int.lt_trans hlt (h1 z hz)
    · rename_i hlt
      have hne := hd y (List.mem_cons_self ..)
      refine List.pairwise_cons.2 ⟨fun z hz => ?_, insK_sorted x h2 fun z hz => hd z (List.mem_cons_of_mem _ hz)⟩
      rcases List.mem_cons.1 ((insK_perm x l).mem_iff.1 hz) with rfl | hz
      · omega
      · exact h1 z hz
theorem sortK_sorted : ∀ {l : List (Int × AV)}, distK l = true → (sortK l).Pairwise (fun a b => a.1 < b.1)
  | [], _ => .nil
  | x :: l, h => by
    unfold distK at h
    rw [Bool.and_eq_true, List.all_eq_true] at h
    refine insK_sorted x (sortK_sorted h.2) fun y hy => ?_
    have := h.1 y ((sortK_perm l).mem_iff.1 hy)
    simpa using this
theorem sorted_unique : ∀ {l m : List (Int × AV)}, l.Pairwise (fun a b => a.1 < b.1) → m.Pairwise (fun a b => a.1 < b.1) → l.Perm m → l = m
  | [], m, _, _, p => (List.nil_perm.1 p).symm
  | x :: l, [], _, _, p => by simpa using p
  | x :: l, y :: m, h, k, p => by
    obtain ⟨h1, h2⟩ := List.pairwise_cons.1 h
    obtain ⟨k1, k2⟩ := List.pairwise_cons.1 k
    have e : x = y := by
      rcases List.mem_cons.1 (p.mem_iff.1 (List.mem_cons_self ..)) with e | hx
      · exact e
      · rcases List.mem_cons.1 (p.mem_iff.2 (List.mem_cons_self ..)) with e | hy
        · exact e.symm
        · have a1 := k1 x hx
          have a2 := h1 y hy
          omega
    subst e
    rw [sorted_unique h2 k2 ((List.perm_cons x).1 p)]
theorem dist_ne : ∀ {l : List (Int × AV)}, distK l = true → l.Pairwise (fun a b => a.1 ≠ b.1)
  | [], _ => .nil
  | x :: l, h => by
    unfold distK at h
    rw [Bool.and_eq_true, List.all_eq_true] at h
    exact List.pairwise_cons.2 ⟨fun y hy => by simpa using h.1 y hy, dist_ne h.2⟩
theorem sortK_unique {l m : List (Int × AV)} (hd : distK l = true) (hp : m.Perm l) (hs : m.Pairwise (fun a b => ¬ b.1 < a.1)) : m = sortK l := by
  refine sorted_unique ?_ (sortK_sorted hd) (hp.trans (sortK_perm l).symm)
  have hn : m.Pairwise (fun a b => a.1 ≠ b.1) := (hp.symm.pairwise (dist_ne hd) fun h => Ne.symm h)
  exact hs.imp₂ (fun a b h1 h2 => by omega) hn
end Srv
end

section
namespace Srv
open Go Go.Abs Go.Proofs
def luOf (ql : List Qr) (k : K3) : Int := ((ql.find? fun q => decide (q.k = k)).map (·.u)).getD 0
theorem luOf_eq : ∀ {ql : List Qr}, (ql.map (·.k)).Nodup → ∀ q ∈ ql, luOf ql q.k = q.u
  | x :: ql, h, q, hq => by
    rw [List.map_cons, List.nodup_cons] at h
    rcases List.mem_cons.1 hq with rfl | hq
    · simp [luOf]
    · have hne : x.k ≠ q.k := fun e => h.1 (by rw [e]; exact List.mem_map_of_mem hq)
      have := luOf_eq h.2 q hq
      simp only [luOf, List.find?_cons] at this ⊢
      rw [show decide (x.k = q.k) = false from decide_eq_false hne]
      exact this
def kfE (e : MapEntry) : K3 := match e.key with
  | .agg cs => (match cs.toList with | [.int _ a, .int _ b, .int _ c] => (a, b, c) | _ => (0, 0, 0))
  | _ => (0, 0, 0)
theorem kv_rel {L : Lay} {k : K3} {v : Value} (h : Rel L (Kv k) v) : v = key3 k := by
  cases h with
  | agg _ vs hr _ =>
    cases hr with
    | cons _ _ _ _ h0 t0 => cases t0 with
      | cons _ _ _ _ h1 t1 => cases t1 with
        | cons _ _ _ _ h2 t2 => cases t2; cases h0; cases h1; cases h2; rfl
theorem keys_es {L : Lay} : ∀ {ql : List Qr} {es : List MapEntry}, RelL L (flat (qml ql)) (ents es) → es.map kfE = ql.map (·.k) ∧ ∀ e ∈ es, e.key = key3 (kfE e)
  | [], [], _ => ⟨rfl, nofun⟩
  | [], e :: es, h => by
    have : RelL L [] (e.key :: e.val :: ents es) := h
    cases this
  | q :: ql, [], h => by
    have : RelL L (Kv q.k :: .ref q.R 0 :: flat (qml ql)) [] := h
    cases this
  | q :: ql, e :: es, h => by
    have h : RelL L (Kv q.k :: .ref q.R 0 :: flat (qml ql)) (e.key :: e.val :: ents es) := h
    cases h with
    | cons _ _ _ _ h1 t => cases t with
      | cons _ _ _ _ h2 t =>
        obtain ⟨i1, i2⟩ := keys_es t
        have hk := kv_rel h1
        have hf : kfE e = q.k := by unfold kfE; rw [hk]; rfl
        refine ⟨by rw [List.map_cons, List.map_cons, i1, hf], fun x hx => ?_⟩
        rcases List.mem_cons.1 hx with rfl | hx
        · rw [hf]; exact hk
        · exact i2 x hx
theorem rel_keys (L : Lay) : ∀ m : List K3, RelL L (cellsOf (m.map fun k => Kv k)) (m.flatMap cel3)
  | [] => .nil
  | k :: m => .cons _ _ _ _ (.int _ _) (.cons _ _ _ _ (.int _ _) (.cons _ _ _ _ (.int _ _) (rel_keys L m)))
theorem cached75 : Cached75 := by
  intro W0 args s v s' h L ow w cargs hg hst hargs
  unfold eCached at h
  split at h
  rotate_left
  · cases h
  rename_i d
  split at h
  rotate_left
  · cases h
  rename_i x0 x1 rm rest hs
  split at h
  rotate_left
  · cases h
  rename_i kvs hM
  split at h
  rotate_left
  · cases h
  rename_i l hl
  split at h
  rotate_left
  · cases h
  rename_i hc
  obtain ⟨hd, hbo, hlen, hnd⟩ := hc
  obtain ⟨ql, rfl, rfl, hon⟩ := resKeys_inv hl
  obtain ⟨u, rfl, hu⟩ := relL1 hargs
  cases hu with
  | ref _ _ hid =>
  have hk : (ql.map (·.k)).Nodup := by rw [List.map_map] at hnd; exact hnd
  have hlen : ql.length < 1000000 := by simpa using hlen
  have hbo : ∀ q ∈ ql, 0 ≤ q.u ∧ q.u < 1000000000 := fun q hq => by
    have := List.all_eq_true.1 hbo (q.u, Kv q.k) (List.mem_map_of_mem (f := fun q : Qr => (q.u, Kv q.k)) hq)
    simpa using this
  -- the fields
  have hdb : w.cell? ⟨L.loc d, L.bs d + 2, none⟩ = some (.map (some (L.loc rm))) := by
    have O := hst.obj d _ hs (by simp) (show (121 : Nat) ≠ deadTy by decide)
    obtain ⟨vs, js, ⟨fz, ps, hp, hh⟩, hrl, _⟩ := O.cells (show (121 : Nat) ≠ mapTy by decide)
    cases hrl with
    | cons _ v0 _ _ _ t0 => cases t0 with
      | cons _ v1 _ _ _ t1 => cases t1 with
        | cons _ v2 _ _ h2 t2 =>
          cases h2
          exact cellsAt (k := 2) hp hh rfl
  obtain ⟨_, _, es, c, ⟨m1, m2, m3, m4, m5⟩, _⟩ := map_at hst hM
  obtain ⟨k1, k2⟩ := keys_es m2
  have hcall := Cac.cached75 w (L.loc d) (L.bs d) (L.loc rm) es.toArray c (ql.map (·.k)) (luOf ql) hdb m1 (by simpa using m5) (by simpa using m4) kfE (by simpa using k2) (by simpa using k1) (by simpa using hlen)
    (fun Bd W' hb hBd x hx y hy => by
      obtain ⟨q1, hq1, rfl⟩ := List.mem_map.1 hx
      obtain ⟨q2, hq2, rfl⟩ := List.mem_map.1 hy
      rw [luOf_eq hk q1 hq1, luOf_eq hk q2 hq2]
      refine cmp93 W' Bd (L.loc d) (L.bs d) (L.loc rm) (L.loc q1.R) (L.bs q1.R) (L.loc q2.R) (L.bs q2.R) q1.k q2.k q1.u q2.u hBd ?_ (fun W'' hb' => ?_) (fun W'' hb' => ?_) (hbo q1 hq1) (hbo q2 hq2)
      · rw [← hdb]; exact cell?_of_heap (hb.block _ (World.block_lt_of_cell? w (a := _) hdb)) _
      · have := look_run hst hM hk hon hq1 (hb.trans (hb'.mono hb.size)); exact ⟨this.1, this.2.1⟩
      · have := look_run hst hM hk hon hq2 (hb.trans (hb'.mono hb.size)); exact ⟨this.1, this.2.1⟩)
  refine Calls.mono (f := 75) hcall ?_
  rintro e w' ⟨u, m, rfl, hb, hp, hso, hv⟩
  have hl2 : (ql.map fun q => (q.u, Kv q.k)) = (ql.map (·.k)).map fun k => (luOf ql k, Kv k) := by
    rw [List.map_map]
    exact List.map_congr_left fun q hq => by simp [luOf_eq hk q hq]
  have hmm : (m.map fun k => (luOf ql k, Kv k)) = sortK (ql.map fun q => (q.u, Kv q.k)) := by
    refine sortK_unique hd ?_ ?_
    · rw [hl2]; exact hp.map _
    · rw [List.pairwise_map]; exact hso
  have hw : (sortK (ql.map fun q => (q.u, Kv q.k))).map (·.2) = m.map fun k => Kv k := by
    rw [← hmm, List.map_map]; rfl
  refine ⟨u, rfl, ?_⟩
  rcases hv with ⟨rfl, rfl⟩ | ⟨g, cap, rfl, hne, hg', hcap, hcl⟩
  · have e0 : ql = [] := by simpa using hp.symm.eq_nil
    subst e0
    cases h
    exact ⟨L, ow, ⟨.refl L, fun b hb' => ⟨hb', fun _ => rfl, hb.block b (hst.used b (by rw [hb']; simp))⟩, ⟨hb.os, hb.tape, hb.output, hb.size, fun e => by rw [hg.2] at e; cases e⟩⟩, st_over hst hb, .nils, .of_not rfl⟩
  · have hr := new_below (ty := 79) (z := 3) (xs := m.map fun k => Kv k) (vs := m.flatMap cel3) (cap := cap) hst hg.2 hb hg' (rel_keys L m) (fun v hv => by
      obtain ⟨k, _, hk⟩ := List.mem_flatMap.1 hv
      simp [cel3] at hk; rcases hk with rfl | rfl | rfl <;> rfl) (fun x hx => by obtain ⟨k, _, rfl⟩ := List.mem_map.1 hx; rfl) (by rwa [List.length_map]) hcl
    rw [List.length_map] at hr
    cases ql with
    | nil => exact absurd (List.perm_nil.1 hp) hne
    | cons q ql =>
      rw [List.map_cons] at h
      simp only at h
      rw [← List.map_cons (f := fun q : Qr => (q.u, Kv q.k)), hw] at h
      cases h
      exact hr
end Srv
end
