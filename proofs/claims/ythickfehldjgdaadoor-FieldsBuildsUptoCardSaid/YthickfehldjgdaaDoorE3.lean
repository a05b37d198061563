/-
  slices.Sort and slices.Compact at []int, by the shelf's contracts, over a row of the call's own.
-/
import Derived.Shelf.Sort.Plain
import Derived.Shelf.Slices.CompactI
import Derived.Lib.RowBridge
import Derived.Test.YthickfehldjgdaaDoorX0
namespace Go.Proofs
open Go.Shelf
def Tryd.lays189_ren : Go.Shelf.Ren := ⟨fun | 189 => 39 | 125 => 53 | 257 => 52 | 128 => 65 | 129 => 66 | 294 => 56 | 295 => 57 | 296 => 58 | 297 => 59 | 298 => 60 | 299 => 61 | 216 => 62 | 300 => 63 | 301 => 64 | 328 => 68 | 329 => 69 | 330 => 70 | 331 => 71 | 332 => 72 | 215 => 54 | 343 => 73 | n => n, fun | 28 => 48 | 3 => 3 | 46 => 84 | 0 => 0 | 51 => 107 | 53 => 98 | 4 => 4 | 183 => 101 | 182 => 100 | 131 => 64 | 5 => 5 | 9 => 9 | 218 => 110 | 222 => 114 | 228 => 116 | 229 => 117 | n => n, fun | n => n⟩
theorem Tryd.lays189 : Go.Proofs.Lays.n189 Tryd.prog Tryd.lays189_ren := {
  mixed := by kernel_rfl
  f125 := Tryd.func53.trans (congrArg some (by kernel_rfl))
  f128 := Tryd.func65.trans (congrArg some (by kernel_rfl))
  f129 := Tryd.func66.trans (congrArg some (by kernel_rfl))
  f189 := Tryd.func39.trans (congrArg some (by kernel_rfl))
  f215 := Tryd.func54.trans (congrArg some (by kernel_rfl))
  f216 := Tryd.func62.trans (congrArg some (by kernel_rfl))
  f257 := Tryd.func52.trans (congrArg some (by kernel_rfl))
  f294 := Tryd.func56.trans (congrArg some (by kernel_rfl))
  f295 := Tryd.func57.trans (congrArg some (by kernel_rfl))
  f296 := Tryd.func58.trans (congrArg some (by kernel_rfl))
  f297 := Tryd.func59.trans (congrArg some (by kernel_rfl))
  f298 := Tryd.func60.trans (congrArg some (by kernel_rfl))
  f299 := Tryd.func61.trans (congrArg some (by kernel_rfl))
  f300 := Tryd.func63.trans (congrArg some (by kernel_rfl))
  f301 := Tryd.func64.trans (congrArg some (by kernel_rfl))
  f328 := Tryd.func68.trans (congrArg some (by kernel_rfl))
  f329 := Tryd.func69.trans (congrArg some (by kernel_rfl))
  f330 := Tryd.func70.trans (congrArg some (by kernel_rfl))
  f331 := Tryd.func71.trans (congrArg some (by kernel_rfl))
  f332 := Tryd.func72.trans (congrArg some (by kernel_rfl))
  f343 := Tryd.func73.trans (congrArg some (by kernel_rfl))
  t0 := Tryd.underlying0
  a0 := Tryd.isAgg0
  z0 := Tryd.sizeOf0
  v0 := Tryd.zeroValue0
  t3 := Tryd.underlying3
  a3 := Tryd.isAgg3
  z3 := Tryd.sizeOf3
  v3 := Tryd.zeroValue3
  t4 := Tryd.underlying4
  a4 := Tryd.isAgg4
  z4 := Tryd.sizeOf4
  v4 := Tryd.zeroValue4
  t5 := Tryd.underlying5
  a5 := Tryd.isAgg5
  z5 := Tryd.sizeOf5
  v5 := Tryd.zeroValue5
  t9 := Tryd.underlying9
  a9 := Tryd.isAgg9
  z9 := Tryd.sizeOf9
  v9 := Tryd.zeroValue9
  t28 := Tryd.underlying48
  a28 := Tryd.isAgg48
  z28 := Tryd.sizeOf48
  v28 := Tryd.zeroValue48
  t46 := Tryd.underlying84
  a46 := Tryd.isAgg84
  z46 := Tryd.sizeOf84
  v46 := Tryd.zeroValue84
  t51 := Tryd.underlying107
  a51 := Tryd.isAgg107
  z51 := Tryd.sizeOf107
  v51 := Tryd.zeroValue107
  t53 := Tryd.underlying98
  a53 := Tryd.isAgg98
  z53 := Tryd.sizeOf98
  v53 := Tryd.zeroValue98
  t131 := Tryd.underlying64
  a131 := Tryd.isAgg64
  z131 := Tryd.sizeOf64
  v131 := Tryd.zeroValue64
  t182 := Tryd.underlying100
  a182 := Tryd.isAgg100
  z182 := Tryd.sizeOf100
  v182 := Tryd.zeroValue100
  t183 := Tryd.underlying101
  a183 := Tryd.isAgg101
  z183 := Tryd.sizeOf101
  v183 := Tryd.zeroValue101
  t218 := Tryd.underlying110
  a218 := Tryd.isAgg110
  z218 := Tryd.sizeOf110
  v218 := Tryd.zeroValue110
  t222 := Tryd.underlying114
  a222 := Tryd.isAgg114
  z222 := Tryd.sizeOf114
  v222 := Tryd.zeroValue114
  t228 := Tryd.underlying116
  a228 := Tryd.isAgg116
  z228 := Tryd.sizeOf116
  v228 := Tryd.zeroValue116
  t229 := Tryd.underlying117
  a229 := Tryd.isAgg117
  z229 := Tryd.sizeOf117
  v229 := Tryd.zeroValue117 }
def Tryd.lays20_ren : Go.Shelf.Ren := ⟨fun | 20 => 40 | n => n, fun | 22 => 48 | 3 => 3 | 4 => 4 | 0 => 0 | n => n, fun | n => n⟩
theorem Tryd.lays20 : Go.Proofs.Lays2.n20 Tryd.prog Tryd.lays20_ren := {
  mixed := by kernel_rfl
  f20 := Tryd.func40.trans (congrArg some (by kernel_rfl))
  t0 := Tryd.underlying0
  a0 := Tryd.isAgg0
  z0 := Tryd.sizeOf0
  v0 := Tryd.zeroValue0
  t3 := Tryd.underlying3
  a3 := Tryd.isAgg3
  z3 := Tryd.sizeOf3
  v3 := Tryd.zeroValue3
  t4 := Tryd.underlying4
  a4 := Tryd.isAgg4
  z4 := Tryd.sizeOf4
  v4 := Tryd.zeroValue4
  t22 := Tryd.underlying48
  a22 := Tryd.isAgg48
  z22 := Tryd.sizeOf48
  v22 := Tryd.zeroValue48
  i3 := by kernel_rfl }
end Go.Proofs

namespace Go.Proofs.YthickfehldjgdaaDoor.X
open Go.RowKit Go.Proofs.YthickfehldjgdaaDoorW.PrintWords Go.Proofs.YthickfehldjgdaaDoorW.PrintLast
def sortI (l : List Int) : List Int := l.mergeSort fun x y => decide (x ≤ y)
theorem sortI_length (l : List Int) : (sortI l).length = l.length := List.length_mergeSort l
theorem own_int_form {w : World} {B : Nat} {v : Value} {l : List Int} (ho : w.ownsRow B 3 1 v l.length (nums .i64 l)) (hl : 0 < l.length) :
    ∃ g c cur, v = .slice (some ⟨g, 0, none⟩) l.length c ∧ B ≤ g ∧ w.heap[g]? = some (.cells cur 3 (0, 0)) ∧ l.length ≤ c ∧ c ≤ maxLen ∧ cur.size = c ∧ cur.toList.take l.length = nums .i64 l := by
  rcases ho.2 with ⟨_, h0⟩ | ⟨g, c, cur, rfl, h1, h2, h3, h4, h5, h6⟩
  · omega
  · exact ⟨g, c, cur, rfl, h1, h2, h3, h4, by simpa using h5, by simpa using h6⟩
theorem holds_int {w : World} {g : Nat} {cur : Array Value} {l : List Int} (hg : w.heap[g]? = some (.cells cur 3 (0, 0))) (ht : cur.toList.take l.length = nums .i64 l) : Go.Sort.Holds (Value.int .i64) w g 0 l.toArray := by
  intro j hj
  have hj' : j < l.length := by simpa using hj
  refine ⟨?_, blk_frozen hg _⟩
  rw [Nat.zero_add, blk_cell hg j]
  have e : (cur.toList.take l.length)[j]? = (nums .i64 l)[j]? := by rw [ht]
  rw [List.getElem?_take, if_pos hj'] at e
  rw [← Array.getElem?_toList, e]
  simp [nums, hj']
theorem own_int_put {w : World} {B g c : Nat} {cur : Array Value} {n : Nat} (hB : B ≤ g) (hg : w.heap[g]? = some (.cells cur 3 (0, 0))) (hc : n ≤ c) (hm : c ≤ maxLen) (hs : cur.size = c) (q : Nat) (ys : List Int) (hy : ys.length = n) (m : Nat) (hmn : m ≤ n) :
    ((w.drewN q).setCells g 0 (ys.map (Value.int .i64))).ownsRow B 3 1 (.slice (some ⟨g, 0, none⟩) m c) m (nums .i64 (ys.take m)) ∧ w.grownBy ((w.drewN q).setCells g 0 (ys.map (Value.int .i64))) (some g) := by
  obtain ⟨cur', h1, h2, h3⟩ := setCells_row (ys.map (Value.int .i64)) 0 (w.drewN q) cur (show (w.drewN q).heap[g]? = _ from hg) (by simp; omega)
  obtain ⟨s1, s2, s3, s4⟩ := setCells_same g (ys.map (Value.int .i64)) 0 (w.drewN q)
  refine ⟨⟨by simp [nums]; omega, .inr ⟨g, c, cur', rfl, hB, h1, by omega, hm, by rw [h2, hs]; simp, ?_⟩⟩, ⟨s1, s2, s3, by rw [s4]; exact Nat.le_refl _, fun k hk hr => ?_⟩⟩
  · rw [h3]
    simp only [List.take_zero, List.nil_append, Nat.mul_one]
    rw [List.take_append_of_le_length (by simp; omega), ← List.map_take]
    rfl
  · rw [setCells_far _ _ k (fun e => hr (by rw [e]))]
    rfl
theorem grown_grow {w W : World} {r : Option Nat} (h : w.grownBy W r) (os : Array Obj) : w.grownBy (Go.Sort.grow W os) r :=
  ⟨h.os, h.tape, h.output, by simp [Go.Sort.grow]; have := h.size; omega, fun k hk hr => by
    rw [← h.block k hk hr]
    simp only [Go.Sort.grow]
    rw [Array.getElem?_append_left (Nat.lt_of_lt_of_le hk h.size)]⟩
theorem own_grow {W : World} {B n : Nat} {v : Value} {xs : List Value} (h : W.ownsRow B 3 1 v n xs) (os : Array Obj) : (Go.Sort.grow W os).ownsRow B 3 1 v n xs :=
  own_move h (fun k hk => by
    simp only [Go.Sort.grow]
    rw [Array.getElem?_append_left (h.lt k hk).2])
theorem int_Sort (w : World) (B : Nat) (v : Value) (l : List Int) (ho : w.ownsRow B 3 1 v l.length (nums .i64 l)) (hl : 0 < l.length) (hsz : l.length < 4611686018427387904) :
    Calls Tryd.prog 39 #[v] w fun e w' => (∃ u, e = .returned u) ∧ w'.ownsRow B 3 1 v l.length (nums .i64 (sortI l)) ∧ w.grownBy w' v.ownBlock := by
  obtain ⟨g, c, cur, rfl, hB, hg, hn, hm, hs, ht⟩ := own_int_form ho hl
  have hH := holds_int hg ht
  refine (Any.slices_Sort_int Tryd.lays189 g 0 c l w hH (blk_lt hg) hsz).mono ?_
  rintro e w' ⟨rfl, n, os, rfl⟩
  have hlen : (l.mergeSort fun x y => decide (x ≤ y)).length = l.length := List.length_mergeSort l
  rw [Lib.putRow_eq_setCells (Value.int .i64) w g 0 l.toArray (l.mergeSort fun x y => decide (x ≤ y)) n hH (by simp)]
  obtain ⟨h1, h2⟩ := own_int_put (w := w) hB hg hn hm hs n (l.mergeSort fun x y => decide (x ≤ y)) hlen l.length (Nat.le_refl _)
  rw [← hlen, List.take_length, hlen] at h1
  exact ⟨⟨_, rfl⟩, own_grow h1 os, grown_grow h2 os⟩
theorem int_Compact (w : World) (B : Nat) (v : Value) (l : List Int) (ho : w.ownsRow B 3 1 v l.length (nums .i64 l)) (hl : 0 < l.length) (hsz : l.length < 4611686018427387904) :
    Calls Tryd.prog 40 #[v] w fun e w' => ∃ g c, e = .returned (.slice (some ⟨g, 0, none⟩) (Lib.compact l).length c) ∧ l.length ≤ c ∧ w'.ownsRow B 3 1 (.slice (some ⟨g, 0, none⟩) (Lib.compact l).length c) (Lib.compact l).length (nums .i64 (Lib.compact l)) ∧ w.grownBy w' v.ownBlock := by
  obtain ⟨g, c, cur, rfl, hB, hg, hn, hm, hs, ht⟩ := own_int_form ho hl
  have hH := holds_int hg ht
  have hle := Lib.compact_length_le l
  refine (Any.slices_Compact_int Tryd.lays20 g 0 c l w hH (by omega) hn).mono ?_
  rintro e w' ⟨rfl, q, rfl⟩
  rw [Lib.putRow_eq_setCells (Value.int .i64) w g 0 l.toArray (Lib.compact l ++ List.replicate (l.length - (Lib.compact l).length) 0) q hH (by simp; omega)]
  obtain ⟨h1, h2⟩ := own_int_put (w := w) hB hg hn hm hs q (Lib.compact l ++ List.replicate (l.length - (Lib.compact l).length) 0) (by simp; omega) (Lib.compact l).length hle
  rw [List.take_left] at h1
  exact ⟨_, _, rfl, hn, h1, h2⟩
end Go.Proofs.YthickfehldjgdaaDoor.X
