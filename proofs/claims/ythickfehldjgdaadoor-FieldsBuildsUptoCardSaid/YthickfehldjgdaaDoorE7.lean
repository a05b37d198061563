/-
  fields.cross: do two spans cross; the closure of fields.Wrap over it; slices.IndexFunc and slices.ContainsFunc over spans at that closure.
-/
import Derived.Test.YthickfehldjgdaaDoorX0
import Derived.Outline
import Derived.StillTailTactics
import Derived.Deep.LoopGhost
namespace Go.Proofs.YthickfehldjgdaaDoor.X
open Go.RowKit Go.Proofs.YthickfehldjgdaaDoorW.PrintWords Go.Proofs.YthickfehldjgdaaDoorW.PrintLast
/-- Do two cross, by From and To of each: the one that begins first comes first. -/
def crossS (a1 a2 b1 b2 : Int) : Bool := if b1 < a1 then (decide (b1 < a1) && decide (a1 < b2) && decide (b2 < a2)) else (decide (a1 < b1) && decide (b1 < a2) && decide (a2 < b2))
def fields_cross.f (a0_0 a0_1 a0_2 a1_0 a1_1 a1_2 : Int) : Option Bool := some (crossS a0_1 a0_2 a1_1 a1_2)
set_option maxRecDepth 100000 in
set_option maxHeartbeats 2000000 in
theorem fields_cross.calls (a0_0 a0_1 a0_2 a1_0 a1_1 a1_2 : Int) (r : Bool) (w : World) (h : fields_cross.f a0_0 a0_1 a0_2 a1_0 a1_1 a1_2 = some r) :
    Calls Tryd.prog 30 #[.agg #[.int .i64 a0_0, .int .i64 a0_1, .int .i64 a0_2], .agg #[.int .i64 a1_0, .int .i64 a1_1, .int .i64 a1_2]] w fun e w' => e = .returned (.bool r) ∧ Below w.heap.size w w' := by
  obtain rfl := Option.some.inj h
  clear h
  unfold crossS
  by_cases h1 : a1_1 < a0_1
  · by_cases h2 : a0_1 < a1_2
    all_goals
      go_enter Tryd.func30, Tryd.ntmps30
      go_wp2_with fail
      all_goals go_ret
      all_goals exact ⟨by first | rfl | (simp; done) | (simp; omega), below_alloc (below_alloc (Below.refl _ _) _) _⟩
  · by_cases h3 : a0_1 < a1_1
    · by_cases h2 : a1_1 < a0_2
      all_goals
        go_enter Tryd.func30, Tryd.ntmps30
        go_wp2_with fail
        all_goals go_ret
        all_goals exact ⟨by first | rfl | (simp; done) | (simp; omega), below_alloc (below_alloc (Below.refl _ _) _) _⟩
    · go_enter Tryd.func30, Tryd.ntmps30
      go_wp2_with fail
      all_goals go_ret
      all_goals exact ⟨by first | rfl | (simp; done) | (simp; omega), below_alloc (below_alloc (Below.refl _ _) _) _⟩
/-- The closure of fields.Wrap: x lies in block B. -/
theorem wrap1 (x : S31) (y0 y1 y2 : Int) (B : Nat) (w : World) (hB : w.heap[B]? = some (.cells #[.int .i64 x.f0, .int .i64 x.f1, .int .i64 x.f2] 31 (0, 0))) :
    Calls Tryd.prog 29 #[.agg #[.int .i64 y0, .int .i64 y1, .int .i64 y2], .pointer (some ⟨B, 0, none⟩)] w fun e w' => e = .returned (.bool (crossS x.f1 x.f2 y1 y2)) ∧ Below w.heap.size w w' := by
  have h0 := blk_cell hB 0
  have h1 := blk_cell hB 1
  have h2 := blk_cell hB 2
  have hlt := blk_lt hB
  replace h0 : w.cell? ⟨B, 0, none⟩ = some (.int .i64 x.f0) := h0
  replace h1 : w.cell? ⟨B, 1, none⟩ = some (.int .i64 x.f1) := h1
  replace h2 : w.cell? ⟨B, 2, none⟩ = some (.int .i64 x.f2) := h2
  clear hB
  go_enter Tryd.func29, Tryd.ntmps29
  go_wp2_with fail
  refine (fields_cross.calls _ _ _ _ _ _ _ _ rfl).mono ?_
  rintro e w3 ⟨rfl, hb⟩
  have HB3 := Aside0.mk (below_step (below_alloc (Below.refl w.heap.size w) _) hb)
  clear hb
  go_wp2_with fail
  go_ret
  exact ⟨rfl, HB3.out⟩
/-- The first span of l from place i on that x crosses: its place; -1, if there is none. (n: how many are left.) -/
def idxCross (x : S31) (l : List S31) : Nat → Nat → Int
  | 0, _ => -1
  | n + 1, i => if crossS x.f1 x.f2 (l.getD i z31).f1 (l.getD i z31).f2 then (i : Int) else idxCross x l n (i + 1)
set_option maxRecDepth 100000 in
set_option maxHeartbeats 1000000 in
theorem span_Index (x : S31) (B : Nat) (A0 : Option Addr) (c0 : Nat) (l0 : List S31) (w : World) (hr0 : Kd.C k31 w A0 l0.length l0) (hc0 : l0.length ≤ c0)
    (hB : w.heap[B]? = some (.cells #[.int .i64 x.f0, .int .i64 x.f1, .int .i64 x.f2] 31 (0, 0))) :
    Calls Tryd.prog 47 #[.slice A0 l0.length c0, .func (.func 29) #[] #[.pointer (some ⟨B, 0, none⟩)]] w fun e w' => e = .returned (.int .i64 (idxCross x l0 l0.length 0)) ∧ Below w.heap.size w w' := by
  have HL := Aside0.mk hr0.2.1
  have HR := Aside0.mk hr0
  have HBK := Aside0.mk hB
  clear hr0 hB
  have HB := Aside0.mk (Below.refl w.heap.size w)
  obtain ⟨N, hN⟩ : ∃ N, idxCross x l0 l0.length 0 = N := ⟨_, rfl⟩
  rw [hN]
  have HN := Aside0.mk hN
  clear hN
  go_enter Tryd.func47, Tryd.ntmps47
  go_wp2_with fail
  go_loopg [8] (l0.length) (fun g v w' => ∃ i : Nat, v = .int .i64 i ∧ i + g = l0.length ∧ Aside0 (idxCross x l0 g i = N) ∧ Aside0 (Below w.heap.size w w'))
  case atStart => exact ⟨0, rfl, by omega, HN, HB⟩
  case round =>
    clear HN HB
    obtain ⟨i, rfl, hi, HN, HB⟩ := hrel
    have hl := HL.out
    cases gk with
    | zero =>
      obtain rfl : N = -1 := HN.out.symm
      go_wp2_with fail
      go_ret
      exact ⟨rfl, HB.out⟩
    | succ n =>
      have hC := Kd.C_below HR.out HB.out
      obtain ⟨ad, ea, hx0, hx1, hx2⟩ := at_T31 hC (i : Int) (by omega) (by omega)
      rw [show ((i : Nat) : Int).toNat = i from by omega] at hx0 hx1 hx2
      subst ea
      obtain ⟨Y0, hY0⟩ : ∃ y, rd_T31 l0 (i : Int) = y := ⟨_, rfl⟩
      rw [hY0] at hx0 hx1 hx2
      have HS := Aside0.mk (show idxCross x l0 (n + 1) i = (if crossS x.f1 x.f2 Y0.f1 Y0.f2 then (i : Int) else idxCross x l0 n (i + 1)) by rw [← hY0]; rfl)
      clear hY0 hC
      have c1 : (i : Int) < (l0.length : Int) := by omega
      obtain ⟨q, hq⟩ : ∃ q, crossS x.f1 x.f2 Y0.f1 Y0.f2 = q := ⟨_, rfl⟩
      have HQ := Aside0.mk hq
      clear hq
      have hBr := Aside0.mk (blk_below HBK.out HB.out)
      cases q with
      | true =>
        obtain rfl : N = (i : Int) := by rw [← HN.out, HS.out, HQ.out]; rfl
        go_wp2_with fail
        refine (wrap1 x _ _ _ _ _ hBr.out).mono ?_
        rintro e w3 ⟨rfl, hb⟩
        have HB3 := Aside0.mk (below_step HB.out hb)
        clear hb
        rw [HQ.out]
        go_wp2_with fail
        go_ret
        exact ⟨rfl, HB3.out⟩
      | false =>
        have hNt := Aside0.mk (show idxCross x l0 n (i + 1) = N by rw [← HN.out, HS.out, HQ.out]; rfl)
        go_wp2_with fail
        refine (wrap1 x _ _ _ _ _ hBr.out).mono ?_
        rintro e w3 ⟨rfl, hb⟩
        have HB3 := Aside0.mk (below_step HB.out hb)
        clear hb
        rw [HQ.out]
        go_wp2_with fail
        go_roundg n
        case measure => omega
        case rel => exact ⟨i + 1, by first | rfl | (simp; done), by omega, hNt, HB3⟩
def anyCross (x : S31) (l : List S31) : Bool := decide (0 ≤ idxCross x l l.length 0)
theorem span_Contains (x : S31) (B : Nat) (A0 : Option Addr) (c0 : Nat) (l0 : List S31) (w : World) (hr0 : Kd.C k31 w A0 l0.length l0) (hc0 : l0.length ≤ c0)
    (hB : w.heap[B]? = some (.cells #[.int .i64 x.f0, .int .i64 x.f1, .int .i64 x.f2] 31 (0, 0))) :
    Calls Tryd.prog 28 #[.slice A0 l0.length c0, .func (.func 29) #[] #[.pointer (some ⟨B, 0, none⟩)]] w fun e w' => e = .returned (.bool (anyCross x l0)) ∧ Below w.heap.size w w' := by
  have HC := Aside0.mk (span_Index x B A0 c0 l0 w hr0 hc0 hB)
  clear hr0 hB
  unfold anyCross
  go_enter Tryd.func28, Tryd.ntmps28
  go_wp2_with fail
  refine HC.out.mono ?_
  rintro e w3 ⟨rfl, hb⟩
  have HB3 := Aside0.mk hb
  clear hb
  go_wp2_with fail
  go_ret
  exact ⟨rfl, HB3.out⟩
end Go.Proofs.YthickfehldjgdaaDoor.X
