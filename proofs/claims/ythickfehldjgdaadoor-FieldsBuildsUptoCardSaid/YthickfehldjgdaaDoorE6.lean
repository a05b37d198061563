/-
  The order of spans: fields.order tells a sign; slices.IsSortedFunc over spans at it.
-/
import Derived.Test.YthickfehldjgdaaDoorXfieldsorder
import Derived.Outline
import Derived.StillTailTactics
import Derived.Deep.LoopGhost
namespace Go.Proofs.YthickfehldjgdaaDoor.X
open Go.RowKit Go.Proofs.YthickfehldjgdaaDoorW.PrintWords Go.Proofs.YthickfehldjgdaaDoorW.PrintLast
def cmpI (a b : Int) : Int := if a < b then -1 else if a > b then 1 else 0
/-- The sign that fields.order tells of two spans, by their From and To. -/
def ordC (a1 a2 b1 b2 : Int) : Int := if cmpI a1 b1 = 0 then cmpI b2 a2 else cmpI a1 b1
theorem cmp_pure (a b : Int) : cmp_Compare_int.f a b = some (cmpI a b) := by
  unfold cmp_Compare_int.f cmp_isNaN_int.f cmpI
  simp
  split
  · rfl
  · split <;> rfl
theorem order_pure (a0 a1 a2 b0 b1 b2 : Int) : fields_order.f 4 a0 a1 a2 b0 b1 b2 = some (ordC a1 a2 b1 b2) := by
  unfold fields_order.f
  rw [cmp_pure, cmp_pure]
  simp only [Option.bind_some]
  unfold cmp_Or_int.f ordC
  simp only [cmp_Or_int.l0, rd]
  by_cases h : cmpI a1 b1 = 0
  · by_cases h2 : cmpI b2 a2 = 0
    · simp [h, h2, wrap64]
    · simp [h, h2, wrap64]
  · simp [h]
theorem order_any (a0 a1 a2 b0 b1 b2 : Int) (w : World) :
    Calls Tryd.prog 32 #[.agg #[.int .i64 a0, .int .i64 a1, .int .i64 a2], .agg #[.int .i64 b0, .int .i64 b1, .int .i64 b2]] w fun e w' => e = .returned (.int .i64 (ordC a1 a2 b1 b2)) ∧ Below w.heap.size w w' :=
  fields_order.calls 4 a0 a1 a2 b0 b1 b2 _ w (order_pure a0 a1 a2 b0 b1 b2)

/-- Two spans: does the first one stand ahead, and not where the other does? -/
def spLt (x y : S31) : Bool := decide (ordC x.f1 x.f2 y.f1 y.f2 < 0)
/-- Are the first n + 1 spans in order? As slices.IsSortedFunc looks: from the end on. -/
def sortedTo (l : List S31) : Nat → Bool
  | 0 => true
  | n + 1 => if spLt (l.getD (n + 1) z31) (l.getD n z31) then false else sortedTo l n
def span_IsSorted.f (l0 : List S31) : Option Bool := some (sortedTo l0 (l0.length - 1))
set_option maxRecDepth 100000 in
set_option maxHeartbeats 1000000 in
theorem span_IsSorted.calls (A0 : Option Addr) (c0 : Nat) (l0 : List S31) (r : Bool) (w : World) (hr0 : Kd.C k31 w A0 l0.length l0) (hc0 : l0.length ≤ c0) (h : span_IsSorted.f l0 = some r) :
    Calls Tryd.prog 37 #[.slice A0 l0.length c0, .func (.func 32) #[] #[]] w fun e w' => e = .returned (.bool r) ∧ Below w.heap.size w w' := by
  obtain rfl := Option.some.inj h
  clear h
  have HL := Aside0.mk hr0.2.1
  have HR := Aside0.mk hr0
  clear hr0
  have HB := Aside0.mk (Below.refl w.heap.size w)
  obtain ⟨N, hN⟩ : ∃ N, sortedTo l0 (l0.length - 1) = N := ⟨_, rfl⟩
  rw [hN]
  have HN := Aside0.mk hN
  clear hN
  go_enter Tryd.func37, Tryd.ntmps37
  go_wp2_with fail
  go_loopg [5] (l0.length) (fun g v w' => ∃ i : Int, v = .int .i64 i ∧ -1 ≤ i ∧ i < (l0.length : Int) ∧ i.toNat < g + 1 ∧ Aside0 (sortedTo l0 i.toNat = N) ∧ Aside0 (Below w.heap.size w w'))
  case atStart =>
    have hl := HL.out
    have e : wrap64 ((l0.length : Int) - 1) = (l0.length : Int) - 1 := by unfold wrap64; omega
    refine ⟨(l0.length : Int) - 1, by rw [e], by omega, by omega, by omega, ⟨?_⟩, HB⟩
    rw [show ((l0.length : Int) - 1).toNat = l0.length - 1 by omega]
    exact HN.out
  case round =>
    clear HN HB
    obtain ⟨i, rfl, hi0, hi1, hg, HN, HB⟩ := hrel
    have hl := HL.out
    by_cases hpos : 0 < i
    · obtain ⟨n, rfl⟩ : ∃ n : Nat, i = ((n + 1 : Nat) : Int) := ⟨(i - 1).toNat, by omega⟩
      have eN : ((n + 1 : Nat) : Int).toNat = n + 1 := by omega
      rw [eN] at HN hg
      have hC := Kd.C_below HR.out HB.out
      obtain ⟨ad, ea, hx0, hx1, hx2⟩ := at_T31 hC ((n + 1 : Nat) : Int) (by omega) (by omega)
      obtain ⟨ad', ea', hy0, hy1, hy2⟩ := at_T31 hC (n : Int) (by omega) (by omega)
      rw [ea] at ea'
      obtain rfl := Option.some.inj ea'
      subst ea
      rw [show ((n : Nat) : Int).toNat = n from by omega] at hy0 hy1 hy2
      rw [eN] at hx0 hx1 hx2
      have c1 : (n : Int) + 1 < (l0.length : Int) := by omega
      have c2 : (0 : Int) ≤ (n : Int) + 1 := by omega
      have c3 : IntKind.i64.wrap (n : Int) = (n : Int) := by rw [IntKind.wrap_i64]; omega
      have c4 : ((n : Int) + 1).toNat = n + 1 := by omega
      have c5 : (n : Int) < (l0.length : Int) := by omega
      obtain ⟨X0, hX0⟩ : ∃ x, rd_T31 l0 ((n + 1 : Nat) : Int) = x := ⟨_, rfl⟩
      obtain ⟨Y0, hY0⟩ : ∃ x, rd_T31 l0 (n : Int) = x := ⟨_, rfl⟩
      rw [hX0] at hx0 hx1 hx2
      rw [hY0] at hy0 hy1 hy2
      have HX := Aside0.mk hX0
      have HY := Aside0.mk hY0
      clear hX0 hY0
      have HS := Aside0.mk (show sortedTo l0 (n + 1) = (if spLt X0 Y0 then false else sortedTo l0 n) by
        rw [← HX.out, ← HY.out]; rfl)
      have HB2 := Aside0.mk (below_drew HB.out)
      clear hC
      by_cases hlt : ordC X0.f1 X0.f2 Y0.f1 Y0.f2 < 0
      · obtain rfl : N = false := (by rw [← HN.out, HS.out]; simp [spLt, hlt])
        have hd : decide (ordC X0.f1 X0.f2 Y0.f1 Y0.f2 < 0) = true := decide_eq_true hlt
        go_wp2_with fail
        go_still_tail 10, (by kernel_rfl)
        change wpList _ _ _ _ _ wr.drew
        generalize wr.drew = w2 at HB2 ⊢
        go_wp2_with fail
        refine (order_any _ _ _ _ _ _ _).mono ?_
        rintro e w3 ⟨rfl, hb⟩
        have HB3 := Aside0.mk (below_step HB2.out hb)
        clear hb
        go_wp2_with fail
        go_ret
        exact ⟨rfl, HB3.out⟩
      · have hNt := Aside0.mk (show sortedTo l0 n = N by rw [← HN.out, HS.out]; simp [spLt, hlt])
        have hd : decide (ordC X0.f1 X0.f2 Y0.f1 Y0.f2 < 0) = false := decide_eq_false hlt
        go_wp2_with fail
        go_still_tail 10, (by kernel_rfl)
        change wpList _ _ _ _ _ wr.drew
        generalize wr.drew = w2 at HB2 ⊢
        go_wp2_with fail
        refine (order_any _ _ _ _ _ _ _).mono ?_
        rintro e w3 ⟨rfl, hb⟩
        have HB3 := Aside0.mk (below_step HB2.out hb)
        clear hb
        go_wp2_with fail
        go_roundg n
        case measure => omega
        case rel => exact ⟨(n : Int), by first | rfl | (rw [c3]), by omega, by omega, by omega, ⟨by rw [show ((n : Nat) : Int).toNat = n from by omega]; exact hNt.out⟩, HB3⟩
    · obtain rfl | rfl : i = 0 ∨ i = -1 := by omega
      · obtain rfl : N = true := HN.out.symm
        go_wp2_with fail
        go_ret
        exact ⟨rfl, HB.out⟩
      · obtain rfl : N = true := HN.out.symm
        go_wp2_with fail
        go_ret
        exact ⟨rfl, HB.out⟩
end Go.Proofs.YthickfehldjgdaaDoor.X
