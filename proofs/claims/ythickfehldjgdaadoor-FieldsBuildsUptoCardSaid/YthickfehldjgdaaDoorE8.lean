/-
  slices.BinarySearchFunc over spans at fields.order.
-/
import Derived.Test.YthickfehldjgdaaDoorE6
import Derived.Deep.QuietTactic
import Derived.BigQuiet
import Derived.StillTailTactics
namespace Go.Proofs.YthickfehldjgdaaDoor.X
open Go.RowKit Go.Proofs.YthickfehldjgdaaDoorW.PrintWords Go.Proofs.YthickfehldjgdaaDoorW.PrintLast
/-- Where a span stands, or would, in spans that are in order: as slices.BinarySearchFunc halves. -/
def bsGo (x : S31) (l : List S31) : Nat → Nat → Nat → Nat
  | 0, lo, _ => lo
  | f + 1, lo, hi => if lo < hi then (if spLt (l.getD ((lo + hi) / 2) z31) x then bsGo x l f ((lo + hi) / 2 + 1) hi else bsGo x l f lo ((lo + hi) / 2)) else lo
def Found (n : Nat) (e : Ending) : Prop := ∃ b : Bool, e = .returned (.tuple #[.int .i64 n, .bool b])
set_option maxRecDepth 100000 in
set_option maxHeartbeats 2000000 in
theorem span_Search (x : S31) (A0 : Option Addr) (c0 : Nat) (l0 : List S31) (w : World) (hr0 : Kd.C k31 w A0 l0.length l0) (hc0 : l0.length ≤ c0) (hsz : l0.length ≤ 4611686018427387904) :
    Calls Tryd.prog 31 #[.slice A0 l0.length c0, .agg #[.int .i64 x.f0, .int .i64 x.f1, .int .i64 x.f2], .func (.func 32) #[] #[]] w fun e w' => Found (bsGo x l0 (l0.length + 1) 0 l0.length) e ∧ Below w.heap.size w w' := by
  have HR := Aside0.mk hr0
  clear hr0
  obtain ⟨N, hN⟩ : ∃ N, bsGo x l0 (l0.length + 1) 0 l0.length = N := ⟨_, rfl⟩
  rw [hN]
  have HN := Aside0.mk hN
  clear hN
  go_enter Tryd.func31, Tryd.ntmps31
  go_wp2_with fail
  have hbx := blk_new w (.cells #[.int .i64 x.f0, .int .i64 x.f1, .int .i64 x.f2] 31 (0, 0))
  have HBK := Aside0.mk hbx
  have HB := Aside0.mk (below_alloc (Below.refl w.heap.size w) (.cells #[.int .i64 x.f0, .int .i64 x.f1, .int .i64 x.f2] 31 (0, 0)))
  clear hbx
  obtain ⟨gb, hgb⟩ : ∃ gb, w.heap.size = gb := ⟨_, rfl⟩
  rw [hgb] at HBK
  have HG := Aside0.mk hgb
  simp only [hgb]
  clear hgb
  generalize (w.alloc (.cells #[.int .i64 x.f0, .int .i64 x.f1, .int .i64 x.f2] 31 (0, 0))) = W0 at HBK HB ⊢
  go_loopg [9, 10] (l0.length) (fun g v1 v2 w' => ∃ lo hi : Nat, v1 = .int .i64 lo ∧ v2 = .int .i64 hi ∧ lo ≤ hi ∧ hi ≤ l0.length ∧ hi - lo ≤ g ∧ Aside0 (bsGo x l0 (g + 1) lo hi = N) ∧ Aside0 (w'.heap[gb]? = some (.cells #[.int .i64 x.f0, .int .i64 x.f1, .int .i64 x.f2] 31 (0, 0))) ∧ Aside0 (Below w.heap.size w w'))
  case atStart => exact ⟨0, l0.length, rfl, rfl, by omega, by omega, by omega, HN, HBK, HB⟩
  case round =>
    clear HN HB HBK
    obtain ⟨lo, hi, rfl, rfl, h1, h2, hg, HN, HBK, HB⟩ := hrel
    have hb0 : wr.cell? ⟨gb, 0, none⟩ = some (.int .i64 x.f0) := blk_cell HBK.out 0
    have hb1 : wr.cell? ⟨gb, 1, none⟩ = some (.int .i64 x.f1) := blk_cell HBK.out 1
    have hb2 : wr.cell? ⟨gb, 2, none⟩ = some (.int .i64 x.f2) := blk_cell HBK.out 2
    have hC := Kd.C_below HR.out HB.out
    have HB2 := Aside0.mk (below_drew HB.out)
    by_cases hlt : lo < hi
    · have hlt' : (lo : Int) < (hi : Int) := by omega
      obtain ⟨m, hm⟩ : ∃ m : Nat, (lo + hi) / 2 = m := ⟨_, rfl⟩
      have he : ((lo : Int) + (hi : Int)) / 2 = (m : Int) := by omega
      have hm1 : lo ≤ m := by omega
      have hm2 : m < hi := by omega
      have c1 : (m : Int) < (l0.length : Int) := by omega
      obtain ⟨ad, ea, hx0, hx1, hx2⟩ := at_T31 hC (m : Int) (by omega) c1
      rw [show ((m : Nat) : Int).toNat = m from by omega] at hx0 hx1 hx2
      subst ea
      obtain ⟨Y0, hY0⟩ : ∃ y, rd_T31 l0 (m : Int) = y := ⟨_, rfl⟩
      rw [hY0] at hx0 hx1 hx2
      cases gk with
      | zero => omega
      | succ n =>
        have HS := Aside0.mk (show bsGo x l0 (n + 1 + 1) lo hi = (if spLt Y0 x then bsGo x l0 (n + 1) (m + 1) hi else bsGo x l0 (n + 1) lo m) by
          rw [← hY0, ← hm]; simp only [bsGo]; rw [if_pos hlt]; rfl)
        clear hY0 hC hm
        by_cases hl : ordC Y0.f1 Y0.f2 x.f1 x.f2 < 0
        · have hNt := Aside0.mk (show bsGo x l0 (n + 1) (m + 1) hi = N by rw [← HN.out, HS.out]; simp [spLt, hl])
          have hd : decide (ordC Y0.f1 Y0.f2 x.f1 x.f2 < 0) = true := decide_eq_true hl
          go_wp2_with fail
          go_still_tail 6, (by kernel_rfl)
          change wpList _ _ _ _ _ wr.drew
          have HBKd := Aside0.mk (blk_drew HBK.out)
          generalize wr.drew = w2 at HB2 HBKd ⊢
          go_wp2_with fail
          refine (order_any _ _ _ _ _ _ _).mono ?_
          rintro e w3 ⟨rfl, hb⟩
          have HB3 := Aside0.mk (below_step HB2.out hb)
          have HBK3 := Aside0.mk (blk_below HBKd.out hb)
          clear hb
          go_wp2_with fail
          go_roundg n
          case measure => omega
          case rel => exact ⟨m + 1, hi, by first | rfl | (simp; done), rfl, by omega, by omega, by omega, hNt, HBK3, HB3⟩
        · have hNt := Aside0.mk (show bsGo x l0 (n + 1) lo m = N by rw [← HN.out, HS.out]; simp [spLt, hl])
          have hd : decide (ordC Y0.f1 Y0.f2 x.f1 x.f2 < 0) = false := decide_eq_false hl
          go_wp2_with fail
          go_still_tail 6, (by kernel_rfl)
          change wpList _ _ _ _ _ wr.drew
          have HBKd := Aside0.mk (blk_drew HBK.out)
          generalize wr.drew = w2 at HB2 HBKd ⊢
          go_wp2_with fail
          refine (order_any _ _ _ _ _ _ _).mono ?_
          rintro e w3 ⟨rfl, hb⟩
          have HB3 := Aside0.mk (below_step HB2.out hb)
          have HBK3 := Aside0.mk (blk_below HBKd.out hb)
          clear hb
          go_wp2_with fail
          go_roundg n
          case measure => omega
          case rel => exact ⟨lo, m, rfl, rfl, by omega, by omega, by omega, hNt, HBK3, HB3⟩
    · have hlt' : ¬ (lo : Int) < (hi : Int) := by omega
      obtain rfl : N = lo := by rw [← HN.out]; simp [bsGo, hlt]
      by_cases hl : N < l0.length
      · have hl' : (N : Int) < (l0.length : Int) := by omega
        have hld : decide ((N : Int) < (l0.length : Int)) = true := decide_eq_true hl'
        obtain ⟨ad, ea, hx0, hx1, hx2⟩ := at_T31 hC (N : Int) (by omega) hl'
        rw [show ((N : Nat) : Int).toNat = N from by omega] at hx0 hx1 hx2
        subst ea
        obtain ⟨Y0, hY0⟩ : ∃ y, rd_T31 l0 (N : Int) = y := ⟨_, rfl⟩
        rw [hY0] at hx0 hx1 hx2
        clear hY0 hC
        have HX0 := Aside0.mk hx0
        have HX1 := Aside0.mk hx1
        have HX2 := Aside0.mk hx2
        clear hx0 hx1 hx2 hb0 hb1 hb2
        have HBKd := Aside0.mk (blk_drew HBK.out)
        go_wp2_with fail
        refine start_ (n := 16) (S := fun w' => w'.cell? (ad.add (N * 3)) = some (.int .i64 Y0.f0) ∧ w'.cell? ⟨(ad.add (N * 3)).block, (ad.add (N * 3)).off + 1, none⟩ = some (.int .i64 Y0.f1) ∧ w'.cell? ⟨(ad.add (N * 3)).block, (ad.add (N * 3)).off + 2, none⟩ = some (.int .i64 Y0.f2) ∧ w'.cell? ⟨gb, 0, none⟩ = some (.int .i64 x.f0) ∧ w'.cell? ⟨gb, 1, none⟩ = some (.int .i64 x.f1) ∧ w'.cell? ⟨gb, 2, none⟩ = some (.int .i64 x.f2)) (ds := []) #[false, false, false, false, false, false, false, false, false, false, false, false, false, false, false, false] (by kernel_rfl) rfl rfl ⟨HX0.out, HX1.out, HX2.out, blk_cell HBKd.out 0, blk_cell HBKd.out 1, blk_cell HBKd.out 2⟩ (fun hHeld => ?_)
        refine pure_ (i := 0) (N := some 35) (v := ?_) (a' := ?_) #[true, false, false, false, false, false, false, false, false, false, false, false, false, false, false, false] rfl rfl (by kernel_rfl) (fun _ _ _ h => h) (Or.inl ⟨by rfl, ?_⟩) ?_ ?_
        rotate_left
        · intro w'
          go_simp
          with_reducible rfl
        rotate_left
        · simp only [Act.put, List.setIfInBounds_toArray, List.set_cons_zero, List.set_cons_succ, i64_w, i32_w]
          rfl
        refine pure_ (i := 1) (N := some 36) (v := ?_) (a' := ?_) #[true, true, false, false, false, false, false, false, false, false, false, false, false, false, false, false] rfl rfl (by kernel_rfl) (fun _ _ _ h => h) (Or.inl ⟨by rfl, ?_⟩) ?_ ?_
        rotate_left
        · intro w'
          go_simp
          with_reducible rfl
        rotate_left
        · simp only [Act.put, List.setIfInBounds_toArray, List.set_cons_zero, List.set_cons_succ, i64_w, i32_w]
          rfl
        refine pure_ (i := 2) (N := some 37) (v := ?_) (a' := ?_) #[true, true, true, false, false, false, false, false, false, false, false, false, false, false, false, false] rfl rfl (by kernel_rfl) (fun _ _ _ h => h) (Or.inl ⟨by rfl, ?_⟩) ?_ ?_
        rotate_left
        · intro w'
          go_simp
          with_reducible rfl
        rotate_left
        · simp only [Act.put, List.setIfInBounds_toArray, List.set_cons_zero, List.set_cons_succ, i64_w, i32_w]
          rfl
        refine pure_ (i := 3) (N := some 38) (v := ?_) (a' := ?_) #[true, true, true, true, false, false, false, false, false, false, false, false, false, false, false, false] rfl rfl (by kernel_rfl) (fun _ _ _ h => h) (Or.inl ⟨by rfl, ?_⟩) ?_ ?_
        rotate_left
        · intro w'
          go_simp
          with_reducible rfl
        rotate_left
        · simp only [Act.put, List.setIfInBounds_toArray, List.set_cons_zero, List.set_cons_succ, i64_w, i32_w]
          rfl
        refine pure_ (i := 4) (N := some 39) (v := ?_) (a' := ?_) #[true, true, true, true, true, false, false, false, false, false, false, false, false, false, false, false] rfl rfl (by kernel_rfl) (fun _ _ _ h => h) (Or.inl ⟨by rfl, ?_⟩) ?_ ?_
        rotate_left
        · intro w'
          go_simp
          with_reducible rfl
        rotate_left
        · simp only [Act.put, List.setIfInBounds_toArray, List.set_cons_zero, List.set_cons_succ, i64_w, i32_w]
          rfl
        refine pure_ (i := 5) (N := some 40) (v := ?_) (a' := ?_) #[true, true, true, true, true, true, false, false, false, false, false, false, false, false, false, false] rfl rfl (by kernel_rfl) (fun _ _ _ h => h) (Or.inl ⟨by rfl, ?_⟩) ?_ ?_
        rotate_left
        · intro w'
          go_simp
          with_reducible rfl
        rotate_left
        · simp only [Act.put, List.setIfInBounds_toArray, List.set_cons_zero, List.set_cons_succ, i64_w, i32_w]
          rfl
        refine pure_ (i := 6) (N := some 41) (v := ?_) (a' := ?_) #[true, true, true, true, true, true, true, false, false, false, false, false, false, false, false, false] rfl rfl (by kernel_rfl) (fun _ _ _ h => h) (Or.inl ⟨by rfl, ?_⟩) ?_ ?_
        rotate_left
        · intro w'
          go_simp
          with_reducible rfl
        rotate_left
        · simp only [Act.put, List.setIfInBounds_toArray, List.set_cons_zero, List.set_cons_succ, i64_w, i32_w]
          rfl
        refine pure_ (i := 7) (N := some 42) (v := ?_) (a' := ?_) #[true, true, true, true, true, true, true, true, false, false, false, false, false, false, false, false] rfl rfl (by kernel_rfl) (fun _ _ _ h => h) (Or.inl ⟨by rfl, ?_⟩) ?_ ?_
        rotate_left
        · intro w'
          go_simp
          with_reducible rfl
        rotate_left
        · simp only [Act.put, List.setIfInBounds_toArray, List.set_cons_zero, List.set_cons_succ, i64_w, i32_w]
          rfl
        refine pure_ (i := 8) (N := some 43) (v := ?_) (a' := ?_) #[true, true, true, true, true, true, true, true, true, false, false, false, false, false, false, false] rfl rfl (by kernel_rfl) (fun _ _ _ h => h) (Or.inl ⟨by rfl, ?_⟩) ?_ ?_
        rotate_left
        · intro w'
          go_simp
          with_reducible rfl
        rotate_left
        · simp only [Act.put, List.setIfInBounds_toArray, List.set_cons_zero, List.set_cons_succ, i64_w, i32_w]
          rfl
        refine take_ (i := 9) (N := some 44) (v := ?_) (a' := ?_) #[true, true, true, true, true, true, true, true, true, true, false, false, false, false, false, false] rfl rfl (by kernel_rfl) (fun _ _ _ h => h) (Or.inl ⟨by rfl, ?_⟩) hHeld ?_ ?_
        rotate_left
        · rintro w' ⟨s0, s1, s2, s3, s4, s5⟩
          go_simp
          with_reducible rfl
        rotate_left
        · simp only [Act.put, List.setIfInBounds_toArray, List.set_cons_zero, List.set_cons_succ, i64_w, i32_w]
          rfl
        refine take_ (i := 10) (N := some 45) (v := ?_) (a' := ?_) #[true, true, true, true, true, true, true, true, true, true, true, false, false, false, false, false] rfl rfl (by kernel_rfl) (fun _ _ _ h => h) (Or.inl ⟨by rfl, ?_⟩) hHeld ?_ ?_
        rotate_left
        · rintro w' ⟨s0, s1, s2, s3, s4, s5⟩
          go_simp
          with_reducible rfl
        rotate_left
        · simp only [Act.put, List.setIfInBounds_toArray, List.set_cons_zero, List.set_cons_succ, i64_w, i32_w]
          rfl
        refine one_ (i := 11) (N := some 46) #[true, true, true, true, true, true, true, true, true, true, true, true, false, false, false, false] rfl rfl (by kernel_rfl) (by decide) (fun K hK => ?_)
        generalize wr.drew = w2 at HB2 HBKd hHeld ⊢
        refine call_ 32 #[.agg #[.int .i64 Y0.f0, .int .i64 Y0.f1, .int .i64 Y0.f2], .agg #[.int .i64 x.f0, .int .i64 x.f1, .int .i64 x.f2]] (by rfl) rfl (by go_simp; first | done | rfl) ?_
        refine (order_any _ _ _ _ _ _ _).mono ?_
        rintro e w3 ⟨rfl, hb⟩
        refine ⟨_, rfl, ?_⟩
        refine hK.out _ _ ⟨pw_cell_below hb hHeld.1, pw_cell_below hb hHeld.2.1, pw_cell_below hb hHeld.2.2.1, pw_cell_below hb hHeld.2.2.2.1, pw_cell_below hb hHeld.2.2.2.2.1, pw_cell_below hb hHeld.2.2.2.2.2⟩ (fun hHeld => ?_)
        clear hK K
        refine norm_ (a' := ?_) ?_ ?_
        rotate_left
        · show Act.put _ (some 46) _ = _
          simp only [Act.put, List.setIfInBounds_toArray, List.set_cons_zero, List.set_cons_succ, i64_w, i32_w]
          rfl
        refine pure_ (i := 12) (N := some 47) (v := ?_) (a' := ?_) #[true, true, true, true, true, true, true, true, true, true, true, true, true, false, false, false] rfl rfl (by kernel_rfl) (fun _ _ _ h => h) (Or.inl ⟨by rfl, ?_⟩) ?_ ?_
        rotate_left
        · intro w'
          go_simp
          with_reducible rfl
        rotate_left
        · simp only [Act.put, List.setIfInBounds_toArray, List.set_cons_zero, List.set_cons_succ, i64_w, i32_w]
          rfl
        refine pure_ (i := 13) (N := some 48) (v := ?_) (a' := ?_) #[true, true, true, true, true, true, true, true, true, true, true, true, true, true, false, false] rfl rfl (by kernel_rfl) (fun _ _ _ h => h) (Or.inl ⟨by rfl, ?_⟩) ?_ ?_
        rotate_left
        · intro w'
          go_simp
          with_reducible rfl
        rotate_left
        · simp only [Act.put, List.setIfInBounds_toArray, List.set_cons_zero, List.set_cons_succ, i64_w, i32_w]
          rfl
        refine pure_ (i := 14) (N := some 6) (v := ?_) (a' := ?_) #[true, true, true, true, true, true, true, true, true, true, true, true, true, true, true, false] rfl rfl (by kernel_rfl) (fun _ _ _ h => h) (Or.inl ⟨by rfl, ?_⟩) ?_ ?_
        rotate_left
        · intro w'
          go_simp
          with_reducible rfl
        rotate_left
        · simp only [Act.put, List.setIfInBounds_toArray, List.set_cons_zero, List.set_cons_succ, i64_w, i32_w]
          rfl
        refine pure_ (i := 15) (N := some 7) (v := ?_) (a' := ?_) #[true, true, true, true, true, true, true, true, true, true, true, true, true, true, true, true] rfl rfl (by kernel_rfl) (fun _ _ _ h => h) (Or.inl ⟨by rfl, ?_⟩) ?_ ?_
        rotate_left
        · intro w'
          go_simp
          with_reducible rfl
        rotate_left
        · simp only [Act.put, List.setIfInBounds_toArray, List.set_cons_zero, List.set_cons_succ, i64_w, i32_w]
          rfl
        refine done_ (by kernel_rfl) ?_
        go_wp2_with fail
        go_ret2
        exact ⟨⟨_, rfl⟩, below_step HB2.out hb⟩
      · have hl' : decide ((N : Int) < (l0.length : Int)) = false := decide_eq_false (by omega)
        go_wp2_with fail
        go_quiet (fail)
        go_wp2_with fail
        go_ret2
        exact ⟨⟨_, rfl⟩, by repeat (first | exact HB.out | apply pw_below_drewN | apply below_drew)⟩
end Go.Proofs.YthickfehldjgdaaDoor.X
