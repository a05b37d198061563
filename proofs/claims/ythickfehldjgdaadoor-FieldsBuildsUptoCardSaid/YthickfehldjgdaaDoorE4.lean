/-
  container/heap over fields.spans: the methods.
-/
import Derived.Test.YthickfehldjgdaaDoorE9
import Derived.Test.YthickfehldjgdaaDoorE6
namespace Go.Proofs.YthickfehldjgdaaDoor.X
open Go.RowKit Go.Proofs.YthickfehldjgdaaDoorW.PrintWords Go.Proofs.YthickfehldjgdaaDoorW.PrintLast
theorem m_Push (p : Value) (w : World) : (method 234 56 p "Push").run Tryd.prog w = .ok (94, p) w := by kernel_rfl
theorem m_Pop (p : Value) (w : World) : (method 234 56 p "Pop").run Tryd.prog w = .ok (93, p) w := by kernel_rfl
theorem load54 (h : Nat) (v : Value) (w : World) (f : Nat) (hc : w.cell? ⟨h, 0, none⟩ = some v) : ((do let v ← load ⟨h, 0, none⟩; pure (f, v)) : Sem (FuncId × Value)).run Tryd.prog w = .ok (f, v) w := by
  simp [hc]
theorem m_Len (h : Nat) (v : Value) (w : World) (hc : w.cell? ⟨h, 0, none⟩ = some v) : (method 234 56 (.pointer (some ⟨h, 0, none⟩)) "Len").run Tryd.prog w = .ok (90, v) w := by
  have e : (method 234 56 (.pointer (some ⟨h, 0, none⟩)) "Len").run Tryd.prog w = ((do let v ← load ⟨h, 0, none⟩; pure (90, v)) : Sem (FuncId × Value)).run Tryd.prog w := by kernel_rfl
  rw [e, load54 h v w 90 hc]
theorem m_Less (h : Nat) (v : Value) (w : World) (hc : w.cell? ⟨h, 0, none⟩ = some v) : (method 234 56 (.pointer (some ⟨h, 0, none⟩)) "Less").run Tryd.prog w = .ok (91, v) w := by
  have e : (method 234 56 (.pointer (some ⟨h, 0, none⟩)) "Less").run Tryd.prog w = ((do let v ← load ⟨h, 0, none⟩; pure (91, v)) : Sem (FuncId × Value)).run Tryd.prog w := by kernel_rfl
  rw [e, load54 h v w 91 hc]
theorem m_Swap (h : Nat) (v : Value) (w : World) (hc : w.cell? ⟨h, 0, none⟩ = some v) : (method 234 56 (.pointer (some ⟨h, 0, none⟩)) "Swap").run Tryd.prog w = .ok (92, v) w := by
  have e : (method 234 56 (.pointer (some ⟨h, 0, none⟩)) "Swap").run Tryd.prog w = ((do let v ← load ⟨h, 0, none⟩; pure (92, v)) : Sem (FuncId × Value)).run Tryd.prog w := by kernel_rfl
  rw [e, load54 h v w 92 hc]
/-- All but block h and row r stays. -/
structure Touch (w w' : World) (h r : Option Nat) : Prop where
  os : w'.os = w.os
  tape : w'.tape = w.tape
  output : w'.output = w.output
  size : w.heap.size ≤ w'.heap.size
  block : ∀ k, k < w.heap.size → some k ≠ h → some k ≠ r → w'.heap[k]? = w.heap[k]?
theorem Touch.refl (w : World) (h r : Option Nat) : Touch w w h r := ⟨rfl, rfl, rfl, Nat.le_refl _, fun _ _ _ _ => rfl⟩
theorem Touch.then_ {w w1 w2 : World} {h r r2 : Option Nat} (a : Touch w w1 h r) (b : Touch w1 w2 h r2) (hr : r2 = r ∨ ∀ k, r2 = some k → w.heap.size ≤ k) : Touch w w2 h r :=
  ⟨b.os.trans a.os, b.tape.trans a.tape, b.output.trans a.output, Nat.le_trans a.size b.size, fun k hk h1 h2 => by
    rw [b.block k (Nat.lt_of_lt_of_le hk a.size) h1 (by
      rcases hr with rfl | hr
      · exact h2
      · intro e
        have := hr k e.symm
        omega), a.block k hk h1 h2]⟩
theorem Touch.of_below {w w1 : World} (h r : Option Nat) (b : Below w.heap.size w w1) : Touch w w1 h r := ⟨b.os, b.tape, b.output, b.size, fun k hk _ _ => b.block k hk⟩
theorem Touch.below {w0 w w1 : World} {B : Nat} {h r : Option Nat} (t : Touch w w1 h r) (b : Below B w0 w) (hB : B ≤ w.heap.size) (h1 : ∀ k, h = some k → B ≤ k) (h2 : ∀ k, r = some k → B ≤ k) : Below B w0 w1 :=
  ⟨t.os.trans b.os, t.tape.trans b.tape, t.output.trans b.output, Nat.le_trans b.size t.size, fun k hk => by
    rw [t.block k (by omega) (fun e => by have := h1 k e.symm; omega) (fun e => by have := h2 k e.symm; omega)]
    exact b.block k hk⟩
def swapL (l : List S31) (i j : Nat) : List S31 := (l.set i (l.getD j z31)).set j (l.getD i z31)
theorem swapL_length (l : List S31) (i j : Nat) : (swapL l i j).length = l.length := by simp [swapL]
theorem cells31_set (l : List S31) (j : Nat) (y : S31) (hj : j < l.length) : cells31 (l.set j y) = (((cells31 l).set (j * 3) (.int .i64 y.f0)).set (j * 3 + 1) (.int .i64 y.f1)).set (j * 3 + 2) (.int .i64 y.f2) := by
  induction l generalizing j with
  | nil => simp at hj
  | cons x l ih =>
    cases j with
    | zero => simp [cells31]
    | succ n =>
      simp at hj
      rw [List.set_cons_succ]
      simp only [cells31]
      rw [ih n hj, show (n + 1) * 3 = n * 3 + 1 + 1 + 1 by omega, show n * 3 + 1 + 1 + 1 + 1 = n * 3 + 1 + 1 + 1 + 1 from rfl]
      simp only [List.set_cons_succ]
/-- An element of a row of one's own: its cells. -/
theorem R31_cells {w : World} {B n c g : Nat} {ok : Nat → Prop} {l : List S31} (h : Kd.R k31 31 w B ok (.slice (some ⟨g, 0, none⟩) n c) l) (j : Nat) (hj : j < l.length) :
    w.cell? ⟨g, j * 3, none⟩ = some (.int .i64 (l.getD j z31).f0) ∧ w.cell? ⟨g, j * 3 + 1, none⟩ = some (.int .i64 (l.getD j z31).f1) ∧ w.cell? ⟨g, j * 3 + 2, none⟩ = some (.int .i64 (l.getD j z31).f2) := by
  obtain ⟨A, c', e, hl, hC⟩ := Kd.R_reads h
  injection e with e1 e2 e3
  subst e1
  obtain ⟨ad, ea, h0, h1, h2⟩ := at_T31 hC (j : Int) (by omega) (by omega)
  injection ea with ea
  subst ea
  rw [Int.toNat_natCast, Addr.add_lit] at h0 h1 h2
  simp only [Nat.zero_add] at h0 h1 h2
  exact ⟨h0, h1, h2⟩
theorem R31_frozen {w : World} {B n c g : Nat} {ok : Nat → Prop} {l : List S31} (h : Kd.R k31 31 w B ok (.slice (some ⟨g, 0, none⟩) n c) l) (j : Nat) : w.frozen? ⟨g, j, none⟩ = false := by
  obtain ⟨cells, hc⟩ := own_typed (R31_own h) g rfl
  exact blk_frozen hc j
theorem R31_nonil {w : World} {B : Nat} {ok : Nat → Prop} {v : Value} {l : List S31} (h : Kd.R k31 31 w B ok v l) (hl : 0 < l.length) : ∃ g c, v = .slice (some ⟨g, 0, none⟩) l.length c := by
  rcases (R31_own h).2 with ⟨_, h0⟩ | ⟨g, c, cur, rfl, _⟩
  · omega
  · exact ⟨g, c, rfl⟩
/-- An element of a row of one's own is written. -/
theorem R31_put {w : World} {B n c g : Nat} {ok : Nat → Prop} {l : List S31} (h : Kd.R k31 31 w B ok (.slice (some ⟨g, 0, none⟩) n c) l) (j : Nat) (y : S31) (hj : j < l.length) :
    Kd.R k31 31 (((w.setCell ⟨g, j * 3, none⟩ (.int .i64 y.f0)).setCell ⟨g, j * 3 + 1, none⟩ (.int .i64 y.f1)).setCell ⟨g, j * 3 + 2, none⟩ (.int .i64 y.f2)) B ok (.slice (some ⟨g, 0, none⟩) n c) (l.set j y) := by
  have hok := h.1
  obtain ⟨h1, h2⟩ := R31_own h
  rcases h2 with ⟨e, _⟩ | ⟨g', c', cur, e, hB, hg, hn, hm, hs, ht⟩
  · cases e
  · injection e with e1 e2 e3
    injection e1 with e1
    injection e1 with e1
    subst e1 e2 e3
    refine R31_mk ⟨cells31_length _, .inr ⟨g, c, _, by rw [List.length_set], hB, blk_set (blk_set (blk_set hg _ _) _ _) _ _, by rw [List.length_set]; exact hn, hm, by simpa using hs, ?_⟩⟩ hok
    rw [List.length_set, cells31_set l j y hj, ← ht]
    simp only [Array.toList_setIfInBounds, List.take_set]
theorem touch_put {w : World} (g : Nat) (h : Option Nat) (j : Nat) (a b c : Value) : Touch w (((w.setCell ⟨g, j * 3, none⟩ a).setCell ⟨g, j * 3 + 1, none⟩ b).setCell ⟨g, j * 3 + 2, none⟩ c) h (some g) := by
  refine ⟨rfl, rfl, rfl, by simp [World.setCell], fun k hk _ hr => ?_⟩
  have hne : k ≠ g := fun e => hr (by rw [e])
  rw [Below.heap_setCell _ _ _ k hne, Below.heap_setCell _ _ _ k hne, Below.heap_setCell _ _ _ k hne]
theorem meth_Len (A : Option Addr) (n c : Nat) (w : World) : Calls Tryd.prog 90 #[.slice A n c] w fun e w' => e = .returned (.int .i64 n) ∧ w' = w := by
  go_enter Tryd.func90, Tryd.ntmps90
  go_wp2_with fail
  go_ret
  exact ⟨rfl, rfl⟩
set_option maxRecDepth 100000 in
set_option maxHeartbeats 1000000 in
theorem meth_Less (w : World) (B g c : Nat) (ok : Nat → Prop) (l : List S31) (i j : Nat) (hi : i < l.length) (hj : j < l.length) (hR : Kd.R k31 31 w B ok (.slice (some ⟨g, 0, none⟩) l.length c) l) :
    Calls Tryd.prog 91 #[.slice (some ⟨g, 0, none⟩) l.length c, .int .i64 i, .int .i64 j] w fun e w' => e = .returned (.bool (spLt (l.getD i z31) (l.getD j z31))) ∧ Below w.heap.size w w' := by
  have hx := R31_cells hR i hi
  have hy := R31_cells hR j hj
  clear hR
  obtain ⟨X, hX⟩ : ∃ X, l.getD i z31 = X := ⟨_, rfl⟩
  obtain ⟨Y, hY⟩ : ∃ Y, l.getD j z31 = Y := ⟨_, rfl⟩
  rw [hX] at hx ⊢
  rw [hY] at hy ⊢
  clear hX hY
  have HX := Aside0.mk hx
  have HY := Aside0.mk hy
  clear hx hy
  have ci : (i : Int) < (l.length : Int) := by omega
  have cj : (j : Int) < (l.length : Int) := by omega
  have ci0 : (0 : Int) ≤ (i : Int) := by omega
  have cj0 : (0 : Int) ≤ (j : Int) := by omega
  go_enter Tryd.func91, Tryd.ntmps91
  go_wp2_with fail
  refine start_ (n := 11) (S := fun w' => w'.cell? ⟨g, i * 3, none⟩ = some (.int .i64 X.f0) ∧ w'.cell? ⟨g, i * 3 + 1, none⟩ = some (.int .i64 X.f1) ∧ w'.cell? ⟨g, i * 3 + 2, none⟩ = some (.int .i64 X.f2) ∧ w'.cell? ⟨g, j * 3, none⟩ = some (.int .i64 Y.f0) ∧ w'.cell? ⟨g, j * 3 + 1, none⟩ = some (.int .i64 Y.f1) ∧ w'.cell? ⟨g, j * 3 + 2, none⟩ = some (.int .i64 Y.f2)) (ds := []) #[false, false, false, false, false, false, false, false, false, false, false] (by kernel_rfl) rfl rfl ⟨HX.out.1, HX.out.2.1, HX.out.2.2, HY.out.1, HY.out.2.1, HY.out.2.2⟩ (fun hHeld => ?_)
  refine pure_ (i := 0) (N := some 7) (v := ?_) (a' := ?_) #[true, false, false, false, false, false, false, false, false, false, false] rfl rfl (by kernel_rfl) (fun _ _ _ h => h) (Or.inl ⟨by rfl, ?_⟩) ?_ ?_
  rotate_left
  · intro w'
    go_simp
    with_reducible rfl
  rotate_left
  · simp only [Act.put, List.setIfInBounds_toArray, List.set_cons_zero, List.set_cons_succ, i64_w, i32_w]
    rfl
  refine pure_ (i := 1) (N := some 8) (v := ?_) (a' := ?_) #[true, true, false, false, false, false, false, false, false, false, false] rfl rfl (by kernel_rfl) (fun _ _ _ h => h) (Or.inl ⟨by rfl, ?_⟩) ?_ ?_
  rotate_left
  · intro w'
    go_simp
    with_reducible rfl
  rotate_left
  · simp only [Act.put, List.setIfInBounds_toArray, List.set_cons_zero, List.set_cons_succ, i64_w, i32_w]
    rfl
  refine pure_ (i := 2) (N := some 9) (v := ?_) (a' := ?_) #[true, true, true, false, false, false, false, false, false, false, false] rfl rfl (by kernel_rfl) (fun _ _ _ h => h) (Or.inl ⟨by rfl, ?_⟩) ?_ ?_
  rotate_left
  · intro w'
    go_simp
    with_reducible rfl
  rotate_left
  · simp only [Act.put, List.setIfInBounds_toArray, List.set_cons_zero, List.set_cons_succ, i64_w, i32_w]
    rfl
  refine pure_ (i := 4) (N := some 11) (v := ?_) (a' := ?_) #[true, true, true, false, true, false, false, false, false, false, false] rfl rfl (by kernel_rfl) (fun _ _ _ h => h) (Or.inl ⟨by rfl, ?_⟩) ?_ ?_
  rotate_left
  · intro w'
    go_simp
    with_reducible rfl
  rotate_left
  · simp only [Act.put, List.setIfInBounds_toArray, List.set_cons_zero, List.set_cons_succ, i64_w, i32_w]
    rfl
  refine pure_ (i := 5) (N := some 12) (v := ?_) (a' := ?_) #[true, true, true, false, true, true, false, false, false, false, false] rfl rfl (by kernel_rfl) (fun _ _ _ h => h) (Or.inl ⟨by rfl, ?_⟩) ?_ ?_
  rotate_left
  · intro w'
    go_simp
    with_reducible rfl
  rotate_left
  · simp only [Act.put, List.setIfInBounds_toArray, List.set_cons_zero, List.set_cons_succ, i64_w, i32_w]
    rfl
  refine pure_ (i := 6) (N := some 13) (v := ?_) (a' := ?_) #[true, true, true, false, true, true, true, false, false, false, false] rfl rfl (by kernel_rfl) (fun _ _ _ h => h) (Or.inl ⟨by rfl, ?_⟩) ?_ ?_
  rotate_left
  · intro w'
    go_simp
    with_reducible rfl
  rotate_left
  · simp only [Act.put, List.setIfInBounds_toArray, List.set_cons_zero, List.set_cons_succ, i64_w, i32_w]
    rfl
  refine take_ (i := 3) (N := some 10) (v := ?_) (a' := ?_) #[true, true, true, true, true, true, true, false, false, false, false] rfl rfl (by kernel_rfl) (fun _ _ _ h => h) (Or.inl ⟨by rfl, ?_⟩) hHeld ?_ ?_
  rotate_left
  · rintro w' ⟨s0, s1, s2, s3, s4, s5⟩
    go_simp
    with_reducible rfl
  rotate_left
  · simp only [Act.put, List.setIfInBounds_toArray, List.set_cons_zero, List.set_cons_succ, i64_w, i32_w]
    rfl
  refine take_ (i := 7) (N := some 14) (v := ?_) (a' := ?_) #[true, true, true, true, true, true, true, true, false, false, false] rfl rfl (by kernel_rfl) (fun _ _ _ h => h) (Or.inl ⟨by rfl, ?_⟩) hHeld ?_ ?_
  rotate_left
  · rintro w' ⟨s0, s1, s2, s3, s4, s5⟩
    go_simp
    with_reducible rfl
  rotate_left
  · simp only [Act.put, List.setIfInBounds_toArray, List.set_cons_zero, List.set_cons_succ, i64_w, i32_w]
    rfl
  refine one_ (i := 8) (N := some 15) #[true, true, true, true, true, true, true, true, true, false, false] rfl rfl (by kernel_rfl) (by decide) (fun K hK => ?_)
  refine call_ 32 #[.agg #[.int .i64 X.f0, .int .i64 X.f1, .int .i64 X.f2], .agg #[.int .i64 Y.f0, .int .i64 Y.f1, .int .i64 Y.f2]] (by rfl) rfl (by go_simp; first | done | rfl) ?_
  refine (order_any _ _ _ _ _ _ _).mono ?_
  rintro e w3 ⟨rfl, hb⟩
  refine ⟨_, rfl, ?_⟩
  refine hK.out _ _ ⟨pw_cell_below hb hHeld.1, pw_cell_below hb hHeld.2.1, pw_cell_below hb hHeld.2.2.1, pw_cell_below hb hHeld.2.2.2.1, pw_cell_below hb hHeld.2.2.2.2.1, pw_cell_below hb hHeld.2.2.2.2.2⟩ (fun hHeld => ?_)
  clear hK K
  refine norm_ (a' := ?_) ?_ ?_
  rotate_left
  · show Act.put _ (some 15) _ = _
    simp only [Act.put, List.setIfInBounds_toArray, List.set_cons_zero, List.set_cons_succ, i64_w, i32_w]
    rfl
  refine pure_ (i := 9) (N := some 16) (v := ?_) (a' := ?_) #[true, true, true, true, true, true, true, true, true, true, false] rfl rfl (by kernel_rfl) (fun _ _ _ h => h) (Or.inl ⟨by rfl, ?_⟩) ?_ ?_
  rotate_left
  · intro w'
    go_simp
    with_reducible rfl
  rotate_left
  · simp only [Act.put, List.setIfInBounds_toArray, List.set_cons_zero, List.set_cons_succ, i64_w, i32_w]
    rfl
  refine pure_ (i := 10) (N := some 6) (v := ?_) (a' := ?_) #[true, true, true, true, true, true, true, true, true, true, true] rfl rfl (by kernel_rfl) (fun _ _ _ h => h) (Or.inl ⟨by rfl, ?_⟩) ?_ ?_
  rotate_left
  · intro w'
    go_simp
    with_reducible rfl
  rotate_left
  · simp only [Act.put, List.setIfInBounds_toArray, List.set_cons_zero, List.set_cons_succ, i64_w, i32_w]
    rfl
  refine done_ (by kernel_rfl) ?_
  go_wp2_with fail
  go_ret
  exact ⟨rfl, below_step (below_drew (Below.refl _ _)) hb⟩
theorem R31_drew {w : World} {B : Nat} {ok : Nat → Prop} {v : Value} {l : List S31} (h : Kd.R k31 31 w B ok v l) : Kd.R k31 31 w.drew B ok v l := Kd.R_drew h
set_option maxRecDepth 100000 in
set_option maxHeartbeats 2000000 in
theorem meth_Swap (w : World) (B g c : Nat) (ok : Nat → Prop) (l : List S31) (i j : Nat) (hi : i < l.length) (hj : j < l.length) (hR : Kd.R k31 31 w B ok (.slice (some ⟨g, 0, none⟩) l.length c) l) :
    Calls Tryd.prog 92 #[.slice (some ⟨g, 0, none⟩) l.length c, .int .i64 i, .int .i64 j] w fun e w' => (∃ u, e = .returned u) ∧ Kd.R k31 31 w' B ok (.slice (some ⟨g, 0, none⟩) l.length c) (swapL l i j) ∧ ∀ h, Touch w w' h (some g) := by
  have hx := R31_cells hR i hi
  have hy := R31_cells hR j hj
  have hfr := R31_frozen (R31_drew hR)
  have HR1 := Aside0.mk (R31_put (R31_drew hR) i (l.getD j z31) hi)
  have hy1 := R31_cells HR1.out j (by rw [List.length_set]; exact hj)
  have hfr1 := R31_frozen HR1.out
  have HR2 := Aside0.mk (R31_put HR1.out j (l.getD i z31) (by rw [List.length_set]; exact hj))
  have HT : Aside0 (∀ h, Touch w (((((((w.drew.setCell ⟨g, i * 3, none⟩ (.int .i64 (l.getD j z31).f0)).setCell ⟨g, i * 3 + 1, none⟩ (.int .i64 (l.getD j z31).f1)).setCell ⟨g, i * 3 + 2, none⟩ (.int .i64 (l.getD j z31).f2))).setCell ⟨g, j * 3, none⟩ (.int .i64 (l.getD i z31).f0)).setCell ⟨g, j * 3 + 1, none⟩ (.int .i64 (l.getD i z31).f1)).setCell ⟨g, j * 3 + 2, none⟩ (.int .i64 (l.getD i z31).f2)) h (some g)) :=
    ⟨fun h => ((Touch.of_below h (some g) (below_drew (Below.refl _ _))).then_ (touch_put g h i _ _ _) (.inl rfl)).then_ (touch_put g h j _ _ _) (.inl rfl)⟩
  clear hR
  obtain ⟨l1, hl1⟩ : ∃ l1, l.set i (l.getD j z31) = l1 := ⟨_, rfl⟩
  have HSW := Aside0.mk (show swapL l i j = l1.set j (l.getD i z31) by rw [← hl1]; rfl)
  rw [hl1] at HR2 hy1
  clear hl1 HR1
  obtain ⟨X, hX⟩ : ∃ X, l.getD i z31 = X := ⟨_, rfl⟩
  obtain ⟨Y, hY⟩ : ∃ Y, l.getD j z31 = Y := ⟨_, rfl⟩
  rw [hX] at hx HR2 HT HSW
  rw [hY] at hy HR2 HT hfr1 hy1
  clear hX hY
  have HX := Aside0.mk hx
  have HY := Aside0.mk hy
  obtain ⟨W1, hW1⟩ : ∃ W1, ((w.drew.setCell ⟨g, i * 3, none⟩ (.int .i64 Y.f0)).setCell ⟨g, i * 3 + 1, none⟩ (.int .i64 Y.f1)).setCell ⟨g, i * 3 + 2, none⟩ (.int .i64 Y.f2) = W1 := ⟨_, rfl⟩
  rw [hW1] at HR2 HT hfr1 hy1
  clear hx hy
  have ci : (i : Int) < (l.length : Int) := by omega
  have cj : (j : Int) < (l.length : Int) := by omega
  have ci0 : (0 : Int) ≤ (i : Int) := by omega
  have cj0 : (0 : Int) ≤ (j : Int) := by omega
  have HXd : Aside0 (w.drew.cell? ⟨g, i * 3, none⟩ = some (.int .i64 X.f0) ∧ w.drew.cell? ⟨g, i * 3 + 1, none⟩ = some (.int .i64 X.f1) ∧ w.drew.cell? ⟨g, i * 3 + 2, none⟩ = some (.int .i64 X.f2)) := ⟨HX.out⟩
  have HFR := Aside0.mk hfr
  have HFR1 := Aside0.mk hfr1
  have HY1 := Aside0.mk hy1
  have HW1 := Aside0.mk hW1
  clear hfr hfr1 hy1 hW1
  go_enter Tryd.func92, Tryd.ntmps92
  go_wp2_with fail
  refine start_ (n := 16) (S := fun w' => w'.cell? ⟨g, i * 3, none⟩ = some (.int .i64 X.f0) ∧ w'.cell? ⟨g, i * 3 + 1, none⟩ = some (.int .i64 X.f1) ∧ w'.cell? ⟨g, i * 3 + 2, none⟩ = some (.int .i64 X.f2) ∧ w'.cell? ⟨g, j * 3, none⟩ = some (.int .i64 Y.f0) ∧ w'.cell? ⟨g, j * 3 + 1, none⟩ = some (.int .i64 Y.f1) ∧ w'.cell? ⟨g, j * 3 + 2, none⟩ = some (.int .i64 Y.f2)) (ds := [13, 15]) #[false, false, false, false, false, false, false, false, false, false, false, false, false, false, false, false] (by kernel_rfl) rfl rfl ⟨HX.out.1, HX.out.2.1, HX.out.2.2, HY.out.1, HY.out.2.1, HY.out.2.2⟩ (fun hHeld => ?_)
  refine pure_ (i := 0) (N := some 6) (v := ?_) (a' := ?_) #[true, false, false, false, false, false, false, false, false, false, false, false, false, false, false, false] rfl rfl (by kernel_rfl) (fun _ _ _ h => h) (Or.inl ⟨by rfl, ?_⟩) ?_ ?_
  rotate_left
  · intro w'
    go_simp
    with_reducible rfl
  rotate_left
  · simp only [Act.put, List.setIfInBounds_toArray, List.set_cons_zero, List.set_cons_succ, i64_w, i32_w]
    rfl
  refine pure_ (i := 1) (N := some 7) (v := ?_) (a' := ?_) #[true, true, false, false, false, false, false, false, false, false, false, false, false, false, false, false] rfl rfl (by kernel_rfl) (fun _ _ _ h => h) (Or.inl ⟨by rfl, ?_⟩) ?_ ?_
  rotate_left
  · intro w'
    go_simp
    with_reducible rfl
  rotate_left
  · simp only [Act.put, List.setIfInBounds_toArray, List.set_cons_zero, List.set_cons_succ, i64_w, i32_w]
    rfl
  refine pure_ (i := 2) (N := some 8) (v := ?_) (a' := ?_) #[true, true, true, false, false, false, false, false, false, false, false, false, false, false, false, false] rfl rfl (by kernel_rfl) (fun _ _ _ h => h) (Or.inl ⟨by rfl, ?_⟩) ?_ ?_
  rotate_left
  · intro w'
    go_simp
    with_reducible rfl
  rotate_left
  · simp only [Act.put, List.setIfInBounds_toArray, List.set_cons_zero, List.set_cons_succ, i64_w, i32_w]
    rfl
  refine pure_ (i := 3) (N := some 9) (v := ?_) (a' := ?_) #[true, true, true, true, false, false, false, false, false, false, false, false, false, false, false, false] rfl rfl (by kernel_rfl) (fun _ _ _ h => h) (Or.inl ⟨by rfl, ?_⟩) ?_ ?_
  rotate_left
  · intro w'
    go_simp
    with_reducible rfl
  rotate_left
  · simp only [Act.put, List.setIfInBounds_toArray, List.set_cons_zero, List.set_cons_succ, i64_w, i32_w]
    rfl
  refine pure_ (i := 4) (N := some 10) (v := ?_) (a' := ?_) #[true, true, true, true, true, false, false, false, false, false, false, false, false, false, false, false] rfl rfl (by kernel_rfl) (fun _ _ _ h => h) (Or.inl ⟨by rfl, ?_⟩) ?_ ?_
  rotate_left
  · intro w'
    go_simp
    with_reducible rfl
  rotate_left
  · simp only [Act.put, List.setIfInBounds_toArray, List.set_cons_zero, List.set_cons_succ, i64_w, i32_w]
    rfl
  refine pure_ (i := 5) (N := some 11) (v := ?_) (a' := ?_) #[true, true, true, true, true, true, false, false, false, false, false, false, false, false, false, false] rfl rfl (by kernel_rfl) (fun _ _ _ h => h) (Or.inl ⟨by rfl, ?_⟩) ?_ ?_
  rotate_left
  · intro w'
    go_simp
    with_reducible rfl
  rotate_left
  · simp only [Act.put, List.setIfInBounds_toArray, List.set_cons_zero, List.set_cons_succ, i64_w, i32_w]
    rfl
  refine pure_ (i := 6) (N := some 12) (v := ?_) (a' := ?_) #[true, true, true, true, true, true, true, false, false, false, false, false, false, false, false, false] rfl rfl (by kernel_rfl) (fun _ _ _ h => h) (Or.inl ⟨by rfl, ?_⟩) ?_ ?_
  rotate_left
  · intro w'
    go_simp
    with_reducible rfl
  rotate_left
  · simp only [Act.put, List.setIfInBounds_toArray, List.set_cons_zero, List.set_cons_succ, i64_w, i32_w]
    rfl
  refine pure_ (i := 8) (N := some 14) (v := ?_) (a' := ?_) #[true, true, true, true, true, true, true, false, true, false, false, false, false, false, false, false] rfl rfl (by kernel_rfl) (fun _ _ _ h => h) (Or.inl ⟨by rfl, ?_⟩) ?_ ?_
  rotate_left
  · intro w'
    go_simp
    with_reducible rfl
  rotate_left
  · simp only [Act.put, List.setIfInBounds_toArray, List.set_cons_zero, List.set_cons_succ, i64_w, i32_w]
    rfl
  refine pure_ (i := 9) (N := some 15) (v := ?_) (a' := ?_) #[true, true, true, true, true, true, true, false, true, true, false, false, false, false, false, false] rfl rfl (by kernel_rfl) (fun _ _ _ h => h) (Or.inl ⟨by rfl, ?_⟩) ?_ ?_
  rotate_left
  · intro w'
    go_simp
    with_reducible rfl
  rotate_left
  · simp only [Act.put, List.setIfInBounds_toArray, List.set_cons_zero, List.set_cons_succ, i64_w, i32_w]
    rfl
  refine pure_ (i := 10) (N := some 16) (v := ?_) (a' := ?_) #[true, true, true, true, true, true, true, false, true, true, true, false, false, false, false, false] rfl rfl (by kernel_rfl) (fun _ _ _ h => h) (Or.inl ⟨by rfl, ?_⟩) ?_ ?_
  rotate_left
  · intro w'
    go_simp
    with_reducible rfl
  rotate_left
  · simp only [Act.put, List.setIfInBounds_toArray, List.set_cons_zero, List.set_cons_succ, i64_w, i32_w]
    rfl
  refine take_ (i := 7) (N := some 13) (v := ?_) (a' := ?_) #[true, true, true, true, true, true, true, true, true, true, true, false, false, false, false, false] rfl rfl (by kernel_rfl) (fun _ _ _ h => h) (Or.inl ⟨by rfl, ?_⟩) hHeld ?_ ?_
  rotate_left
  · rintro w' ⟨s0, s1, s2, s3, s4, s5⟩
    go_simp
    with_reducible rfl
  rotate_left
  · simp only [Act.put, List.setIfInBounds_toArray, List.set_cons_zero, List.set_cons_succ, i64_w, i32_w]
    rfl
  refine take_ (i := 11) (N := some 17) (v := ?_) (a' := ?_) #[true, true, true, true, true, true, true, true, true, true, true, true, false, false, false, false] rfl rfl (by kernel_rfl) (fun _ _ _ h => h) (Or.inl ⟨by rfl, ?_⟩) hHeld ?_ ?_
  rotate_left
  · rintro w' ⟨s0, s1, s2, s3, s4, s5⟩
    go_simp
    with_reducible rfl
  rotate_left
  · simp only [Act.put, List.setIfInBounds_toArray, List.set_cons_zero, List.set_cons_succ, i64_w, i32_w]
    rfl
  refine pure_ (i := 12) (N := some 18) (v := ?_) (a' := ?_) #[true, true, true, true, true, true, true, true, true, true, true, true, true, false, false, false] rfl rfl (by kernel_rfl) (fun _ _ _ h => h) (Or.inl ⟨by rfl, ?_⟩) ?_ ?_
  rotate_left
  · intro w'
    go_simp
    with_reducible rfl
  rotate_left
  · simp only [Act.put, List.setIfInBounds_toArray, List.set_cons_zero, List.set_cons_succ, i64_w, i32_w]
    rfl
  refine last_ (i := 13) (N := none) #[true, true, true, true, true, true, true, true, true, true, true, true, true, true, false, false] rfl rfl (by kernel_rfl) (by decide) (fun K hK => ?_)
  generalize w.drew = wd at HXd HFR HW1 hHeld ⊢
  have b0 := HXd.out.1
  have b1 := HXd.out.2.1
  have b2 := HXd.out.2.2
  have b3 := HFR.out
  have b4 := HW1.out
  refine skip_ (w1 := ?_) (by rfl) rfl ?_ ?_
  rotate_left
  · go_simp
    rfl
  refine hK.out _ _ ?_
  clear hK K
  refine pure_ (i := 14) (N := some 19) (v := ?_) (a' := ?_) #[true, true, true, true, true, true, true, true, true, true, true, true, true, true, true, false] rfl rfl (by kernel_rfl) (fun _ _ _ h => h) (Or.inl ⟨by rfl, ?_⟩) ?_ ?_
  rotate_left
  · intro w'
    go_simp
    with_reducible rfl
  rotate_left
  · simp only [Act.put, List.setIfInBounds_toArray, List.set_cons_zero, List.set_cons_succ, i64_w, i32_w]
    rfl
  refine last_ (i := 15) (N := none) #[true, true, true, true, true, true, true, true, true, true, true, true, true, true, true, true] rfl rfl (by kernel_rfl) (by decide) (fun K hK => ?_)
  have b5 := HY1.out.1
  have b6 := HY1.out.2.1
  have b7 := HY1.out.2.2
  have b8 := HFR1.out
  refine skip_ (w1 := ?_) (by rfl) rfl ?_ ?_
  rotate_left
  · go_simp
    rfl
  refine hK.out _ _ ?_
  clear hK K
  refine done_ (by kernel_rfl) ?_
  go_wp2_with fail
  refine bodyPost_end (results_none rfl _ _ _) rfl ?_
  rw [HSW.out]
  exact ⟨⟨_, rfl⟩, HR2.out, HT.out⟩
/-- What block h holds: a row of spans. -/
structure Held (w : World) (B h : Nat) (v : Value) (l : List S31) : Prop where
  blk : w.heap[h]? = some (.cells #[v] 54 (0, 0))
  row : Kd.R k31 31 w B (fun _ => True) v l
theorem Held.ne {w : World} {B h : Nat} {v : Value} {l : List S31} (H : Held w B h v l) : some h ≠ v.ownBlock := Kd.R_ne H.row H.blk (by decide)
theorem Held.cell {w : World} {B h : Nat} {v : Value} {l : List S31} (H : Held w B h v l) : w.cell? ⟨h, 0, none⟩ = some v := blk_cell H.blk 0
theorem Held.below {w w1 : World} {B h : Nat} {v : Value} {l : List S31} (H : Held w B h v l) (hb : Below w.heap.size w w1) : Held w1 B h v l := ⟨blk_below H.blk hb, Kd.R_below H.row hb⟩
/-- What a call does to a heap. -/
structure Turns (w w' : World) (B h : Nat) (v : Value) (l' : List S31) : Prop where
  ex : ∃ v', Held w' B h v' l' ∧ (v'.ownBlock = v.ownBlock ∨ ∃ b, v'.ownBlock = some b ∧ w.heap.size ≤ b)
  touch : Touch w w' (some h) v.ownBlock
theorem turns_store {w w1 : World} {B h : Nat} {v v1 : Value} {l' : List S31} (hb : w1.heap[h]? = some (.cells #[v] 54 (0, 0))) (h1 : Kd.R k31 31 w1 B (fun _ => True) v1 l') (hg : w.grownBy w1 v.ownBlock)
    (hat : v1.ownBlock = v.ownBlock ∨ ∃ b, v1.ownBlock = some b ∧ w.heap.size ≤ b) : Turns w (w1.setCell ⟨h, 0, none⟩ v1) B h v l' := by
  refine ⟨⟨v1, ⟨blk_put hb 0 v1 rfl, Kd.R_set h1 hb (by decide) 0 v1⟩, hat⟩, ⟨hg.os, hg.tape, hg.output, by simpa [World.setCell] using hg.size, fun k hk hh hr => ?_⟩⟩
  rw [Below.heap_setCell _ _ _ k (fun e => hh (by rw [e]))]
  exact hg.block k hk hr
theorem assert31 (x : Value) (w : World) : (Instr.typeAssert (.iface 31 x) 20 31 false).run Tryd.prog w = .ok x w := by kernel_rfl
set_option maxRecDepth 100000 in
set_option maxHeartbeats 2000000 in
theorem meth_Push (w : World) (B h : Nat) (v : Value) (l : List S31) (x : S31) (H : Held w B h v l) (hB : B ≤ w.heap.size) (hl : (l.length + 1) * 24 ≤ 140737488355328) :
    Calls Tryd.prog 94 #[.pointer (some ⟨h, 0, none⟩), .iface 31 (.agg #[.int .i64 x.f0, .int .i64 x.f1, .int .i64 x.f2])] w fun e w' => (∃ u, e = .returned u) ∧ Turns w w' B h v (l ++ [x]) := by
  have u31 := Tryd.underlying31
  have hta := assert31
  have HC := Aside0.mk H.cell
  have HH := Aside0.mk H
  clear H
  go_enter Tryd.func94, Tryd.ntmps94
  go_wp2_with fail
  refine start_ (n := 10) (S := fun w' => w'.cell? ⟨h, 0, none⟩ = some v) (ds := [9]) #[false, false, false, false, false, false, false, false, false, false] (by kernel_rfl) rfl rfl (HC.out) (fun hHeld => ?_)
  refine pure_ (i := 0) (N := some 4) (v := ?_) (a' := ?_) #[true, false, false, false, false, false, false, false, false, false] rfl rfl (by kernel_rfl) (fun _ _ _ h => h) (Or.inl ⟨by rfl, ?_⟩) ?_ ?_
  rotate_left
  · intro w'
    go_simp
    with_reducible rfl
  rotate_left
  · simp only [Act.put, List.setIfInBounds_toArray, List.set_cons_zero, List.set_cons_succ, i64_w, i32_w]
    rfl
  refine pure_ (i := 1) (N := some 5) (v := ?_) (a' := ?_) #[true, true, false, false, false, false, false, false, false, false] rfl rfl (by kernel_rfl) (fun _ _ _ h => h) (Or.inl ⟨by rfl, ?_⟩) ?_ ?_
  rotate_left
  · intro w'
    go_simp
    with_reducible rfl
  rotate_left
  · simp only [Act.put, List.setIfInBounds_toArray, List.set_cons_zero, List.set_cons_succ, i64_w, i32_w]
    rfl
  refine pure_ (i := 2) (N := some 6) (v := ?_) (a' := ?_) #[true, true, true, false, false, false, false, false, false, false] rfl rfl (by kernel_rfl) (fun _ _ _ h => h) (Or.inl ⟨by rfl, ?_⟩) ?_ ?_
  rotate_left
  · intro w'
    go_simp
    with_reducible rfl
  rotate_left
  · simp only [Act.put, List.setIfInBounds_toArray, List.set_cons_zero, List.set_cons_succ, i64_w, i32_w]
    rfl
  refine pure_ (i := 4) (N := some 8) (v := ?_) (a' := ?_) #[true, true, true, false, true, false, false, false, false, false] rfl rfl (by kernel_rfl) (fun _ _ _ h => h) (Or.inl ⟨by rfl, ?_⟩) ?_ ?_
  rotate_left
  · intro w'
    go_simp
    with_reducible rfl
  rotate_left
  · simp only [Act.put, List.setIfInBounds_toArray, List.set_cons_zero, List.set_cons_succ, i64_w, i32_w]
    rfl
  refine pure_ (i := 5) (N := some 9) (v := ?_) (a' := ?_) #[true, true, true, false, true, true, false, false, false, false] rfl rfl (by kernel_rfl) (fun _ _ _ h => h) (Or.inl ⟨by rfl, ?_⟩) ?_ ?_
  rotate_left
  · intro w'
    go_simp
    with_reducible rfl
  rotate_left
  · simp only [Act.put, List.setIfInBounds_toArray, List.set_cons_zero, List.set_cons_succ, i64_w, i32_w]
    rfl
  refine take_ (i := 3) (N := some 7) (v := ?_) (a' := ?_) #[true, true, true, true, true, true, false, false, false, false] rfl rfl (by kernel_rfl) (fun _ _ _ h => h) (Or.inl ⟨by rfl, ?_⟩) hHeld ?_ ?_
  rotate_left
  · intro w' s0
    go_simp
    with_reducible rfl
  rotate_left
  · simp only [Act.put, List.setIfInBounds_toArray, List.set_cons_zero, List.set_cons_succ, i64_w, i32_w]
    rfl
  refine one_ (i := 6) (N := some 10) #[true, true, true, true, true, true, true, false, false, false] rfl rfl (by kernel_rfl) (by decide) (fun K hK => ?_)
  refine value_ (w1 := ?_) (v := ?_) (by rfl) rfl ?_ ?_
  rotate_left 2
  · go_simp
    constructor
    · rfl
    · rfl
  refine hK.out _ _ (pw_cell_below (below_alloc (Below.refl _ _) _) hHeld) (fun hHeld => ?_)
  clear hK K
  refine norm_ (a' := ?_) ?_ ?_
  rotate_left
  · show Act.put _ (some 10) _ = _
    simp only [Act.put, List.setIfInBounds_toArray, List.set_cons_zero, List.set_cons_succ, i64_w, i32_w]
    rfl
  refine one_ (i := 7) (N := some 11) #[true, true, true, true, true, true, true, true, false, false] rfl rfl (by kernel_rfl) (by decide) (fun K hK => ?_)
  refine Kd.R_append_step k31 (w0 := w.drew) (W := w.drew) B (by rfl) (.tmp 7) (.tmp 10) 54 31 (.agg #[(.int .i64 0), (.int .i64 0), (.int .i64 0)]) 24 rfl Tryd.underlying54 info31 rfl (by decide) (by omega) v l x [.int .i64 x.f0, .int .i64 x.f1, .int .i64 x.f2] (fun _ => True) (fun _ => False) rfl rfl (k31_mkM _ _ _ x) (fun _ hk => hk.elim) (fun _ _ => trivial) (Kd.R_drew HH.out.row) (Below.refl _ _) hB hl ?_
  intro v1 w1 h1 hb1 hg1 hat1
  have F1 := Aside0.mk (blk_grown (blk_drew HH.out.blk) hg1 HH.out.ne)
  refine hK.out _ _ (blk_cell F1.out 0) (fun hHeld => ?_)
  clear hK K
  refine norm_ (a' := ?_) ?_ ?_
  rotate_left
  · show Act.put _ (some 11) _ = _
    simp only [Act.put, List.setIfInBounds_toArray, List.set_cons_zero, List.set_cons_succ, i64_w, i32_w]
    rfl
  refine pure_ (i := 8) (N := some 12) (v := ?_) (a' := ?_) #[true, true, true, true, true, true, true, true, true, false] rfl rfl (by kernel_rfl) (fun _ _ _ h => h) (Or.inl ⟨by rfl, ?_⟩) ?_ ?_
  rotate_left
  · intro w'
    go_simp
    with_reducible rfl
  rotate_left
  · simp only [Act.put, List.setIfInBounds_toArray, List.set_cons_zero, List.set_cons_succ, i64_w, i32_w]
    rfl
  refine last_ (i := 9) (N := none) #[true, true, true, true, true, true, true, true, true, true] rfl rfl (by kernel_rfl) (by decide) (fun K hK => ?_)
  have b0 : w1.cell? ⟨h, 0, none⟩ = some v := blk_cell F1.out 0
  have b1 := blk_frozen F1.out 0
  obtain ⟨A1, c1, e1⟩ := Kd.R_slice h1
  subst e1
  refine skip_ (w1 := ?_) (by rfl) rfl ?_ ?_
  rotate_left
  · go_simp
    rfl
  refine hK.out _ _ ?_
  clear hK K
  refine done_ (by kernel_rfl) ?_
  go_wp2_with fail
  refine bodyPost_end (results_none rfl _ _ _) rfl ?_
  have hlen : (l ++ [x]).length = l.length + 1 := by simp
  rw [hlen] at h1 hat1
  exact ⟨⟨_, rfl⟩, turns_store F1.out h1 ⟨hg1.os, hg1.tape, hg1.output, hg1.size, hg1.block⟩ hat1⟩
set_option maxRecDepth 100000 in
set_option maxHeartbeats 2000000 in
theorem meth_Pop (w : World) (B h n : Nat) (v : Value) (l : List S31) (H : Held w B h v l) (hn : l.length = n + 1) :
    Calls Tryd.prog 93 #[.pointer (some ⟨h, 0, none⟩)] w fun e w' => e = .returned (.iface 31 (.agg #[.int .i64 (l.getD n z31).f0, .int .i64 (l.getD n z31).f1, .int .i64 (l.getD n z31).f2])) ∧ Turns w w' B h v (l.take n) := by
  have u31 := Tryd.underlying31
  obtain ⟨g, c, rfl⟩ := R31_nonil H.row (by omega)
  have hx := R31_cells H.row n (by omega)
  have hrt := Kd.R_take (m := n) H.row (by omega)
  have hC := H.cell
  have HH := Aside0.mk H
  have hfr := blk_frozen H.blk 0
  obtain ⟨X, hX⟩ : ∃ X, l.getD n z31 = X := ⟨_, rfl⟩
  rw [hX] at hx ⊢
  clear hX
  obtain ⟨hx0, hx1, hx2⟩ := hx
  have HRT := Aside0.mk hrt
  clear hrt H
  rw [hn] at hC
  obtain ⟨hmax, hnc⟩ : n + 1 ≤ 9223372036854775807 ∧ (n : Int) ≤ (c : Int) := by
    rcases (R31_own HH.out.row).2 with ⟨e, _⟩ | ⟨g', c', cur, e, _, _, h1, h2, _⟩
    · cases e
    · injection e with _ _ e3
      unfold maxLen at h2; omega
  have hw1 : wrap64 (n : Int) = (n : Int) := by unfold wrap64; omega
  have hn1 : (n : Int) < (n : Int) + 1 := by omega
  have hn2 : (n : Int) ≤ (n : Int) + 1 := by omega
  have hlt := blk_lt HH.out.blk
  obtain ⟨W, hW⟩ : ∃ W, w.alloc (.cells #[.int .i64 X.f0, .int .i64 X.f1, .int .i64 X.f2] 31) = W := ⟨_, rfl⟩
  obtain ⟨gb, hgb⟩ : ∃ gb, w.heap.size = gb := ⟨_, rfl⟩
  have hbW : W.heap[gb]? = some (.cells #[.int .i64 X.f0, .int .i64 X.f1, .int .i64 X.f2] 31 (0, 0)) := by rw [← hW, ← hgb]; exact blk_new _ _
  have hhW : W.heap[h]? = some (.cells #[.slice (some ⟨g, 0, none⟩) (n + 1) c] 54 (0, 0)) := by rw [← hW, ← hn]; exact blk_alloc HH.out.blk _
  have HBW := Aside0.mk hbW
  have HHW := Aside0.mk hhW
  have c0 : W.cell? ⟨gb, 0, none⟩ = some (.int .i64 X.f0) := blk_cell hbW 0
  have c1 : W.cell? ⟨gb, 1, none⟩ = some (.int .i64 X.f1) := blk_cell hbW 1
  have c2 : W.cell? ⟨gb, 2, none⟩ = some (.int .i64 X.f2) := blk_cell hbW 2
  have d0 : W.cell? ⟨h, 0, none⟩ = some (.slice (some ⟨g, 0, none⟩) (n + 1) c) := blk_cell hhW 0
  have d1 := blk_frozen hhW 0
  have hne1 : ¬ (gb = h) := by omega
  have hne2 : ¬ (h = gb) := by omega
  have HG := Aside0.mk (⟨by rw [← hW]; rfl, by rw [← hW]; rfl, by rw [← hW]; rfl, by rw [← hW]; simp, fun k hk _ => by rw [← hW]; exact Below.heap_alloc w _ k hk⟩ : w.grownBy W (Value.slice (some ⟨g, 0, none⟩) (n + 1) c).ownBlock)
  have HRW := Aside0.mk (show Kd.R k31 31 W B (fun _ => True) (.slice (some ⟨g, 0, none⟩) n c) (l.take n) by rw [← hW]; exact Kd.R_alloc HRT.out _)
  clear hbW hhW
  go_enter Tryd.func93, Tryd.ntmps93
  rw [hn]
  go_wp2_with fail
  go_ret
  exact ⟨rfl, turns_store HHW.out HRW.out HG.out (.inl rfl)⟩
/-- heap.up: from place j. -/
def upH : Nat → List S31 → Nat → List S31
  | 0, l, _ => l
  | f + 1, l, j => if j = 0 then l else if spLt (l.getD j z31) (l.getD ((j - 1) / 2) z31) = true then upH f (swapL l ((j - 1) / 2) j) ((j - 1) / 2) else l
/-- The child that heap.down looks at. -/
def pick2 (l : List S31) (i n : Nat) : Nat := if 2 * i + 2 < n ∧ spLt (l.getD (2 * i + 2) z31) (l.getD (2 * i + 1) z31) = true then 2 * i + 2 else 2 * i + 1
/-- heap.down: from place i, among the first n. -/
def downH : Nat → List S31 → Nat → Nat → List S31
  | 0, l, _, _ => l
  | f + 1, l, i, n => if 2 * i + 1 < n then (if spLt (l.getD (pick2 l i n) z31) (l.getD i z31) = true then downH f (swapL l i (pick2 l i n)) (pick2 l i n) n else l) else l
theorem upH_fuel : ∀ (f f' : Nat) (l : List S31) (j : Nat), j < f → j < f' → upH f l j = upH f' l j := by
  intro f
  induction f with
  | zero => intro f' l j h; omega
  | succ n ih =>
    intro f' l j h h'
    cases f' with
    | zero => omega
    | succ n' =>
      unfold upH
      by_cases hj : j = 0
      · rw [if_pos hj, if_pos hj]
      · rw [if_neg hj, if_neg hj]
        split
        · exact ih n' _ _ (by omega) (by omega)
        · rfl
theorem pick2_gt (l : List S31) (i n : Nat) : i < pick2 l i n := by
  unfold pick2
  split
  · omega
  · omega
theorem downH_fuel : ∀ (f f' : Nat) (l : List S31) (i n : Nat), n ≤ i + f → n ≤ i + f' → downH f l i n = downH f' l i n := by
  intro f
  induction f with
  | zero =>
    intro f' l i n h h'
    cases f' with
    | zero => rfl
    | succ k => rw [downH, downH, if_neg (by omega)]
  | succ k ih =>
    intro f' l i n h h'
    cases f' with
    | zero => rw [downH, downH, if_neg (by omega)]
    | succ k' =>
      have hg := pick2_gt l i n
      rw [downH, downH]
      split
      · split
        · exact ih k' _ _ _ (by omega) (by omega)
        · rfl
      · rfl
theorem downH_length : ∀ (f : Nat) (l : List S31) (i n : Nat), (downH f l i n).length = l.length := by
  intro f
  induction f with
  | zero => intro l i n; rfl
  | succ k ih =>
    intro l i n
    unfold downH
    split
    · split
      · rw [ih, swapL_length]
      · rfl
    · rfl
theorem upH_length : ∀ (f : Nat) (l : List S31) (j : Nat), (upH f l j).length = l.length := by
  intro f
  induction f with
  | zero => intro l j; rfl
  | succ k ih =>
    intro l j
    unfold upH
    split
    · rfl
    · split
      · rw [ih, swapL_length]
      · rfl
theorem Turns.then_ {w w1 w2 : World} {B h : Nat} {v v1 : Value} {l' : List S31} (hat : v1.ownBlock = v.ownBlock ∨ ∃ b, v1.ownBlock = some b ∧ w.heap.size ≤ b) (t : Touch w w1 (some h) v.ownBlock) (T : Turns w1 w2 B h v1 l') : Turns w w2 B h v l' := by
  obtain ⟨⟨v2, H2, hat2⟩, t2⟩ := T
  refine ⟨⟨v2, H2, ?_⟩, t.then_ t2 ?_⟩
  · rcases hat2 with e | ⟨b, hb, hle⟩
    · rw [e]; exact hat
    · exact .inr ⟨b, hb, Nat.le_trans t.size hle⟩
  · rcases hat with e | ⟨b, hb, hle⟩
    · exact .inl e
    · exact .inr (fun k hk => by rw [hb] at hk; injection hk with hk; omega)
theorem Held.swapped {w w' : World} {B h g c : Nat} {l l' : List S31} (H : Held w B h (.slice (some ⟨g, 0, none⟩) l.length c) l) (hR : Kd.R k31 31 w' B (fun _ => True) (.slice (some ⟨g, 0, none⟩) l.length c) l') (t : Touch w w' none (some g)) : Held w' B h (.slice (some ⟨g, 0, none⟩) l.length c) l' :=
  ⟨(t.block h (blk_lt H.blk) (by simp) (fun e => H.ne (by rw [e]; rfl))).trans H.blk, hR⟩
set_option maxRecDepth 100000 in
set_option maxHeartbeats 4000000 in
theorem heap_up (w : World) (B h : Nat) (v : Value) (l : List S31) (j : Nat) (H : Held w B h v l) (hj : j < l.length) :
    Calls Tryd.prog 42 #[.iface 56 (.pointer (some ⟨h, 0, none⟩)), .int .i64 j] w fun e w' => (∃ u, e = .returned u) ∧ Turns w w' B h v (upH (j + 1) l j) := by
  obtain ⟨g, c, rfl⟩ := R31_nonil H.row (by omega)
  obtain ⟨N, hN⟩ : ∃ N, upH (j + 1) l j = N := ⟨_, rfl⟩
  rw [hN]
  have HN := Aside0.mk hN
  clear hN
  have HH := Aside0.mk H
  have HT := Aside0.mk (Touch.refl w (some h) (some g))
  clear H
  obtain ⟨n, hn⟩ : ∃ n, l.length = n := ⟨_, rfl⟩
  rw [hn] at hj HH ⊢
  have HL := Aside0.mk hn
  clear hn
  have hmax : n ≤ 9223372036854775807 := by
    rcases (R31_own HH.out.row).2 with ⟨e, _⟩ | ⟨g', c', cur, e, _, _, h1, h2, _⟩
    · cases e
    · have := HL.out; unfold maxLen at h2; omega
  go_enter Tryd.func42, Tryd.ntmps42
  go_wp2_with fail
  go_loopg [1] j (fun q v1 w' => ∃ l' : List S31, v1 = .int .i64 q ∧ q < n ∧ Aside0 (l'.length = n) ∧ Aside0 (upH (q + 1) l' q = N) ∧ Aside0 (Held w' B h (.slice (some ⟨g, 0, none⟩) n c) l') ∧ Aside0 (Touch w w' (some h) (some g)))
  case atStart => exact ⟨l, rfl, hj, HL, HN, HH, HT⟩
  case round =>
    clear HL HN HH HT
    obtain ⟨l', rfl, hq, HL, HN, HH, HT⟩ := hrel
    have hl' := HL.out
    have ml := m_Less h _ _ HH.out.cell
    have ms := m_Swap h _ _ HH.out.cell
    cases gk with
    | zero =>
      obtain rfl : N = l' := by rw [← HN.out]; rfl
      have e1 : IntKind.i64.wrap (((0 : Nat) : Int) - 1) = -1 := by kernel_rfl
      go_wp2_with fail
      refine bodyPost_end (results_none rfl _ _ _) rfl ?_
      exact ⟨⟨_, rfl⟩, ⟨⟨_, HH.out, .inl rfl⟩, HT.out⟩⟩
    | succ m =>
      obtain ⟨q, hqd⟩ : ∃ q, m / 2 = q := ⟨_, rfl⟩
      have hw1 : wrap64 (m : Int) = (m : Int) := by unfold wrap64; omega
      have hdv : (m : Int) / 2 = (q : Int) := by omega
      have htd : Int.tdiv (m : Int) 2 = (q : Int) := by rw [Int.tdiv_eq_ediv_of_nonneg (by omega)]; exact hdv
      have hwq : wrap64 (q : Int) = (q : Int) := by unfold wrap64; omega
      have hne : ¬ ((q : Int) = (m : Int) + 1) := by omega
      have hS := HN.out
      rw [upH, if_neg (by omega), show m + 1 - 1 = m by omega, hqd] at hS
      obtain ⟨b, hb⟩ : ∃ b, spLt (l'.getD (m + 1) z31) (l'.getD q z31) = b := ⟨_, rfl⟩
      rw [hb] at hS
      have HS := Aside0.mk hS
      have HBB := Aside0.mk hb
      clear hS hb
      go_wp2_with fail
      have cL := meth_Less wr B g c (fun _ => True) l' (m + 1) q (by omega) (by omega) (by rw [hl']; exact HH.out.row)
      rw [hl', show (((m + 1 : Nat) : Int)) = (m : Int) + 1 from rfl] at cL
      refine cL.mono ?_
      clear cL
      rintro e w3 ⟨rfl, hb⟩
      have H3 := Aside0.mk (HH.out.below hb)
      have HT3 := Aside0.mk (HT.out.then_ (Touch.of_below (some h) (some g) hb) (.inl rfl))
      have ms3 := m_Swap h _ _ H3.out.cell
      clear hb
      rw [HBB.out]
      cases b with
      | false =>
        obtain rfl : N = l' := by rw [← HS.out]; rfl
        go_wp2_with fail
        refine bodyPost_end (results_none rfl _ _ _) rfl ?_
        exact ⟨⟨_, rfl⟩, ⟨⟨_, H3.out, .inl rfl⟩, HT3.out⟩⟩
      | true =>
        have HN' := Aside0.mk (show upH (m + 1) (swapL l' q (m + 1)) q = N by rw [← HS.out]; rfl)
        go_wp2_with fail
        have cS := meth_Swap w3 B g c (fun _ => True) l' q (m + 1) (by omega) (by omega) (by rw [hl']; exact H3.out.row)
        rw [hl', show (((m + 1 : Nat) : Int)) = (m : Int) + 1 from rfl] at cS
        refine cS.mono ?_
        clear cS
        rintro e w4 ⟨⟨u, rfl⟩, hR4, hT4⟩
        have hsl : (swapL l' q (m + 1)).length = n := by rw [swapL_length]; exact hl'
        have H4 := Aside0.mk (show Held w4 B h (.slice (some ⟨g, 0, none⟩) n c) (swapL l' q (m + 1)) by
          have H3' := H3.out
          rw [← hl'] at H3' hR4 ⊢
          exact H3'.swapped hR4 (hT4 none))
        have HT4 := Aside0.mk (HT3.out.then_ (hT4 (some h)) (.inl rfl))
        have HL4 := Aside0.mk hsl
        clear hR4 hT4 hsl
        go_wp2_with fail
        go_roundg q
        case measure => omega
        case rel => exact ⟨_, rfl, by omega, HL4, ⟨(upH_fuel (q + 1) (m + 1) _ q (by omega) (by omega)).trans HN'.out⟩, H4, HT4⟩
/-- heap.Push. -/
def pushH (l : List S31) (x : S31) : List S31 := upH (l.length + 1) (l ++ [x]) l.length
set_option maxRecDepth 100000 in
set_option maxHeartbeats 2000000 in
theorem heap_Push (w : World) (B h : Nat) (v : Value) (l : List S31) (x : S31) (H : Held w B h v l) (hB : B ≤ w.heap.size) (hl : (l.length + 1) * 24 ≤ 140737488355328) :
    Calls Tryd.prog 23 #[.iface 56 (.pointer (some ⟨h, 0, none⟩)), .iface 31 (.agg #[.int .i64 x.f0, .int .i64 x.f1, .int .i64 x.f2])] w fun e w' => (∃ u, e = .returned u) ∧ Turns w w' B h v (pushH l x) := by
  have q1 := m_Push
  have HH := Aside0.mk H
  clear H
  have hmax : (l.length : Int) ≤ 9223372036854775807 := by omega
  have hw1 : wrap64 (l.length : Int) = (l.length : Int) := by unfold wrap64; omega
  go_enter Tryd.func23, Tryd.ntmps23
  go_wp2_with (simp only [q1, m_Push])
  refine (meth_Push w B h v l x HH.out hB hl).mono ?_
  rintro e w3 ⟨⟨u, rfl⟩, ⟨⟨v3, H3, hat⟩, t3⟩⟩
  obtain ⟨A3, c3, e3⟩ := Kd.R_slice H3.row
  subst e3
  have HH3 := Aside0.mk H3
  have T3 := Aside0.mk t3
  have HAT := Aside0.mk hat
  have ml := m_Len h _ _ H3.cell
  clear H3 t3 hat
  rw [List.length_append, List.length_singleton] at ml
  go_wp2_with fail
  refine (meth_Len _ _ _ _).mono ?_
  rintro e w4 ⟨rfl, rfl⟩
  go_wp2_with fail
  have cU := heap_up w4 B h _ (l ++ [x]) l.length HH3.out (by simp)
  refine cU.mono ?_
  rintro e w5 ⟨⟨u5, rfl⟩, hT⟩
  have HT := Aside0.mk hT
  clear hT cU
  go_wp2_with fail
  refine bodyPost_end (results_none rfl _ _ _) rfl ?_
  exact ⟨⟨_, rfl⟩, HT.out.then_ HAT.out T3.out⟩
set_option maxRecDepth 100000 in
set_option maxHeartbeats 4000000 in
theorem heap_down (w : World) (B h m : Nat) (v : Value) (l : List S31) (H : Held w B h v l) (hm : m ≤ l.length) (h0 : 0 < l.length) (hl : l.length ≤ 2305843009213693952) :
    Calls Tryd.prog 44 #[.iface 56 (.pointer (some ⟨h, 0, none⟩)), .int .i64 0, .int .i64 m] w fun e w' => (∃ u, e = .returned u) ∧ Turns w w' B h v (downH m l 0 m) := by
  obtain ⟨g, c, rfl⟩ := R31_nonil H.row h0
  obtain ⟨N, hN⟩ : ∃ N, downH m l 0 m = N := ⟨_, rfl⟩
  rw [hN]
  have HN := Aside0.mk hN
  clear hN
  have HH := Aside0.mk H
  have HT := Aside0.mk (Touch.refl w (some h) (some g))
  clear H
  obtain ⟨n, hn⟩ : ∃ n, l.length = n := ⟨_, rfl⟩
  rw [hn] at hm h0 hl HH ⊢
  have HL := Aside0.mk hn
  clear hn
  go_enter Tryd.func44, Tryd.ntmps44
  go_wp2_with fail
  go_loopg [7] m (fun q v1 w' => ∃ (i : Nat) (l' : List S31), v1 = .int .i64 i ∧ i + q = m ∧ Aside0 (l'.length = n) ∧ Aside0 (downH q l' i m = N) ∧ Aside0 (Held w' B h (.slice (some ⟨g, 0, none⟩) n c) l') ∧ Aside0 (Touch w w' (some h) (some g)))
  case atStart => exact ⟨0, l, rfl, by omega, HL, HN, HH, HT⟩
  case round =>
    clear HL HN HH HT
    obtain ⟨i, l', rfl, hiq, HL, HN, HH, HT⟩ := hrel
    have hl' := HL.out
    have ml := m_Less h _ _ HH.out.cell
    have ms := m_Swap h _ _ HH.out.cell
    obtain ⟨a, ha⟩ : ∃ a, 2 * i + 1 = a := ⟨_, rfl⟩
    obtain ⟨b, hb⟩ : ∃ b, 2 * i + 2 = b := ⟨_, rfl⟩
    have w1 : wrap64 (2 * (i : Int)) = 2 * (i : Int) := by unfold wrap64; omega
    have w2 : 2 * (i : Int) + 1 = (a : Int) := by omega
    have w3 : wrap64 (a : Int) = (a : Int) := by unfold wrap64; omega
    have w4 : (a : Int) + 1 = (b : Int) := by omega
    have w5 : wrap64 (b : Int) = (b : Int) := by unfold wrap64; omega
    have w6 : decide ((a : Int) < 0) = false := decide_eq_false (by omega)
    by_cases ham : a < m
    · have c1 : decide ((a : Int) ≥ (m : Int)) = false := decide_eq_false (by omega)
      cases gk with
      | zero => omega
      | succ q =>
        have hS := HN.out
        rw [downH, if_pos (by omega)] at hS
        obtain ⟨j, hj⟩ : ∃ j, pick2 l' i m = j := ⟨_, rfl⟩
        rw [hj] at hS
        have HS := Aside0.mk hS
        clear hS
        have hjr : j < m ∧ i < j := by
          rw [← hj]; unfold pick2
          split
          · omega
          · omega
        have hP : (if b < m ∧ spLt (l'.getD b z31) (l'.getD a z31) = true then b else a) = j := by rw [← hj, ← ha, ← hb]; rfl
        clear hj
        by_cases hbm : b < m
        · have c2 : decide ((b : Int) < (m : Int)) = true := decide_eq_true (by omega)
          go_wp2_with fail
          have cL := meth_Less wr B g c (fun _ => True) l' b a (by omega) (by omega) (by rw [hl']; exact HH.out.row)
          rw [hl'] at cL
          refine cL.mono ?_
          clear cL
          rintro e w7 ⟨rfl, hb7⟩
          have H7 := Aside0.mk (HH.out.below hb7)
          have T7 := Aside0.mk (HT.out.then_ (Touch.of_below (some h) (some g) hb7) (.inl rfl))
          have ml7 := m_Less h _ _ H7.out.cell
          clear hb7
          obtain ⟨r, hr⟩ : ∃ r, spLt (l'.getD b z31) (l'.getD a z31) = r := ⟨_, rfl⟩
          rw [hr] at hP ⊢
          clear hr
          cases r with
          | true =>
            rw [if_pos ⟨hbm, rfl⟩] at hP
            subst hP
            go_wp2_with fail
            have cL := meth_Less w7 B g c (fun _ => True) l' b i (by omega) (by omega) (by rw [hl']; exact H7.out.row)
            rw [hl'] at cL
            refine cL.mono ?_
            clear cL
            rintro e wa ⟨rfl, hb9⟩
            have Ha := Aside0.mk (H7.out.below hb9)
            have Ta := Aside0.mk (T7.out.then_ (Touch.of_below (some h) (some g) hb9) (.inl rfl))
            have msa := m_Swap h _ _ Ha.out.cell
            clear hb9
            obtain ⟨p, hp⟩ : ∃ p, spLt (l'.getD b z31) (l'.getD i z31) = p := ⟨_, rfl⟩
            have hS2 := HS.out
            rw [hp] at hS2 ⊢
            clear hp
            cases p with
            | false =>
              obtain rfl : N = l' := by rw [← hS2]; rfl
              go_wp2_with fail
              go_ret
              exact ⟨⟨_, rfl⟩, ⟨⟨_, Ha.out, .inl rfl⟩, Ta.out⟩⟩
            | true =>
              have HN' := Aside0.mk (show downH q (swapL l' i b) b m = N by rw [← hS2]; rfl)
              clear hS2
              go_wp2_with fail
              have cS := meth_Swap wa B g c (fun _ => True) l' i b (by omega) (by omega) (by rw [hl']; exact Ha.out.row)
              rw [hl'] at cS
              refine cS.mono ?_
              clear cS
              rintro e wb ⟨⟨u, rfl⟩, hR9, hT9⟩
              have hsl : (swapL l' i b).length = n := by rw [swapL_length]; exact hl'
              have Hb := Aside0.mk (show Held wb B h (.slice (some ⟨g, 0, none⟩) n c) (swapL l' i b) by
                have H3' := Ha.out
                rw [← hl'] at H3' hR9 ⊢
                exact H3'.swapped hR9 (hT9 none))
              have Tb := Aside0.mk (Ta.out.then_ (hT9 (some h)) (.inl rfl))
              have Lb := Aside0.mk hsl
              clear hR9 hT9 hsl
              go_wp2_with fail
              go_roundg (m - b)
              case measure => omega
              case rel => exact ⟨b, _, rfl, by omega, Lb, ⟨(downH_fuel (m - b) q _ b m (by omega) (by omega)).trans HN'.out⟩, Hb, Tb⟩
          | false =>
            rw [if_neg (by simp)] at hP
            subst hP
            go_wp2_with fail
            have cL := meth_Less w7 B g c (fun _ => True) l' a i (by omega) (by omega) (by rw [hl']; exact H7.out.row)
            rw [hl'] at cL
            refine cL.mono ?_
            clear cL
            rintro e wa ⟨rfl, hb9⟩
            have Ha := Aside0.mk (H7.out.below hb9)
            have Ta := Aside0.mk (T7.out.then_ (Touch.of_below (some h) (some g) hb9) (.inl rfl))
            have msa := m_Swap h _ _ Ha.out.cell
            clear hb9
            obtain ⟨p, hp⟩ : ∃ p, spLt (l'.getD a z31) (l'.getD i z31) = p := ⟨_, rfl⟩
            have hS2 := HS.out
            rw [hp] at hS2 ⊢
            clear hp
            cases p with
            | false =>
              obtain rfl : N = l' := by rw [← hS2]; rfl
              go_wp2_with fail
              go_ret
              exact ⟨⟨_, rfl⟩, ⟨⟨_, Ha.out, .inl rfl⟩, Ta.out⟩⟩
            | true =>
              have HN' := Aside0.mk (show downH q (swapL l' i a) a m = N by rw [← hS2]; rfl)
              clear hS2
              go_wp2_with fail
              have cS := meth_Swap wa B g c (fun _ => True) l' i a (by omega) (by omega) (by rw [hl']; exact Ha.out.row)
              rw [hl'] at cS
              refine cS.mono ?_
              clear cS
              rintro e wb ⟨⟨u, rfl⟩, hR9, hT9⟩
              have hsl : (swapL l' i a).length = n := by rw [swapL_length]; exact hl'
              have Hb := Aside0.mk (show Held wb B h (.slice (some ⟨g, 0, none⟩) n c) (swapL l' i a) by
                have H3' := Ha.out
                rw [← hl'] at H3' hR9 ⊢
                exact H3'.swapped hR9 (hT9 none))
              have Tb := Aside0.mk (Ta.out.then_ (hT9 (some h)) (.inl rfl))
              have Lb := Aside0.mk hsl
              clear hR9 hT9 hsl
              go_wp2_with fail
              go_roundg (m - a)
              case measure => omega
              case rel => exact ⟨a, _, rfl, by omega, Lb, ⟨(downH_fuel (m - a) q _ a m (by omega) (by omega)).trans HN'.out⟩, Hb, Tb⟩
        · have c2 : decide ((b : Int) < (m : Int)) = false := decide_eq_false (by omega)
          rw [if_neg (fun e => hbm e.1)] at hP
          subst hP
          go_wp2_with fail
          have cL := meth_Less wr B g c (fun _ => True) l' a i (by omega) (by omega) (by rw [hl']; exact HH.out.row)
          rw [hl'] at cL
          refine cL.mono ?_
          clear cL
          rintro e wa ⟨rfl, hb9⟩
          have Ha := Aside0.mk (HH.out.below hb9)
          have Ta := Aside0.mk (HT.out.then_ (Touch.of_below (some h) (some g) hb9) (.inl rfl))
          have msa := m_Swap h _ _ Ha.out.cell
          clear hb9
          obtain ⟨p, hp⟩ : ∃ p, spLt (l'.getD a z31) (l'.getD i z31) = p := ⟨_, rfl⟩
          have hS2 := HS.out
          rw [hp] at hS2 ⊢
          clear hp
          cases p with
          | false =>
            obtain rfl : N = l' := by rw [← hS2]; rfl
            go_wp2_with fail
            go_ret
            exact ⟨⟨_, rfl⟩, ⟨⟨_, Ha.out, .inl rfl⟩, Ta.out⟩⟩
          | true =>
            have HN' := Aside0.mk (show downH q (swapL l' i a) a m = N by rw [← hS2]; rfl)
            clear hS2
            go_wp2_with fail
            have cS := meth_Swap wa B g c (fun _ => True) l' i a (by omega) (by omega) (by rw [hl']; exact Ha.out.row)
            rw [hl'] at cS
            refine cS.mono ?_
            clear cS
            rintro e wb ⟨⟨u, rfl⟩, hR9, hT9⟩
            have hsl : (swapL l' i a).length = n := by rw [swapL_length]; exact hl'
            have Hb := Aside0.mk (show Held wb B h (.slice (some ⟨g, 0, none⟩) n c) (swapL l' i a) by
              have H3' := Ha.out
              rw [← hl'] at H3' hR9 ⊢
              exact H3'.swapped hR9 (hT9 none))
            have Tb := Aside0.mk (Ta.out.then_ (hT9 (some h)) (.inl rfl))
            have Lb := Aside0.mk hsl
            clear hR9 hT9 hsl
            go_wp2_with fail
            go_roundg (m - a)
            case measure => omega
            case rel => exact ⟨a, _, rfl, by omega, Lb, ⟨(downH_fuel (m - a) q _ a m (by omega) (by omega)).trans HN'.out⟩, Hb, Tb⟩
    · have c1 : decide ((a : Int) ≥ (m : Int)) = true := decide_eq_true (by omega)
      obtain rfl : N = l' := by
        rw [← HN.out]
        cases gk with
        | zero => rfl
        | succ q => rw [downH, if_neg (by omega)]
      go_wp2_with fail
      go_ret
      exact ⟨⟨_, rfl⟩, ⟨⟨_, HH.out, .inl rfl⟩, HT.out⟩⟩
end Go.Proofs.YthickfehldjgdaaDoor.X
