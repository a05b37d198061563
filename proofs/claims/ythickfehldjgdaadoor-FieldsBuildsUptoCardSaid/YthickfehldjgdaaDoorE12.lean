/-
  quipulaw17.awake: calls whose answers are fixed.
-/
import Derived.Test.YthickfehldjgdaaDoorP2
import Derived.Test.YthickfehldjgdaaDoorE4c
import Derived.Test.YthickfehldjgdaaDoorE5
import Derived.Test.YthickfehldjgdaaDoorXquipuref17Same
namespace Go.Proofs.YthickfehldjgdaaDoor.X
open Go.RowKit Go.Proofs.YthickfehldjgdaaDoorW.PrintWords Go.Proofs.YthickfehldjgdaaDoorW.PrintLast
def awP : List S43 := [⟨⟨#[45]⟩, 1⟩, ⟨⟨#[49]⟩, 2⟩, ⟨⟨#[44]⟩, 3⟩, ⟨⟨#[50, 51, 52]⟩, 2⟩, ⟨⟨#[46]⟩, 4⟩, ⟨⟨#[53]⟩, 5⟩]
def awT : ByteArray := ⟨#[45, 49, 44, 50, 51, 52, 46, 53]⟩
def awS : List S31 := [⟨1, 0, 1⟩, ⟨2, 1, 6⟩, ⟨3, 2, 3⟩, ⟨4, 6, 7⟩, ⟨5, 7, 8⟩]
def awW : List S31 := [⟨17, 0, 8⟩, ⟨1, 0, 1⟩, ⟨2, 1, 6⟩, ⟨3, 2, 3⟩, ⟨4, 6, 7⟩, ⟨5, 7, 8⟩]
def awL : List S43 := [⟨⟨#[45]⟩, 1⟩, ⟨⟨#[49]⟩, 2⟩, ⟨⟨#[44]⟩, 3⟩, ⟨⟨#[50, 51, 52]⟩, 2⟩, ⟨⟨#[46]⟩, 4⟩, ⟨⟨#[53]⟩, 5⟩]
theorem aw_build : fields_Build.f awP = some (awT, awS, 0) := by kernel_rfl
theorem aw_bad : fields_Build.f [⟨⟨#[]⟩, 18⟩] = some (⟨#[]⟩, [], 170) := by kernel_rfl
theorem aw_check : checkP awT awS = 0 := by kernel_rfl
theorem aw_wrap : wrapP awT awS ⟨17, 0, 8⟩ = (awT, awW, 0) := by kernel_rfl
theorem aw_edges : edgesP (awT.size : Int) awS = [0, 1, 2, 3, 6, 7, 8] := by
  refine rising_unique _ _ (edges_strict _ _) (by decide) (fun x => ?_)
  rw [edges_mem]
  constructor
  · rintro (rfl | rfl | ⟨s, hs, e⟩)
    · decide
    · decide
    · simp only [awS, List.mem_cons, List.not_mem_nil, or_false] at hs
      rcases hs with rfl | rfl | rfl | rfl | rfl <;> rcases e with rfl | rfl <;> decide
  · intro hx
    simp only [List.mem_cons, List.not_mem_nil, or_false] at hx
    rcases hx with rfl | rfl | rfl | rfl | rfl | rfl | rfl
    · exact .inl rfl
    · exact .inr (.inr ⟨⟨1, 0, 1⟩, by simp [awS], by simp⟩)
    · exact .inr (.inr ⟨⟨3, 2, 3⟩, by simp [awS], by simp⟩)
    · exact .inr (.inr ⟨⟨3, 2, 3⟩, by simp [awS], by simp⟩)
    · exact .inr (.inr ⟨⟨2, 1, 6⟩, by simp [awS], by simp⟩)
    · exact .inr (.inr ⟨⟨4, 6, 7⟩, by simp [awS], by simp⟩)
    · exact .inr (.inl rfl)
theorem aw_leaves : fields_Leaves.f awT awS = some (awL, 0) := by
  unfold fields_Leaves.f
  rw [if_pos (by decide), if_pos aw_check, aw_edges]
  kernel_rfl
theorem aw_same : quipuref17_Same.f 20 awT awS awT awS = some true := by kernel_rfl
def cells43 : List S43 → List Value
  | [] => []
  | x :: l => .string x.f0 :: .int .i64 x.f1 :: cells43 l
theorem cells43_length (l : List S43) : (cells43 l).length = l.length * 2 := by
  induction l with
  | nil => rfl
  | cons x l ih => simp only [cells43, List.length_cons, ih]; omega
theorem cells43_drop (l : List S43) (i : Nat) : (cells43 l).drop (i * 2) = cells43 (l.drop i) := by
  induction l generalizing i with
  | nil => simp [cells43]
  | cons x l ih =>
    cases i with
    | zero => simp [cells43]
    | succ n => rw [show (n + 1) * 2 = n * 2 + 1 + 1 by omega]; simp only [cells43, List.drop_succ_cons, ih]
theorem reps43_mk {w : World} {b : Nat} {ok : Nat → Prop} (l : List S43) : Reps (k43.M w b ok) 2 l (cells43 l) := by
  refine ⟨cells43_length l, fun j p hj => ?_⟩
  rw [cells43_drop]
  obtain ⟨hlt, hp⟩ := List.getElem?_eq_some_iff.1 hj
  rw [List.drop_eq_getElem_cons hlt, hp]
  exact k43_mkM _ _ _ p
theorem C43_of {w : World} {g : Nat} {cur : Array Value} {l : List S43} (hb : w.heap[g]? = some (.cells cur 43 (0, 0))) (hc : cur.toList = cells43 l) (hl : l.length ≤ maxLen) : Kd.C k43 w (some ⟨g, 0, none⟩) l.length l := by
  have hs : cur.size = l.length * 2 := by rw [← Array.length_toList, hc, cells43_length]
  have hR : Kd.R k43 43 w 0 (fun _ => True) (.slice (some ⟨g, 0, none⟩) l.length l.length) l :=
    ⟨fun _ _ => trivial, cells43 l, ⟨cells43_length l, .inr ⟨g, l.length, cur, rfl, Nat.zero_le _, hb, Nat.le_refl _, hl, hs, by show List.take (l.length * 2) cur.toList = _; rw [← hs, ← Array.length_toList, List.take_length]; exact hc⟩⟩, reps43_mk l⟩
  obtain ⟨A, c, e, _, hC⟩ := Kd.R_reads hR
  injection e with e1 _ _
  subst e1
  exact hC
theorem C31_of {w : World} {g : Nat} {cur : Array Value} {l : List S31} (hb : w.heap[g]? = some (.cells cur 31 (0, 0))) (hc : cur.toList = cells31 l) (hl : l.length ≤ maxLen) : Kd.C k31 w (some ⟨g, 0, none⟩) l.length l := by
  have hs : cur.size = l.length * 3 := by rw [← Array.length_toList, hc, cells31_length]
  have hR : Kd.R k31 31 w 0 (fun _ => True) (.slice (some ⟨g, 0, none⟩) l.length l.length) l :=
    R31_mk ⟨cells31_length l, .inr ⟨g, l.length, cur, rfl, Nat.zero_le _, hb, Nat.le_refl _, hl, hs, by rw [← hs, ← Array.length_toList, List.take_length]; exact hc⟩⟩ (fun _ _ => trivial)
  obtain ⟨A, c, e, _, hC⟩ := Kd.R_reads hR
  injection e with e1 _ _
  subst e1
  exact hC
theorem world4 {w W : World} {o0 o1 o2 o3 : Obj} (hW : (((w.alloc o0).alloc o1).alloc o2).alloc o3 = W) : W.heap[w.heap.size]? = some o0 ∧ W.heap[w.heap.size + 1]? = some o1 ∧ W.heap[w.heap.size + 1 + 1]? = some o2 ∧ W.heap[w.heap.size + 1 + 1 + 1]? = some o3 ∧ Below w.heap.size w W := by
  obtain ⟨W3, hW3⟩ : ∃ W3, ((w.alloc o0).alloc o1).alloc o2 = W3 := ⟨_, rfl⟩
  obtain ⟨e0, e1, e2, eb⟩ := world3 hW3
  have hs : W3.heap.size = w.heap.size + 1 + 1 + 1 := by rw [← hW3]; simp
  rw [hW3] at hW
  subst hW
  refine ⟨blk_alloc e0 _, blk_alloc e1 _, blk_alloc e2 _, by rw [← hs]; exact blk_new _ _, below_alloc eb _⟩
def law_awake.f : Option Bool := some true
set_option maxRecDepth 100000 in
set_option maxHeartbeats 2000000 in
theorem law_awake.calls (r : Bool) (w : World) (hT_ : Aside0 (Tabs_ w)) (h : law_awake.f = some r) : Calls Tryd.prog 11 #[] w fun e w' => e = .returned (.bool r) ∧ Below w.heap.size w w' := by
  obtain rfl := Option.some.inj h
  clear h
  have u25 := Tryd.underlying25
  have u31 := Tryd.underlying31
  have u43 := Tryd.underlying43
  go_enter Tryd.func11, Tryd.ntmps11
  go_wp2_with fail
  obtain ⟨W1, hW1⟩ : ∃ W1, w.alloc (.cells #[.string ⟨#[45]⟩, .int .i64 1, .string ⟨#[49]⟩, .int .i64 2, .string ⟨#[44]⟩, .int .i64 3, .string ⟨#[50, 51, 52]⟩, .int .i64 2, .string ⟨#[46]⟩, .int .i64 4, .string ⟨#[53]⟩, .int .i64 5] 43) = W1 := ⟨_, rfl⟩
  have hbW1 : Below w.heap.size w W1 := by rw [← hW1]; exact below_alloc (Below.refl _ _) _
  have cB := fields_Build.calls (some ⟨w.heap.size, 0, none⟩) 6 awP awT awS 0 W1 (C43_of (by rw [← hW1]; exact blk_new _ _) rfl (by decide)) (by decide) ⟨Tabs_.step hT_.out hbW1⟩ aw_build
  rw [hW1]
  refine Calls.mono (show Calls Tryd.prog 8 #[.slice (some ⟨w.heap.size, 0, none⟩) 6 6] W1 _ from cB) ?_
  clear cB
  rintro e w2 ⟨v1, rfl, hR1, hb1⟩
  obtain ⟨A1, c1, e1, hc1, hC1⟩ := Kd.R_reads hR1
  rw [show awS.length = 5 from rfl] at e1
  subst e1
  have HC1 := Aside0.mk hC1
  have HB2 := Aside0.mk (below_step hbW1 hb1)
  have Hc1 := Aside0.mk hc1
  clear hR1 hC1 hb1 hbW1 hW1 hc1
  go_wp2_with fail
  obtain ⟨W3, hW3⟩ : ∃ W3, (((w2.alloc (.cells #[.string awT, .slice A1 5 c1] 25)).alloc (.cells #[.int .i64 1, .int .i64 0, .int .i64 1, .int .i64 2, .int .i64 1, .int .i64 6, .int .i64 3, .int .i64 2, .int .i64 3, .int .i64 4, .int .i64 6, .int .i64 7, .int .i64 5, .int .i64 7, .int .i64 8] 31)).alloc (.cells #[.string ⟨#[45, 49, 44, 50, 51, 52, 46, 53]⟩, .slice (some ⟨w2.heap.size + 1, 0, none⟩) 5 5] 25)).alloc (.cells #[.string ⟨#[]⟩, .int .i64 18] 43) = W3 := ⟨_, rfl⟩
  obtain ⟨e1, e2, e3, e4, eb⟩ := world4 hW3
  rw [hW3]
  have HC3 := Aside0.mk (Kd.C_below HC1.out eb)
  have HB3 := Aside0.mk (below_step HB2.out eb)
  clear hW3 eb HB2 HC1
  generalize w2.heap.size = g at e1 e2 e3 e4 ⊢
  have hCS := C31_of (l := awS) e2 rfl (by decide)
  have cB := fields_Build.calls (some ⟨g + 1 + 1 + 1, 0, none⟩) 1 [⟨⟨#[]⟩, 18⟩] ⟨#[]⟩ [] 170 W3 (C43_of e4 rfl (by decide)) (by decide) ⟨Tabs_.step hT_.out HB3.out⟩ aw_bad
  refine Calls.mono (show Calls Tryd.prog 8 #[.slice (some ⟨g + 1 + 1 + 1, 0, none⟩) 1 1] W3 _ from cB) ?_
  clear cB e4 e2
  rintro e w4 ⟨v4, rfl, hR4, hb4⟩
  obtain ⟨A4, c4, e4, hc4, hC4⟩ := Kd.R_reads hR4
  subst e4
  have F1 := Aside0.mk (blk_below e1 hb4)
  have F3 := Aside0.mk (blk_below e3 hb4)
  have HC4 := Aside0.mk (Kd.C_below HC3.out hb4)
  have HS4 := Aside0.mk (Kd.C_below hCS hb4)
  have HB4 := Aside0.mk (below_step HB3.out hb4)
  clear e1 e3 hR4 hC4 hc4 hb4 HC3 hCS HB3
  have q0 : w4.cell? ⟨g + 1 + 1, 0, none⟩ = some (.string ⟨#[45, 49, 44, 50, 51, 52, 46, 53]⟩) := blk_cell F3.out 0
  have q1 : w4.cell? ⟨g + 1 + 1, 1, none⟩ = some (.slice (some ⟨g + 1, 0, none⟩) 5 5) := blk_cell F3.out 1
  obtain ⟨W5, hW5⟩ : ∃ W5, w4.alloc (.cells #[.string ⟨#[]⟩, .slice A4 0 c4] 25) = W5 := ⟨_, rfl⟩
  have hbl := below_alloc (Below.refl w4.heap.size w4) (.cells #[.string ⟨#[]⟩, .slice A4 0 c4] 25)
  rw [hW5] at hbl
  have q2 : W5.cell? ⟨g + 1 + 1, 0, none⟩ = some (.string ⟨#[45, 49, 44, 50, 51, 52, 46, 53]⟩) := blk_cell (blk_below F3.out hbl) 0
  have q3 : W5.cell? ⟨g + 1 + 1, 1, none⟩ = some (.slice (some ⟨g + 1, 0, none⟩) 5 5) := blk_cell (blk_below F3.out hbl) 1
  go_wp2_with fail
  have F1' := Aside0.mk (blk_below F1.out hbl)
  have F3' := Aside0.mk (blk_below F3.out hbl)
  have HC5 := Aside0.mk (Kd.C_below HC4.out hbl)
  have HS5 := Aside0.mk (Kd.C_below HS4.out hbl)
  have HB5 := Aside0.mk (below_step HB4.out hbl)
  clear q0 q1 q2 q3 hW5 hbl F1 F3 HC4 HS4 HB4
  have cW := fields_Wrap awT (some ⟨g + 1, 0, none⟩) 5 awS ⟨17, 0, 8⟩ W5 HS5.out (by decide) ⟨Tabs_.step hT_.out HB5.out⟩ (by decide) (by decide)
  rw [aw_wrap] at cW
  refine Calls.mono (show Calls Tryd.prog 13 #[.agg #[.string ⟨#[45, 49, 44, 50, 51, 52, 46, 53]⟩, .slice (some ⟨g + 1, 0, none⟩) 5 5], .int .i64 17, .int .i64 0, .int .i64 8] W5 _ from cW) ?_
  clear cW
  rintro e w6 ⟨v6, rfl, hR6, hb6⟩
  obtain ⟨A6, c6, e6, hc6, hC6⟩ := Kd.R_reads hR6
  replace hC6 : k31.C w6 A6 awW.length awW := hC6
  replace e6 : v6 = .slice A6 6 c6 := e6
  subst e6
  have HA6 : Aside0 (∀ ad, A6 = some ad → ∃ g, ad = ⟨g, 0, none⟩) := ⟨fun ad e => Kd.R_head (e ▸ hR6)⟩
  have F16 := Aside0.mk (blk_below F1'.out hb6)
  have F36 := Aside0.mk (blk_below F3'.out hb6)
  have HC6 := Aside0.mk (Kd.C_below HC5.out hb6)
  have HS6 := Aside0.mk (Kd.C_below HS5.out hb6)
  have HB6 := Aside0.mk (below_step HB5.out hb6)
  have HW6 := Aside0.mk hC6
  have Hc6 := Aside0.mk hc6
  clear hR6 hC6 hc6 hb6 F1' F3' HC5 HS5 HB5
  obtain ⟨W7, hW7⟩ : ∃ W7, w6.alloc (.cells #[.string awT, .slice A6 6 c6] 25) = W7 := ⟨_, rfl⟩
  have hbl := below_alloc (Below.refl w6.heap.size w6) (.cells #[.string awT, .slice A6 6 c6] 25)
  rw [hW7] at hbl
  have F7 := Aside0.mk (show W7.heap[w6.heap.size]? = some (.cells #[.string awT, .slice A6 6 c6] 25 (0, 0)) by rw [← hW7]; exact blk_new _ _)
  have F17 := Aside0.mk (blk_below F16.out hbl)
  have F37 := Aside0.mk (blk_below F36.out hbl)
  have HC7 := Aside0.mk (Kd.C_below HC6.out hbl)
  have HS7 := Aside0.mk (Kd.C_below HS6.out hbl)
  have HW7 := Aside0.mk (Kd.C_below HW6.out hbl)
  have HB7 := Aside0.mk (below_step HB6.out hbl)
  have q2 : W7.cell? ⟨g + 1 + 1, 0, none⟩ = some (.string ⟨#[45, 49, 44, 50, 51, 52, 46, 53]⟩) := blk_cell F37.out 0
  have q3 : W7.cell? ⟨g + 1 + 1, 1, none⟩ = some (.slice (some ⟨g + 1, 0, none⟩) 5 5) := blk_cell F37.out 1
  clear hbl F16 F36 HC6 HS6 HW6 HB6
  obtain ⟨g6, hg6⟩ : ∃ g6, w6.heap.size = g6 := ⟨_, rfl⟩
  rw [hg6] at F7
  go_wp2_with fail
  clear q2 q3 hW7 hg6
  have cL := fields_Leaves.calls awT (some ⟨g + 1, 0, none⟩) 5 awS awL 0 W7 HS7.out (by decide) ⟨Tabs_.step hT_.out HB7.out⟩ aw_leaves
  refine Calls.mono (show Calls Tryd.prog 18 #[.agg #[.string ⟨#[45, 49, 44, 50, 51, 52, 46, 53]⟩, .slice (some ⟨g + 1, 0, none⟩) 5 5]] W7 _ from cL) ?_
  clear cL
  rintro e w8 ⟨v8, rfl, hR8, hb8⟩
  obtain ⟨A8, c8, e8, hc8, hC8⟩ := Kd.R_reads hR8
  replace e8 : v8 = .slice A8 6 c8 := e8
  subst e8
  have HA8 : Aside0 (∀ ad, A8 = some ad → ∃ g, ad = ⟨g, 0, none⟩) := ⟨fun ad e => Kd.R_head (e ▸ hR8)⟩
  have F18 := Aside0.mk (blk_below F17.out hb8)
  have F38 := Aside0.mk (blk_below F37.out hb8)
  have F8 := Aside0.mk (blk_below F7.out hb8)
  have HC8 := Aside0.mk (Kd.C_below HC7.out hb8)
  have HS8 := Aside0.mk (Kd.C_below HS7.out hb8)
  have HW8 := Aside0.mk (Kd.C_below HW7.out hb8)
  have HB8 := Aside0.mk (below_step HB7.out hb8)
  have HL8 := Aside0.mk hC8
  clear hR8 hC8 hc8 hb8 F17 F37 F7 HC7 HS7 HW7 HB7
  have q0 : w8.cell? ⟨g, 0, none⟩ = some (.string awT) := blk_cell F18.out 0
  have q1 : w8.cell? ⟨g, 1, none⟩ = some (.slice A1 5 c1) := blk_cell F18.out 1
  have q2 : w8.cell? ⟨g + 1 + 1, 0, none⟩ = some (.string ⟨#[45, 49, 44, 50, 51, 52, 46, 53]⟩) := blk_cell F38.out 0
  have q3 : w8.cell? ⟨g + 1 + 1, 1, none⟩ = some (.slice (some ⟨g + 1, 0, none⟩) 5 5) := blk_cell F38.out 1
  go_wp2_with fail
  clear q0 q1 q2 q3
  have cS := quipuref17_Same.calls 20 awT A1 c1 awS awT (some ⟨g + 1, 0, none⟩) 5 awS true w8 HC8.out Hc1.out HS8.out (by decide) aw_same
  refine Calls.mono (show Calls Tryd.prog 10 #[.agg #[.string awT, .slice A1 5 c1], .agg #[.string ⟨#[45, 49, 44, 50, 51, 52, 46, 53]⟩, .slice (some ⟨g + 1, 0, none⟩) 5 5]] w8 _ from cS) ?_
  clear cS
  rintro e w9 ⟨rfl, hb9⟩
  have F39 := Aside0.mk (blk_below F38.out hb9)
  have F9 := Aside0.mk (blk_below F8.out hb9)
  have HS9 := Aside0.mk (Kd.C_below HS8.out hb9)
  have hw9 := Kd.C_below HW8.out hb9
  have hl9 := Kd.C_below HL8.out hb9
  have HB9 := Aside0.mk (below_step HB8.out hb9)
  clear hb9 F18 F38 F8 HC8 HS8 HW8 HB8 HL8
  obtain ⟨ad, ea, hx0, hx1, hx2⟩ := at_T31 hw9 0 (by decide) (by decide)
  obtain ⟨al, el, hy0, hy1⟩ := at_T43 hl9 3 (by decide) (by decide)
  subst ea el
  obtain ⟨ga, rfl⟩ := HA6.out ad rfl
  obtain ⟨gl, rfl⟩ := HA8.out al rfl
  rw [Addr.add_lit] at hx0 hx1 hx2 hy0 hy1
  replace hx0 : w9.cell? ⟨ga, 0, none⟩ = some (.int .i64 17) := hx0
  replace hx1 : w9.cell? ⟨ga, 1, none⟩ = some (.int .i64 0) := hx1
  replace hx2 : w9.cell? ⟨ga, 2, none⟩ = some (.int .i64 8) := hx2
  replace hy0 : w9.cell? ⟨gl, 6, none⟩ = some (.string ⟨#[50, 51, 52]⟩) := hy0
  replace hy1 : w9.cell? ⟨gl, 7, none⟩ = some (.int .i64 2) := hy1
  clear hw9 hl9
  have q0 : w9.cell? ⟨g6, 1, none⟩ = some (.slice (some ⟨ga, 0, none⟩) 6 c6) := blk_cell F9.out 1
  have q2 : w9.cell? ⟨g + 1 + 1, 0, none⟩ = some (.string ⟨#[45, 49, 44, 50, 51, 52, 46, 53]⟩) := blk_cell F39.out 0
  have q3 : w9.cell? ⟨g + 1 + 1, 1, none⟩ = some (.slice (some ⟨g + 1, 0, none⟩) 5 5) := blk_cell F39.out 1
  go_wp2_with fail
  clear hx0 hx1 hx2 hy0 hy1 q0 q2 q3
  obtain ⟨k, hk⟩ := (check_ev awT awS (by decide) (by decide)).rounds
  rw [aw_check] at hk
  have cC := fields_Check.calls k awT (some ⟨g + 1, 0, none⟩) 5 awS 0 w9 HS9.out (by decide) ⟨Tabs_.step hT_.out HB9.out⟩ hk
  refine Calls.mono (show Calls Tryd.prog 15 #[.agg #[.string ⟨#[45, 49, 44, 50, 51, 52, 46, 53]⟩, .slice (some ⟨g + 1, 0, none⟩) 5 5]] w9 _ from cC) ?_
  clear cC hk
  rintro e w10 ⟨rfl, hb⟩
  have HB10 := Aside0.mk (below_step HB9.out hb)
  clear hb
  go_wp2_with fail
  go_ret
  exact ⟨rfl, HB10.out⟩
end Go.Proofs.YthickfehldjgdaaDoor.X
