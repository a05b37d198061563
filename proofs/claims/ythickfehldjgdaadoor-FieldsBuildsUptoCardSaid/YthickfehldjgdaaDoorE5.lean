/-
  fields.Wrap.
-/
import Derived.Test.YthickfehldjgdaaDoorP1
import Derived.Test.YthickfehldjgdaaDoorE7
import Derived.Test.YthickfehldjgdaaDoorE8
import Derived.Test.YthickfehldjgdaaDoorE9
namespace Go.Proofs.YthickfehldjgdaaDoor.X
open Go.RowKit Go.Proofs.YthickfehldjgdaaDoorW.PrintWords Go.Proofs.YthickfehldjgdaaDoorW.PrintLast
/-- Where Wrap puts a span. -/
def putAt (x : S31) (l : List S31) : List S31 := l.take (bsGo x l (l.length + 1) 0 l.length) ++ x :: l.drop (bsGo x l (l.length + 1) 0 l.length)
def wrapOk (a : ByteArray) (l : List S31) (x : S31) : Bool := decide (checkP a l = 0) && (okS a x && !anyCross x l)
def wrapP (a : ByteArray) (l : List S31) (x : S31) : ByteArray × List S31 × Int := if wrapOk a l x = true then (a, putAt x l, 0) else (⟨#[]⟩, [], 170)
theorem bsGo_le (x : S31) (l : List S31) (f : Nat) : ∀ lo hi, lo ≤ hi → bsGo x l f lo hi ≤ hi := by
  induction f with
  | zero => intro lo hi h; exact h
  | succ n ih =>
    intro lo hi h
    unfold bsGo
    split
    · split
      · exact ih _ _ (by omega)
      · exact Nat.le_trans (ih _ _ (by omega)) (by omega)
    · exact h
set_option maxRecDepth 100000 in
set_option maxHeartbeats 4000000 in
theorem fields_Wrap (a : ByteArray) (A : Option Addr) (c : Nat) (l : List S31) (x : S31) (w : World) (hr : Kd.C k31 w A l.length l) (hc : l.length ≤ c) (hT_ : Aside0 (Tabs_ w)) (ha : a.size ≤ 9223372036854775807) (hl : l.length < 5864062014804) :
    Calls Tryd.prog 13 #[.agg #[.string a, .slice A l.length c], .int .i64 x.f0, .int .i64 x.f1, .int .i64 x.f2] w fun e w' => ∃ v1_ : Value, e = .returned (.tuple #[.agg #[.string (wrapP a l x).1, v1_], .int .i64 (wrapP a l x).2.2]) ∧ Kd.R k31 31 w' w.heap.size (fun _ => True) v1_ (wrapP a l x).2.1 ∧ Below w.heap.size w w' := by
  have hu25 := Tryd.underlying25
  have hu31 := Tryd.underlying31
  have HR := Aside0.mk hr
  clear hr
  obtain ⟨k, hk⟩ := (check_ev a l ha (by omega)).rounds
  have HK := Aside0.mk hk
  clear hk
  obtain ⟨t, ht⟩ : ∃ t, checkP a l = t := ⟨_, rfl⟩
  rw [ht] at HK
  have hb5 := bsGo_le x l (l.length + 1) 0 l.length (Nat.zero_le _)
  obtain ⟨i, hi⟩ : ∃ i, bsGo x l (l.length + 1) 0 l.length = i := ⟨_, rfl⟩
  have HW : Aside0 (wrapP a l x = if (decide (t = 0) && (okS a x && !anyCross x l)) = true then (a, l.take i ++ x :: l.drop i, 0) else (⟨#[]⟩, [], 170)) := ⟨by rw [← ht, ← hi]; rfl⟩
  rw [hi] at hb5
  have HI := Aside0.mk hi
  clear hi
  clear ht
  obtain ⟨R, hR⟩ : ∃ R, wrapP a l x = R := ⟨_, rfl⟩
  rw [hR] at HW ⊢
  clear hR
  obtain ⟨W, hW⟩ : ∃ W, ((w.alloc (.cells #[.string a, .slice A l.length c] 25)).alloc (.cells #[.string ⟨#[]⟩, .slice none 0 0] 25)).alloc (.cells #[.int .i64 x.f0, .int .i64 x.f1, .int .i64 x.f2] 31) = W := ⟨_, rfl⟩
  obtain ⟨e0, e1, e2, eb⟩ := world3 hW
  obtain ⟨g0, hg0⟩ : ∃ g, w.heap.size = g := ⟨_, rfl⟩
  obtain ⟨g1, hg1⟩ : ∃ g, g0 + 1 = g := ⟨_, rfl⟩
  obtain ⟨g2, hg2⟩ : ∃ g, g1 + 1 = g := ⟨_, rfl⟩
  rw [hg0] at e0 e1 e2
  rw [hg1] at e1 e2
  rw [hg2] at e2
  have E0 := Aside0.mk e0
  have E1 := Aside0.mk e1
  have E2 := Aside0.mk e2
  have EB := Aside0.mk eb
  have G0 := Aside0.mk hg0
  have G1 := Aside0.mk (show w.heap.size ≤ g1 by omega)
  clear e0 e1 e2 eb
  go_enter Tryd.func13, Tryd.ntmps13
  have c00 : W.cell? ⟨g0, 0, none⟩ = some (.string a) := blk_cell E0.out 0
  have c01 : W.cell? ⟨g0, 1, none⟩ = some (.slice A l.length c) := blk_cell E0.out 1
  go_wp2_with fail
  clear c00 c01 hW hg0 hg1 hg2
  refine (fields_Check.calls k a A c l t W (Kd.C_below HR.out EB.out) hc ⟨Tabs_.step hT_.out EB.out⟩ HK.out).mono ?_
  rintro e w3 ⟨rfl, hb⟩
  have HB3 := Aside0.mk (below_step EB.out hb)
  have F0 := Aside0.mk (blk_below E0.out hb)
  have F1 := Aside0.mk (blk_below E1.out hb)
  have F2 := Aside0.mk (blk_below E2.out hb)
  clear hb E0 E1 E2 EB HK
  have d00 : w3.cell? ⟨g0, 0, none⟩ = some (.string a) := blk_cell F0.out 0
  have d01 : w3.cell? ⟨g0, 1, none⟩ = some (.slice A l.length c) := blk_cell F0.out 1
  by_cases h1 : t = 0
  · have hn : (t != 0) = false := by simpa using h1
    by_cases h2 : x.f0 < 1
    · have d2 : decide (x.f0 < 1) = true := decide_eq_true h2
      obtain rfl : R = (⟨#[]⟩, [], 170) := by rw [HW.out]; simp [okS]; omega
      have z0 : w3.cell? ⟨g1, 0, none⟩ = some (.string ⟨#[]⟩) := blk_cell F1.out 0
      have z1 : w3.cell? ⟨g1, 1, none⟩ = some (.slice none 0 0) := blk_cell F1.out 1
      have y0 := blk_frozen F1.out 0
      have y1 := blk_frozen F1.out 1
      go_wp2_with fail
      refine bodyPost_ret (results_ct rfl _ _ g1 25 #[.string (⟨#[]⟩ : ByteArray), .slice none 0 0] (0, 0) _ rfl (by refine blk_put (cs := #[.string (⟨#[]⟩ : ByteArray), .slice none 0 0]) ?_ 1 _ rfl; refine blk_put (cs := #[.string (⟨#[]⟩ : ByteArray), .slice none 0 0]) ?_ 0 _ rfl; exact F1.out) Tryd.underlying25 rfl (by kernel_rfl)) rfl ?_
      exact ⟨_, rfl, Kd.R_nil _ _ _ _ _, below_set (below_set HB3.out G1.out) G1.out⟩
    · have d2 : decide (x.f0 < 1) = false := decide_eq_false h2
      by_cases h3 : x.f0 ≥ 18
      · have d3 : decide (x.f0 ≥ 18) = true := decide_eq_true h3
        obtain rfl : R = (⟨#[]⟩, [], 170) := by rw [HW.out]; simp [okS]; omega
        have z0 : w3.cell? ⟨g1, 0, none⟩ = some (.string ⟨#[]⟩) := blk_cell F1.out 0
        have z1 : w3.cell? ⟨g1, 1, none⟩ = some (.slice none 0 0) := blk_cell F1.out 1
        have y0 := blk_frozen F1.out 0
        have y1 := blk_frozen F1.out 1
        go_wp2_with fail
        refine bodyPost_ret (results_ct rfl _ _ g1 25 #[.string (⟨#[]⟩ : ByteArray), .slice none 0 0] (0, 0) _ rfl (by refine blk_put (cs := #[.string (⟨#[]⟩ : ByteArray), .slice none 0 0]) ?_ 1 _ rfl; refine blk_put (cs := #[.string (⟨#[]⟩ : ByteArray), .slice none 0 0]) ?_ 0 _ rfl; exact F1.out) Tryd.underlying25 rfl (by kernel_rfl)) rfl ?_
        exact ⟨_, rfl, Kd.R_nil _ _ _ _ _, below_set (below_set HB3.out G1.out) G1.out⟩
      · have d3 : decide (x.f0 ≥ 18) = false := decide_eq_false h3
        obtain ⟨q, hq⟩ : ∃ q, (isPlace a x.f1 && isPlace a x.f2 && decide (x.f1 < x.f2)) = q := ⟨_, rfl⟩
        have hq2 : fields_stretch.f a x.f1 x.f2 = some q := by rw [← hq]; rfl
        have HQ := Aside0.mk hq2
        have ho : okS a x = q := by unfold okS; rw [decide_eq_true (by omega : 1 ≤ x.f0), decide_eq_true (by omega : x.f0 < 18), hq]; rfl
        rw [ho] at HW
        clear ho hq hq2
        cases q with
        | false =>
          obtain rfl : R = (⟨#[]⟩, [], 170) := by rw [HW.out]; simp
          go_wp2_with fail
          refine (fields_stretch.calls a x.f1 x.f2 false w3 HQ.out).mono ?_
          rintro e w4 ⟨rfl, hb⟩
          have HB4 := Aside0.mk (below_step HB3.out hb)
          have F14 := Aside0.mk (blk_below F1.out hb)
          clear hb HB3 F1
          have z0 : w4.cell? ⟨g1, 0, none⟩ = some (.string ⟨#[]⟩) := blk_cell F14.out 0
          have z1 : w4.cell? ⟨g1, 1, none⟩ = some (.slice none 0 0) := blk_cell F14.out 1
          have y0 := blk_frozen F14.out 0
          have y1 := blk_frozen F14.out 1
          go_wp2_with fail
          refine bodyPost_ret (results_ct rfl _ _ g1 25 #[.string (⟨#[]⟩ : ByteArray), .slice none 0 0] (0, 0) _ rfl (by refine blk_put (cs := #[.string (⟨#[]⟩ : ByteArray), .slice none 0 0]) ?_ 1 _ rfl; refine blk_put (cs := #[.string (⟨#[]⟩ : ByteArray), .slice none 0 0]) ?_ 0 _ rfl; exact F14.out) Tryd.underlying25 rfl (by kernel_rfl)) rfl ?_
          exact ⟨_, rfl, Kd.R_nil _ _ _ _ _, below_set (below_set HB4.out G1.out) G1.out⟩
        | true =>
          go_wp2_with fail
          refine (fields_stretch.calls a x.f1 x.f2 true w3 HQ.out).mono ?_
          rintro e w4 ⟨rfl, hb⟩
          have HB4 := Aside0.mk (below_step HB3.out hb)
          have F04 := Aside0.mk (blk_below F0.out hb)
          have F14 := Aside0.mk (blk_below F1.out hb)
          have F24 := Aside0.mk (blk_below F2.out hb)
          clear hb HB3 F0 F1 F2 d00 d01
          obtain ⟨p, hp⟩ : ∃ p, anyCross x l = p := ⟨_, rfl⟩
          rw [hp] at HW
          have HP := Aside0.mk hp
          clear hp
          have i00 : w4.cell? ⟨g0, 0, none⟩ = some (.string a) := blk_cell F04.out 0
          have i01 : w4.cell? ⟨g0, 1, none⟩ = some (.slice A l.length c) := blk_cell F04.out 1
          go_wp2_with fail
          refine (span_Contains x g2 A c l w4 (Kd.C_below HR.out HB4.out) hc F24.out).mono ?_
          rintro e w5 ⟨rfl, hb⟩
          have HB5 := Aside0.mk (below_step HB4.out hb)
          have F05 := Aside0.mk (blk_below F04.out hb)
          have F15 := Aside0.mk (blk_below F14.out hb)
          have F25 := Aside0.mk (blk_below F24.out hb)
          clear hb HB4 F04 F14 F24 i00 i01
          rw [HP.out]
          cases p with
          | true =>
            obtain rfl : R = (⟨#[]⟩, [], 170) := by rw [HW.out]; simp
            have z0 : w5.cell? ⟨g1, 0, none⟩ = some (.string ⟨#[]⟩) := blk_cell F15.out 0
            have z1 : w5.cell? ⟨g1, 1, none⟩ = some (.slice none 0 0) := blk_cell F15.out 1
            have y0 := blk_frozen F15.out 0
            have y1 := blk_frozen F15.out 1
            go_wp2_with fail
            refine bodyPost_ret (results_ct rfl _ _ g1 25 #[.string (⟨#[]⟩ : ByteArray), .slice none 0 0] (0, 0) _ rfl (by refine blk_put (cs := #[.string (⟨#[]⟩ : ByteArray), .slice none 0 0]) ?_ 1 _ rfl; refine blk_put (cs := #[.string (⟨#[]⟩ : ByteArray), .slice none 0 0]) ?_ 0 _ rfl; exact F15.out) Tryd.underlying25 rfl (by kernel_rfl)) rfl ?_
            exact ⟨_, rfl, Kd.R_nil _ _ _ _ _, below_set (below_set HB5.out G1.out) G1.out⟩
          | false =>
            obtain rfl : R = (a, l.take i ++ x :: l.drop i, 0) := by rw [HW.out]; simp [h1]
            have j00 : w5.cell? ⟨g0, 0, none⟩ = some (.string a) := blk_cell F05.out 0
            have j01 : w5.cell? ⟨g0, 1, none⟩ = some (.slice A l.length c) := blk_cell F05.out 1
            have j20 : w5.cell? ⟨g2, 0, none⟩ = some (.int .i64 x.f0) := blk_cell F25.out 0
            have j21 : w5.cell? ⟨g2, 1, none⟩ = some (.int .i64 x.f1) := blk_cell F25.out 1
            have j22 : w5.cell? ⟨g2, 2, none⟩ = some (.int .i64 x.f2) := blk_cell F25.out 2
            go_wp2_with fail
            refine (span_Search x A c l w5 (Kd.C_below HR.out HB5.out) hc (by omega)).mono ?_
            rintro e w6 ⟨⟨bb, rfl⟩, hb⟩
            have HB6 := Aside0.mk (below_drew (below_step HB5.out hb))
            have F06 := Aside0.mk (blk_drew (blk_below F05.out hb))
            have F16 := Aside0.mk (blk_drew (blk_below F15.out hb))
            have F26 := Aside0.mk (blk_drew (blk_below F25.out hb))
            clear hb HB5 F05 F15 F25 j00 j01 j20 j21 j22
            rw [HI.out]
            go_wp2_with fail
            refine start_ (n := 12) (S := fun w' => w'.cell? ⟨g0, 0, none⟩ = some (.string a) ∧ w'.cell? ⟨g0, 1, none⟩ = some (.slice A l.length c) ∧ w'.cell? ⟨g2, 0, none⟩ = some (.int .i64 x.f0) ∧ w'.cell? ⟨g2, 1, none⟩ = some (.int .i64 x.f1) ∧ w'.cell? ⟨g2, 2, none⟩ = some (.int .i64 x.f2)) (ds := [10]) #[false, false, false, false, false, false, false, false, false, false, false, false] (by kernel_rfl) rfl rfl ⟨blk_cell F06.out 0, blk_cell F06.out 1, blk_cell F26.out 0, blk_cell F26.out 1, blk_cell F26.out 2⟩ (fun hHeld => ?_)
            refine pure_ (i := 0) (N := some 50) (v := ?_) (a' := ?_) #[true, false, false, false, false, false, false, false, false, false, false, false] rfl rfl (by kernel_rfl) (fun _ _ _ h => h) (Or.inl ⟨by rfl, ?_⟩) ?_ ?_
            rotate_left
            · intro w'
              go_simp
              with_reducible rfl
            rotate_left
            · simp only [Act.put, List.setIfInBounds_toArray, List.set_cons_zero, List.set_cons_succ, i64_w, i32_w]
              rfl
            refine pure_ (i := 2) (N := some 52) (v := ?_) (a' := ?_) #[true, false, true, false, false, false, false, false, false, false, false, false] rfl rfl (by kernel_rfl) (fun _ _ _ h => h) (Or.inl ⟨by rfl, ?_⟩) ?_ ?_
            rotate_left
            · intro w'
              go_simp
              with_reducible rfl
            rotate_left
            · simp only [Act.put, List.setIfInBounds_toArray, List.set_cons_zero, List.set_cons_succ, i64_w, i32_w]
              rfl
            refine pure_ (i := 5) (N := some 55) (v := ?_) (a' := ?_) #[true, false, true, false, false, true, false, false, false, false, false, false] rfl rfl (by kernel_rfl) (fun _ _ _ h => h) (Or.inl ⟨by rfl, ?_⟩) ?_ ?_
            rotate_left
            · intro w'
              go_simp
              with_reducible rfl
            rotate_left
            · simp only [Act.put, List.setIfInBounds_toArray, List.set_cons_zero, List.set_cons_succ, i64_w, i32_w]
              rfl
            refine take_ (i := 1) (N := some 51) (v := ?_) (a' := ?_) #[true, true, true, false, false, true, false, false, false, false, false, false] rfl rfl (by kernel_rfl) (fun _ _ _ h => h) (Or.inl ⟨by rfl, ?_⟩) hHeld ?_ ?_
            rotate_left
            · rintro w' ⟨s0, s1, s2, s3, s4⟩
              go_simp
              with_reducible rfl
            rotate_left
            · simp only [Act.put, List.setIfInBounds_toArray, List.set_cons_zero, List.set_cons_succ, i64_w, i32_w]
              rfl
            refine take_ (i := 3) (N := some 53) (v := ?_) (a' := ?_) #[true, true, true, true, false, true, false, false, false, false, false, false] rfl rfl (by kernel_rfl) (fun _ _ _ h => h) (Or.inl ⟨by rfl, ?_⟩) hHeld ?_ ?_
            rotate_left
            · rintro w' ⟨s0, s1, s2, s3, s4⟩
              go_simp
              with_reducible rfl
            rotate_left
            · simp only [Act.put, List.setIfInBounds_toArray, List.set_cons_zero, List.set_cons_succ, i64_w, i32_w]
              rfl
            refine take_ (i := 6) (N := some 56) (v := ?_) (a' := ?_) #[true, true, true, true, false, true, true, false, false, false, false, false] rfl rfl (by kernel_rfl) (fun _ _ _ h => h) (Or.inl ⟨by rfl, ?_⟩) hHeld ?_ ?_
            rotate_left
            · rintro w' ⟨s0, s1, s2, s3, s4⟩
              go_simp
              with_reducible rfl
            rotate_left
            · simp only [Act.put, List.setIfInBounds_toArray, List.set_cons_zero, List.set_cons_succ, i64_w, i32_w]
              rfl
            refine join_ (σ := Value × Nat) 4 #[true, true, true, true, true, true, true, true, false, false, false, false] (fun s => [(54, s.1), (57, .slice (some ⟨s.2, 0, none⟩) 1 1)]) (fun s w' => Kd.R k31 31 w' w6.drew.heap.size (fun _ => True) s.1 l ∧ w'.heap[s.2]? = some (.cells #[.int .i64 x.f0, .int .i64 x.f1, .int .i64 x.f2] 31 (0, 0)) ∧ some s.2 ≠ s.1.ownBlock ∧ Below w6.drew.heap.size w6.drew w') ?_ ?_
            rotate_left
            · intro hCont
              refine two_ (i := 4) (j := 7) (Ni := some 54) (Nj := some 57) #[true, true, true, true, true, true, true, false, false, false, false, false] #[true, true, true, true, false, true, true, true, false, false, false, false] rfl rfl rfl rfl (by kernel_rfl) (by decide) (by decide) (fun K hK => ?_) (fun K hK => ?_)
              · skip
                refine call_ 34 #[.slice A l.length c] (by rfl) rfl (by go_simp; first | done | rfl) ?_
                refine (span_Clone A c l w6.drew (Kd.C_below HR.out HB6.out) hc (by omega)).mono ?_
                rintro e w7 ⟨v7, rfl, ho7, hb7⟩
                refine ⟨_, rfl, ?_⟩
                refine hK.out _ _ ⟨pw_cell_below hb7 hHeld.1, pw_cell_below hb7 hHeld.2.1, pw_cell_below hb7 hHeld.2.2.1, pw_cell_below hb7 hHeld.2.2.2.1, pw_cell_below hb7 hHeld.2.2.2.2⟩ (fun hHeld => ?_)
                clear hK K
                refine norm_ (a' := ?_) ?_ ?_
                rotate_left
                · show Act.put _ (some 54) _ = _
                  simp only [Act.put, List.setIfInBounds_toArray, List.set_cons_zero, List.set_cons_succ, i64_w, i32_w]
                  rfl
                refine one_ (i := 7) (N := some 57) #[true, true, true, true, true, true, true, true, false, false, false, false] rfl rfl (by kernel_rfl) (by decide) (fun K hK => ?_)
                refine value_ (w1 := ?_) (v := ?_) (by rfl) rfl ?_ ?_
                rotate_left 2
                · go_simp
                  constructor
                  · rfl
                  · rfl
                refine hK.out _ _ ⟨pw_cell_below (below_alloc (Below.refl _ _) _) hHeld.1, pw_cell_below (below_alloc (Below.refl _ _) _) hHeld.2.1, pw_cell_below (below_alloc (Below.refl _ _) _) hHeld.2.2.1, pw_cell_below (below_alloc (Below.refl _ _) _) hHeld.2.2.2.1, pw_cell_below (below_alloc (Below.refl _ _) _) hHeld.2.2.2.2⟩ (fun hHeld => ?_)
                clear hK K
                refine norm_ (a' := ?_) ?_ ?_
                rotate_left
                · show Act.put _ (some 57) _ = _
                  simp only [Act.put, List.setIfInBounds_toArray, List.set_cons_zero, List.set_cons_succ, i64_w, i32_w]
                  rfl
                exact norm_ (by first | (simp only [putAll, Act.put, List.setIfInBounds_toArray, List.set_cons_zero, List.set_cons_succ]; done) | (simp only [putAll, Act.put, List.setIfInBounds_toArray, List.set_cons_zero, List.set_cons_succ]; rfl)) (hCont (v7, w7.heap.size) _ ⟨Kd.R_alloc ho7 _, blk_new _ _, R31_fresh ho7, below_alloc hb7 _⟩)
              · skip
                refine value_ (w1 := ?_) (v := ?_) (by rfl) rfl ?_ ?_
                rotate_left 2
                · go_simp
                  constructor
                  · rfl
                  · rfl
                refine hK.out _ _ ⟨pw_cell_below (below_alloc (Below.refl _ _) _) hHeld.1, pw_cell_below (below_alloc (Below.refl _ _) _) hHeld.2.1, pw_cell_below (below_alloc (Below.refl _ _) _) hHeld.2.2.1, pw_cell_below (below_alloc (Below.refl _ _) _) hHeld.2.2.2.1, pw_cell_below (below_alloc (Below.refl _ _) _) hHeld.2.2.2.2⟩ (fun hHeld => ?_)
                clear hK K
                refine norm_ (a' := ?_) ?_ ?_
                rotate_left
                · show Act.put _ (some 57) _ = _
                  simp only [Act.put, List.setIfInBounds_toArray, List.set_cons_zero, List.set_cons_succ, i64_w, i32_w]
                  rfl
                refine one_ (i := 4) (N := some 54) #[true, true, true, true, true, true, true, true, false, false, false, false] rfl rfl (by kernel_rfl) (by decide) (fun K hK => ?_)
                refine call_ 34 #[.slice A l.length c] (by rfl) rfl (by go_simp; first | done | rfl) ?_
                refine (span_Clone A c l _ (Kd.C_below HR.out (below_alloc HB6.out (.cells #[.int .i64 x.f0, .int .i64 x.f1, .int .i64 x.f2] 31 (0, 0)))) hc (by omega)).mono ?_
                rintro e w7 ⟨v7, rfl, ho7, hb7⟩
                refine ⟨_, rfl, ?_⟩
                refine hK.out _ _ ⟨pw_cell_below hb7 hHeld.1, pw_cell_below hb7 hHeld.2.1, pw_cell_below hb7 hHeld.2.2.1, pw_cell_below hb7 hHeld.2.2.2.1, pw_cell_below hb7 hHeld.2.2.2.2⟩ (fun hHeld => ?_)
                clear hK K
                refine norm_ (a' := ?_) ?_ ?_
                rotate_left
                · show Act.put _ (some 54) _ = _
                  simp only [Act.put, List.setIfInBounds_toArray, List.set_cons_zero, List.set_cons_succ, i64_w, i32_w]
                  rfl
                exact norm_ (by first | (simp only [putAll, Act.put, List.setIfInBounds_toArray, List.set_cons_zero, List.set_cons_succ]; done) | (simp only [putAll, Act.put, List.setIfInBounds_toArray, List.set_cons_zero, List.set_cons_succ]; rfl)) (hCont (v7, w6.drew.heap.size) _ ⟨Kd.R_lower ho7 (by simp), blk_below (blk_new _ _) hb7, R31_elder ho7 (by simp), below_step (below_alloc (Below.refl _ _) _) hb7⟩)
            rintro ⟨v8, vb⟩ w8 ⟨ho8, hx8, hn8, hb8⟩
            have hHeld := (⟨blk_cell (blk_below F06.out hb8) 0, blk_cell (blk_below F06.out hb8) 1, blk_cell (blk_below F26.out hb8) 0, blk_cell (blk_below F26.out hb8) 1, blk_cell (blk_below F26.out hb8) 2⟩ : w8.cell? ⟨g0, 0, none⟩ = some (.string a) ∧ w8.cell? ⟨g0, 1, none⟩ = some (.slice A l.length c) ∧ w8.cell? ⟨g2, 0, none⟩ = some (.int .i64 x.f0) ∧ w8.cell? ⟨g2, 1, none⟩ = some (.int .i64 x.f1) ∧ w8.cell? ⟨g2, 2, none⟩ = some (.int .i64 x.f2))
            refine norm_ (a' := ?_) ?_ ?_
            rotate_left
            · simp only [putAll, Act.put, List.setIfInBounds_toArray, List.set_cons_zero, List.set_cons_succ]
              rfl
            refine one_ (i := 8) (N := some 58) #[true, true, true, true, true, true, true, true, true, false, false, false] rfl rfl (by kernel_rfl) (by decide) (fun K hK => ?_)
            refine call_ 33 #[v8, .int .i64 i, .slice (some ⟨vb, 0, none⟩) 1 1] (by rfl) rfl (by go_simp; first | done | rfl) ?_
            refine (span_Insert w6.drew.heap.size w6.drew w8 hb8 hb8.size v8 l i x vb (by omega) hb5 ho8 hx8 hn8).mono ?_
            rintro e w9 ⟨v9, rfl, ho9, hb9⟩
            obtain ⟨A9, c9, e9⟩ := Kd.R_slice ho9
            subst e9
            refine ⟨_, rfl, ?_⟩
            refine hK.out _ _ ⟨blk_cell (blk_below F06.out hb9) 0, blk_cell (blk_below F06.out hb9) 1, blk_cell (blk_below F26.out hb9) 0, blk_cell (blk_below F26.out hb9) 1, blk_cell (blk_below F26.out hb9) 2⟩ (fun hHeld => ?_)
            clear hK K
            refine norm_ (a' := ?_) ?_ ?_
            rotate_left
            · show Act.put _ (some 58) _ = _
              simp only [Act.put, List.setIfInBounds_toArray, List.set_cons_zero, List.set_cons_succ, i64_w, i32_w]
              rfl
            refine pure_ (i := 9) (N := some 59) (v := ?_) (a' := ?_) #[true, true, true, true, true, true, true, true, true, true, false, false] rfl rfl (by kernel_rfl) (fun _ _ _ h => h) (Or.inl ⟨by rfl, ?_⟩) ?_ ?_
            rotate_left
            · intro w'
              go_simp
              with_reducible rfl
            rotate_left
            · simp only [Act.put, List.setIfInBounds_toArray, List.set_cons_zero, List.set_cons_succ, i64_w, i32_w]
              rfl
            refine last_ (i := 10) (N := none) #[true, true, true, true, true, true, true, true, true, true, true, false] rfl rfl (by kernel_rfl) (by decide) (fun K hK => ?_)
            have F19 := Aside0.mk (blk_below F16.out hb9)
            have z0 : w9.cell? ⟨g1, 0, none⟩ = some (.string ⟨#[]⟩) := blk_cell F19.out 0
            have z1 : w9.cell? ⟨g1, 1, none⟩ = some (.slice none 0 0) := blk_cell F19.out 1
            have y0 := blk_frozen F19.out 0
            have y1 := blk_frozen F19.out 1
            refine skip_ (w1 := ?_) (by rfl) rfl ?_ ?_
            rotate_left
            · go_simp
              rfl
            refine hK.out _ _ ?_
            clear hK K
            refine pure_ (i := 11) (N := some 9) (v := ?_) (a' := ?_) #[true, true, true, true, true, true, true, true, true, true, true, true] rfl rfl (by kernel_rfl) (fun _ _ _ h => h) (Or.inl ⟨by rfl, ?_⟩) ?_ ?_
            rotate_left
            · intro w'
              go_simp
              with_reducible rfl
            rotate_left
            · simp only [Act.put, List.setIfInBounds_toArray, List.set_cons_zero, List.set_cons_succ, i64_w, i32_w]
              rfl
            refine done_ (by kernel_rfl) ?_
            go_wp2_with fail
            have hlen : (l.take i ++ x :: l.drop i).length = i + (l.length - i + 1) := by rw [List.length_append, List.length_take, List.length_cons, List.length_drop]; omega
            rw [hlen] at ho9
            refine bodyPost_ret (results_ct rfl _ _ g1 25 #[.string a, .slice A9 (i + (l.length - i + 1)) c9] (0, 0) _ rfl (by refine blk_put (cs := #[.string a, .slice none 0 0]) ?_ 1 _ rfl; refine blk_put (cs := #[.string (⟨#[]⟩ : ByteArray), .slice none 0 0]) ?_ 0 _ rfl; exact F19.out) Tryd.underlying25 rfl (by kernel_rfl)) rfl ?_
            exact ⟨_, rfl, Kd.R_lower (R31_set (R31_set ho9 (blk_lt F16.out) 0 _) (blk_lt F16.out) 1 _) HB6.out.size, below_set (below_set (below_step HB6.out hb9) G1.out) G1.out⟩
  · have hn : (t != 0) = true := by simpa using h1
    obtain rfl : R = (⟨#[]⟩, [], 170) := by rw [HW.out]; simp [h1]
    have z0 : w3.cell? ⟨g1, 0, none⟩ = some (.string ⟨#[]⟩) := blk_cell F1.out 0
    have z1 : w3.cell? ⟨g1, 1, none⟩ = some (.slice none 0 0) := blk_cell F1.out 1
    have y0 := blk_frozen F1.out 0
    have y1 := blk_frozen F1.out 1
    go_wp2_with fail
    refine bodyPost_ret (results_ct rfl _ _ g1 25 #[.string (⟨#[]⟩ : ByteArray), .slice none 0 0] (0, 0) _ rfl (by refine blk_put (cs := #[.string (⟨#[]⟩ : ByteArray), .slice none 0 0]) ?_ 1 _ rfl; refine blk_put (cs := #[.string (⟨#[]⟩ : ByteArray), .slice none 0 0]) ?_ 0 _ rfl; exact F1.out) Tryd.underlying25 rfl (by kernel_rfl)) rfl ?_
    exact ⟨_, rfl, Kd.R_nil _ _ _ _ _, below_set (below_set HB3.out G1.out) G1.out⟩
end Go.Proofs.YthickfehldjgdaaDoor.X
