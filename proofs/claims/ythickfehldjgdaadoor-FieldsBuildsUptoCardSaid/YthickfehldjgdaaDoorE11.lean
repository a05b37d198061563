/-
  fields.Leaves.
-/
import Derived.Test.YthickfehldjgdaaDoorE3
import Derived.Test.YthickfehldjgdaaDoorE9
import Derived.Test.YthickfehldjgdaaDoorP1
import Derived.Lib.AppendZeros
namespace Go.Proofs.YthickfehldjgdaaDoor.X
open Go.RowKit Go.Proofs.YthickfehldjgdaaDoorW.PrintWords Go.Proofs.YthickfehldjgdaaDoorW.PrintLast
/-- The field of the innermost span around f..t: the last in order. -/
def innerF : List S31 → Int → Int → Int → Int
  | [], _, _, d => d
  | x :: r, f, t, d => innerF r f t (if x.f1 ≤ f ∧ t ≤ x.f2 then x.f0 else d)
def leafP (a : ByteArray) (l : List S31) (f t : Int) : S43 := ⟨a.extract f.toNat t.toNat, innerF l f t 0⟩
def leavesGo (a : ByteArray) (l : List S31) : List Int → List S43
  | [] => []
  | [_] => []
  | e :: e' :: r => leafP a l e e' :: leavesGo a l (e' :: r)
def rawEdges (n : Int) (l : List S31) : List Int := [0, n] ++ l.flatMap (fun x => [x.f1, x.f2])
def edgesP (n : Int) (l : List S31) : List Int := Lib.compact (sortI (rawEdges n l))
/-- Where fields.Leaves stands: what came in, the edges. -/
structure LSt (w0 wr : World) (a : ByteArray) (A : Option Addr) (n c : Nat) (xs : List Int) (v4 : Value) : Prop where
  below : Below w0.heap.size w0 wr
  fo : wr.heap[w0.heap.size]? = some (.cells #[.string a, .slice A n c] 25 (0, 0))
  ed : wr.ownsRow (w0.heap.size + 1) 3 1 v4 xs.length (nums .i64 xs)
section
variable {w0 wr w' : World} {a : ByteArray} {A : Option Addr} {n c : Nat} {xs xs' : List Int} {v4 v4' : Value}
theorem LSt.step (S : LSt w0 wr a A n c xs v4) (hb : Below wr.heap.size wr w') : LSt w0 w' a A n c xs v4 :=
  ⟨below_step S.below hb, blk_below S.fo hb, own_move S.ed (fun k hk => hb.block k (S.ed.lt k hk).2)⟩
theorem LSt.size (S : LSt w0 wr a A n c xs v4) : w0.heap.size + 1 ≤ wr.heap.size := blk_lt S.fo
theorem LSt.grows (S : LSt w0 wr a A n c xs v4) (ho : w'.ownsRow (w0.heap.size + 1) 3 1 v4' xs'.length (nums .i64 xs')) (hg : wr.grownBy w' v4.ownBlock) : LSt w0 w' a A n c xs' v4' := by
  have hne : ∀ k, k < w0.heap.size + 1 → some k ≠ v4.ownBlock := fun k hk e => by
    have := (S.ed.lt k e.symm).1
    omega
  exact ⟨⟨hg.os.trans S.below.os, hg.tape.trans S.below.tape, hg.output.trans S.below.output, Nat.le_trans S.below.size hg.size, fun k hk => (hg.block k (Nat.lt_of_lt_of_le hk S.below.size) (hne k (by omega))).trans (S.below.block k hk)⟩, (hg.block _ (blk_lt S.fo) (hne _ (by omega))).trans S.fo, ho⟩
end
theorem LSt.grown {w0 wr w' : World} {a : ByteArray} {A : Option Addr} {n c : Nat} {xs : List Int} {v4 : Value} {r : Option Nat} (S : LSt w0 wr a A n c xs v4) (hg : wr.grownBy w' r) (hr : ∀ k, r = some k → w0.heap.size + 1 ≤ k ∧ some k ≠ v4.ownBlock) : LSt w0 w' a A n c xs v4 := by
  have hne : ∀ k, k < w0.heap.size + 1 → some k ≠ r := fun k hk e => by
    have := (hr k e.symm).1
    omega
  exact ⟨⟨hg.os.trans S.below.os, hg.tape.trans S.below.tape, hg.output.trans S.below.output, Nat.le_trans S.below.size hg.size, fun k hk => (hg.block k (Nat.lt_of_lt_of_le hk S.below.size) (hne k (by omega))).trans (S.below.block k hk)⟩, (hg.block _ (blk_lt S.fo) (hne _ (by omega))).trans S.fo, own_move S.ed (fun k hk => hg.block k (S.ed.lt k hk).2 (fun e => (hr k e.symm).2 hk.symm))⟩
theorem own43_ne {w : World} {B B' n c : Nat} {A : Option Addr} {l : List S43} {xs : List Int} {v4 : Value} (h : Kd.R k43 43 w B (fun _ => True) (.slice A n c) l) (ho : w.ownsRow B' 3 1 v4 xs.length (nums .i64 xs)) {k : Nat} (hk : (Value.slice A n c).ownBlock = some k) (e : some k = v4.ownBlock) : False := by
  obtain ⟨cells, hc⟩ := own_typed (Kd.R_own h).choose_spec k hk
  obtain ⟨cells', hc'⟩ := own_typed ho k e.symm
  exact blk_ne hc hc' (by decide) rfl
theorem append2 (W : World) (B : Nat) (v : Value) (xs : List Int) (p q : Int) (ho : W.ownsRow B 3 1 v xs.length (nums .i64 xs)) (hB : B ≤ W.heap.size) (hl : (xs.length + 2) * 8 ≤ 140737488355328) :
    ∃ v' w', (Builtin.append_ #[48, 48] 48 #[v, .slice (some ⟨W.heap.size, 0, none⟩) 2 2]).run Tryd.prog (W.alloc (.cells #[.int .i64 p, .int .i64 q] 3)) = .ok v' w' ∧ w'.ownsRow B 3 1 v' (xs ++ [p, q]).length (nums .i64 (xs ++ [p, q])) ∧ W.grownBy w' v.ownBlock := by
  obtain ⟨i0, hi0, hzz⟩ := Option.map_eq_some_iff.1 info3
  simp only [Prod.mk.injEq] at hzz
  obtain ⟨hz0, hz1, hz2⟩ := hzz
  have hbn := blk_new W (.cells #[.int .i64 p, .int .i64 q] 3)
  obtain ⟨v1, w1, hr, hown, hg, _, hat⟩ := run_append_own_at (P := Tryd.prog) (W.alloc (.cells #[.int .i64 p, .int .i64 q] 3)) B 48 48 3 i0 _ 1 8 Tryd.underlying48 hi0 hz0 hz1 hz2 rfl (by omega) v xs.length (nums .i64 xs) (own_move ho (fun k hk => Below.heap_alloc W _ k (ho.lt k hk).2)) ⟨W.heap.size, 0, none⟩ 2 2 [.int .i64 p, .int .i64 q] (by simp)
    (fun j u hj => by rw [Addr.add_lit, blk_cell hbn]; simpa using hj) (by intro u hu; simp at hu; rcases hu with rfl | rfl <;> rfl) (by unfold maxLen; omega) hl (by simp; omega)
  refine ⟨v1, w1, hr, ?_, ?_⟩
  · have e : nums .i64 (xs ++ [p, q]) = nums .i64 xs ++ [.int .i64 p, .int .i64 q] := by simp [nums]
    rw [e, show (xs ++ [p, q]).length = xs.length + 2 by simp]
    exact hown
  · exact World.grownBy.trans (World.grownBy_alloc W _ _) hg
theorem ownI_cell {w : World} {B g n c : Nat} {xs : List Int} (ho : w.ownsRow B 3 1 (.slice (some ⟨g, 0, none⟩) n c) xs.length (nums .i64 xs)) (j : Nat) (hj : j < xs.length) : w.cell? ⟨g, j, none⟩ = some (.int .i64 (xs.getD j 0)) := by
  obtain ⟨g', c', cur, e, hB, hg, hn, hm, hs, ht⟩ := own_int_form ho (by omega)
  injection e with e1 _ _
  injection e1 with e1
  injection e1 with e1
  subst e1
  rw [blk_cell hg j]
  have e : (cur.toList.take xs.length)[j]? = (nums .i64 xs)[j]? := by rw [ht]
  rw [List.getElem?_take, if_pos hj] at e
  rw [← Array.getElem?_toList, e]
  simp [nums, hj, List.getD_eq_getElem?_getD]
set_option maxRecDepth 100000 in
set_option maxHeartbeats 1000000 in
theorem fields_Leaves_walk (a : ByteArray) (A : Option Addr) (c : Nat) (l : List S31) (w : World) (hr : Kd.C k31 w A l.length l) (hc : l.length ≤ c) (hT_ : Aside0 (Tabs_ w)) (ha : a.size ≤ 9223372036854775807) (hl : l.length ≤ 1000000000)
    (E : List Int) (hE : edgesP (a.size : Int) l = E) (hE1 : 1 ≤ E.length) (hEl : E.length ≤ 2 * l.length + 2) (hEb : checkP a l = 0 → ∀ i : Nat, i + 1 < E.length → 0 ≤ E.getD i 0 ∧ E.getD i 0 ≤ E.getD (i + 1) 0 ∧ E.getD (i + 1) 0 ≤ (a.size : Int)) (r1 : List S43) (r2 : Int) (hR : (if checkP a l = 0 then (leavesGo a l E, (0 : Int)) else ([], 170)) = (r1, r2)) :
    Calls Tryd.prog 18 #[.agg #[.string a, .slice A l.length c]] w fun e w' => ∃ v0_ : Value, e = .returned (.tuple #[v0_, .int .i64 r2]) ∧ Kd.R k43 43 w' w.heap.size (fun _ => True) v0_ r1 ∧ Below w.heap.size w w' := by
  have u25 := Tryd.underlying25
  have u31 := Tryd.underlying31
  have u43 := Tryd.underlying43
  have HR := Aside0.mk hr
  clear hr
  obtain ⟨k, hk⟩ := (check_ev a l ha (by omega)).rounds
  have HK := Aside0.mk hk
  clear hk
  obtain ⟨t, ht⟩ : ∃ t, checkP a l = t := ⟨_, rfl⟩
  rw [ht] at HK hEb hR
  clear ht
  obtain ⟨W, hW⟩ : ∃ W, w.alloc (.cells #[.string a, .slice A l.length c] 25) = W := ⟨_, rfl⟩
  have HW := Aside0.mk (show W.heap[w.heap.size]? = some (.cells #[.string a, .slice A l.length c] 25 (0, 0)) by rw [← hW]; exact blk_new _ _)
  have HB := Aside0.mk (show Below w.heap.size w W by rw [← hW]; exact below_alloc (Below.refl _ _) _)
  obtain ⟨gb, hgb⟩ : ∃ g, w.heap.size = g := ⟨_, rfl⟩
  have c0 : W.cell? ⟨gb, 0, none⟩ = some (.string a) := by rw [← hgb]; exact blk_cell HW.out 0
  have c1 : W.cell? ⟨gb, 1, none⟩ = some (.slice A l.length c) := by rw [← hgb]; exact blk_cell HW.out 1
  go_enter Tryd.func18, Tryd.ntmps18
  go_wp2_with fail
  clear c0 c1 hW
  refine (fields_Check.calls k a A c l t W (Kd.C_below HR.out HB.out) hc ⟨Tabs_.step hT_.out HB.out⟩ HK.out).mono ?_
  rintro e w3 ⟨rfl, hb⟩
  have HB3 := Aside0.mk (below_step HB.out hb)
  have F0 := Aside0.mk (blk_below HW.out hb)
  clear hb HW HB HK
  have d00 : w3.cell? ⟨gb, 0, none⟩ = some (.string a) := by rw [← hgb]; exact blk_cell F0.out 0
  have d01 : w3.cell? ⟨gb, 1, none⟩ = some (.slice A l.length c) := by rw [← hgb]; exact blk_cell F0.out 1
  by_cases h1 : t = 0
  · have hn : (t != 0) = false := by simpa using h1
    rw [if_pos h1] at hR
    obtain ⟨rfl, rfl⟩ := Prod.mk.inj hR
    replace hEb := hEb h1
    clear hR h1
    have HEB := Aside0.mk hEb
    have HE := Aside0.mk hE
    clear hEb hE
    obtain ⟨W4, hW4⟩ : ∃ W4, w3.alloc (.cells #[.int .i64 0, .int .i64 (a.size : Int)] 3) = W4 := ⟨_, rfl⟩
    have HS := Aside0.mk (show LSt w W4 a A l.length c [0, (a.size : Int)] (.slice (some ⟨w3.heap.size, 0, none⟩) 2 2) by
      have hbl := below_alloc (Below.refl w3.heap.size w3) (.cells #[.int .i64 0, .int .i64 (a.size : Int)] 3)
      rw [hW4] at hbl
      refine ⟨below_step HB3.out hbl, blk_below F0.out hbl, ?_⟩
      exact ⟨rfl, .inr ⟨w3.heap.size, 2, #[.int .i64 0, .int .i64 (a.size : Int)], rfl, blk_lt F0.out, by rw [← hW4]; exact blk_new _ _, Nat.le_refl _, by unfold maxLen; omega, rfl, rfl⟩⟩)
    have HW4 := Aside0.mk hW4
    have e00 : W4.cell? ⟨gb, 0, none⟩ = some (.string a) := by rw [← hgb]; exact blk_cell HS.out.fo 0
    have e01 : W4.cell? ⟨gb, 1, none⟩ = some (.slice A l.length c) := by rw [← hgb]; exact blk_cell HS.out.fo 1
    obtain ⟨g4, hg4⟩ : ∃ g, w3.heap.size = g := ⟨_, rfl⟩
    rw [hg4] at HS
    clear F0 HB3
    go_wp2_with fail
    have HGB := Aside0.mk hgb
    clear d00 d01 e00 e01 hW4 hg4 HW4 hgb
    have HX := Aside0.mk (show [0, (a.size : Int)] ++ (l.drop 0).flatMap (fun x => [x.f1, x.f2]) = rawEdges (a.size : Int) l from rfl)
    go_loopg [23, 4] (l.length) (fun q v23 v4 w' => ∃ (i : Nat) (xs : List Int), v23 = .int .i64 i ∧ i + q = l.length ∧ Aside0 (xs.length = 2 * i + 2) ∧ Aside0 (xs ++ (l.drop i).flatMap (fun x => [x.f1, x.f2]) = rawEdges (a.size : Int) l) ∧ Aside0 (LSt w w' a A l.length c xs v4))
    case atStart => exact ⟨0, _, rfl, by omega, ⟨rfl⟩, HX, HS⟩
    case round =>
      clear HX HS
      obtain ⟨i, xs, rfl, hiq, HXL, HX, HS⟩ := hrel
      obtain ⟨A4, c4, e4⟩ := own_slice HS.out.ed
      subst e4
      cases gk with
      | zero =>
        have ci : ¬ ((i : Int) < (l.length : Int)) := by omega
        have hxs : xs = rawEdges (a.size : Int) l := by
          rw [← HX.out, List.drop_eq_nil_of_le (by omega)]
          simp
        have hEx : Lib.compact (sortI xs) = E := by rw [hxs]; exact HE.out
        clear hxs HE HX
        have HEX := Aside0.mk hEx
        clear hEx
        go_wp2_with fail
        refine (int_Sort wr (w.heap.size + 1) _ xs HS.out.ed (by have := HXL.out; omega) (by have := HXL.out; omega)).mono ?_
        rintro e w5 ⟨⟨u, rfl⟩, ho5, hg5⟩
        have HS5 := Aside0.mk (HS.out.grows (xs' := sortI xs) (by rw [sortI_length]; exact ho5) hg5)
        clear ho5 hg5 HS
        go_wp2_with fail
        have cC := int_Compact w5 (w.heap.size + 1) _ (sortI xs) HS5.out.ed (by rw [sortI_length]; have := HXL.out; omega) (by rw [sortI_length]; have := HXL.out; omega)
        refine cC.mono ?_
        clear cC
        rintro e w6 ⟨g6, c6, rfl, hc6, ho6, hg6⟩
        rw [HEX.out] at ho6 ⊢
        have HS6 := Aside0.mk (HS5.out.grows ho6 hg6)
        have hc6' : ¬ (c6 = 1) := by rw [sortI_length] at hc6; have := HXL.out; omega
        clear ho6 hg6 hc6 HS5 HEX HXL
        have hn6' : (1 : Int) ≤ (E.length : Int) := by omega
        go_wp2_with fail
        obtain ⟨m, hm⟩ : ∃ m, E.length = m + 1 := ⟨E.length - 1, by omega⟩
        rw [hm] at HS6 hn6' hEl ⊢
        rw [Nat.add_sub_cancel]
        have HM := Aside0.mk hm
        have HOUT := Aside0.mk (show ([] : List S43) ++ leavesGo a l (E.drop 0) = leavesGo a l E from rfl)
        have HR7 := Aside0.mk (show Kd.R k43 43 w6 (w.heap.size + 1) (fun _ => True) (.slice none 0 0) [] from Kd.R_nil _ _ _ _ _)
        clear hm hE1
        go_loopg [42, 7] m (fun q v42 v7 w' => ∃ (i : Nat) (out : List S43), v42 = .int .i64 i ∧ i + q = m ∧ Aside0 (out.length = i) ∧ Aside0 (out ++ leavesGo a l (E.drop i) = leavesGo a l E) ∧ Aside0 (LSt w w' a A l.length c E (.slice (some ⟨g6, 0, none⟩) (m + 1) c6)) ∧ Aside0 (Kd.R k43 43 w' (w.heap.size + 1) (fun _ => True) v7 out))
        case atStart => exact ⟨0, [], rfl, by omega, ⟨rfl⟩, HOUT, HS6, HR7⟩
        case round =>
          clear HOUT HS6 HR7
          obtain ⟨i, out, rfl, him, HOL, HOUT, HS, HR7⟩ := hrel
          obtain ⟨A7, c7, e7⟩ := Kd.R_slice HR7.out
          subst e7
          cases gk with
          | zero =>
            have ci : ¬ ((i : Int) < (m : Int)) := by omega
            obtain ⟨e, he⟩ : ∃ e, E.drop i = [e] := by
              have hl1 : (E.drop i).length = 1 := by rw [List.length_drop, HM.out]; omega
              exact List.length_eq_one_iff.1 hl1
            have ho : out = leavesGo a l E := by rw [← HOUT.out, he]; simp [leavesGo]
            go_wp2_with fail
            refine bodyPost_ret (results_tmp2 rfl _ _ _) rfl ?_
            exact ⟨_, rfl, by rw [← ho]; exact Kd.R_lower HR7.out (by omega), HS.out.below⟩
          | succ q =>
            have ci : (i : Int) < (m : Int) := by omega
            have ci2 : (i : Int) < (m : Int) + 1 := by omega
            obtain ⟨e, e', r, hd⟩ : ∃ e e' r, E.drop i = e :: e' :: r := by
              have h1 : i < E.length := by rw [HM.out]; omega
              have h2 : i + 1 < E.length := by rw [HM.out]; omega
              exact ⟨E[i], E[i + 1], E.drop (i + 2), by rw [List.drop_eq_getElem_cons h1, List.drop_eq_getElem_cons h2]⟩
            have hx0 := ownI_cell HS.out.ed i (by rw [HM.out]; omega)
            have hx1 := ownI_cell HS.out.ed (1 + i) (by rw [HM.out]; omega)
            have hge0 : E.getD i 0 = e := by
              have := congrArg (fun z => z.getD 0 0) hd
              simpa [List.getD_eq_getElem?_getD] using this
            have hge1 : E.getD (i + 1) 0 = e' := by
              have := congrArg (fun z => z.getD 1 0) hd
              simpa [List.getD_eq_getElem?_getD] using this
            obtain ⟨b0, b1, b2⟩ := HEB.out i (by rw [HM.out]; omega)
            rw [hge0] at b0 b1 hx0
            rw [hge1] at b1 b2
            rw [show 1 + i = i + 1 by omega, hge1] at hx1
            have hd2 : E.drop (i + 1) = e' :: r := by rw [← List.drop_drop, hd]; rfl
            have HOUT2 := Aside0.mk (show (out ++ [leafP a l e e']) ++ leavesGo a l (E.drop (i + 1)) = leavesGo a l E by rw [← HOUT.out, hd, hd2]; simp [leavesGo])
            have HGE := Aside0.mk hge0
            clear hd hd2 hge0 hge1 HOUT
            rw [show i + 1 = 1 + i by omega] at hx1
            have K0 : Aside0 (wr.drew.cell? ⟨gb, 0, none⟩ = some (.string a)) := ⟨by rw [← HGB.out]; exact blk_cell HS.out.fo 0⟩
            have K1 : Aside0 (wr.drew.cell? ⟨g6, i, none⟩ = some (.int .i64 e)) := ⟨hx0⟩
            go_wp2_with fail
            clear hx0 hx1
            refine start_ (n := 11) (S := fun w' => w'.cell? ⟨gb, 0, none⟩ = some (.string a) ∧ w'.cell? ⟨g6, i, none⟩ = some (.int .i64 e)) (ds := [10]) #[false, false, false, false, false, false, false, false, false, false, false] (by kernel_rfl) rfl rfl ⟨K0.out, K1.out⟩ (fun hHeld => ?_)
            refine pure_ (i := 0) (N := some 47) (v := ?_) (a' := ?_) #[true, false, false, false, false, false, false, false, false, false, false] rfl rfl (by kernel_rfl) (fun _ _ _ h => h) (Or.inl ⟨by rfl, ?_⟩) ?_ ?_
            rotate_left
            · intro w'
              go_simp
              with_reducible rfl
            rotate_left
            · simp only [Act.put, List.setIfInBounds_toArray, List.set_cons_zero, List.set_cons_succ, i64_w, i32_w]
              rfl
            refine pure_ (i := 2) (N := some 49) (v := ?_) (a' := ?_) #[true, false, true, false, false, false, false, false, false, false, false] rfl rfl (by kernel_rfl) (fun _ _ _ h => h) (Or.inl ⟨by rfl, ?_⟩) ?_ ?_
            rotate_left
            · intro w'
              go_simp
              with_reducible rfl
            rotate_left
            · simp only [Act.put, List.setIfInBounds_toArray, List.set_cons_zero, List.set_cons_succ, i64_w, i32_w]
              rfl
            refine pure_ (i := 3) (N := some 50) (v := ?_) (a' := ?_) #[true, false, true, true, false, false, false, false, false, false, false] rfl rfl (by kernel_rfl) (fun _ _ _ h => h) (Or.inl ⟨by rfl, ?_⟩) ?_ ?_
            rotate_left
            · intro w'
              go_simp
              with_reducible rfl
            rotate_left
            · simp only [Act.put, List.setIfInBounds_toArray, List.set_cons_zero, List.set_cons_succ, i64_w, i32_w]
              rfl
            refine pure_ (i := 4) (N := some 51) (v := ?_) (a' := ?_) #[true, false, true, true, true, false, false, false, false, false, false] rfl rfl (by kernel_rfl) (fun _ _ _ h => h) (Or.inl ⟨by rfl, ?_⟩) ?_ ?_
            rotate_left
            · intro w'
              go_simp
              with_reducible rfl
            rotate_left
            · simp only [Act.put, List.setIfInBounds_toArray, List.set_cons_zero, List.set_cons_succ, i64_w, i32_w]
              rfl
            refine pure_ (i := 6) (N := some 53) (v := ?_) (a' := ?_) #[true, false, true, true, true, false, true, false, false, false, false] rfl rfl (by kernel_rfl) (fun _ _ _ h => h) (Or.inl ⟨by rfl, ?_⟩) ?_ ?_
            rotate_left
            · intro w'
              go_simp
              with_reducible rfl
            rotate_left
            · simp only [Act.put, List.setIfInBounds_toArray, List.set_cons_zero, List.set_cons_succ, i64_w, i32_w]
              rfl
            refine take_ (i := 1) (N := some 48) (v := ?_) (a' := ?_) #[true, true, true, true, true, false, true, false, false, false, false] rfl rfl (by kernel_rfl) (fun _ _ _ h => h) (Or.inl ⟨by rfl, ?_⟩) hHeld ?_ ?_
            rotate_left
            · rintro w' ⟨s0, s1⟩
              go_simp
              with_reducible rfl
            rotate_left
            · simp only [Act.put, List.setIfInBounds_toArray, List.set_cons_zero, List.set_cons_succ, i64_w, i32_w]
              rfl
            refine take_ (i := 5) (N := some 52) (v := ?_) (a' := ?_) #[true, true, true, true, true, true, true, false, false, false, false] rfl rfl (by kernel_rfl) (fun _ _ _ h => h) (Or.inl ⟨by rfl, ?_⟩) hHeld ?_ ?_
            rotate_left
            · rintro w' ⟨s0, s1⟩
              go_simp
              with_reducible rfl
            rotate_left
            · simp only [Act.put, List.setIfInBounds_toArray, List.set_cons_zero, List.set_cons_succ, i64_w, i32_w]
              rfl
            refine pure_ (i := 7) (N := some 54) (v := ?_) (a' := ?_) #[true, true, true, true, true, true, true, true, false, false, false] rfl rfl (by kernel_rfl) (fun _ _ _ h => h) (Or.inl ⟨by rfl, ?_⟩) ?_ ?_
            rotate_left
            · intro w'
              go_simp
              with_reducible rfl
            rotate_left
            · simp only [Act.put, List.setIfInBounds_toArray, List.set_cons_zero, List.set_cons_succ, i64_w, i32_w]
              rfl
            refine pure_ (i := 8) (N := some 55) (v := ?_) (a' := ?_) #[true, true, true, true, true, true, true, true, true, false, false] rfl rfl (by kernel_rfl) (fun _ _ _ h => h) (Or.inl ⟨by rfl, ?_⟩) ?_ ?_
            rotate_left
            · intro w'
              go_simp
              with_reducible rfl
            rotate_left
            · simp only [Act.put, List.setIfInBounds_toArray, List.set_cons_zero, List.set_cons_succ, i64_w, i32_w]
              rfl
            refine one_ (i := 9) (N := some 10) #[true, true, true, true, true, true, true, true, true, true, false] rfl rfl (by kernel_rfl) (by decide) (fun K hK => ?_)
            refine value_ (w1 := ?_) (v := ?_) (by rfl) rfl ?_ ?_
            rotate_left 2
            · go_simp
              constructor
              · rfl
              · rfl
            refine hK.out _ _ ⟨pw_cell_below (below_alloc (Below.refl _ _) _) hHeld.1, pw_cell_below (below_alloc (Below.refl _ _) _) hHeld.2⟩ (fun hHeld => ?_)
            clear hK K
            refine norm_ (a' := ?_) ?_ ?_
            rotate_left
            · show Act.put _ (some 10) _ = _
              simp only [Act.put, List.setIfInBounds_toArray, List.set_cons_zero, List.set_cons_succ, i64_w, i32_w]
              rfl
            refine last_ (i := 10) (N := none) #[true, true, true, true, true, true, true, true, true, true, true] rfl rfl (by kernel_rfl) (by decide) (fun K hK => ?_)
            refine skip_ (w1 := ?_) (by rfl) rfl ?_ ?_
            rotate_left
            · go_simp
              rfl
            refine hK.out _ _ ?_
            clear hK K
            refine done_ (by kernel_rfl) ?_
            have HSA := HS.out.step (below_alloc (Below.refl _ _) (.cells #[.string (a.extract e.toNat e'.toNat), .int .i64 0] 43))
            have K2 : (wr.alloc (.cells #[.string (a.extract e.toNat e'.toNat), .int .i64 0] 43)).cell? ⟨gb, 1, none⟩ = some (.slice A l.length c) := by rw [← HGB.out]; exact blk_cell HSA.fo 1
            have HS2 := Aside0.mk (HSA.step (below_drew (Below.refl _ _)))
            have HQ2 := Aside0.mk (blk_drew (blk_new wr (.cells #[.string (a.extract e.toNat e'.toNat), .int .i64 0] 43)))
            have HR2 := Aside0.mk (Kd.R_drew (Kd.R_alloc HR7.out (.cells #[.string (a.extract e.toNat e'.toNat), .int .i64 0] 43)))
            have HF := Aside0.mk (show ∀ kk, (Value.slice A7 out.length c7).ownBlock = some kk → kk < wr.heap.size from fun kk hk => own_lt (Kd.R_own HR7.out).choose_spec kk hk)
            have HGQ := Aside0.mk HS.out.size
            clear HSA
            go_wp2_with fail
            clear K2
            generalize wr.heap.size = gq at HQ2 HF HGQ ⊢
            generalize (wr.alloc (.cells #[.string (a.extract e.toNat e'.toNat), .int .i64 0] 43)).drew = Wq at HS2 HQ2 HR2 ⊢
            obtain ⟨D, hD⟩ : ∃ D, innerF l e e' 0 = D := ⟨_, rfl⟩
            have HD := Aside0.mk (show innerF (l.drop 0) e e' 0 = D from hD)
            rw [show leafP a l e e' = ⟨a.extract e.toNat e'.toNat, D⟩ by unfold leafP; rw [hD]] at HOUT2
            clear hD HS HR7
            obtain ⟨sub, hsub⟩ : ∃ sub, a.extract e.toNat e'.toNat = sub := ⟨_, rfl⟩
            rw [hsub] at HQ2 HOUT2
            clear hsub
            go_loopg [59] (l.length) (fun qq v59 w' => ∃ (kx : Nat) (d : Int), v59 = .int .i64 kx ∧ kx + qq = l.length ∧ Aside0 (innerF (l.drop kx) e e' d = D) ∧ Aside0 (LSt w w' a A l.length c E (.slice (some ⟨g6, 0, none⟩) (m + 1) c6)) ∧ Aside0 (w'.heap[gq]? = some (.cells #[.string sub, .int .i64 d] 43 (0, 0))) ∧ Aside0 (Kd.R k43 43 w' (w.heap.size + 1) (fun _ => True) (.slice A7 out.length c7) out))
            case atStart => exact ⟨0, 0, rfl, by omega, HD, HS2, HQ2, HR2⟩
            case round =>
              clear HD HS2 HQ2 HR2
              obtain ⟨kx, d, rfl, hkx, HD, HS, HQ, HR7⟩ := hrel
              have q0 : wr.cell? ⟨gq, 0, none⟩ = some (.string sub) := blk_cell HQ.out 0
              have q1 : wr.cell? ⟨gq, 1, none⟩ = some (.int .i64 d) := blk_cell HQ.out 1
              cases gk with
              | zero =>
                have cx : ¬ ((kx : Int) < (l.length : Int)) := by omega
                obtain rfl : D = d := by rw [← HD.out, List.drop_eq_nil_of_le (by omega)]; rfl
                go_wp2_with (first | ((with_reducible refine gate_builtin (b := .append) (xs := #[.tmp 80, .tmp 82]) rfl ?_); at_builtin; (refine Kd.R_append k43 (w0 := wr) (W := wr) (w.heap.size + 1) rfl (.tmp 80) (.tmp 82) 22 43 (.agg #[(.string ⟨#[]⟩), (.int .i64 0)]) 24 rfl Tryd.underlying22 info43 rfl (by decide) (by omega) (.slice A7 out.length c7) out ⟨sub, D⟩ [.string sub, .int .i64 D] (fun _ => True) (fun _ => False) rfl rfl (k43_mkM _ _ _ _) (fun _ hk => hk.elim) (fun _ _ => trivial) HR7.out (Below.refl _ _) HS.out.size (by have := HOL.out; omega) ?_); intro v8 w8 ho8 hb8 hg8 hat8; have HS8 := Aside0.mk (HS.out.grown hg8 (fun kk hk => ⟨((Kd.R_own HR7.out).choose_spec.lt kk hk).1, fun e => own43_ne HR7.out HS.out.ed hk e⟩)); have HR8 := Aside0.mk ho8; clear ho8 hb8 hg8 hat8))
                go_roundg q
                case measure => omega
                case rel => exact ⟨i + 1, out ++ [⟨sub, D⟩], by first | rfl | (simp; done), by omega, ⟨by have := HOL.out; simp; omega⟩, HOUT2, HS8, HR8⟩
              | succ qq =>
                have cx : (kx : Int) < (l.length : Int) := by omega
                obtain ⟨Y, r9, hd9⟩ : ∃ Y r, l.drop kx = Y :: r := ⟨_, _, List.drop_eq_getElem_cons (by omega)⟩
                obtain ⟨hd1, hd2, _⟩ := rd_drop hd9
                obtain ⟨ad, ea, hx0, hx1, hx2⟩ := at_T31 (Kd.C_below HR.out HS.out.below) (kx : Int) (by omega) cx
                rw [show ((kx : Nat) : Int).toNat = kx by omega] at hx0 hx1 hx2
                subst ea
                rw [hd1] at hx0 hx1 hx2
                have HDY := Aside0.mk (show innerF (l.drop (kx + 1)) e e' (if Y.f1 ≤ e ∧ e' ≤ Y.f2 then Y.f0 else d) = D by rw [← HD.out, hd9, hd2]; rfl)
                clear hd9 hd1 hd2 HD
                obtain ⟨gx, hgx⟩ : ∃ g, wr.heap.size = g := ⟨_, rfl⟩
                obtain ⟨W3, hW3⟩ : ∃ W3, wr.alloc (.cells #[.int .i64 Y.f0, .int .i64 Y.f1, .int .i64 Y.f2] 31) = W3 := ⟨_, rfl⟩
                have hbW3 := below_alloc (Below.refl wr.heap.size wr) (.cells #[.int .i64 Y.f0, .int .i64 Y.f1, .int .i64 Y.f2] 31)
                rw [hW3] at hbW3
                have HX3 := Aside0.mk (show W3.drew.heap[gx]? = some (.cells #[.int .i64 Y.f0, .int .i64 Y.f1, .int .i64 Y.f2] 31 (0, 0)) by rw [← hW3, ← hgx]; exact blk_drew (blk_new _ _))
                have HS3 := Aside0.mk (HS.out.step (hbW3.drew))
                have HQ3 := Aside0.mk (blk_below HQ.out hbW3.drew)
                have HR3 := Aside0.mk (Kd.R_below HR7.out hbW3.drew)
                have K3 : Aside0 (W3.drew.cell? ⟨g6, i, none⟩ = some (.int .i64 e)) := ⟨pw_cell_below hbW3.drew (by have := ownI_cell HS.out.ed i (by rw [HM.out]; omega); rw [HGE.out] at this; exact this)⟩
                clear hbW3 HS HQ HR7 q0 q1
                by_cases h1 : Y.f1 ≤ e
                · have d1 : decide (Y.f1 ≤ e) = true := decide_eq_true h1
                  by_cases h2 : e' ≤ Y.f2
                  · have d2 : decide (e' ≤ Y.f2) = true := decide_eq_true h2
                    have HDn := Aside0.mk (show innerF (l.drop (kx + 1)) e e' Y.f0 = D by have := HDY.out; rw [if_pos ⟨h1, h2⟩] at this; exact this)
                    go_wp2_with fail
                    refine start_ (n := 13) (S := fun w' => w'.cell? ⟨gx, 1, none⟩ = some (.int .i64 Y.f1) ∧ w'.cell? ⟨g6, i, none⟩ = some (.int .i64 e) ∧ w'.cell? ⟨gx, 2, none⟩ = some (.int .i64 Y.f2)) (ds := []) #[false, false, false, false, false, false, false, false, false, false, false, false, false] (by kernel_rfl) rfl rfl ⟨blk_cell HX3.out 1, K3.out, blk_cell HX3.out 2⟩ (fun hHeld => ?_)
                    refine pure_ (i := 0) (N := some 63) (v := ?_) (a' := ?_) #[true, false, false, false, false, false, false, false, false, false, false, false, false] rfl rfl (by kernel_rfl) (fun _ _ _ h => h) (Or.inl ⟨by rfl, ?_⟩) ?_ ?_
                    rotate_left
                    · intro w'
                      go_simp
                      with_reducible rfl
                    rotate_left
                    · simp only [Act.put, List.setIfInBounds_toArray, List.set_cons_zero, List.set_cons_succ, i64_w, i32_w]
                      rfl
                    refine pure_ (i := 2) (N := some 65) (v := ?_) (a' := ?_) #[true, false, true, false, false, false, false, false, false, false, false, false, false] rfl rfl (by kernel_rfl) (fun _ _ _ h => h) (Or.inl ⟨by rfl, ?_⟩) ?_ ?_
                    rotate_left
                    · intro w'
                      go_simp
                      with_reducible rfl
                    rotate_left
                    · simp only [Act.put, List.setIfInBounds_toArray, List.set_cons_zero, List.set_cons_succ, i64_w, i32_w]
                      rfl
                    refine pure_ (i := 3) (N := some 66) (v := ?_) (a' := ?_) #[true, false, true, true, false, false, false, false, false, false, false, false, false] rfl rfl (by kernel_rfl) (fun _ _ _ h => h) (Or.inl ⟨by rfl, ?_⟩) ?_ ?_
                    rotate_left
                    · intro w'
                      go_simp
                      with_reducible rfl
                    rotate_left
                    · simp only [Act.put, List.setIfInBounds_toArray, List.set_cons_zero, List.set_cons_succ, i64_w, i32_w]
                      rfl
                    refine pure_ (i := 4) (N := some 67) (v := ?_) (a' := ?_) #[true, false, true, true, true, false, false, false, false, false, false, false, false] rfl rfl (by kernel_rfl) (fun _ _ _ h => h) (Or.inl ⟨by rfl, ?_⟩) ?_ ?_
                    rotate_left
                    · intro w'
                      go_simp
                      with_reducible rfl
                    rotate_left
                    · simp only [Act.put, List.setIfInBounds_toArray, List.set_cons_zero, List.set_cons_succ, i64_w, i32_w]
                      rfl
                    refine take_ (i := 1) (N := some 64) (v := ?_) (a' := ?_) #[true, true, true, true, true, false, false, false, false, false, false, false, false] rfl rfl (by kernel_rfl) (fun _ _ _ h => h) (Or.inl ⟨by rfl, ?_⟩) hHeld ?_ ?_
                    rotate_left
                    · rintro w' ⟨s0, s1, s2⟩
                      go_simp
                      with_reducible rfl
                    rotate_left
                    · simp only [Act.put, List.setIfInBounds_toArray, List.set_cons_zero, List.set_cons_succ, i64_w, i32_w]
                      rfl
                    refine take_ (i := 5) (N := some 68) (v := ?_) (a' := ?_) #[true, true, true, true, true, true, false, false, false, false, false, false, false] rfl rfl (by kernel_rfl) (fun _ _ _ h => h) (Or.inl ⟨by rfl, ?_⟩) hHeld ?_ ?_
                    rotate_left
                    · rintro w' ⟨s0, s1, s2⟩
                      go_simp
                      with_reducible rfl
                    rotate_left
                    · simp only [Act.put, List.setIfInBounds_toArray, List.set_cons_zero, List.set_cons_succ, i64_w, i32_w]
                      rfl
                    refine pure_ (i := 6) (N := some 69) (v := ?_) (a' := ?_) #[true, true, true, true, true, true, true, false, false, false, false, false, false] rfl rfl (by kernel_rfl) (fun _ _ _ h => h) (Or.inl ⟨by rfl, ?_⟩) ?_ ?_
                    rotate_left
                    · intro w'
                      go_simp
                      with_reducible rfl
                    rotate_left
                    · simp only [Act.put, List.setIfInBounds_toArray, List.set_cons_zero, List.set_cons_succ, i64_w, i32_w]
                      rfl
                    refine pure_ (i := 7) (N := some 70) (v := ?_) (a' := ?_) #[true, true, true, true, true, true, true, true, false, false, false, false, false] rfl rfl (by kernel_rfl) (fun _ _ _ h => h) (Or.inl ⟨by rfl, ?_⟩) ?_ ?_
                    rotate_left
                    · intro w'
                      go_simp
                      with_reducible rfl
                    rotate_left
                    · simp only [Act.put, List.setIfInBounds_toArray, List.set_cons_zero, List.set_cons_succ, i64_w, i32_w]
                      rfl
                    refine pure_ (i := 8) (N := some 71) (v := ?_) (a' := ?_) #[true, true, true, true, true, true, true, true, true, false, false, false, false] rfl rfl (by kernel_rfl) (fun _ _ _ h => h) (Or.inl ⟨by rfl, ?_⟩) ?_ ?_
                    rotate_left
                    · intro w'
                      go_simp
                      with_reducible rfl
                    rotate_left
                    · simp only [Act.put, List.setIfInBounds_toArray, List.set_cons_zero, List.set_cons_succ, i64_w, i32_w]
                      rfl
                    refine pure_ (i := 9) (N := some 72) (v := ?_) (a' := ?_) #[true, true, true, true, true, true, true, true, true, true, false, false, false] rfl rfl (by kernel_rfl) (fun _ _ _ h => h) (Or.inl ⟨by rfl, ?_⟩) ?_ ?_
                    rotate_left
                    · intro w'
                      go_simp
                      with_reducible rfl
                    rotate_left
                    · simp only [Act.put, List.setIfInBounds_toArray, List.set_cons_zero, List.set_cons_succ, i64_w, i32_w]
                      rfl
                    refine take_ (i := 10) (N := some 73) (v := ?_) (a' := ?_) #[true, true, true, true, true, true, true, true, true, true, true, false, false] rfl rfl (by kernel_rfl) (fun _ _ _ h => h) (Or.inl ⟨by rfl, ?_⟩) hHeld ?_ ?_
                    rotate_left
                    · rintro w' ⟨s0, s1, s2⟩
                      go_simp
                      with_reducible rfl
                    rotate_left
                    · simp only [Act.put, List.setIfInBounds_toArray, List.set_cons_zero, List.set_cons_succ, i64_w, i32_w]
                      rfl
                    refine pure_ (i := 11) (N := some 74) (v := ?_) (a' := ?_) #[true, true, true, true, true, true, true, true, true, true, true, true, false] rfl rfl (by kernel_rfl) (fun _ _ _ h => h) (Or.inl ⟨by rfl, ?_⟩) ?_ ?_
                    rotate_left
                    · intro w'
                      go_simp
                      with_reducible rfl
                    rotate_left
                    · simp only [Act.put, List.setIfInBounds_toArray, List.set_cons_zero, List.set_cons_succ, i64_w, i32_w]
                      rfl
                    refine pure_ (i := 12) (N := some 75) (v := ?_) (a' := ?_) #[true, true, true, true, true, true, true, true, true, true, true, true, true] rfl rfl (by kernel_rfl) (fun _ _ _ h => h) (Or.inl ⟨by rfl, ?_⟩) ?_ ?_
                    rotate_left
                    · intro w'
                      go_simp
                      with_reducible rfl
                    rotate_left
                    · simp only [Act.put, List.setIfInBounds_toArray, List.set_cons_zero, List.set_cons_succ, i64_w, i32_w]
                      rfl
                    refine done_ (by kernel_rfl) ?_
                    have z0 : W3.cell? ⟨gx, 0, none⟩ = some (.int .i64 Y.f0) := blk_cell HX3.out 0
                    have z1 : W3.cell? ⟨gq, 1, none⟩ = some (.int .i64 d) := blk_cell HQ3.out 1
                    have y1 : W3.frozen? ⟨gq, 1, none⟩ = false := blk_frozen HQ3.out 1
                    go_wp2_with fail
                    have hgr : W3.drew.grownBy (W3.drew.setCell ⟨gq, 1, none⟩ (.int .i64 Y.f0)) (some gq) := ⟨rfl, rfl, rfl, by simp [World.setCell], fun kk hk hr => Below.heap_setCell _ _ _ kk (fun z => hr (by rw [z]))⟩
                    have HS4 := Aside0.mk (HS3.out.grown hgr (fun kk hk => by
                      injection hk with hk
                      subst hk
                      refine ⟨HGQ.out, fun z => ?_⟩
                      obtain ⟨cells', hc'⟩ := own_typed HS3.out.ed gq z.symm
                      exact blk_ne HQ3.out hc' (by decide) rfl))
                    have HQ4 := Aside0.mk (blk_put HQ3.out 1 (.int .i64 Y.f0) rfl)
                    have HR4 := Aside0.mk (Kd.R_grown2 HR3.out rfl hgr (fun kk hk z => by
                      injection hk with hk
                      subst hk
                      exact Nat.lt_irrefl _ (HF.out _ z.symm)))
                    go_roundg qq
                    case measure => omega
                    case rel => exact ⟨kx + 1, Y.f0, by first | rfl | (simp; done), by omega, HDn, HS4, HQ4, HR4⟩
                  · have d2 : decide (e' ≤ Y.f2) = false := decide_eq_false h2
                    have HDn := Aside0.mk (show innerF (l.drop (kx + 1)) e e' d = D by have := HDY.out; rw [if_neg (fun z => h2 z.2)] at this; exact this)
                    go_wp2_with fail
                    refine start_ (n := 13) (S := fun w' => w'.cell? ⟨gx, 1, none⟩ = some (.int .i64 Y.f1) ∧ w'.cell? ⟨g6, i, none⟩ = some (.int .i64 e) ∧ w'.cell? ⟨gx, 2, none⟩ = some (.int .i64 Y.f2)) (ds := []) #[false, false, false, false, false, false, false, false, false, false, false, false, false] (by kernel_rfl) rfl rfl ⟨blk_cell HX3.out 1, K3.out, blk_cell HX3.out 2⟩ (fun hHeld => ?_)
                    refine pure_ (i := 0) (N := some 63) (v := ?_) (a' := ?_) #[true, false, false, false, false, false, false, false, false, false, false, false, false] rfl rfl (by kernel_rfl) (fun _ _ _ h => h) (Or.inl ⟨by rfl, ?_⟩) ?_ ?_
                    rotate_left
                    · intro w'
                      go_simp
                      with_reducible rfl
                    rotate_left
                    · simp only [Act.put, List.setIfInBounds_toArray, List.set_cons_zero, List.set_cons_succ, i64_w, i32_w]
                      rfl
                    refine pure_ (i := 2) (N := some 65) (v := ?_) (a' := ?_) #[true, false, true, false, false, false, false, false, false, false, false, false, false] rfl rfl (by kernel_rfl) (fun _ _ _ h => h) (Or.inl ⟨by rfl, ?_⟩) ?_ ?_
                    rotate_left
                    · intro w'
                      go_simp
                      with_reducible rfl
                    rotate_left
                    · simp only [Act.put, List.setIfInBounds_toArray, List.set_cons_zero, List.set_cons_succ, i64_w, i32_w]
                      rfl
                    refine pure_ (i := 3) (N := some 66) (v := ?_) (a' := ?_) #[true, false, true, true, false, false, false, false, false, false, false, false, false] rfl rfl (by kernel_rfl) (fun _ _ _ h => h) (Or.inl ⟨by rfl, ?_⟩) ?_ ?_
                    rotate_left
                    · intro w'
                      go_simp
                      with_reducible rfl
                    rotate_left
                    · simp only [Act.put, List.setIfInBounds_toArray, List.set_cons_zero, List.set_cons_succ, i64_w, i32_w]
                      rfl
                    refine pure_ (i := 4) (N := some 67) (v := ?_) (a' := ?_) #[true, false, true, true, true, false, false, false, false, false, false, false, false] rfl rfl (by kernel_rfl) (fun _ _ _ h => h) (Or.inl ⟨by rfl, ?_⟩) ?_ ?_
                    rotate_left
                    · intro w'
                      go_simp
                      with_reducible rfl
                    rotate_left
                    · simp only [Act.put, List.setIfInBounds_toArray, List.set_cons_zero, List.set_cons_succ, i64_w, i32_w]
                      rfl
                    refine take_ (i := 1) (N := some 64) (v := ?_) (a' := ?_) #[true, true, true, true, true, false, false, false, false, false, false, false, false] rfl rfl (by kernel_rfl) (fun _ _ _ h => h) (Or.inl ⟨by rfl, ?_⟩) hHeld ?_ ?_
                    rotate_left
                    · rintro w' ⟨s0, s1, s2⟩
                      go_simp
                      with_reducible rfl
                    rotate_left
                    · simp only [Act.put, List.setIfInBounds_toArray, List.set_cons_zero, List.set_cons_succ, i64_w, i32_w]
                      rfl
                    refine take_ (i := 5) (N := some 68) (v := ?_) (a' := ?_) #[true, true, true, true, true, true, false, false, false, false, false, false, false] rfl rfl (by kernel_rfl) (fun _ _ _ h => h) (Or.inl ⟨by rfl, ?_⟩) hHeld ?_ ?_
                    rotate_left
                    · rintro w' ⟨s0, s1, s2⟩
                      go_simp
                      with_reducible rfl
                    rotate_left
                    · simp only [Act.put, List.setIfInBounds_toArray, List.set_cons_zero, List.set_cons_succ, i64_w, i32_w]
                      rfl
                    refine pure_ (i := 6) (N := some 69) (v := ?_) (a' := ?_) #[true, true, true, true, true, true, true, false, false, false, false, false, false] rfl rfl (by kernel_rfl) (fun _ _ _ h => h) (Or.inl ⟨by rfl, ?_⟩) ?_ ?_
                    rotate_left
                    · intro w'
                      go_simp
                      with_reducible rfl
                    rotate_left
                    · simp only [Act.put, List.setIfInBounds_toArray, List.set_cons_zero, List.set_cons_succ, i64_w, i32_w]
                      rfl
                    refine pure_ (i := 7) (N := some 70) (v := ?_) (a' := ?_) #[true, true, true, true, true, true, true, true, false, false, false, false, false] rfl rfl (by kernel_rfl) (fun _ _ _ h => h) (Or.inl ⟨by rfl, ?_⟩) ?_ ?_
                    rotate_left
                    · intro w'
                      go_simp
                      with_reducible rfl
                    rotate_left
                    · simp only [Act.put, List.setIfInBounds_toArray, List.set_cons_zero, List.set_cons_succ, i64_w, i32_w]
                      rfl
                    refine pure_ (i := 8) (N := some 71) (v := ?_) (a' := ?_) #[true, true, true, true, true, true, true, true, true, false, false, false, false] rfl rfl (by kernel_rfl) (fun _ _ _ h => h) (Or.inl ⟨by rfl, ?_⟩) ?_ ?_
                    rotate_left
                    · intro w'
                      go_simp
                      with_reducible rfl
                    rotate_left
                    · simp only [Act.put, List.setIfInBounds_toArray, List.set_cons_zero, List.set_cons_succ, i64_w, i32_w]
                      rfl
                    refine pure_ (i := 9) (N := some 72) (v := ?_) (a' := ?_) #[true, true, true, true, true, true, true, true, true, true, false, false, false] rfl rfl (by kernel_rfl) (fun _ _ _ h => h) (Or.inl ⟨by rfl, ?_⟩) ?_ ?_
                    rotate_left
                    · intro w'
                      go_simp
                      with_reducible rfl
                    rotate_left
                    · simp only [Act.put, List.setIfInBounds_toArray, List.set_cons_zero, List.set_cons_succ, i64_w, i32_w]
                      rfl
                    refine take_ (i := 10) (N := some 73) (v := ?_) (a' := ?_) #[true, true, true, true, true, true, true, true, true, true, true, false, false] rfl rfl (by kernel_rfl) (fun _ _ _ h => h) (Or.inl ⟨by rfl, ?_⟩) hHeld ?_ ?_
                    rotate_left
                    · rintro w' ⟨s0, s1, s2⟩
                      go_simp
                      with_reducible rfl
                    rotate_left
                    · simp only [Act.put, List.setIfInBounds_toArray, List.set_cons_zero, List.set_cons_succ, i64_w, i32_w]
                      rfl
                    refine pure_ (i := 11) (N := some 74) (v := ?_) (a' := ?_) #[true, true, true, true, true, true, true, true, true, true, true, true, false] rfl rfl (by kernel_rfl) (fun _ _ _ h => h) (Or.inl ⟨by rfl, ?_⟩) ?_ ?_
                    rotate_left
                    · intro w'
                      go_simp
                      with_reducible rfl
                    rotate_left
                    · simp only [Act.put, List.setIfInBounds_toArray, List.set_cons_zero, List.set_cons_succ, i64_w, i32_w]
                      rfl
                    refine pure_ (i := 12) (N := some 75) (v := ?_) (a' := ?_) #[true, true, true, true, true, true, true, true, true, true, true, true, true] rfl rfl (by kernel_rfl) (fun _ _ _ h => h) (Or.inl ⟨by rfl, ?_⟩) ?_ ?_
                    rotate_left
                    · intro w'
                      go_simp
                      with_reducible rfl
                    rotate_left
                    · simp only [Act.put, List.setIfInBounds_toArray, List.set_cons_zero, List.set_cons_succ, i64_w, i32_w]
                      rfl
                    refine done_ (by kernel_rfl) ?_
                    go_wp2_with fail
                    go_roundg qq
                    case measure => omega
                    case rel => exact ⟨kx + 1, d, by first | rfl | (simp; done), by omega, HDn, HS3, HQ3, HR3⟩
                · have d1 : decide (Y.f1 ≤ e) = false := decide_eq_false h1
                  have HDn := Aside0.mk (show innerF (l.drop (kx + 1)) e e' d = D by have := HDY.out; rw [if_neg (fun z => h1 z.1)] at this; exact this)
                  go_wp2_with fail
                  refine start_ (n := 13) (S := fun w' => w'.cell? ⟨gx, 1, none⟩ = some (.int .i64 Y.f1) ∧ w'.cell? ⟨g6, i, none⟩ = some (.int .i64 e) ∧ w'.cell? ⟨gx, 2, none⟩ = some (.int .i64 Y.f2)) (ds := []) #[false, false, false, false, false, false, false, false, false, false, false, false, false] (by kernel_rfl) rfl rfl ⟨blk_cell HX3.out 1, K3.out, blk_cell HX3.out 2⟩ (fun hHeld => ?_)
                  refine pure_ (i := 0) (N := some 63) (v := ?_) (a' := ?_) #[true, false, false, false, false, false, false, false, false, false, false, false, false] rfl rfl (by kernel_rfl) (fun _ _ _ h => h) (Or.inl ⟨by rfl, ?_⟩) ?_ ?_
                  rotate_left
                  · intro w'
                    go_simp
                    with_reducible rfl
                  rotate_left
                  · simp only [Act.put, List.setIfInBounds_toArray, List.set_cons_zero, List.set_cons_succ, i64_w, i32_w]
                    rfl
                  refine pure_ (i := 2) (N := some 65) (v := ?_) (a' := ?_) #[true, false, true, false, false, false, false, false, false, false, false, false, false] rfl rfl (by kernel_rfl) (fun _ _ _ h => h) (Or.inl ⟨by rfl, ?_⟩) ?_ ?_
                  rotate_left
                  · intro w'
                    go_simp
                    with_reducible rfl
                  rotate_left
                  · simp only [Act.put, List.setIfInBounds_toArray, List.set_cons_zero, List.set_cons_succ, i64_w, i32_w]
                    rfl
                  refine pure_ (i := 3) (N := some 66) (v := ?_) (a' := ?_) #[true, false, true, true, false, false, false, false, false, false, false, false, false] rfl rfl (by kernel_rfl) (fun _ _ _ h => h) (Or.inl ⟨by rfl, ?_⟩) ?_ ?_
                  rotate_left
                  · intro w'
                    go_simp
                    with_reducible rfl
                  rotate_left
                  · simp only [Act.put, List.setIfInBounds_toArray, List.set_cons_zero, List.set_cons_succ, i64_w, i32_w]
                    rfl
                  refine pure_ (i := 4) (N := some 67) (v := ?_) (a' := ?_) #[true, false, true, true, true, false, false, false, false, false, false, false, false] rfl rfl (by kernel_rfl) (fun _ _ _ h => h) (Or.inl ⟨by rfl, ?_⟩) ?_ ?_
                  rotate_left
                  · intro w'
                    go_simp
                    with_reducible rfl
                  rotate_left
                  · simp only [Act.put, List.setIfInBounds_toArray, List.set_cons_zero, List.set_cons_succ, i64_w, i32_w]
                    rfl
                  refine take_ (i := 1) (N := some 64) (v := ?_) (a' := ?_) #[true, true, true, true, true, false, false, false, false, false, false, false, false] rfl rfl (by kernel_rfl) (fun _ _ _ h => h) (Or.inl ⟨by rfl, ?_⟩) hHeld ?_ ?_
                  rotate_left
                  · rintro w' ⟨s0, s1, s2⟩
                    go_simp
                    with_reducible rfl
                  rotate_left
                  · simp only [Act.put, List.setIfInBounds_toArray, List.set_cons_zero, List.set_cons_succ, i64_w, i32_w]
                    rfl
                  refine take_ (i := 5) (N := some 68) (v := ?_) (a' := ?_) #[true, true, true, true, true, true, false, false, false, false, false, false, false] rfl rfl (by kernel_rfl) (fun _ _ _ h => h) (Or.inl ⟨by rfl, ?_⟩) hHeld ?_ ?_
                  rotate_left
                  · rintro w' ⟨s0, s1, s2⟩
                    go_simp
                    with_reducible rfl
                  rotate_left
                  · simp only [Act.put, List.setIfInBounds_toArray, List.set_cons_zero, List.set_cons_succ, i64_w, i32_w]
                    rfl
                  refine pure_ (i := 6) (N := some 69) (v := ?_) (a' := ?_) #[true, true, true, true, true, true, true, false, false, false, false, false, false] rfl rfl (by kernel_rfl) (fun _ _ _ h => h) (Or.inl ⟨by rfl, ?_⟩) ?_ ?_
                  rotate_left
                  · intro w'
                    go_simp
                    with_reducible rfl
                  rotate_left
                  · simp only [Act.put, List.setIfInBounds_toArray, List.set_cons_zero, List.set_cons_succ, i64_w, i32_w]
                    rfl
                  refine pure_ (i := 7) (N := some 70) (v := ?_) (a' := ?_) #[true, true, true, true, true, true, true, true, false, false, false, false, false] rfl rfl (by kernel_rfl) (fun _ _ _ h => h) (Or.inl ⟨by rfl, ?_⟩) ?_ ?_
                  rotate_left
                  · intro w'
                    go_simp
                    with_reducible rfl
                  rotate_left
                  · simp only [Act.put, List.setIfInBounds_toArray, List.set_cons_zero, List.set_cons_succ, i64_w, i32_w]
                    rfl
                  refine pure_ (i := 8) (N := some 71) (v := undef) (a' := ?_) #[true, true, true, true, true, true, true, true, true, false, false, false, false] rfl rfl (by kernel_rfl) (fun _ _ _ h => h) (Or.inr ⟨by rfl, rfl⟩) ?_ ?_
                  rotate_left
                  · simp only [Act.put, List.setIfInBounds_toArray, List.set_cons_zero, List.set_cons_succ, i64_w, i32_w]
                    rfl
                  refine pure_ (i := 9) (N := some 72) (v := undef) (a' := ?_) #[true, true, true, true, true, true, true, true, true, true, false, false, false] rfl rfl (by kernel_rfl) (fun _ _ _ h => h) (Or.inr ⟨by rfl, rfl⟩) ?_ ?_
                  rotate_left
                  · simp only [Act.put, List.setIfInBounds_toArray, List.set_cons_zero, List.set_cons_succ, i64_w, i32_w]
                    rfl
                  refine pure_ (i := 10) (N := some 73) (v := undef) (a' := ?_) #[true, true, true, true, true, true, true, true, true, true, true, false, false] rfl rfl (by kernel_rfl) (fun _ _ _ h => h) (Or.inr ⟨by rfl, rfl⟩) ?_ ?_
                  rotate_left
                  · simp only [Act.put, List.setIfInBounds_toArray, List.set_cons_zero, List.set_cons_succ, i64_w, i32_w]
                    rfl
                  refine pure_ (i := 11) (N := some 74) (v := undef) (a' := ?_) #[true, true, true, true, true, true, true, true, true, true, true, true, false] rfl rfl (by kernel_rfl) (fun _ _ _ h => h) (Or.inr ⟨by rfl, rfl⟩) ?_ ?_
                  rotate_left
                  · simp only [Act.put, List.setIfInBounds_toArray, List.set_cons_zero, List.set_cons_succ, i64_w, i32_w]
                    rfl
                  refine pure_ (i := 12) (N := some 75) (v := ?_) (a' := ?_) #[true, true, true, true, true, true, true, true, true, true, true, true, true] rfl rfl (by kernel_rfl) (fun _ _ _ h => h) (Or.inl ⟨by rfl, ?_⟩) ?_ ?_
                  rotate_left
                  · intro w'
                    go_simp
                    with_reducible rfl
                  rotate_left
                  · simp only [Act.put, List.setIfInBounds_toArray, List.set_cons_zero, List.set_cons_succ, i64_w, i32_w]
                    rfl
                  refine done_ (by kernel_rfl) ?_
                  go_wp2_with fail
                  go_roundg qq
                  case measure => omega
                  case rel => exact ⟨kx + 1, d, by first | rfl | (simp; done), by omega, HDn, HS3, HQ3, HR3⟩
      | succ q =>
        have ci : (i : Int) < (l.length : Int) := by omega
        obtain ⟨Y, r, hd⟩ : ∃ Y r, l.drop i = Y :: r := ⟨_, _, List.drop_eq_getElem_cons (by omega)⟩
        obtain ⟨hd1, hd2, _⟩ := rd_drop hd
        obtain ⟨ad, ea, hx0, hx1, hx2⟩ := at_T31 (Kd.C_below HR.out HS.out.below) (i : Int) (by omega) ci
        rw [show ((i : Nat) : Int).toNat = i by omega] at hx0 hx1 hx2
        subst ea
        rw [hd1] at hx0 hx1 hx2
        have HX2 := Aside0.mk (show (xs ++ [Y.f1, Y.f2]) ++ (l.drop (i + 1)).flatMap (fun x => [x.f1, x.f2]) = rawEdges (a.size : Int) l by rw [← HX.out, hd, hd2]; simp)
        clear hd hd1 hd2 HX
        obtain ⟨gq, hgq⟩ : ∃ g, wr.heap.size = g := ⟨_, rfl⟩
        obtain ⟨W1, hW1⟩ : ∃ W1, wr.alloc (.cells #[.int .i64 Y.f0, .int .i64 Y.f1, .int .i64 Y.f2] 31) = W1 := ⟨_, rfl⟩
        have HQ := Aside0.mk (show W1.heap[gq]? = some (.cells #[.int .i64 Y.f0, .int .i64 Y.f1, .int .i64 Y.f2] 31 (0, 0)) by rw [← hW1, ← hgq]; exact blk_new _ _)
        have HS1 := Aside0.mk (show LSt w W1 a (some ad) l.length c xs (.slice A4 xs.length c4) by rw [← hW1]; exact HS.out.step (below_alloc (Below.refl _ _) _))
        have q1 : W1.cell? ⟨gq, 1, none⟩ = some (.int .i64 Y.f1) := blk_cell HQ.out 1
        have q2 : W1.cell? ⟨gq, 2, none⟩ = some (.int .i64 Y.f2) := blk_cell HQ.out 2
        obtain ⟨v5, w5, hrun, ho5, hg5⟩ := append2 W1 (w.heap.size + 1) _ xs Y.f1 Y.f2 HS1.out.ed HS1.out.size (by have := HXL.out; omega)
        have HS5 := Aside0.mk (HS1.out.grows ho5 hg5)
        have hrun2 := hrun
        clear HS ho5 hg5
        go_wp2_with (first | ((with_reducible refine gate_builtin (b := .append) (xs := #[.tmp 27, .tmp 32]) rfl ?_); at_builtin; (refine Lib.wpList_append_run _ rfl _ _ 48 48 rfl _ _ rfl rfl _ _ hrun2 ?_)))
        go_roundg q
        case measure => omega
        case rel => exact ⟨i + 1, _, by first | rfl | (simp; done), by omega, ⟨by have := HXL.out; simp; omega⟩, HX2, HS5⟩
  · have hn : (t != 0) = true := by simpa using h1
    rw [if_neg h1] at hR
    obtain ⟨rfl, rfl⟩ := Prod.mk.inj hR
    go_wp2_with fail
    refine bodyPost_ret (results_tmp2 rfl _ _ _) rfl ?_
    exact ⟨_, rfl, Kd.R_nil _ _ _ _ _, HB3.out⟩
end Go.Proofs.YthickfehldjgdaaDoor.X
