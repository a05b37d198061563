/-
  The heap of fields.Build, without a program: what is pushed comes out in order.
-/
import Derived.Test.YthickfehldjgdaaDoorE4b
namespace Go.Proofs.YthickfehldjgdaaDoor.X
open Go.RowKit Go.Proofs.YthickfehldjgdaaDoorW.PrintWords Go.Proofs.YthickfehldjgdaaDoorW.PrintLast
theorem cmpI_neg (a b : Int) : cmpI a b < 0 ↔ a < b := by unfold cmpI; split <;> (try split) <;> omega
theorem cmpI_zero (a b : Int) : cmpI a b = 0 ↔ a = b := by unfold cmpI; split <;> (try split) <;> omega
theorem spLt_iff (x y : S31) : spLt x y = true ↔ x.f1 < y.f1 ∨ (x.f1 = y.f1 ∧ y.f2 < x.f2) := by
  unfold spLt ordC
  rw [decide_eq_true_iff]
  by_cases h : cmpI x.f1 y.f1 = 0
  · rw [if_pos h, cmpI_neg]
    rw [cmpI_zero] at h
    omega
  · rw [if_neg h, cmpI_neg]
    rw [cmpI_zero] at h
    omega
/-- In order. -/
def leS (x y : S31) : Prop := spLt y x = false
theorem leS_iff (x y : S31) : leS x y ↔ ¬ (y.f1 < x.f1 ∨ (y.f1 = x.f1 ∧ x.f2 < y.f2)) := by
  unfold leS
  rw [← spLt_iff, Bool.not_eq_true]
theorem leS.trans {x y z : S31} (h : leS x y) (k : leS y z) : leS x z := by
  rw [leS_iff] at *
  omega
theorem leS.of_lt {x y : S31} (h : spLt x y = true) : leS x y := by
  rw [spLt_iff] at h
  rw [leS_iff]
  omega
theorem leS.of_not {x y : S31} (h : ¬ spLt y x = true) : leS x y := by
  unfold leS
  simpa using h
theorem leS.refl (x : S31) : leS x x := by rw [leS_iff]; omega
abbrev gS (l : List S31) (i : Nat) : S31 := l.getD i z31
/-- Each of the first n stands behind its parent. -/
def Heap (n : Nat) (l : List S31) : Prop := ∀ c, 0 < c → c < n → leS (gS l ((c - 1) / 2)) (gS l c)
def MemN (n : Nat) (l : List S31) (x : S31) : Prop := ∃ c, c < n ∧ gS l c = x
def Dist (n : Nat) (l : List S31) : Prop := ∀ a b, a < n → b < n → (gS l a).f1 = (gS l b).f1 → a = b
theorem swap_mem {n : Nat} {l : List S31} {i j : Nat} (hi : i < n) (hj : j < n) (hn : n ≤ l.length) (x : S31) : MemN n (swapL l i j) x ↔ MemN n l x := by
  have key : ∀ c, gS (swapL l i j) c = if c = j then gS l i else if c = i then gS l j else gS l c := fun c => swapL_getD l i j c (by omega) (by omega)
  constructor
  · rintro ⟨c, hc, e⟩
    rw [key] at e
    split at e
    · exact ⟨i, hi, e⟩
    · split at e
      · exact ⟨j, hj, e⟩
      · exact ⟨c, hc, e⟩
  · rintro ⟨c, hc, e⟩
    by_cases h1 : c = j
    · subst h1
      by_cases h2 : i = c
      · subst h2
        exact ⟨i, hi, by rw [key, if_pos rfl]; exact e⟩
      · exact ⟨i, hi, by rw [key, if_neg h2, if_pos rfl]; exact e⟩
    · by_cases h2 : c = i
      · subst h2
        exact ⟨j, hj, by rw [key, if_pos rfl]; exact e⟩
      · exact ⟨c, hc, by rw [key, if_neg h1, if_neg h2]; exact e⟩
theorem swap_dist {n : Nat} {l : List S31} {i j : Nat} (hi : i < n) (hj : j < n) (hn : n ≤ l.length) (hd : Dist n l) : Dist n (swapL l i j) := by
  have key : ∀ c, gS (swapL l i j) c = if c = j then gS l i else if c = i then gS l j else gS l c := fun c => swapL_getD l i j c (by omega) (by omega)
  intro a b ha hb e
  rw [key, key] at e
  by_cases a1 : a = j <;> by_cases b1 : b = j <;> by_cases a2 : a = i <;> by_cases b2 : b = i <;> simp only [a1, b1, a2, b2, if_true, if_false, if_pos rfl] at e <;> first
    | omega
    | (have := hd _ _ (by omega) (by omega) e; omega)
    | (simp only [if_neg a1, if_neg b1, if_neg a2, if_neg b2] at e; have := hd _ _ (by omega) (by omega) e; omega)
    | (split at e <;> (try split at e) <;> (have := hd _ _ (by omega) (by omega) e; omega))
theorem upH_heap : ∀ (f : Nat) (l : List S31) (j : Nat), j < f → j < l.length → (∀ c, 0 < c → c < l.length → c ≠ j → leS (gS l ((c - 1) / 2)) (gS l c)) →
    (∀ c, 0 < c → c < l.length → (c - 1) / 2 = j → 0 < j → leS (gS l ((j - 1) / 2)) (gS l c)) → Heap l.length (upH f l j) := by
  intro f
  induction f with
  | zero => intro l j h; omega
  | succ k ih =>
    intro l j hf hj h1 h2
    unfold upH
    by_cases hj0 : j = 0
    · rw [if_pos hj0]
      intro c hc hcl
      exact h1 c hc hcl (by omega)
    · rw [if_neg hj0]
      have hp : (j - 1) / 2 < j := by omega
      by_cases hlt : spLt (l.getD j z31) (l.getD ((j - 1) / 2) z31) = true
      · rw [if_pos hlt]
        have key : ∀ c, gS (swapL l ((j - 1) / 2) j) c = if c = j then gS l ((j - 1) / 2) else if c = (j - 1) / 2 then gS l j else gS l c := fun c => swapL_getD l _ j c (by omega) hj
        have hlen : (swapL l ((j - 1) / 2) j).length = l.length := swapL_length _ _ _
        have := ih (swapL l ((j - 1) / 2) j) ((j - 1) / 2) (by omega) (by omega) (fun c hc hcl hne => ?_) (fun c hc hcl hpar hp0 => ?_)
        · rw [hlen] at this
          exact this
        · rw [hlen] at hcl
          rw [key, key]
          by_cases hcj : c = j
          · subst hcj
            rw [if_pos rfl, if_neg (by omega), if_pos rfl]
            exact leS.of_lt hlt
          · rw [if_neg hcj, if_neg hne]
            by_cases hpj : (c - 1) / 2 = j
            · rw [if_pos hpj]
              exact h2 c hc hcl hpj (by omega)
            · rw [if_neg hpj]
              by_cases hpp : (c - 1) / 2 = (j - 1) / 2
              · rw [if_pos hpp]
                have := h1 c hc hcl hcj
                rw [hpp] at this
                exact (leS.of_lt hlt).trans this
              · rw [if_neg hpp]
                exact h1 c hc hcl hcj
        · rw [hlen] at hcl
          rw [key, key]
          rw [if_neg (by omega), if_neg (by omega)]
          have hpp := h1 ((j - 1) / 2) hp0 (by omega) (by omega)
          by_cases hcj : c = j
          · rw [if_pos hcj]
            exact hpp
          · rw [if_neg hcj, if_neg (by omega)]
            have := h1 c hc hcl hcj
            rw [hpar] at this
            exact hpp.trans this
      · rw [if_neg hlt]
        intro c hc hcl
        by_cases hcj : c = j
        · subst hcj
          exact leS.of_not hlt
        · exact h1 c hc hcl hcj
theorem upH_mem : ∀ (f : Nat) (l : List S31) (j : Nat), j < l.length → (∀ x, MemN l.length (upH f l j) x ↔ MemN l.length l x) ∧ (Dist l.length l → Dist l.length (upH f l j)) := by
  intro f
  induction f with
  | zero => intro l j _; exact ⟨fun _ => Iff.rfl, fun h => h⟩
  | succ k ih =>
    intro l j hj
    unfold upH
    split
    · exact ⟨fun _ => Iff.rfl, fun h => h⟩
    · split
      · have hlen : (swapL l ((j - 1) / 2) j).length = l.length := swapL_length _ _ _
        obtain ⟨h1, h2⟩ := ih (swapL l ((j - 1) / 2) j) ((j - 1) / 2) (by omega)
        rw [hlen] at h1 h2
        exact ⟨fun x => (h1 x).trans (swap_mem (by omega) hj (Nat.le_refl _) x), fun hd => h2 (swap_dist (by omega) hj (Nat.le_refl _) hd)⟩
      · exact ⟨fun _ => Iff.rfl, fun h => h⟩
theorem pick2_spec (l : List S31) (i n : Nat) (h : 2 * i + 1 < n) : pick2 l i n < n ∧ (pick2 l i n - 1) / 2 = i ∧ i < pick2 l i n ∧ ∀ c, 0 < c → c < n → (c - 1) / 2 = i → leS (gS l (pick2 l i n)) (gS l c) := by
  unfold pick2
  by_cases h1 : 2 * i + 2 < n ∧ spLt (l.getD (2 * i + 2) z31) (l.getD (2 * i + 1) z31) = true
  · rw [if_pos h1]
    refine ⟨h1.1, by omega, by omega, fun c hc hcn hp => ?_⟩
    have : c = 2 * i + 1 ∨ c = 2 * i + 2 := by omega
    rcases this with rfl | rfl
    · exact leS.of_lt h1.2
    · exact leS.refl _
  · rw [if_neg h1]
    refine ⟨h, by omega, by omega, fun c hc hcn hp => ?_⟩
    have : c = 2 * i + 1 ∨ c = 2 * i + 2 := by omega
    rcases this with rfl | rfl
    · exact leS.refl _
    · exact leS.of_not (fun e => h1 ⟨hcn, e⟩)
theorem downH_heap : ∀ (f : Nat) (l : List S31) (i n : Nat), n ≤ i + f → n ≤ l.length → (∀ c, 0 < c → c < n → (c - 1) / 2 ≠ i → leS (gS l ((c - 1) / 2)) (gS l c)) →
    (∀ c, 0 < c → c < n → (c - 1) / 2 = i → 0 < i → leS (gS l ((i - 1) / 2)) (gS l c)) → Heap n (downH f l i n) := by
  intro f
  induction f with
  | zero =>
    intro l i n hn _ h1 _ c hc hcn
    exact h1 c hc hcn (by omega)
  | succ k ih =>
    intro l i n hn hl h1 h2
    rw [downH]
    by_cases hc1 : 2 * i + 1 < n
    · rw [if_pos hc1]
      obtain ⟨p1, p2, p3, p4⟩ := pick2_spec l i n hc1
      obtain ⟨j, hj⟩ : ∃ j, pick2 l i n = j := ⟨_, rfl⟩
      rw [hj] at p1 p2 p3 p4 ⊢
      by_cases hlt : spLt (l.getD j z31) (l.getD i z31) = true
      · rw [if_pos hlt]
        have key : ∀ c, gS (swapL l i j) c = if c = j then gS l i else if c = i then gS l j else gS l c := fun c => swapL_getD l i j c (by omega) (by omega)
        refine ih (swapL l i j) j n (by omega) (by rw [swapL_length]; exact hl) (fun c hc hcn hne => ?_) (fun c hc hcn hpar hj0 => ?_)
        · rw [key, key]
          by_cases hcj : c = j
          · subst hcj
            rw [if_pos rfl, if_neg (by omega), if_pos p2]
            exact leS.of_lt hlt
          · rw [if_neg hcj, if_neg hne]
            by_cases hci : c = i
            · subst hci
              rw [if_pos rfl, if_neg (by omega)]
              exact h2 j (by omega) p1 p2 (by omega)
            · rw [if_neg hci]
              by_cases hpi : (c - 1) / 2 = i
              · rw [if_pos hpi]
                exact p4 c hc hcn hpi
              · rw [if_neg hpi]
                exact h1 c hc hcn hpi
        · rw [key, key, p2]
          rw [if_neg (by omega), if_pos rfl, if_neg (by omega), if_neg (by omega)]
          have := h1 c hc hcn (by omega)
          rw [hpar] at this
          exact this
      · rw [if_neg hlt]
        intro c hc hcn
        by_cases hpi : (c - 1) / 2 = i
        · rw [hpi]
          exact (leS.of_not hlt).trans (p4 c hc hcn hpi)
        · exact h1 c hc hcn hpi
    · rw [if_neg hc1]
      intro c hc hcn
      exact h1 c hc hcn (by omega)
theorem downH_mem : ∀ (f : Nat) (l : List S31) (i n : Nat), n ≤ l.length → (∀ x, MemN n (downH f l i n) x ↔ MemN n l x) ∧ (Dist n l → Dist n (downH f l i n)) := by
  intro f
  induction f with
  | zero => intro l i n _; exact ⟨fun _ => Iff.rfl, fun h => h⟩
  | succ k ih =>
    intro l i n hn
    rw [downH]
    split
    · rename_i h1
      obtain ⟨p1, p2, p3, _⟩ := pick2_spec l i n h1
      split
      · obtain ⟨m1, m2⟩ := ih (swapL l i (pick2 l i n)) (pick2 l i n) n (by rw [swapL_length]; exact hn)
        exact ⟨fun x => (m1 x).trans (swap_mem (by omega) p1 hn x), fun hd => m2 (swap_dist (by omega) p1 hn hd)⟩
      · exact ⟨fun _ => Iff.rfl, fun h => h⟩
    · exact ⟨fun _ => Iff.rfl, fun h => h⟩
theorem heap_min {n : Nat} {l : List S31} (h : Heap n l) : ∀ c, c < n → leS (gS l 0) (gS l c) := by
  have key : ∀ m c, c ≤ m → c < n → leS (gS l 0) (gS l c) := by
    intro m
    induction m with
    | zero =>
      intro c hm _
      obtain rfl : c = 0 := by omega
      exact leS.refl _
    | succ m ih =>
      intro c hm hc
      by_cases h0 : c = 0
      · subst h0
        exact leS.refl _
      · exact (ih ((c - 1) / 2) (by omega) (by omega)).trans (h c (by omega) hc)
  exact fun c => key c c (Nat.le_refl _)
end Go.Proofs.YthickfehldjgdaaDoor.X
