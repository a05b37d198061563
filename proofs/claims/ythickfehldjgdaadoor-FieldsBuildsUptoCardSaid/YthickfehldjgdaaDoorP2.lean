/-
  The edges of fields.Leaves, as a plain list: each once, rising.
-/
import Derived.Test.YthickfehldjgdaaDoorE11
namespace Go.Proofs.YthickfehldjgdaaDoor.X
open Go.RowKit Go.Proofs.YthickfehldjgdaaDoorW.PrintWords Go.Proofs.YthickfehldjgdaaDoorW.PrintLast
theorem sortI_sorted (l : List Int) : (sortI l).Pairwise (· ≤ ·) := by
  have h := List.pairwise_mergeSort (le := fun x y : Int => decide (x ≤ y)) (fun a b c h1 h2 => by simp at *; omega) (fun a b => by simp; omega) l
  exact h.imp (fun h => by simpa using h)
theorem mem_sortI (l : List Int) (x : Int) : x ∈ sortI l ↔ x ∈ l := List.mem_mergeSort
theorem compact_mem (zs : List Int) (x : Int) : x ∈ Lib.compact zs ↔ x ∈ zs := by
  unfold Lib.compact Lib.compactUpTo
  rw [List.mem_map]
  constructor
  · rintro ⟨j, hj, rfl⟩
    have hlt : j < zs.length := by
      have := (List.mem_filter.1 hj).1
      simpa using this
    rw [getElem!_pos zs.toArray j (by simpa using hlt)]
    simp
  · intro hx
    obtain ⟨i, hi, rfl⟩ := List.mem_iff_getElem.1 hx
    have key : ∀ n i (hi : i < zs.length), i ≤ n → ∃ j, j ∈ (List.range zs.length).filter (Lib.keeps zs.toArray) ∧ zs.toArray[j]! = zs[i] := by
      intro n
      induction n with
      | zero =>
        intro i hi hn
        obtain rfl : i = 0 := by omega
        exact ⟨0, List.mem_filter.2 ⟨by simpa using hi, by simp [Lib.keeps]⟩, by rw [getElem!_pos zs.toArray 0 (by simpa using hi)]; simp⟩
      | succ n ih =>
        intro i hi hn
        by_cases h0 : i = 0
        · exact ih i hi (by omega)
        · by_cases he : zs.toArray[i]! = zs.toArray[i - 1]!
          · obtain ⟨j, h1, h2⟩ := ih (i - 1) (by omega) (by omega)
            refine ⟨j, h1, ?_⟩
            rw [h2]
            rw [getElem!_pos zs.toArray i (by simpa using hi), getElem!_pos zs.toArray (i - 1) (by simp; omega)] at he
            simpa using he.symm
          · exact ⟨i, List.mem_filter.2 ⟨by simpa using hi, Lib.keeps_pos he⟩, by rw [getElem!_pos zs.toArray i (by simpa using hi)]; simp⟩
    exact key i i hi (Nat.le_refl _)
theorem compact_strict (zs : List Int) (hs : zs.Pairwise (· ≤ ·)) : (Lib.compact zs).Pairwise (· < ·) := by
  unfold Lib.compact Lib.compactUpTo
  rw [List.pairwise_map]
  refine List.Pairwise.imp_of_mem ?_ (List.Pairwise.filter _ List.pairwise_lt_range)
  intro i j hi hj hij
  have hjl : j < zs.length := by simpa using (List.mem_filter.1 hj).1
  have hk := (List.mem_filter.1 hj).2
  rw [getElem!_pos zs.toArray i (by simp; omega), getElem!_pos zs.toArray j (by simpa using hjl)]
  have hne : zs[j] ≠ zs[j - 1] := by
    intro e
    have : Lib.keeps zs.toArray j = false := Lib.keeps_neg (by omega) (by
      rw [getElem!_pos zs.toArray j (by simpa using hjl), getElem!_pos zs.toArray (j - 1) (by simp; omega)]
      simpa using e)
    rw [this] at hk
    cases hk
  have hp := List.pairwise_iff_getElem.1 hs
  have h1 : zs[j - 1] ≤ zs[j] := hp (j - 1) j (by omega) hjl (by omega)
  have h2 : zs[i] ≤ zs[j - 1] := by
    rcases Nat.lt_or_ge i (j - 1) with h | h
    · exact hp i (j - 1) (by omega) (by omega) h
    · obtain rfl : i = j - 1 := by omega
      exact Int.le_refl _
  simp only [List.getElem_toArray]
  omega
/-- Two rising lists of the same members are one. -/
theorem rising_unique : ∀ (l r : List Int), l.Pairwise (· < ·) → r.Pairwise (· < ·) → (∀ x, x ∈ l ↔ x ∈ r) → l = r := by
  intro l
  induction l with
  | nil =>
    intro r _ _ h
    cases r with
    | nil => rfl
    | cons y r => exact absurd ((h y).2 List.mem_cons_self) List.not_mem_nil
  | cons x l ih =>
    intro r hl hr h
    cases r with
    | nil => exact absurd ((h x).1 List.mem_cons_self) List.not_mem_nil
    | cons y r =>
      rw [List.pairwise_cons] at hl hr
      have hxy : x = y := by
        rcases List.mem_cons.1 ((h x).1 List.mem_cons_self) with e | e
        · exact e
        · rcases List.mem_cons.1 ((h y).2 List.mem_cons_self) with e' | e'
          · exact e'.symm
          · have := hr.1 x e
            have := hl.1 y e'
            omega
      subst hxy
      rw [ih r hl.2 hr.2 (fun z => ⟨fun hz => ?_, fun hz => ?_⟩)]
      · rcases List.mem_cons.1 ((h z).1 (List.mem_cons_of_mem _ hz)) with e | e
        · have := hl.1 z hz
          omega
        · exact e
      · rcases List.mem_cons.1 ((h z).2 (List.mem_cons_of_mem _ hz)) with e | e
        · have := hr.1 z hz
          omega
        · exact e
theorem edges_strict (n : Int) (l : List S31) : (edgesP n l).Pairwise (· < ·) := compact_strict _ (sortI_sorted _)
theorem edges_mem (n : Int) (l : List S31) (x : Int) : x ∈ edgesP n l ↔ x = 0 ∨ x = n ∨ ∃ s ∈ l, x = s.f1 ∨ x = s.f2 := by
  unfold edgesP
  rw [compact_mem, mem_sortI]
  unfold rawEdges
  simp only [List.cons_append, List.nil_append, List.mem_cons, List.mem_flatMap, List.not_mem_nil, or_false]
theorem rawEdges_length (n : Int) (l : List S31) : (rawEdges n l).length = 2 * l.length + 2 := by
  unfold rawEdges
  rw [List.length_append]
  have : (l.flatMap (fun x => [x.f1, x.f2])).length = 2 * l.length := by
    induction l with
    | nil => rfl
    | cons x l ih => simp only [List.flatMap_cons, List.length_append, ih, List.length_cons, List.length_nil]; omega
  rw [this]
  simp
  omega
theorem edges_length (n : Int) (l : List S31) : (edgesP n l).length ≤ 2 * l.length + 2 := by
  refine Nat.le_trans (Lib.compact_length_le _) ?_
  rw [sortI_length, rawEdges_length]
  exact Nat.le_refl _
theorem edges_pos (n : Int) (l : List S31) : 1 ≤ (edgesP n l).length := by
  have : (0 : Int) ∈ edgesP n l := (edges_mem n l 0).2 (.inl rfl)
  exact List.length_pos_of_mem this
theorem isPlace_le {a : ByteArray} {n : Int} (h : isPlace a n = true) : 0 ≤ n ∧ n ≤ (a.size : Int) := by
  unfold isPlace at h
  simp only [Bool.and_eq_true, decide_eq_true_eq, Bool.or_eq_true, beq_iff_eq] at h
  rcases h.2 with e | e
  · omega
  · omega
theorem checkGo_all (a : ByteArray) : ∀ (xs rs : List S31), checkGo a xs rs = 0 → ∀ x ∈ xs, okS a x = true := by
  intro xs
  induction xs with
  | nil => intro rs _ x hx; cases hx
  | cons y xs ih =>
    intro rs h x hx
    unfold checkGo at h
    split at h
    · rename_i hy
      rcases List.mem_cons.1 hx with rfl | hx
      · exact hy
      · split at h
        · exact ih _ h x hx
        · split at h
          · omega
          · exact ih _ h x hx
    · omega
theorem check_all {a : ByteArray} {l : List S31} (h : checkP a l = 0) : ∀ x ∈ l, okS a x = true := by
  unfold checkP at h
  split at h
  · split at h
    · exact checkGo_all a l [] h
    · omega
  · omega
theorem edges_in {a : ByteArray} {l : List S31} (h : checkP a l = 0) {x : Int} (hx : x ∈ edgesP (a.size : Int) l) : 0 ≤ x ∧ x ≤ (a.size : Int) := by
  rcases (edges_mem _ _ _).1 hx with rfl | rfl | ⟨s, hs, e⟩
  · omega
  · omega
  · have ho := check_all h s hs
    unfold okS at ho
    simp only [Bool.and_eq_true] at ho
    rcases e with rfl | rfl
    · exact isPlace_le ho.2.1.1
    · exact isPlace_le ho.2.1.2
theorem edges_at {a : ByteArray} {l : List S31} (h : checkP a l = 0) (i : Nat) (hi : i + 1 < (edgesP (a.size : Int) l).length) : 0 ≤ (edgesP (a.size : Int) l).getD i 0 ∧ (edgesP (a.size : Int) l).getD i 0 ≤ (edgesP (a.size : Int) l).getD (i + 1) 0 ∧ (edgesP (a.size : Int) l).getD (i + 1) 0 ≤ (a.size : Int) := by
  have hp := List.pairwise_iff_getElem.1 (edges_strict (a.size : Int) l) i (i + 1) (by omega) hi (by omega)
  have h1 := edges_in h (List.getElem_mem (by omega : i < (edgesP (a.size : Int) l).length))
  have h2 := edges_in h (List.getElem_mem hi)
  rw [List.getD_eq_getElem?_getD, List.getD_eq_getElem?_getD, List.getElem?_eq_getElem hi, List.getElem?_eq_getElem (by omega : i < (edgesP (a.size : Int) l).length)]
  simp only [Option.getD_some]
  omega
def fields_Leaves.f (a0_0 : ByteArray) (l0_1 : List S31) : Option (List S43 × Int) :=
  if a0_0.size ≤ 9223372036854775807 ∧ l0_1.length ≤ 1000000000 then some (if checkP a0_0 l0_1 = 0 then (leavesGo a0_0 l0_1 (edgesP (a0_0.size : Int) l0_1), 0) else ([], 170)) else none
theorem fields_Leaves.calls (a0_0 : ByteArray) (A0_1 : Option Addr) (c0_1 : Nat) (l0_1 : List S31) (r1 : List S43) (r2 : Int) (w : World) (hr0_1 : Kd.C k31 w A0_1 l0_1.length l0_1) (hc0_1 : l0_1.length ≤ c0_1) (hT_ : Aside0 (Tabs_ w)) (h : fields_Leaves.f a0_0 l0_1 = some (r1, r2)) :
    Calls Tryd.prog 18 #[.agg #[.string a0_0, .slice A0_1 l0_1.length c0_1]] w fun e w' => ∃ v0_ : Value, e = .returned (.tuple #[v0_, .int .i64 r2]) ∧ Kd.R k43 43 w' w.heap.size (fun _ => True) v0_ r1 ∧ Below w.heap.size w w' := by
  unfold fields_Leaves.f at h
  split at h
  · rename_i hs
    exact fields_Leaves_walk a0_0 A0_1 c0_1 l0_1 w hr0_1 hc0_1 hT_ hs.1 hs.2 _ rfl (edges_pos _ _) (edges_length _ _) (fun hc => edges_at hc) r1 r2 (Option.some.inj h)
  · cases h
end Go.Proofs.YthickfehldjgdaaDoor.X
