/-
  What fields.Check tells, as a plain function: the stack of open spans, top first.
-/
import Derived.Test.YthickfehldjgdaaDoorXfieldsCheck
namespace Go.Proofs.YthickfehldjgdaaDoor.X
open Go.RowKit Go.Proofs.YthickfehldjgdaaDoorW.PrintWords Go.Proofs.YthickfehldjgdaaDoorW.PrintLast
theorem w64 {x : Int} (h : -9223372036854775808 ≤ x) (h' : x ≤ 9223372036854775807) : wrap64 x = x := by
  unfold wrap64
  omega
/-- A span that may stand in text a. -/
def okS (a : ByteArray) (x : S31) : Bool := decide (1 ≤ x.f0) && decide (x.f0 < 18) && (isPlace a x.f1 && isPlace a x.f2 && decide (x.f1 < x.f2))
def popR : List S31 → Int → List S31
  | [], _ => []
  | t :: r, f => if t.f2 ≤ f then popR r f else t :: r
theorem popR_length (rs : List S31) (f : Int) : (popR rs f).length ≤ rs.length := by
  induction rs with
  | nil => simp [popR]
  | cons t r ih =>
    unfold popR
    split
    · simp; omega
    · simp
def checkGo (a : ByteArray) : List S31 → List S31 → Int
  | [], _ => 0
  | x :: xs, rs => if okS a x = true then (match popR rs x.f1 with
      | [] => checkGo a xs [x]
      | t :: r => if t.f2 < x.f2 then 170 else checkGo a xs (x :: t :: r)) else 170
def checkP (a : ByteArray) (l : List S31) : Int := if Lib.validD a.data.toList = true then (if sortedTo l (l.length - 1) = true then checkGo a l [] else 170) else 170
theorem rev_last (t : S31) (r : List S31) : rd_T31 (t :: r).reverse (((t :: r).reverse.length : Int) - 1) = t := by
  unfold rd_T31
  rw [List.reverse_cons, List.length_append, List.length_reverse, List.length_singleton]
  rw [show (((r.length + 1 : Nat) : Int) - 1).toNat = r.length by omega]
  rw [List.getD_eq_getElem?_getD, List.getElem?_append_right (by simp)]
  simp
theorem rev_take (t : S31) (r : List S31) : (t :: r).reverse.take ((((t :: r).reverse.length : Int) - 1).toNat) = r.reverse := by
  rw [List.reverse_cons, List.length_append, List.length_reverse, List.length_singleton]
  rw [show (((r.length + 1 : Nat) : Int) - 1).toNat = r.reverse.length by simp]
  exact List.take_left
theorem check_l1 (a : ByteArray) (l : List S31) (n i : Int) (x : S31) (r : Int) (rs : List S31) (hrs : rs.length < 5864062014805)
    (h : match popR rs x.f1 with
      | [] => Ev (fun k => fields_Check.l0 k [x] l n (wrap64 (i + 1)) a l) r
      | t :: q => if t.f2 < x.f2 then r = 170 else Ev (fun k => fields_Check.l0 k (x :: t :: q).reverse l n (wrap64 (i + 1)) a l) r) :
    Ev (fun k => fields_Check.l1 k rs.reverse l n i a l x.f0 x.f1 x.f2) r := by
  induction rs with
  | nil =>
    refine Ev.step (fun k => ?_) h
    rw [fields_Check.l1]
    simp
  | cons t q ih =>
    have hl : (((t :: q).reverse.length : Int)) = (q.length : Int) + 1 := by simp
    have hq : (q.length : Int) + 1 < 5864062014805 := by simp at hrs; omega
    have hw : wrap64 (((t :: q).reverse.length : Int) - 1) = ((t :: q).reverse.length : Int) - 1 := w64 (by omega) (by omega)
    have c1 : ((t :: q).reverse.length : Int) > 0 := by omega
    have c2 : 0 ≤ ((t :: q).reverse.length : Int) - 1 := by omega
    have c3 : ((t :: q).reverse.length : Int) - 1 < ((t :: q).reverse.length : Int) := by omega
    have c4 : ((t :: q).reverse.length : Int) - 1 ≤ ((t :: q).reverse.length : Int) := by omega
    have c5 : (t :: q).reverse.length < 5864062014805 := by omega
    by_cases ht : t.f2 ≤ x.f1
    · refine Ev.step (f := fun k => fields_Check.l1 k q.reverse l n i a l x.f0 x.f1 x.f2) (fun k => ?_) (ih (by simp at hrs; omega) ?_)
      · rw [fields_Check.l1, if_pos c1, hw, if_pos c2, if_pos c3, rev_last, if_pos ht, if_pos c4, rev_take]
      · rw [popR, if_pos ht] at h
        exact h
    · rw [popR, if_neg ht] at h
      by_cases h2 : t.f2 < x.f2
      · simp only [if_pos h2] at h
        subst h
        refine Ev.step (fun k => ?_) (Ev.now 170)
        rw [fields_Check.l1, if_pos c1, hw, if_pos c2, if_pos c3, rev_last, if_neg ht, if_pos h2]
      · simp only [if_neg h2] at h
        refine Ev.step (fun k => ?_) h
        rw [fields_Check.l1, if_pos c1, hw, if_pos c2, if_pos c3, rev_last, if_neg ht, if_neg h2, if_pos c5]
        simp
theorem rd_drop {l : List S31} {i : Nat} {x : S31} {xs : List S31} (h : l.drop i = x :: xs) : rd_T31 l (i : Int) = x ∧ l.drop (i + 1) = xs ∧ i < l.length := by
  have hlt : i < l.length := by
    rcases Nat.lt_or_ge i l.length with h1 | h1
    · exact h1
    · rw [List.drop_eq_nil_of_le h1] at h; cases h
  rw [List.drop_eq_getElem_cons hlt] at h
  injection h with h1 h2
  refine ⟨?_, h2, hlt⟩
  unfold rd_T31
  rw [Int.toNat_natCast, List.getD_eq_getElem?_getD, List.getElem?_eq_getElem hlt]
  exact h1
theorem check_l0 (a : ByteArray) (l : List S31) (hl : l.length < 5864062014805) (xs : List S31) : ∀ (i : Nat) (rs : List S31), l.drop i = xs → rs.length ≤ i → i ≤ l.length → Ev (fun k => fields_Check.l0 k rs.reverse l l.length i a l) (checkGo a xs rs) := by
  induction xs with
  | nil =>
    intro i rs hd _ hi
    have hge : l.length ≤ i := by
      have := congrArg List.length hd
      simp at this
      omega
    refine Ev.step (fun k => ?_) (Ev.now 0)
    rw [fields_Check.l0, if_neg (by omega)]
  | cons x xs ih =>
    intro i rs hd hrs hi
    obtain ⟨h1, h2, hlt⟩ := rd_drop hd
    have c1 : (i : Int) < (l.length : Int) := by omega
    have c2 : (0 : Int) ≤ (i : Int) := by omega
    have hw : wrap64 ((i : Int) + 1) = ((i + 1 : Nat) : Int) := by rw [w64 (by omega) (by omega)]; omega
    by_cases ho : okS a x = true
    · have ho' := ho
      unfold okS at ho'
      simp only [Bool.and_eq_true, decide_eq_true_eq] at ho'
      have key : Ev (fun k => fields_Check.l1 k rs.reverse l l.length i a l x.f0 x.f1 x.f2) (checkGo a (x :: xs) rs) := by
        refine check_l1 a l l.length i x _ rs (by omega) ?_
        have hp := popR_length rs x.f1
        rw [hw]
        cases hpr : popR rs x.f1 with
        | nil =>
          simp only [checkGo, ho, hpr, if_true]
          exact ih (i + 1) [x] h2 (by simp) (by omega)
        | cons t q =>
          rw [hpr] at hp
          simp only [checkGo, ho, hpr, if_true]
          by_cases h3 : t.f2 < x.f2
          · simp [h3]
          · simp only [if_neg h3]
            exact ih (i + 1) (x :: t :: q) h2 (by simp at hp ⊢; omega) (by omega)
      refine Ev.step (f := fun k => fields_Check.j2 k rs.reverse l l.length i false a l x.f0 x.f1 x.f2) (fun k => ?_) (Ev.step (fun k => ?_) key)
      · rw [fields_Check.l0, if_pos c1, if_pos c2, if_pos c1, h1, if_neg (by omega), if_neg (by omega)]
        have hs : fields_stretch.f a x.f1 x.f2 = some true := by
          unfold fields_stretch.f
          rw [ho'.2.1.1, ho'.2.1.2, decide_eq_true ho'.2.2]
          rfl
        rw [hs]
        rfl
      · rw [fields_Check.j2, if_neg (by simp)]
    · have hr : checkGo a (x :: xs) rs = 170 := by simp [checkGo, ho]
      rw [hr]
      have hj : Ev (fun k => fields_Check.j2 k rs.reverse l l.length i true a l x.f0 x.f1 x.f2) 170 := Ev.step (fun k => by rw [fields_Check.j2, if_pos rfl]) (Ev.now 170)
      refine Ev.step (fun k => ?_) hj
      rw [fields_Check.l0, if_pos c1, if_pos c2, if_pos c1, h1]
      by_cases d1 : x.f0 < 1
      · rw [if_pos d1]
      · rw [if_neg d1]
        by_cases d2 : x.f0 ≥ 18
        · rw [if_pos d2]
        · rw [if_neg d2]
          have hs : fields_stretch.f a x.f1 x.f2 = some false := by
            unfold fields_stretch.f
            unfold okS at ho
            rw [decide_eq_true (by omega : 1 ≤ x.f0), decide_eq_true (by omega : x.f0 < 18)] at ho
            simp only [Bool.true_and, Bool.not_eq_true] at ho
            rw [ho]
          rw [hs]
          rfl
theorem check_ev (a : ByteArray) (l : List S31) (ha : a.size ≤ 9223372036854775807) (hl : l.length < 5864062014805) : Ev (fun k => fields_Check.f k a l) (checkP a l) := by
  have e1 : utf8_ValidString.f a = some (Lib.validD a.data.toList) := by unfold utf8_ValidString.f; rw [if_pos ha]
  have hbad : Ev (fun k => fields_Check.j0 k true a l) 170 := Ev.step (fun k => by rw [fields_Check.j0, if_pos rfl]) (Ev.now 170)
  unfold checkP
  by_cases hv : Lib.validD a.data.toList = true
  · rw [if_pos hv]
    by_cases hs : sortedTo l (l.length - 1) = true
    · rw [if_pos hs]
      refine Ev.congr (f := fun k => fields_Check.j0 k false a l) (fun k => ?_) (Ev.step (fun k => ?_) (check_l0 a l hl l 0 [] rfl (by simp) (by omega)))
      · unfold fields_Check.f
        rw [e1, hv]
        simp [span_IsSorted.f, hs]
      · rw [fields_Check.j0, if_neg (by simp)]
        rfl
    · rw [if_neg hs]
      refine Ev.congr (fun k => ?_) hbad
      unfold fields_Check.f
      rw [e1, hv]
      simp [span_IsSorted.f, hs]
  · rw [if_neg hv]
    refine Ev.congr (fun k => ?_) hbad
    unfold fields_Check.f
    rw [e1]
    simp [hv]
end Go.Proofs.YthickfehldjgdaaDoor.X
