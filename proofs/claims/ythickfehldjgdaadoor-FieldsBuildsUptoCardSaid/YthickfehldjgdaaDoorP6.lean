/-
  FieldsBuilds, without a program: it comes to true.
-/
import Derived.Test.YthickfehldjgdaaDoorP5
import Derived.Test.YthickfehldjgdaaDoorXquipulaw17FieldsBuilds
namespace Go.Proofs.YthickfehldjgdaaDoor.X
open Go.RowKit Go.Proofs.YthickfehldjgdaaDoorW.PrintWords Go.Proofs.YthickfehldjgdaaDoorW.PrintLast
theorem same_l0 (a b : ByteArray) (l : List S31) (hl : l.length ≤ 1000000000000) (xs : List S31) : ∀ i : Nat, l.drop i = xs → i ≤ l.length → Ev (fun k => quipuref17_Same.l0 k i a l b l) true := by
  induction xs with
  | nil =>
    intro i hd hi
    have hge : l.length ≤ i := by
      have := congrArg List.length hd
      simp at this
      omega
    refine Ev.step (fun k => ?_) (Ev.now _)
    rw [quipuref17_Same.l0, if_neg (by omega)]
  | cons x xs ih =>
    intro i hd hi
    obtain ⟨h1, h2, hlt⟩ := rd_drop hd
    have hw : wrap64 ((i : Int) + 1) = ((i + 1 : Nat) : Int) := by rw [w64 (by omega) (by omega)]; omega
    refine Ev.step (fun k => ?_) (ih (i + 1) h2 (by omega))
    rw [quipuref17_Same.l0, if_pos (by omega), if_pos (by omega), if_pos (by omega), h1, hw]
    simp
theorem same_ev (a : ByteArray) (l : List S31) (hl : l.length ≤ 1000000000000) : Ev (fun k => quipuref17_Same.f k a l a l) true := by
  have h := same_l0 a a l hl l 0 rfl (by omega)
  refine Ev.congr (f := fun k => quipuref17_Same.j0 k false a l a l) (fun k => ?_) (Ev.step (fun k => ?_) h)
  · unfold quipuref17_Same.f
    rw [if_pos rfl]
    simp
  · rw [quipuref17_Same.j0, if_neg (by simp)]
    rfl
theorem buildGo_len : ∀ (l : List S43) (s s' : B3), buildGo l s = some s' → s'.l.length ≤ s.l.length + 2 * l.length := by
  intro l
  induction l with
  | nil => intro s s' h; simp only [buildGo, Option.some.injEq] at h; subst h; simp
  | cons q r ih =>
    intro s s' h
    unfold buildGo at h
    split at h
    · have := ih _ _ h
      have hb : (bStep s q).l.length ≤ s.l.length + 2 := by
        have he := endH_length s.l s.p
        unfold bStep
        split
        · omega
        · split
          · simp
          · split
            · simp [pushH_length]
            · split
              · simp; omega
              · simp [pushH_length]; omega
      simp at this ⊢
      omega
    · cases h
theorem popAll_length : ∀ (n : Nat) (l : List S31), (popAll n l).length = n := by
  intro n
  induction n with
  | zero => intro l; rfl
  | succ n ih => intro l; simp [popAll, ih]
theorem build_len (l : List S43) : (buildEnd (buildGo l ⟨[], [], ⟨2, 0, 0⟩⟩)).2.1.length ≤ 2 * l.length + 1 := by
  cases h : buildGo l ⟨[], [], ⟨2, 0, 0⟩⟩ with
  | none => simp [buildEnd]
  | some s =>
    have h1 := buildGo_len l _ _ h
    have h2 := endH_length s.l s.p
    show (popAll _ _).length ≤ _
    rw [popAll_length]
    simp at h1
    omega
theorem builds_l1 (l0 : List S43) (t : Int) (a : ByteArray) (r : Bool) (xs : List S31) : ∀ (i : Nat) (l : List S31), l.length ≤ 1000000000000 → l.drop i = xs → i ≤ l.length → Ev (fun k => quipulaw17_FieldsBuilds.l0 k l0 (wrap64 (t + 1))) r → Ev (fun k => quipulaw17_FieldsBuilds.l1 k l0 t i a l) r := by
  induction xs with
  | nil =>
    intro i l hl hd hi h
    have hge : l.length ≤ i := by
      have := congrArg List.length hd
      simp at this
      omega
    refine Ev.step (fun k => ?_) h
    rw [quipulaw17_FieldsBuilds.l1, if_neg (by omega), if_pos (by omega)]
  | cons x xs ih =>
    intro i l hl hd hi h
    obtain ⟨h1, h2, hlt⟩ := rd_drop hd
    have hw : wrap64 ((i : Int) + 1) = ((i + 1 : Nat) : Int) := by rw [w64 (by omega) (by omega)]; omega
    refine Ev.step (fun k => ?_) (ih (i + 1) (l.set i ⟨-1, 0, 0⟩) (by simpa using hl) (by rw [List.drop_set_of_lt (by omega)]; exact h2) (by simp; omega) h)
    rw [quipulaw17_FieldsBuilds.l1, if_pos (by omega), if_pos (by omega), hw]
    simp
theorem builds_ev (l : List S43) (hl : l.length ≤ 1000000000) (ht : total l ≤ 1000000000) : Ev (fun k => quipulaw17_FieldsBuilds.f k l) true := by
  obtain ⟨R, hR⟩ : ∃ R, buildEnd (buildGo l ⟨[], [], ⟨2, 0, 0⟩⟩) = R := ⟨_, rfl⟩
  have hb : fields_Build.f l = some R := by unfold fields_Build.f; rw [if_pos ⟨hl, ht⟩, hR]
  have hr : Ev (fun k => quipuref17_Build.f k l) R := by rw [← hR, build_same]; exact rbuild_ev l hl ht
  have hlen : R.2.1.length ≤ 2 * l.length + 1 := by rw [← hR]; exact build_len l
  have one : ∀ t : Int, t < 2 → Ev (fun k => quipulaw17_FieldsBuilds.l0 k l (wrap64 (t + 1))) true → Ev (fun k => quipulaw17_FieldsBuilds.l0 k l t) true := by
    intro t ht h
    have hj : Ev (fun k => quipulaw17_FieldsBuilds.j1 k l t false R.1 R.2.1) true := by
      refine Ev.step (f := fun k => quipulaw17_FieldsBuilds.l1 k l t 0 R.1 R.2.1) (fun k => ?_) (builds_l1 l t R.1 true R.2.1 0 R.2.1 (by omega) rfl (by omega) h)
      rw [quipulaw17_FieldsBuilds.j1, if_neg (by simp)]
    have hs : Ev (fun k => (quipuref17_Same.f k R.1 R.2.1 R.1 R.2.1).bind fun q => quipulaw17_FieldsBuilds.j1 k l t (!q) R.1 R.2.1) true := Ev.bind (same_ev R.1 R.2.1 (by omega)) hj
    have hbb : Ev (fun k => (quipuref17_Build.f k l).bind fun bt => (if R.2.2 = bt.2.2 then ((quipuref17_Same.f k R.1 R.2.1 bt.1 bt.2.1).bind fun q => (quipulaw17_FieldsBuilds.j1 k l t (!q) R.1 R.2.1)) else (quipulaw17_FieldsBuilds.j1 k l t true R.1 R.2.1))) true := Ev.bind hr (by simpa using hs)
    refine Ev.step (fun k => ?_) hbb
    rw [quipulaw17_FieldsBuilds.l0, if_pos ht, hb]
    rfl
  have h2 : Ev (fun k => quipulaw17_FieldsBuilds.l0 k l 2) true := Ev.step (fun k => by rw [quipulaw17_FieldsBuilds.l0, if_neg (by omega)]; rfl) (Ev.now _)
  have e1 : wrap64 ((0 : Int) + 1) = 1 := w64 (by omega) (by omega)
  have e2 : wrap64 ((1 : Int) + 1) = 2 := w64 (by omega) (by omega)
  exact one 0 (by omega) (by rw [e1]; exact one 1 (by omega) (by rw [e2]; exact h2))
end Go.Proofs.YthickfehldjgdaaDoor.X
