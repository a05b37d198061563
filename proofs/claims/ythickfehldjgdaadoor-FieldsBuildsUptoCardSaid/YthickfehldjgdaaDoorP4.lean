/-
  The document's fields.Build and the program's: one answer.
-/
import Derived.Test.YthickfehldjgdaaDoorP3
import Derived.Test.YthickfehldjgdaaDoorP1
import Derived.Test.YthickfehldjgdaaDoorE4c
import Derived.Test.YthickfehldjgdaaDoorXquipuref17Build
namespace Go.Proofs.YthickfehldjgdaaDoor.X
open Go.RowKit Go.Proofs.YthickfehldjgdaaDoorW.PrintWords Go.Proofs.YthickfehldjgdaaDoorW.PrintLast
def aheadP (x y : S31) : Bool := decide (x.f1 < y.f1 ∨ (x.f1 = y.f1 ∧ x.f2 ≥ y.f2))
theorem ahead_eq (x y : S31) : quipuref17_ahead.f x.f0 x.f1 x.f2 y.f0 y.f1 y.f2 = some (aheadP x y) := by
  unfold quipuref17_ahead.f aheadP
  by_cases h1 : x.f1 < y.f1
  · rw [if_pos h1]; simp [h1]
  · rw [if_neg h1]
    by_cases h2 : x.f1 = y.f1
    · rw [if_pos h2]; simp [h2]
    · rw [if_neg h2]; simp [h1, h2]
def putP (x : S31) : List S31 → List S31
  | [] => [x]
  | y :: r => if aheadP x y = true then x :: y :: r else y :: putP x r
theorem putP_length (x : S31) (l : List S31) : (putP x l).length = l.length + 1 := by
  induction l with
  | nil => rfl
  | cons y r ih =>
    unfold putP
    split
    · rfl
    · simp [ih]
theorem put_l0 (x : S31) (l : List S31) (hl : l.length < 5864062014803) (xs : List S31) : ∀ (i : Nat) (out : List S31) (d : Bool), l.drop i = xs → i ≤ l.length → out.length ≤ i + (if d = true then 1 else 0) →
    Ev (fun k => quipuref17_put.l0 k l out d i x.f0 x.f1 x.f2) (if d = true then out ++ xs else out ++ putP x xs) := by
  induction xs with
  | nil =>
    intro i out d hd hi ho
    have hge : l.length ≤ i := by
      have := congrArg List.length hd
      simp at this
      omega
    refine Ev.step (fun k => ?_) (Ev.now _)
    have ho2 : out.length ≤ i + 1 := by split at ho <;> omega
    rw [quipuref17_put.l0, if_neg (by omega)]
    cases d with
    | true => simp
    | false => simp [putP]; omega
  | cons y xs ih =>
    intro i out d hd hi ho
    obtain ⟨h1, h2, hlt⟩ := rd_drop hd
    have hw : wrap64 ((i : Int) + 1) = ((i + 1 : Nat) : Int) := by rw [w64 (by omega) (by omega)]; omega
    have ho2 : out.length ≤ i + 1 := by split at ho <;> omega
    cases d with
    | true =>
      refine Ev.step (fun k => ?_) (f := fun k => quipuref17_put.l0 k l (out ++ [y]) true ((i + 1 : Nat) : Int) x.f0 x.f1 x.f2) ?_
      · rw [quipuref17_put.l0, if_pos (by omega), if_pos rfl, if_pos (by omega), if_pos (by omega), h1, hw]
      · have := ih (i + 1) (out ++ [y]) true h2 (by omega) (by simp at ho ⊢; omega)
        simpa using this
    | false =>
      have hah := ahead_eq x y
      by_cases ha : aheadP x y = true
      · rw [ha] at hah
        refine Ev.step (fun k => ?_) (f := fun k => quipuref17_put.l0 k l (out ++ [x] ++ [y]) true ((i + 1 : Nat) : Int) x.f0 x.f1 x.f2) ?_
        · rw [quipuref17_put.l0, if_pos (by omega), if_neg (by simp), if_pos (by omega), h1, hah]
          simp only [Option.bind_some, if_true]
          rw [if_pos (by omega), if_pos (by simp; omega), hw]
        · have := ih (i + 1) (out ++ [x] ++ [y]) true h2 (by omega) (by simp at ho ⊢; omega)
          simpa [putP, ha] using this
      · rw [Bool.not_eq_true] at ha
        rw [ha] at hah
        refine Ev.step (fun k => ?_) (f := fun k => quipuref17_put.l0 k l (out ++ [y]) false ((i + 1 : Nat) : Int) x.f0 x.f1 x.f2) ?_
        · rw [quipuref17_put.l0, if_pos (by omega), if_neg (by simp), if_pos (by omega), h1, hah]
          simp only [Option.bind_some]
          rw [if_neg (by simp), if_pos (by omega), hw]
        · have := ih (i + 1) (out ++ [y]) false h2 (by omega) (by simp at ho ⊢; omega)
          simpa [putP, ha] using this
theorem put_ev (l : List S31) (a b c : Int) (hl : l.length < 5864062014803) : Ev (fun k => quipuref17_put.f k l a b c) (putP ⟨a, b, c⟩ l) := by
  have := put_l0 ⟨a, b, c⟩ l hl l 0 [] false rfl (by omega) (by simp)
  simpa [quipuref17_put.f] using this
/-- The document's state: the text, the spans, where whole digits began, where the last one ended. -/
structure R4 where
  x : List Int
  sp : List S31
  a : Int
  b : Int
def rEnd (s : R4) : R4 := if s.a ≥ 0 then ⟨s.x, putP ⟨2, s.a, s.b⟩ s.sp, -1, s.b⟩ else s
def rAdd (s : R4) (q : S43) : R4 :=
  if q.f1 = 2 then ⟨s.x ++ bytesOf q.f0, s.sp, if s.a < 0 then (s.x.length : Int) else s.a, ((s.x ++ bytesOf q.f0).length : Int)⟩
  else if q.f1 = 0 then ⟨s.x ++ bytesOf q.f0, s.sp, s.a, s.b⟩
  else ⟨s.x ++ bytesOf q.f0, putP ⟨q.f1, (s.x.length : Int), ((s.x ++ bytesOf q.f0).length : Int)⟩ s.sp, s.a, s.b⟩
def rStep (s : R4) (q : S43) : R4 := if q.f0.toList = ([] : List UInt8) then s else rAdd (if q.f1 = 2 ∨ q.f1 = 3 then s else rEnd s) q
def rGo : List S43 → R4 → Option R4
  | [], s => some s
  | q :: r, s => if bGood q = true then rGo r (rStep s q) else none
def rFin : Option R4 → ByteArray × List S31 × Int
  | none => (⟨#[]⟩, [], 170)
  | some s => (strOfNums s.x, (rEnd s).sp, 0)
theorem rEnd_x (s : R4) : (rEnd s).x = s.x := by unfold rEnd; split <;> rfl
theorem rEnd_len (s : R4) : (rEnd s).sp.length ≤ s.sp.length + 1 := by
  unfold rEnd
  split
  · simp [putP_length]
  · omega
theorem rAdd_x (s : R4) (q : S43) : (rAdd s q).x = s.x ++ bytesOf q.f0 := by unfold rAdd; split <;> (try split) <;> rfl
theorem rAdd_len (s : R4) (q : S43) : (rAdd s q).sp.length ≤ s.sp.length + 1 := by
  unfold rAdd
  split
  · simp
  · split
    · simp
    · simp [putP_length]
/-- j2 and j3 of the document's Build: whole digits that go on are put, or not. -/
theorem build_j2 (l : List S43) (s : R4) (i fld : Int) (r : ByteArray × List S31 × Int) (hs : s.sp.length < 5864062014803)
    (h : Ev (fun k => quipuref17_Build.j4 k l (if fld = 2 ∨ fld = 3 then s else rEnd s).x (if fld = 2 ∨ fld = 3 then s else rEnd s).sp (if fld = 2 ∨ fld = 3 then s else rEnd s).a (if fld = 2 ∨ fld = 3 then s else rEnd s).b i fld) r) :
    Ev (fun k => quipuref17_Build.j2 k l s.x s.sp s.a s.b i fld) r := by
  by_cases ha : s.a ≥ 0
  · by_cases h2 : fld = 2
    · rw [if_pos (.inl h2)] at h
      refine Ev.step (fun k => ?_) (Ev.step (f := fun k => quipuref17_Build.j4 k l s.x s.sp s.a s.b i fld) (g := fun k => quipuref17_Build.j3 k l s.x s.sp s.a s.b i fld false) (fun k => ?_) h)
      · rw [quipuref17_Build.j2, if_pos ha, if_pos h2]
      · rw [quipuref17_Build.j3, if_neg (by simp)]
    · by_cases h3 : fld = 3
      · rw [if_pos (.inr h3)] at h
        refine Ev.step (fun k => ?_) (Ev.step (f := fun k => quipuref17_Build.j4 k l s.x s.sp s.a s.b i fld) (g := fun k => quipuref17_Build.j3 k l s.x s.sp s.a s.b i fld false) (fun k => ?_) h)
        · rw [quipuref17_Build.j2, if_pos ha, if_neg h2]
          simp [h3]
        · rw [quipuref17_Build.j3, if_neg (by simp)]
      · rw [if_neg (by rintro (e | e) <;> contradiction)] at h
        have he : rEnd s = ⟨s.x, putP ⟨2, s.a, s.b⟩ s.sp, -1, s.b⟩ := if_pos ha
        rw [he] at h
        refine Ev.step (fun k => ?_) (Ev.step (f := fun k => (quipuref17_put.f k s.sp 2 s.a s.b).bind fun t => quipuref17_Build.j4 k l s.x t (-1) s.b i fld) (g := fun k => quipuref17_Build.j3 k l s.x s.sp s.a s.b i fld true) (fun k => ?_) (Ev.bind (put_ev s.sp 2 s.a s.b hs) h))
        · rw [quipuref17_Build.j2, if_pos ha, if_neg h2, show (fld != 3) = true by simpa using h3]
        · rw [quipuref17_Build.j3, if_pos rfl]
  · have he : rEnd s = s := if_neg ha
    have h' : Ev (fun k => quipuref17_Build.j4 k l s.x s.sp s.a s.b i fld) r := by
      rw [he] at h
      simpa using h
    refine Ev.step (fun k => ?_) (Ev.step (f := fun k => quipuref17_Build.j4 k l s.x s.sp s.a s.b i fld) (g := fun k => quipuref17_Build.j3 k l s.x s.sp s.a s.b i fld false) (fun k => ?_) h')
    · rw [quipuref17_Build.j2, if_neg ha]
    · rw [quipuref17_Build.j3, if_neg (by simp)]
theorem build_j4 (l : List S43) (s : R4) (i : Nat) (q : S43) (r : ByteArray × List S31 × Int) (hi : i < l.length) (hq : rd_T43 l (i : Int) = q) (hs : s.sp.length < 5864062014803) (hx : s.x.length + q.f0.size < 140737488355328) (hl : l.length ≤ 1000000000)
    (h : Ev (fun k => quipuref17_Build.l0 k l (rAdd s q).x (rAdd s q).sp (rAdd s q).a (rAdd s q).b ((i + 1 : Nat) : Int)) r) : Ev (fun k => quipuref17_Build.j4 k l s.x s.sp s.a s.b i q.f1) r := by
  have hw : wrap64 ((i : Int) + 1) = ((i + 1 : Nat) : Int) := by rw [w64 (by omega) (by omega)]; omega
  have start : ∀ k, quipuref17_Build.j4 (k + 1) l s.x s.sp s.a s.b i q.f1 = (if q.f1 = 2 then (if s.a < 0 then quipuref17_Build.l0 k l (s.x ++ bytesOf q.f0) s.sp (s.x.length : Int) ((s.x ++ bytesOf q.f0).length : Int) ((i + 1 : Nat) : Int) else quipuref17_Build.l0 k l (s.x ++ bytesOf q.f0) s.sp s.a ((s.x ++ bytesOf q.f0).length : Int) ((i + 1 : Nat) : Int)) else (if q.f1 = 0 then quipuref17_Build.l0 k l (s.x ++ bytesOf q.f0) s.sp s.a s.b ((i + 1 : Nat) : Int) else (quipuref17_put.f k s.sp q.f1 (s.x.length : Int) ((s.x ++ bytesOf q.f0).length : Int)).bind fun t => quipuref17_Build.l0 k l (s.x ++ bytesOf q.f0) t s.a s.b ((i + 1 : Nat) : Int))) := fun k => by
    rw [quipuref17_Build.j4, if_neg (by omega), if_pos (by omega), if_pos (by omega), hq, if_pos (by omega), hw]
    simp only [Option.bind_some]
  unfold rAdd at h
  by_cases h2 : q.f1 = 2
  · simp only [if_pos h2] at h
    by_cases ha : s.a < 0
    · simp only [if_pos ha] at h
      exact Ev.step (fun k => by rw [start, if_pos h2, if_pos ha]) h
    · simp only [if_neg ha] at h
      exact Ev.step (fun k => by rw [start, if_pos h2, if_neg ha]) h
  · simp only [if_neg h2] at h
    by_cases h0 : q.f1 = 0
    · simp only [if_pos h0] at h
      exact Ev.step (fun k => by rw [start, if_neg h2, if_pos h0]) h
    · simp only [if_neg h0] at h
      exact Ev.step (fun k => by rw [start, if_neg h2, if_neg h0]) (Ev.bind (put_ev s.sp _ _ _ hs) h)
theorem build_l0 (l : List S43) (hl : l.length ≤ 1000000000) (xs : List S43) : ∀ (i : Nat) (s : R4), l.drop i = xs → i ≤ l.length → s.x.length + total xs ≤ 1000000000 → s.sp.length ≤ 2 * i →
    Ev (fun k => quipuref17_Build.l0 k l s.x s.sp s.a s.b i) (rFin (rGo xs s)) := by
  induction xs with
  | nil =>
    intro i s hd hi hx hsp
    have hge : l.length = i := by
      have := congrArg List.length hd
      simp at this
      omega
    have hlast : Ev (fun k => quipuref17_Build.j4 k l (rEnd s).x (rEnd s).sp (rEnd s).a (rEnd s).b (i : Int) 0) (rFin (rGo [] s)) := by
      refine Ev.step (fun k => ?_) (Ev.now _)
      rw [quipuref17_Build.j4, if_pos (by omega), rEnd_x]
      rfl
    refine Ev.step (f := fun k => quipuref17_Build.j2 k l s.x s.sp s.a s.b i 0) (fun k => ?_) (build_j2 l s i 0 _ (by omega) (by simpa using hlast))
    rw [quipuref17_Build.l0, if_pos (by omega), if_neg (by omega)]
  | cons q xs ih =>
    intro i s hd hi hx hsp
    obtain ⟨h1, h2, hlt⟩ := rd_drop43 hd
    have hw : wrap64 ((i : Int) + 1) = ((i + 1 : Nat) : Int) := by rw [w64 (by omega) (by omega)]; omega
    have htot : total (q :: xs) = q.f0.size + total xs := by simp [total]
    rw [htot] at hx
    by_cases hg : bGood q = true
    · have hg' := hg
      unfold bGood at hg'
      simp only [Bool.and_eq_true, decide_eq_true_eq] at hg'
      have hv : utf8_ValidString.f q.f0 = some true := by unfold utf8_ValidString.f; rw [if_pos (by omega), hg'.2.2]
      have key : Ev (fun k => quipuref17_Build.j1 k l s.x s.sp s.a s.b i q.f1 false) (rFin (rGo (q :: xs) s)) := by
        rw [show rGo (q :: xs) s = rGo xs (rStep s q) by simp [rGo, hg]]
        by_cases he : q.f0.toList = ([] : List UInt8)
        · rw [show rStep s q = s from if_pos he]
          refine Ev.step (fun k => ?_) (ih (i + 1) s h2 (by omega) (by omega) (by omega))
          rw [quipuref17_Build.j1, if_neg (by simp), if_pos (by omega), if_pos (by omega), h1, if_pos he, hw]
        · rw [show rStep s q = rAdd (if q.f1 = 2 ∨ q.f1 = 3 then s else rEnd s) q from if_neg he]
          have hx1 : (if q.f1 = 2 ∨ q.f1 = 3 then s else rEnd s).x = s.x := by split <;> simp [rEnd_x]
          have hs1 : (if q.f1 = 2 ∨ q.f1 = 3 then s else rEnd s).sp.length ≤ s.sp.length + 1 := by
            have := rEnd_len s
            split <;> omega
          refine Ev.step (f := fun k => quipuref17_Build.j2 k l s.x s.sp s.a s.b i q.f1) (fun k => ?_) (build_j2 l s i q.f1 _ (by omega) (build_j4 l _ i q _ hlt h1 (by omega) (by rw [hx1]; omega) hl (ih (i + 1) _ h2 (by omega) ?_ ?_)))
          · rw [quipuref17_Build.j1, if_neg (by simp), if_pos (by omega), if_pos (by omega), h1, if_neg he]
          · rw [rAdd_x, hx1, List.length_append, bytesOf_length]; omega
          · have := rAdd_len (if q.f1 = 2 ∨ q.f1 = 3 then s else rEnd s) q
            omega
      refine Ev.step (fun k => ?_) key
      rw [quipuref17_Build.l0, if_pos (by omega), if_pos (by omega), if_pos (by omega), h1, if_neg (by omega), if_neg (by omega), hv]
      rfl
    · have hr : rFin (rGo (q :: xs) s) = (⟨#[]⟩, [], 170) := by simp [rGo, hg, rFin]
      rw [hr]
      have hj : Ev (fun k => quipuref17_Build.j1 k l s.x s.sp s.a s.b i q.f1 true) (⟨#[]⟩, [], 170) := Ev.step (fun k => by rw [quipuref17_Build.j1, if_pos rfl]) (Ev.now _)
      refine Ev.step (fun k => ?_) hj
      rw [quipuref17_Build.l0, if_pos (by omega), if_pos (by omega), if_pos (by omega), h1]
      by_cases d1 : q.f1 < 0
      · rw [if_pos d1]
      · rw [if_neg d1]
        by_cases d2 : q.f1 > 17
        · rw [if_pos d2]
        · rw [if_neg d2]
          have hv : utf8_ValidString.f q.f0 = some false := by
            unfold utf8_ValidString.f
            unfold bGood at hg
            rw [decide_eq_true (by omega : 0 ≤ q.f1), decide_eq_true (by omega : q.f1 < 18)] at hg
            simp only [Bool.true_and, Bool.not_eq_true] at hg
            rw [if_pos (by omega), hg]
          rw [hv]
          rfl
theorem rbuild_ev (l : List S43) (hl : l.length ≤ 1000000000) (ht : total l ≤ 1000000000) : Ev (fun k => quipuref17_Build.f k l) (rFin (rGo l ⟨[], [], -1, -1⟩)) := by
  have := build_l0 l hl l 0 ⟨[], [], -1, -1⟩ rfl (by omega) (by simpa using ht) (by simp)
  simpa [quipuref17_Build.f] using this
end Go.Proofs.YthickfehldjgdaaDoor.X
