/-
  fields.Build answers as the document says: the heap's order is the order of putting.
-/
import Derived.Test.YthickfehldjgdaaDoorP4
namespace Go.Proofs.YthickfehldjgdaaDoor.X
open Go.RowKit Go.Proofs.YthickfehldjgdaaDoorW.PrintWords Go.Proofs.YthickfehldjgdaaDoorW.PrintLast
theorem gS_append_lt (l : List S31) (x : S31) {c : Nat} (h : c < l.length) : gS (l ++ [x]) c = gS l c := by
  simp only [gS, List.getD_eq_getElem?_getD]
  rw [List.getElem?_append_left h]
theorem gS_append_eq (l : List S31) (x : S31) : gS (l ++ [x]) l.length = x := by
  simp [gS, List.getD_eq_getElem?_getD]
theorem pushH_spec (l : List S31) (x : S31) (hH : Heap l.length l) (hD : Dist l.length l) (hf : ∀ y, MemN l.length l y → y.f1 ≠ x.f1) :
    Heap (pushH l x).length (pushH l x) ∧ Dist (pushH l x).length (pushH l x) ∧ ∀ y, MemN (pushH l x).length (pushH l x) y ↔ (y = x ∨ MemN l.length l y) := by
  have hlen : (pushH l x).length = (l ++ [x]).length := by rw [pushH_length]; simp
  have hl1 : (l ++ [x]).length = l.length + 1 := by simp
  rw [hlen]
  unfold pushH
  have hd : Dist (l ++ [x]).length (l ++ [x]) := by
    intro a b ha hb e
    rw [hl1] at ha hb
    by_cases h1 : a = l.length
    · by_cases h2 : b = l.length
      · omega
      · rw [h1, gS_append_eq, gS_append_lt l x (by omega : b < l.length)] at e
        exact absurd e.symm (hf _ ⟨b, by omega, rfl⟩)
    · by_cases h2 : b = l.length
      · rw [h2, gS_append_eq, gS_append_lt l x (by omega : a < l.length)] at e
        exact absurd e (hf _ ⟨a, by omega, rfl⟩)
      · rw [gS_append_lt l x (by omega : a < l.length), gS_append_lt l x (by omega : b < l.length)] at e
        exact hD a b (by omega) (by omega) e
  obtain ⟨m1, m2⟩ := upH_mem (l.length + 1) (l ++ [x]) l.length (by simp)
  refine ⟨upH_heap (l.length + 1) (l ++ [x]) l.length (by omega) (by simp) (fun c hc hcl hne => ?_) (fun c hc hcl hpar _ => ?_), m2 hd, fun y => (m1 y).trans ?_⟩
  · rw [hl1] at hcl
    rw [gS_append_lt l x (by omega), gS_append_lt l x (by omega)]
    exact hH c hc (by omega)
  · rw [hl1] at hcl
    omega
  · rw [hl1]
    constructor
    · rintro ⟨c, hc, e⟩
      by_cases h1 : c = l.length
      · rw [h1, gS_append_eq] at e
        exact .inl e.symm
      · rw [gS_append_lt l x (by omega)] at e
        exact .inr ⟨c, by omega, e⟩
    · rintro (rfl | ⟨c, hc, e⟩)
      · exact ⟨l.length, by omega, gS_append_eq _ _⟩
      · exact ⟨c, by omega, by rw [gS_append_lt l x hc]; exact e⟩
/-- Rising by From. -/
def Rise (l : List S31) : Prop := l.Pairwise (fun a b => a.f1 < b.f1)
theorem putP_spec (x : S31) : ∀ (l : List S31), Rise l → (∀ y ∈ l, y.f1 ≠ x.f1) → Rise (putP x l) ∧ ∀ y, y ∈ putP x l ↔ y = x ∨ y ∈ l := by
  intro l
  induction l with
  | nil => intro _ _; exact ⟨by simp [putP, Rise], fun y => by simp [putP]⟩
  | cons z r ih =>
    intro hr hf
    have hz := hf z List.mem_cons_self
    unfold Rise at hr
    rw [List.pairwise_cons] at hr
    unfold putP
    by_cases ha : aheadP x z = true
    · rw [if_pos ha]
      have hlt : x.f1 < z.f1 := by
        unfold aheadP at ha
        rw [decide_eq_true_iff] at ha
        rcases ha with h | ⟨h, _⟩
        · exact h
        · exact absurd h.symm hz
      refine ⟨?_, fun y => by simp⟩
      unfold Rise
      rw [List.pairwise_cons, List.pairwise_cons]
      refine ⟨fun y hy => ?_, hr⟩
      rcases List.mem_cons.1 hy with rfl | hy
      · exact hlt
      · have := hr.1 y hy
        omega
    · rw [if_neg ha]
      have hlt : z.f1 < x.f1 := by
        unfold aheadP at ha
        rw [decide_eq_true_iff] at ha
        omega
      obtain ⟨i1, i2⟩ := ih hr.2 (fun y hy => hf y (List.mem_cons_of_mem _ hy))
      refine ⟨?_, fun y => ?_⟩
      · unfold Rise
        rw [List.pairwise_cons]
        refine ⟨fun y hy => ?_, i1⟩
        rcases (i2 y).1 hy with rfl | hy
        · exact hlt
        · exact hr.1 y hy
      · rw [List.mem_cons, i2, List.mem_cons]
        constructor
        · rintro (h | h | h)
          · exact .inr (.inl h)
          · exact .inl h
          · exact .inr (.inr h)
        · rintro (h | h | h)
          · exact .inr (.inl h)
          · exact .inl h
          · exact .inr (.inr h)
theorem rise_unique : ∀ (l r : List S31), Rise l → Rise r → (∀ x, x ∈ l ↔ x ∈ r) → l = r := by
  intro l
  induction l with
  | nil =>
    intro r _ _ h
    cases r with
    | nil => rfl
    | cons y r => exact absurd ((h y).2 List.mem_cons_self) List.not_mem_nil
  | cons x l ih =>
    intro r hl hr h
    cases r with
    | nil => exact absurd ((h x).1 List.mem_cons_self) List.not_mem_nil
    | cons y r =>
      unfold Rise at hl hr
      rw [List.pairwise_cons] at hl hr
      have hxy : x = y := by
        rcases List.mem_cons.1 ((h x).1 List.mem_cons_self) with e | e
        · exact e
        · rcases List.mem_cons.1 ((h y).2 List.mem_cons_self) with e' | e'
          · exact e'.symm
          · have := hr.1 x e
            have := hl.1 y e'
            omega
      subst hxy
      rw [ih r hl.2 hr.2 (fun z => ⟨fun hz => ?_, fun hz => ?_⟩)]
      · rcases List.mem_cons.1 ((h z).1 (List.mem_cons_of_mem _ hz)) with e | e
        · have := hl.1 z hz
          subst e
          omega
        · exact e
      · rcases List.mem_cons.1 ((h z).2 (List.mem_cons_of_mem _ hz)) with e | e
        · have := hr.1 z hz
          subst e
          omega
        · exact e
theorem take_gS (l : List S31) (n : Nat) {c : Nat} (h : c < n) : gS (l.take n) c = gS l c := by
  simp only [gS, List.getD_eq_getElem?_getD, List.getElem?_take, if_pos h]
theorem popH_spec (l : List S31) (n : Nat) (hn : l.length = n + 1) (hH : Heap l.length l) (hD : Dist l.length l) :
    Heap n (popH l) ∧ Dist n (popH l) ∧ ∀ y, MemN n (popH l) y ↔ ∃ c, 0 < c ∧ c < l.length ∧ gS l c = y := by
  have hp : popH l = (downH n (swapL l 0 n) 0 n).take n := by unfold popH; rw [hn]; rfl
  have key : ∀ c, gS (swapL l 0 n) c = if c = n then gS l 0 else if c = 0 then gS l n else gS l c := fun c => swapL_getD l 0 n c (by omega) (by omega)
  have hsl : (swapL l 0 n).length = n + 1 := by rw [swapL_length]; exact hn
  rw [hn] at hH hD ⊢
  have hh : Heap n (downH n (swapL l 0 n) 0 n) := by
    refine downH_heap n _ 0 n (by omega) (by omega) (fun c hc hcn hne => ?_) (fun c _ _ _ h0 => absurd h0 (by omega))
    rw [key, key, if_neg (by omega), if_neg hne, if_neg (by omega), if_neg (by omega)]
    exact hH c hc (by omega)
  obtain ⟨m1, m2⟩ := downH_mem n (swapL l 0 n) 0 n (by omega)
  have hd0 : Dist n (swapL l 0 n) := fun a b ha hb e => swap_dist (n := n + 1) (by omega) (by omega) (by omega) hD a b (by omega) (by omega) e
  rw [hp]
  refine ⟨fun c hc hcn => ?_, fun a b ha hb e => ?_, fun y => ?_⟩
  · rw [take_gS _ _ (by omega), take_gS _ _ hcn]
    exact hh c hc hcn
  · rw [take_gS _ _ ha, take_gS _ _ hb] at e
    exact m2 hd0 a b ha hb e
  · have : MemN n ((downH n (swapL l 0 n) 0 n).take n) y ↔ MemN n (downH n (swapL l 0 n) 0 n) y := by
      constructor
      · rintro ⟨c, hc, e⟩
        exact ⟨c, hc, by rw [take_gS _ _ hc] at e; exact e⟩
      · rintro ⟨c, hc, e⟩
        exact ⟨c, hc, by rw [take_gS _ _ hc]; exact e⟩
    rw [this, m1]
    constructor
    · rintro ⟨c, hc, e⟩
      rw [key, if_neg (by omega)] at e
      by_cases h0 : c = 0
      · rw [if_pos h0] at e
        exact ⟨n, by omega, by omega, e⟩
      · rw [if_neg h0] at e
        exact ⟨c, by omega, by omega, e⟩
    · rintro ⟨c, hc, hcn, e⟩
      by_cases h0 : c = n
      · exact ⟨0, by omega, by rw [key, if_neg (by omega), if_pos rfl, ← h0]; exact e⟩
      · exact ⟨c, by omega, by rw [key, if_neg h0, if_neg (by omega)]; exact e⟩
theorem popAll_spec : ∀ (n : Nat) (l : List S31), l.length = n → Heap n l → Dist n l → Rise (popAll n l) ∧ ∀ y, y ∈ popAll n l ↔ MemN n l y := by
  intro n
  induction n with
  | zero =>
    intro l _ _ _
    refine ⟨List.Pairwise.nil, fun y => ⟨fun h => absurd h List.not_mem_nil, ?_⟩⟩
    rintro ⟨c, hc, _⟩
    omega
  | succ n ih =>
    intro l hl hH hD
    rw [← hl] at hH hD
    obtain ⟨p1, p2, p3⟩ := popH_spec l n hl hH hD
    obtain ⟨i1, i2⟩ := ih (popH l) (by rw [popH_length]; omega) p1 p2
    rw [popAll]
    constructor
    · unfold Rise
      rw [List.pairwise_cons]
      refine ⟨fun y hy => ?_, i1⟩
      obtain ⟨c, hc, hcl, e⟩ := (p3 y).1 ((i2 y).1 hy)
      subst e
      have h1 := heap_min hH c hcl
      rw [leS_iff] at h1
      have h2 : (gS l 0).f1 ≠ (gS l c).f1 := fun e => by
        have := hD 0 c (by omega) hcl e
        omega
      show (gS l 0).f1 < (gS l c).f1
      omega
    · intro y
      rw [List.mem_cons, i2, p3]
      constructor
      · rintro (rfl | ⟨c, _, hcl, e⟩)
        · exact ⟨0, by omega, rfl⟩
        · exact ⟨c, by omega, e⟩
      · rintro ⟨c, hc, e⟩
        by_cases h0 : c = 0
        · subst h0
          exact .inl e.symm
        · exact .inr ⟨c, by omega, by omega, e⟩
/-- The program's state and the document's. -/
structure Rel (s : B3) (t : R4) : Prop where
  x : t.x = s.x
  heap : Heap s.l.length s.l
  dist : Dist s.l.length s.l
  below : ∀ y, MemN s.l.length s.l y → y.f1 < (s.x.length : Int)
  rise : Rise t.sp
  mem : ∀ y, y ∈ t.sp ↔ MemN s.l.length s.l y
  p0 : s.p.f0 = 2
  run : (s.p.f2 = 0 ∧ t.a = -1) ∨ (s.p.f2 > 0 ∧ t.a = s.p.f1 ∧ t.b = s.p.f2 ∧ 0 ≤ s.p.f1 ∧ s.p.f1 < (s.x.length : Int) ∧ ∀ y, MemN s.l.length s.l y → y.f1 ≠ s.p.f1)
theorem Rel.ended {s : B3} {t : R4} (h : Rel s t) : Rel ⟨s.x, endH s.l s.p, ⟨s.p.f0, 0, 0⟩⟩ (rEnd t) := by
  rcases h.run with ⟨h1, h2⟩ | ⟨h1, h2, h3, h4, h5, h6⟩
  · rw [show endH s.l s.p = s.l from if_neg (by omega), show rEnd t = t from if_neg (by omega)]
    exact ⟨h.x, h.heap, h.dist, h.below, h.rise, h.mem, h.p0, .inl ⟨rfl, h2⟩⟩
  · rw [show endH s.l s.p = pushH s.l s.p from if_pos h1, show rEnd t = ⟨t.x, putP ⟨2, t.a, t.b⟩ t.sp, -1, t.b⟩ from if_pos (by omega)]
    have hp : (⟨2, t.a, t.b⟩ : S31) = s.p := by
      rw [h2, h3, ← h.p0]
    rw [hp]
    obtain ⟨a1, a2, a3⟩ := pushH_spec s.l s.p h.heap h.dist h6
    obtain ⟨b1, b2⟩ := putP_spec s.p t.sp h.rise (fun y hy => h6 y ((h.mem y).1 hy))
    refine ⟨h.x, a1, a2, fun y hy => ?_, b1, fun y => ?_, h.p0, .inl ⟨rfl, rfl⟩⟩
    · rcases (a3 y).1 hy with rfl | hy
      · exact h5
      · exact h.below y hy
    · rw [b2, a3, h.mem]
/-- A span of a piece that is no whole digits. -/
theorem Rel.pushed {s : B3} {t : R4} (h : Rel s t) (x' : List Int) (hx : s.x.length < x'.length) (f e : Int) : Rel ⟨x', pushH s.l ⟨f, (s.x.length : Int), e⟩, s.p⟩ ⟨x', putP ⟨f, (s.x.length : Int), e⟩ t.sp, t.a, t.b⟩ := by
  have hf : ∀ y, MemN s.l.length s.l y → y.f1 ≠ (⟨f, (s.x.length : Int), e⟩ : S31).f1 := fun y hy => by
    have := h.below y hy
    show y.f1 ≠ (s.x.length : Int)
    omega
  obtain ⟨a1, a2, a3⟩ := pushH_spec s.l ⟨f, (s.x.length : Int), e⟩ h.heap h.dist hf
  obtain ⟨b1, b2⟩ := putP_spec ⟨f, (s.x.length : Int), e⟩ t.sp h.rise (fun y hy => hf y ((h.mem y).1 hy))
  refine ⟨rfl, a1, a2, fun y hy => ?_, b1, fun y => ?_, h.p0, ?_⟩
  · rcases (a3 y).1 hy with rfl | hy
    · show (s.x.length : Int) < (x'.length : Int)
      omega
    · have := h.below y hy
      show y.f1 < (x'.length : Int)
      omega
  · rw [b2, a3, h.mem]
  · rcases h.run with h1 | ⟨h1, h2, h3, h4, h5, h6⟩
    · exact .inl h1
    · refine .inr ⟨h1, h2, h3, h4, ?_, fun y hy => ?_⟩
      · show s.p.f1 < (x'.length : Int)
        omega
      · rcases (a3 y).1 hy with rfl | hy
        · show (s.x.length : Int) ≠ s.p.f1
          omega
        · exact h6 y hy
theorem Rel.grown {s : B3} {t : R4} (h : Rel s t) (x' : List Int) (hx : s.x.length < x'.length) : Rel ⟨x', s.l, s.p⟩ ⟨x', t.sp, t.a, t.b⟩ :=
  ⟨rfl, h.heap, h.dist, fun y hy => by have := h.below y hy; show y.f1 < (x'.length : Int); omega, h.rise, h.mem, h.p0, by
    rcases h.run with h1 | ⟨h1, h2, h3, h4, h5, h6⟩
    · exact .inl h1
    · exact .inr ⟨h1, h2, h3, h4, by show s.p.f1 < (x'.length : Int); omega, h6⟩⟩
theorem size_pos {q : ByteArray} (h : ¬ q.toList = ([] : List UInt8)) : 0 < q.size := by
  rcases Nat.eq_zero_or_pos q.size with h0 | h0
  · exfalso
    apply h
    have : q = ⟨#[]⟩ := by
      cases q with
      | mk d =>
        have : d = #[] := Array.eq_empty_of_size_eq_zero h0
        rw [this]
    rw [this]
    simp
  · exact h0
theorem Rel.stepped {s : B3} {t : R4} (h : Rel s t) (q : S43) : Rel (bStep s q) (rStep t q) := by
  by_cases he : q.f0.toList = ([] : List UInt8)
  · rw [show bStep s q = s from if_pos he, show rStep t q = t from if_pos he]
    exact h
  · have hpos := size_pos he
    have hx : s.x.length < (s.x ++ bytesOf q.f0).length := by rw [List.length_append, bytesOf_length]; omega
    by_cases h2 : q.f1 = 2
    · have e1 : bStep s q = ⟨s.x ++ bytesOf q.f0, s.l, ⟨s.p.f0, if s.p.f2 = 0 then (s.x.length : Int) else s.p.f1, ((s.x ++ bytesOf q.f0).length : Int)⟩⟩ := by unfold bStep; rw [if_neg he, if_pos h2]
      have e2 : rStep t q = ⟨s.x ++ bytesOf q.f0, t.sp, if t.a < 0 then (s.x.length : Int) else t.a, ((s.x ++ bytesOf q.f0).length : Int)⟩ := by unfold rStep rAdd; simp only [if_neg he, if_pos h2, h2, true_or, if_true]; rw [h.x]
      rw [e1, e2]
      have hg := h.grown _ hx
      refine ⟨rfl, hg.heap, hg.dist, hg.below, hg.rise, hg.mem, h.p0, .inr ?_⟩
      rcases h.run with ⟨h1, h3⟩ | ⟨h1, h3, h4, h5, h6, h7⟩
      · have c1 : t.a < 0 := by omega
        simp only [if_pos h1, if_pos c1]
        refine ⟨?_, trivial, trivial, ?_, ?_, fun y hy => ?_⟩
        · omega
        · omega
        · omega
        · have := h.below y hy
          omega
      · have c1 : ¬ t.a < 0 := by omega
        have c2 : ¬ s.p.f2 = 0 := by omega
        simp only [if_neg c2, if_neg c1]
        refine ⟨?_, h3, trivial, h5, ?_, h7⟩
        · omega
        · omega
    · by_cases h3 : q.f1 = 3
      · have e1 : bStep s q = ⟨s.x ++ bytesOf q.f0, pushH s.l (bNew s q), s.p⟩ := by unfold bStep; rw [if_neg he, if_neg h2, if_pos h3]
        have e2 : rStep t q = ⟨s.x ++ bytesOf q.f0, putP (bNew s q) t.sp, t.a, t.b⟩ := by
          unfold rStep
          rw [if_neg he, if_pos (Or.inr h3)]
          unfold rAdd
          rw [if_neg h2, if_neg (by omega), h.x]
          rfl
        rw [e1, e2]
        exact h.pushed _ hx _ _
      · have hE := h.ended
        have hEx : (rEnd t).x = s.x := hE.x
        by_cases h0 : q.f1 = 0
        · have e1 : bStep s q = ⟨s.x ++ bytesOf q.f0, endH s.l s.p, ⟨s.p.f0, 0, 0⟩⟩ := by unfold bStep; rw [if_neg he, if_neg h2, if_neg h3, if_pos h0]
          have e2 : rStep t q = ⟨s.x ++ bytesOf q.f0, (rEnd t).sp, (rEnd t).a, (rEnd t).b⟩ := by
            unfold rStep
            rw [if_neg he, if_neg (by omega)]
            unfold rAdd
            rw [if_neg h2, if_pos h0, hEx]
          rw [e1, e2]
          exact hE.grown _ hx
        · have e1 : bStep s q = ⟨s.x ++ bytesOf q.f0, pushH (endH s.l s.p) (bNew s q), ⟨s.p.f0, 0, 0⟩⟩ := by unfold bStep; rw [if_neg he, if_neg h2, if_neg h3, if_neg h0]
          have e2 : rStep t q = ⟨s.x ++ bytesOf q.f0, putP (bNew s q) (rEnd t).sp, (rEnd t).a, (rEnd t).b⟩ := by
            unfold rStep
            rw [if_neg he, if_neg (by omega)]
            unfold rAdd
            rw [if_neg h2, if_neg h0, hEx]
            rfl
          rw [e1, e2]
          exact hE.pushed _ hx _ _
theorem Rel.go : ∀ (l : List S43) (s : B3) (t : R4), Rel s t → (buildGo l s = none ∧ rGo l t = none) ∨ ∃ s' t', buildGo l s = some s' ∧ rGo l t = some t' ∧ Rel s' t' := by
  intro l
  induction l with
  | nil => intro s t h; exact .inr ⟨s, t, rfl, rfl, h⟩
  | cons q r ih =>
    intro s t h
    unfold buildGo rGo
    by_cases hg : bGood q = true
    · rw [if_pos hg, if_pos hg]
      exact ih _ _ (h.stepped q)
    · rw [if_neg hg, if_neg hg]
      exact .inl ⟨rfl, rfl⟩
theorem Rel.start : Rel ⟨[], [], ⟨2, 0, 0⟩⟩ ⟨[], [], -1, -1⟩ :=
  ⟨rfl, fun c _ h => absurd h (by simp), fun a _ h => absurd h (by simp), fun y ⟨c, h, _⟩ => absurd h (by simp), List.Pairwise.nil, fun y => ⟨fun h => absurd h List.not_mem_nil, fun ⟨c, h, _⟩ => absurd h (by simp)⟩, rfl, .inl ⟨rfl, rfl⟩⟩
theorem build_same (l : List S43) : buildEnd (buildGo l ⟨[], [], ⟨2, 0, 0⟩⟩) = rFin (rGo l ⟨[], [], -1, -1⟩) := by
  rcases Rel.go l _ _ Rel.start with ⟨h1, h2⟩ | ⟨s, t, h1, h2, h⟩
  · rw [h1, h2]
    rfl
  · rw [h1, h2]
    have hE := h.ended
    obtain ⟨p1, p2⟩ := popAll_spec _ (endH s.l s.p) rfl hE.heap hE.dist
    show (strOfNums s.x, popAll (endH s.l s.p).length (endH s.l s.p), (0 : Int)) = (strOfNums t.x, (rEnd t).sp, 0)
    rw [h.x, rise_unique _ _ p1 hE.rise (fun y => (p2 y).trans (hE.mem y).symm)]
end Go.Proofs.YthickfehldjgdaaDoor.X
