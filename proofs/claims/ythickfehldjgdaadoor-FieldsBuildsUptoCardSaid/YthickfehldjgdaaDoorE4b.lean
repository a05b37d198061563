/-
  container/heap over fields.spans: Pop; the closure of fields.Build.
-/
import Derived.Test.YthickfehldjgdaaDoorE4
namespace Go.Proofs.YthickfehldjgdaaDoor.X
open Go.RowKit Go.Proofs.YthickfehldjgdaaDoorW.PrintWords Go.Proofs.YthickfehldjgdaaDoorW.PrintLast
theorem swapL_getD (l : List S31) (i j k : Nat) (hi : i < l.length) (hj : j < l.length) : (swapL l i j).getD k z31 = if k = j then l.getD i z31 else if k = i then l.getD j z31 else l.getD k z31 := by
  unfold swapL
  simp only [List.getD_eq_getElem?_getD, List.getElem?_set, List.length_set]
  by_cases h1 : k = j
  · subst h1
    simp [hj]
  · by_cases h2 : k = i
    · subst h2
      simp [h1, Ne.symm h1, hi]
    · simp [h1, h2, Ne.symm h1, Ne.symm h2]
theorem downH_getD (n k : Nat) (hk : n ≤ k) : ∀ (f : Nat) (l : List S31) (i : Nat), n ≤ l.length → i < n → (downH f l i n).getD k z31 = l.getD k z31 := by
  intro f
  induction f with
  | zero => intro l i _ _; rfl
  | succ q ih =>
    intro l i hl hi
    rw [downH]
    split
    · rename_i h1
      have hp : pick2 l i n < n := by
        unfold pick2
        split
        · omega
        · exact h1
      split
      · rw [ih _ _ (by rw [swapL_length]; exact hl) hp, swapL_getD _ _ _ _ (by omega) (by omega), if_neg (by omega), if_neg (by omega)]
      · rfl
    · rfl
/-- heap.Pop: what stays. -/
def popH (l : List S31) : List S31 := (downH (l.length - 1) (swapL l 0 (l.length - 1)) 0 (l.length - 1)).take (l.length - 1)
set_option maxRecDepth 100000 in
set_option maxHeartbeats 2000000 in
theorem heap_Pop (w : World) (B h n : Nat) (v : Value) (l : List S31) (H : Held w B h v l) (hn : l.length = n + 1) (hl : l.length ≤ 2305843009213693952) :
    Calls Tryd.prog 25 #[.iface 56 (.pointer (some ⟨h, 0, none⟩))] w fun e w' => e = .returned (.iface 31 (.agg #[.int .i64 (l.getD 0 z31).f0, .int .i64 (l.getD 0 z31).f1, .int .i64 (l.getD 0 z31).f2])) ∧ Turns w w' B h v (popH l) := by
  obtain ⟨g, c, rfl⟩ := R31_nonil H.row (by omega)
  have q1 := m_Pop
  have ml := m_Len h _ _ H.cell
  have HH := Aside0.mk H
  clear H
  have hP : popH l = (downH n (swapL l 0 n) 0 n).take n := by unfold popH; rw [hn]; rfl
  rw [hP]
  obtain ⟨X, hX⟩ : ∃ X, l.getD 0 z31 = X := ⟨_, rfl⟩
  rw [hX]
  rw [hn] at HH ml
  have hw1 : wrap64 (n : Int) = (n : Int) := by unfold wrap64; omega
  go_enter Tryd.func25, Tryd.ntmps25
  rw [hn]
  go_wp2_with fail
  refine (meth_Len _ _ _ _).mono ?_
  rintro e w4 ⟨rfl, rfl⟩
  have ms := m_Swap h _ _ HH.out.cell
  go_wp2_with fail
  have cS := meth_Swap w4 B g c (fun _ => True) l 0 n (by omega) (by omega) (by rw [hn]; exact HH.out.row)
  rw [hn] at cS
  refine cS.mono ?_
  clear cS
  rintro e wb ⟨⟨u, rfl⟩, hR9, hT9⟩
  have hsl : (swapL l 0 n).length = n + 1 := by rw [swapL_length]; exact hn
  have Hb := Aside0.mk (show Held wb B h (.slice (some ⟨g, 0, none⟩) (n + 1) c) (swapL l 0 n) by
    have H3' := HH.out
    rw [← hn] at H3' hR9 ⊢
    exact H3'.swapped hR9 (hT9 none))
  have Tb := Aside0.mk (hT9 (some h))
  clear hR9 hT9
  go_wp2_with fail
  have cD := heap_down wb B h n _ (swapL l 0 n) Hb.out (by omega) (by omega) (by omega)
  refine cD.mono ?_
  clear cD
  rintro e wc ⟨⟨u, rfl⟩, ⟨⟨vc, Hc, hatc⟩, tc⟩⟩
  have hdl : (downH n (swapL l 0 n) 0 n).length = n + 1 := by rw [downH_length]; exact hsl
  have Tc := Aside0.mk (Tb.out.then_ tc (.inl rfl))
  have HAT := Aside0.mk hatc
  have HC := Aside0.mk Hc
  have hg0 : (downH n (swapL l 0 n) 0 n).getD n z31 = l.getD 0 z31 := by
    by_cases h0 : n = 0
    · subst h0
      rw [downH, swapL_getD _ _ _ _ (by omega) (by omega), if_pos rfl]
    · rw [downH_getD n n (Nat.le_refl _) n _ 0 (by omega) (by omega), swapL_getD _ _ _ _ (by omega) (by omega), if_pos rfl]
  rw [hX] at hg0
  clear Hc hatc tc hX
  go_wp2_with (simp only [q1, m_Pop])
  have cP := meth_Pop wc B h n vc _ HC.out hdl
  rw [hg0] at cP
  refine cP.mono ?_
  clear cP
  rintro e wd ⟨rfl, T⟩
  have HT := Aside0.mk T
  clear T
  go_wp2_with fail
  go_ret
  refine ⟨rfl, HT.out.then_ ?_ Tc.out⟩
  rcases HAT.out with e | ⟨b, hb, hle⟩
  · exact .inl e
  · exact .inr ⟨b, hb, Nat.le_trans Tb.out.size hle⟩
/-- The closure of fields.Build: whole digits that go on are laid into the heap. (g: the block of the span of whole digits; h: the heap.) -/
def endH (l : List S31) (p : S31) : List S31 := if p.f2 > 0 then pushH l p else l
/-- Where fields.Build stands: the text so far, the heap, the span of whole digits. (gr: the result's block; h: the heap's; g: that span's.) -/
structure BSt (w0 wr : World) (gr h g : Nat) (x : List Int) (l : List S31) (p : S31) (v4 v : Value) : Prop where
  er : gr = w0.heap.size
  eh : h = w0.heap.size + 1
  eg : g = w0.heap.size + 2
  below : Below w0.heap.size w0 wr
  fr : wr.heap[gr]? = some (.cells #[.string ⟨#[]⟩, .slice none 0 0] 25 (0, 0))
  fg : wr.heap[g]? = some (.cells #[.int .i64 p.f0, .int .i64 p.f1, .int .i64 p.f2] 31 (0, 0))
  held : Held wr (w0.heap.size + 3) h v l
  text : wr.ownsRow (w0.heap.size + 3) 5 1 v4 x.length (nums .u8 x)
section
variable {w0 wr w' : World} {gr h g : Nat} {x : List Int} {l l' : List S31} {p : S31} {v4 v : Value}
theorem BSt.size (S : BSt w0 wr gr h g x l p v4 v) : w0.heap.size + 3 ≤ wr.heap.size := by
  have := blk_lt S.fg
  have := S.eg
  omega
theorem BSt.step (S : BSt w0 wr gr h g x l p v4 v) (hb : Below wr.heap.size wr w') : BSt w0 w' gr h g x l p v4 v :=
  ⟨S.er, S.eh, S.eg, below_step S.below hb, blk_below S.fr hb, blk_below S.fg hb, S.held.below hb, own_move S.text (fun k hk => hb.block k (S.text.lt k hk).2)⟩
theorem BSt.text_ne (S : BSt w0 wr gr h g x l p v4 v) (k : Nat) (hk : v4.ownBlock = some k) : k ≠ h ∧ some k ≠ v.ownBlock := by
  obtain ⟨cells, hc⟩ := own_typed S.text k hk
  refine ⟨?_, ?_⟩
  · rintro rfl
    have hb := S.held.blk
    rw [hc] at hb
    injection hb with hb
    injection hb with _ hb
    cases hb
  · intro e
    obtain ⟨cells', hc'⟩ := own_typed (R31_own S.held.row) k e.symm
    rw [hc] at hc'
    injection hc' with hb
    injection hb with _ hb
    cases hb
theorem BSt.row_base (S : BSt w0 wr gr h g x l p v4 v) (k : Nat) (hk : v.ownBlock = some k) : w0.heap.size + 3 ≤ k := ((R31_own S.held.row).lt k hk).1
/-- A heap's call. -/
theorem BSt.turns (S : BSt w0 wr gr h g x l p v4 v) (T : Turns wr w' (w0.heap.size + 3) h v l') : ∃ v', BSt w0 w' gr h g x l' p v4 v' := by
  obtain ⟨⟨v', H', _⟩, t⟩ := T
  have e1 := S.er; have e2 := S.eh; have e3 := S.eg
  have hv : ∀ k, k < w0.heap.size + 3 → some k ≠ v.ownBlock := fun k hk e => by
    have := S.row_base k e.symm
    omega
  refine ⟨v', e1, e2, e3, t.below S.below (by have := S.size; omega) (fun k hk => by injection hk with hk; omega) (fun k hk => by have := S.row_base k hk; omega), ?_, ?_, H', own_move S.text (fun k hk => ?_)⟩
  · exact (t.block gr (blk_lt S.fr) (by intro e; injection e with e; omega) (hv gr (by omega))).trans S.fr
  · exact (t.block g (blk_lt S.fg) (by intro e; injection e with e; omega) (hv g (by omega))).trans S.fg
  · obtain ⟨h1, h2⟩ := S.text_ne k hk
    exact t.block k (S.text.lt k hk).2 (by intro e; injection e with e; exact h1 e) h2
/-- The span of whole digits is written. -/
theorem BSt.setg {cs : Array Value} (S : BSt w0 wr gr h g x l p v4 v) (hb : w'.heap[g]? = some (.cells cs 31 (0, 0))) (p' : S31) (he : cs = #[.int .i64 p'.f0, .int .i64 p'.f1, .int .i64 p'.f2]) (hk : ∀ k, k ≠ g → w'.heap[k]? = wr.heap[k]?) (hs : wr.heap.size ≤ w'.heap.size) (ho : w'.os = wr.os) (ht : w'.tape = wr.tape) (hp : w'.output = wr.output) : BSt w0 w' gr h g x l p' v4 v := by
  subst he
  have e1 := S.er; have e2 := S.eh; have e3 := S.eg
  refine ⟨e1, e2, e3, ⟨ho.trans S.below.os, ht.trans S.below.tape, hp.trans S.below.output, Nat.le_trans S.below.size hs, fun k hk' => (hk k (by omega)).trans (S.below.block k hk')⟩, (hk gr (by omega)).trans S.fr, hb, ⟨(hk h (by omega)).trans S.held.blk, ?_⟩, own_move S.text (fun k hk' => hk k ?_)⟩
  · exact Kd.R_mono (Kd.R_move (Kd.R_bound S.held.row) (fun k hk' => hk k (by omega))) (fun _ _ => trivial)
  · have := (S.text.lt k hk').1
    omega
theorem BSt.put1 (S : BSt w0 wr gr h g x l p v4 v) (u : Int) : BSt w0 (wr.setCell ⟨g, 1, none⟩ (.int .i64 u)) gr h g x l ⟨p.f0, u, p.f2⟩ v4 v :=
  S.setg (blk_put S.fg 1 (.int .i64 u) rfl) ⟨p.f0, u, p.f2⟩ rfl (fun k hk => Below.heap_setCell _ _ _ k hk) (by simp [World.setCell]) rfl rfl rfl
theorem BSt.put2 (S : BSt w0 wr gr h g x l p v4 v) (u : Int) : BSt w0 (wr.setCell ⟨g, 2, none⟩ (.int .i64 u)) gr h g x l ⟨p.f0, p.f1, u⟩ v4 v :=
  S.setg (blk_put S.fg 2 (.int .i64 u) rfl) ⟨p.f0, p.f1, u⟩ rfl (fun k hk => Below.heap_setCell _ _ _ k hk) (by simp [World.setCell]) rfl rfl rfl
/-- Boxes of pieces stay. -/
def Kept43 (w w' : World) : Prop := ∀ (k : Nat) (cs : Array Value), w.heap[k]? = some (.cells cs 43 (0, 0)) → w'.heap[k]? = some (.cells cs 43 (0, 0))
theorem Kept43.trans {w w1 w2 : World} (a : Kept43 w w1) (b : Kept43 w1 w2) : Kept43 w w2 := fun k cs hk => b k cs (a k cs hk)
theorem BSt.kept (S : BSt w0 wr gr h g x l p v4 v) (T : Turns wr w' (w0.heap.size + 3) h v l') : Kept43 wr w' := fun k cs hk => by
  refine (T.touch.block k (blk_lt hk) ?_ ?_).trans hk
  · intro e
    injection e with e
    exact blk_ne hk S.held.blk (by decide) e
  · intro e
    obtain ⟨cells, hc⟩ := own_typed (R31_own S.held.row) k e.symm
    exact blk_ne hk hc (by decide) rfl
theorem BSt.kept_set (S : BSt w0 wr gr h g x l p v4 v) (i : Nat) (u : Value) : Kept43 wr (wr.setCell ⟨g, i, none⟩ u) := fun k cs hk =>
  (Below.heap_setCell _ _ _ k (blk_ne hk S.fg (by decide))).trans hk
theorem BSt.kept_text (S : BSt w0 wr gr h g x l p v4 v) (hg : wr.grownBy w' v4.ownBlock) : Kept43 wr w' := fun k cs hk => by
  refine (hg.block k (blk_lt hk) ?_).trans hk
  intro e
  obtain ⟨cells, hc⟩ := own_typed S.text k e.symm
  exact blk_ne hk hc (by decide) rfl
/-- The text grows. -/
theorem BSt.grows {x' : List Int} {v4' : Value} (S : BSt w0 wr gr h g x l p v4 v) (ho : w'.ownsRow (w0.heap.size + 3) 5 1 v4' x'.length (nums .u8 x')) (hg : wr.grownBy w' v4.ownBlock) : BSt w0 w' gr h g x' l p v4' v := by
  have e1 := S.er; have e2 := S.eh; have e3 := S.eg
  have hne : ∀ k, k < w0.heap.size + 3 → some k ≠ v4.ownBlock := fun k hk e => by
    have := (S.text.lt k e.symm).1
    omega
  refine ⟨e1, e2, e3, ⟨hg.os.trans S.below.os, hg.tape.trans S.below.tape, hg.output.trans S.below.output, Nat.le_trans S.below.size hg.size, fun k hk => ?_⟩, ?_, ?_, ⟨?_, ?_⟩, ho⟩
  · exact (hg.block k (Nat.lt_of_lt_of_le hk S.below.size) (hne k (by omega))).trans (S.below.block k hk)
  · exact (hg.block gr (blk_lt S.fr) (hne gr (by omega))).trans S.fr
  · exact (hg.block g (blk_lt S.fg) (hne g (by omega))).trans S.fg
  · exact (hg.block h (blk_lt S.held.blk) (hne h (by omega))).trans S.held.blk
  · exact Kd.R_grown2 S.held.row rfl hg (fun k hk => (S.text_ne k hk).2)
end
set_option maxRecDepth 100000 in
set_option maxHeartbeats 2000000 in
theorem build_end (w0 w : World) (gr h g : Nat) (x : List Int) (l : List S31) (p : S31) (v4 v : Value) (S : BSt w0 w gr h g x l p v4 v) (hl : (l.length + 1) * 24 ≤ 140737488355328) :
    Calls Tryd.prog 22 #[.pointer (some ⟨g, 0, none⟩), .pointer (some ⟨h, 0, none⟩)] w fun e w' => (∃ u, e = .returned u) ∧ (∃ v', BSt w0 w' gr h g x (endH l p) ⟨p.f0, 0, 0⟩ v4 v') ∧ Kept43 w w' := by
  have u31 := Tryd.underlying31
  have hg0 : w.cell? ⟨g, 0, none⟩ = some (.int .i64 p.f0) := blk_cell S.fg 0
  have hg1 : w.cell? ⟨g, 1, none⟩ = some (.int .i64 p.f1) := blk_cell S.fg 1
  have hg2 : w.cell? ⟨g, 2, none⟩ = some (.int .i64 p.f2) := blk_cell S.fg 2
  have HS := Aside0.mk S
  clear S
  by_cases hp : p.f2 > 0
  · have c1 : decide (p.f2 > 0) = true := decide_eq_true hp
    rw [show endH l p = pushH l p from if_pos hp]
    go_enter Tryd.func22, Tryd.ntmps22
    go_wp2_with fail
    clear hg0 hg1 hg2
    refine (heap_Push w (w0.heap.size + 3) h v l p HS.out.held HS.out.size hl).mono ?_
    rintro e w3 ⟨⟨u, rfl⟩, T⟩
    obtain ⟨v3, S3⟩ := HS.out.turns T
    have HK := Aside0.mk (HS.out.kept T)
    clear T
    have HS3 := Aside0.mk S3
    have h0 : w3.cell? ⟨g, 0, none⟩ = some (.int .i64 p.f0) := blk_cell S3.fg 0
    have h1 : w3.cell? ⟨g, 1, none⟩ = some (.int .i64 p.f1) := blk_cell S3.fg 1
    have h2 : w3.cell? ⟨g, 2, none⟩ = some (.int .i64 p.f2) := blk_cell S3.fg 2
    have f1 := blk_frozen S3.fg 1
    have f2 := blk_frozen S3.fg 2
    clear S3
    go_wp2_with fail
    refine bodyPost_end (results_none rfl _ _ _) rfl ?_
    exact ⟨⟨_, rfl⟩, ⟨_, (HS3.out.put1 0).put2 0⟩, (HK.out.trans (HS3.out.kept_set 1 _)).trans ((HS3.out.put1 0).kept_set 2 _)⟩
  · have c1 : decide (p.f2 > 0) = false := decide_eq_false hp
    rw [show endH l p = l from if_neg hp]
    have f1 := blk_frozen HS.out.fg 1
    have f2 := blk_frozen HS.out.fg 2
    go_enter Tryd.func22, Tryd.ntmps22
    go_wp2_with fail
    refine bodyPost_end (results_none rfl _ _ _) rfl ?_
    exact ⟨⟨_, rfl⟩, ⟨_, (HS.out.put1 0).put2 0⟩, (HS.out.kept_set 1 _).trans ((HS.out.put1 0).kept_set 2 _)⟩
end Go.Proofs.YthickfehldjgdaaDoor.X
