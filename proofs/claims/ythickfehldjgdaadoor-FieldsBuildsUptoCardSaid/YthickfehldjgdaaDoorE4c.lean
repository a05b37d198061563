/-
  fields.Build.
-/
import Derived.Test.YthickfehldjgdaaDoorE4b
import Derived.Test.YthickfehldjgdaaDoorE1
import Derived.Test.YthickfehldjgdaaDoorP1
namespace Go.Proofs.YthickfehldjgdaaDoor.X
open Go.RowKit Go.Proofs.YthickfehldjgdaaDoorW.PrintWords Go.Proofs.YthickfehldjgdaaDoorW.PrintLast
/-- The text, the heap, the span of whole digits. -/
structure B3 where
  x : List Int
  l : List S31
  p : S31
def bNew (s : B3) (q : S43) : S31 := ⟨q.f1, (s.x.length : Int), ((s.x ++ bytesOf q.f0).length : Int)⟩
def bStep (s : B3) (q : S43) : B3 :=
  if q.f0.toList = ([] : List UInt8) then s
  else if q.f1 = 2 then ⟨s.x ++ bytesOf q.f0, s.l, ⟨s.p.f0, if s.p.f2 = 0 then (s.x.length : Int) else s.p.f1, ((s.x ++ bytesOf q.f0).length : Int)⟩⟩
  else if q.f1 = 3 then ⟨s.x ++ bytesOf q.f0, pushH s.l (bNew s q), s.p⟩
  else if q.f1 = 0 then ⟨s.x ++ bytesOf q.f0, endH s.l s.p, ⟨s.p.f0, 0, 0⟩⟩
  else ⟨s.x ++ bytesOf q.f0, pushH (endH s.l s.p) (bNew s q), ⟨s.p.f0, 0, 0⟩⟩
def bGood (q : S43) : Bool := decide (0 ≤ q.f1) && (decide (q.f1 < 18) && Lib.validD q.f0.data.toList)
def buildGo : List S43 → B3 → Option B3
  | [], s => some s
  | q :: r, s => if bGood q = true then buildGo r (bStep s q) else none
def popAll : Nat → List S31 → List S31
  | 0, _ => []
  | n + 1, l => l.getD 0 z31 :: popAll n (popH l)
def total (l : List S43) : Nat := (l.map (fun q => q.f0.size)).sum
def buildEnd : Option B3 → ByteArray × List S31 × Int
  | none => (⟨#[]⟩, [], 170)
  | some s => (strOfNums s.x, popAll (endH s.l s.p).length (endH s.l s.p), 0)
def fields_Build.f (l0 : List S43) : Option (ByteArray × List S31 × Int) := if l0.length ≤ 1000000000 ∧ total l0 ≤ 1000000000 then some (buildEnd (buildGo l0 ⟨[], [], ⟨2, 0, 0⟩⟩)) else none
theorem pushH_length (l : List S31) (x : S31) : (pushH l x).length = l.length + 1 := by simp [pushH, upH_length]
theorem endH_length (l : List S31) (p : S31) : (endH l p).length ≤ l.length + 1 := by
  unfold endH
  split
  · rw [pushH_length]; omega
  · omega
theorem popH_length (l : List S31) : (popH l).length = l.length - 1 := by simp [popH, downH_length, swapL_length]
/-- Where fields.Build takes the spans out of its heap. (go: the block of what it hands back.) -/
structure PSt (w0 wr : World) (gr h go : Nat) (str : ByteArray) (l out : List S31) (v vo : Value) : Prop where
  er : gr = w0.heap.size
  eh : h = w0.heap.size + 1
  below : Below w0.heap.size w0 wr
  fr : wr.heap[gr]? = some (.cells #[.string ⟨#[]⟩, .slice none 0 0] 25 (0, 0))
  fo : wr.heap[go]? = some (.cells #[.string str, vo] 25 (0, 0))
  held : Held wr (w0.heap.size + 3) h v l
  row : Kd.R k31 31 wr (w0.heap.size + 3) (fun _ => True) vo out
  ne : ∀ k, vo.ownBlock = some k → some k ≠ v.ownBlock
  ge : w0.heap.size + 3 ≤ go
theorem row_type {w : World} {B : Nat} {v : Value} {l : List S31} (h : Kd.R k31 31 w B (fun _ => True) v l) {g t : Nat} {cs : Array Value} (hb : w.heap[g]? = some (.cells cs t (0, 0))) (ht : t ≠ 31) : some g ≠ v.ownBlock := fun e => by
  obtain ⟨cells, hc⟩ := own_typed (R31_own h) g e.symm
  exact blk_ne hb hc ht rfl
section
variable {w0 wr w' : World} {gr h go : Nat} {str : ByteArray} {l l' out : List S31} {v vo : Value}
theorem PSt.step (S : PSt w0 wr gr h go str l out v vo) (hb : Below wr.heap.size wr w') : PSt w0 w' gr h go str l out v vo :=
  ⟨S.er, S.eh, below_step S.below hb, blk_below S.fr hb, blk_below S.fo hb, S.held.below hb, Kd.R_below S.row hb, S.ne, S.ge⟩
theorem PSt.size (S : PSt w0 wr gr h go str l out v vo) : w0.heap.size + 2 ≤ wr.heap.size := by
  have := blk_lt S.held.blk
  have := S.eh
  omega
theorem PSt.size3 (S : PSt w0 wr gr h go str l out v vo) : w0.heap.size + 3 ≤ wr.heap.size := by
  have := blk_lt S.fo
  have := S.ge
  omega
theorem PSt.fo_grown (S : PSt w0 wr gr h go str l out v vo) (hg : wr.grownBy w' vo.ownBlock) : w'.heap[go]? = some (.cells #[.string str, vo] 25 (0, 0)) := (hg.block go (blk_lt S.fo) (row_type S.row S.fo (by decide))).trans S.fo
theorem PSt.turns (S : PSt w0 wr gr h go str l out v vo) (T : Turns wr w' (w0.heap.size + 3) h v l') : ∃ v', PSt w0 w' gr h go str l' out v' vo := by
  obtain ⟨⟨v', H', hat⟩, t⟩ := T
  have e1 := S.er; have e2 := S.eh
  refine ⟨v', e1, e2, t.below S.below S.below.size (fun k hk => by injection hk with hk; omega) (fun k hk => by have := ((R31_own S.held.row).lt k hk).1; omega), ?_, ?_, H', ?_, fun k hk e => ?_, S.ge⟩
  · exact (t.block gr (blk_lt S.fr) (by intro e; injection e with e; omega) (row_type S.held.row S.fr (by decide))).trans S.fr
  · exact (t.block go (blk_lt S.fo) (by intro e; injection e with e; exact blk_ne S.fo S.held.blk (by decide) e) (row_type S.held.row S.fo (by decide))).trans S.fo
  · refine Kd.R_mono (Kd.R_move (Kd.R_tight2 rfl S.row) (fun k hk => ?_)) (fun _ _ => trivial)
    have hk1 := hk.1.symm
    refine t.block k ((R31_own S.row).lt k hk1).2 ?_ (S.ne k hk1)
    intro e
    injection e with e
    subst e
    exact row_type S.row S.held.blk (by decide) hk.1
  · rcases hat with e' | ⟨b, hb, hle⟩
    · exact S.ne k hk (by rw [e, e'])
    · rw [hb] at e
      injection e with e
      have := ((R31_own S.row).lt k hk).2
      omega
theorem PSt.grows {out' : List S31} {vo' : Value} (S : PSt w0 wr gr h go str l out v vo) (hR : Kd.R k31 31 w' (w0.heap.size + 3) (fun _ => True) vo' out') (hg : wr.grownBy w' vo.ownBlock) (hat : vo'.ownBlock = vo.ownBlock ∨ ∃ b, vo'.ownBlock = some b ∧ wr.heap.size ≤ b) :
    PSt w0 (w'.setCell ⟨go, 1, none⟩ vo') gr h go str l out' v vo' := by
  have e1 := S.er; have e2 := S.eh; have e3 := S.ge
  have hfo : w'.heap[go]? = some (.cells #[.string str, vo] 25 (0, 0)) := (hg.block go (blk_lt S.fo) (row_type S.row S.fo (by decide))).trans S.fo
  have hh : w'.heap[h]? = some (.cells #[v] 54 (0, 0)) := (hg.block h (blk_lt S.held.blk) (row_type S.row S.held.blk (by decide))).trans S.held.blk
  have hv : Kd.R k31 31 w' (w0.heap.size + 3) (fun _ => True) v l := Kd.R_grown2 S.held.row rfl hg (fun k hk => S.ne k hk)
  have hgo : go ≠ h := blk_ne S.fo S.held.blk (by decide)
  have hgr : gr ≠ go := by omega
  refine ⟨e1, e2, ⟨hg.os.trans S.below.os, hg.tape.trans S.below.tape, hg.output.trans S.below.output, ?_, fun k hk => ?_⟩, ?_, blk_put hfo 1 vo' rfl, ⟨?_, Kd.R_set hv hfo (by decide) 1 vo'⟩, Kd.R_set hR hfo (by decide) 1 vo', fun k hk e => ?_, e3⟩
  · have := S.below.size
    have := hg.size
    simp [World.setCell]; omega
  · rw [Below.heap_setCell _ _ _ k (by show k ≠ go; omega)]
    exact (hg.block k (Nat.lt_of_lt_of_le hk S.below.size) (fun e => by have := ((R31_own S.row).lt k e.symm).1; omega)).trans (S.below.block k hk)
  · rw [Below.heap_setCell _ _ _ gr hgr]
    exact (hg.block gr (blk_lt S.fr) (row_type S.row S.fr (by decide))).trans S.fr
  · rw [Below.heap_setCell _ _ _ h (Ne.symm hgo)]
    exact hh
  · rcases hat with e' | ⟨b, hb, hle⟩
    · exact S.ne k (by rw [← e', hk]) e
    · rw [hb] at hk
      injection hk with hk
      have := ((R31_own S.held.row).lt k e.symm).2
      omega
end
theorem rd_drop43 {l : List S43} {i : Nat} {x : S43} {xs : List S43} (h : l.drop i = x :: xs) : rd_T43 l (i : Int) = x ∧ l.drop (i + 1) = xs ∧ i < l.length := by
  have hlt : i < l.length := by
    rcases Nat.lt_or_ge i l.length with h1 | h1
    · exact h1
    · rw [List.drop_eq_nil_of_le h1] at h; cases h
  rw [List.drop_eq_getElem_cons hlt] at h
  injection h with h1 h2
  refine ⟨?_, h2, hlt⟩
  unfold rd_T43
  rw [Int.toNat_natCast, List.getD_eq_getElem?_getD, List.getElem?_eq_getElem hlt]
  exact h1
set_option maxRecDepth 100000 in
set_option maxHeartbeats 4000000 in
theorem fields_Build.calls (A0 : Option Addr) (c0 : Nat) (l0 : List S43) (r1 : ByteArray) (r2 : List S31) (r3 : Int) (w : World) (hr0 : Kd.C k43 w A0 l0.length l0) (hc0 : l0.length ≤ c0) (hT_ : Aside0 (Tabs_ w)) (h : fields_Build.f l0 = some (r1, r2, r3)) :
    Calls Tryd.prog 8 #[.slice A0 l0.length c0] w fun e w' => ∃ v1_ : Value, e = .returned (.tuple #[.agg #[.string r1, v1_], .int .i64 r3]) ∧ Kd.R k31 31 w' w.heap.size (fun _ => True) v1_ r2 ∧ Below w.heap.size w w' := by
  have u25 := Tryd.underlying25
  have u31 := Tryd.underlying31
  have u43 := Tryd.underlying43
  unfold fields_Build.f at h
  by_cases hsz : l0.length ≤ 1000000000 ∧ total l0 ≤ 1000000000
  · rw [if_pos hsz] at h
    obtain ⟨hn0, ht0⟩ := hsz
    obtain ⟨N, hN⟩ : ∃ N, buildGo l0 ⟨[], [], ⟨2, 0, 0⟩⟩ = N := ⟨_, rfl⟩
    rw [hN] at h
    have HE := Aside0.mk (Option.some.inj h)
    have HN := Aside0.mk hN
    have HR := Aside0.mk hr0
    clear h hN hr0
    obtain ⟨gr, er⟩ : ∃ g, g = w.heap.size := ⟨_, rfl⟩
    obtain ⟨gh, eh⟩ : ∃ g, g = w.heap.size + 1 := ⟨_, rfl⟩
    obtain ⟨gg, eg⟩ : ∃ g, g = w.heap.size + 2 := ⟨_, rfl⟩
    obtain ⟨W, hW⟩ : ∃ W, ((w.alloc (.cells #[.string ⟨#[]⟩, .slice none 0 0] 25)).alloc (.cells #[.slice none 0 0] 54)).alloc (.cells #[.int .i64 2, .int .i64 0, .int .i64 0] 31) = W := ⟨_, rfl⟩
    have hS : Aside0 (BSt w W gr gh gg [] [] ⟨2, 0, 0⟩ (.slice none 0 0) (.slice none 0 0)) := by
      obtain ⟨e0, e1, e2, eb⟩ := world3 hW
      exact ⟨er, eh, eg, eb, by rw [er]; exact e0, by rw [eg]; exact e2, ⟨by rw [eh]; exact e1, Kd.R_nil _ _ _ _ _⟩, World.ownsRow_nil _ _ _ _⟩
    have HW := Aside0.mk hW
    clear hW
    go_enter Tryd.func8, Tryd.ntmps8
    go_wp2_with fail
    rw [HW.out]
    rw [← er, show gr + 1 = gh by omega, show gh + 1 = gg by omega]
    clear er eh eg
    have LX := Aside0.mk (show ([] : List Int).length + total (l0.drop 0) ≤ 1000000000 by simpa using ht0)
    clear HW
    go_loopg [16, 4] (l0.length) (fun q v16 v4 w' => ∃ (i : Nat) (s : B3) (v : Value), v16 = .int .i64 i ∧ i + q = l0.length ∧ s.l.length ≤ 2 * i ∧ Aside0 (buildGo (l0.drop i) s = N) ∧ Aside0 (BSt w w' gr gh gg s.x s.l s.p v4 v) ∧ Aside0 (s.x.length + total (l0.drop i) ≤ 1000000000))
    case atStart => exact ⟨0, ⟨[], [], ⟨2, 0, 0⟩⟩, _, rfl, by omega, by simp, HN, hS, LX⟩
    case round =>
      clear HN hS LX
      obtain ⟨i, s, v, rfl, hiq, hln, HN, HS, LX⟩ := hrel
      obtain ⟨A4, c4, e4⟩ := own_slice HS.out.text
      subst e4
      cases gk with
      | zero =>
        have ci : ¬ ((i : Int) < (l0.length : Int)) := by omega
        have hNs : N = some s := by
          rw [← HN.out, List.drop_eq_nil_of_le (by omega)]
          rfl
        subst hNs
        have hE := HE.out
        simp only [buildEnd, Prod.mk.injEq] at hE
        obtain ⟨rfl, hr2, rfl⟩ := hE
        have hlen := endH_length s.l s.p
        obtain ⟨l1, hl1⟩ : ∃ l1, endH s.l s.p = l1 := ⟨_, rfl⟩
        rw [hl1] at hr2 hlen
        have HL1 := Aside0.mk hl1
        have HR2 := Aside0.mk hr2
        clear hl1 hr2 HN LX HE
        go_wp2_with fail
        refine (build_end w wr gr gh gg _ s.l s.p _ v HS.out (by omega)).mono ?_
        rintro e w6 ⟨⟨u, rfl⟩, ⟨v6, S6⟩, K6⟩
        rw [HL1.out] at S6
        have hcv := own_string (P := Tryd.prog) Tryd.underlying41 Tryd.underlying5 Tryd.underlying9 S6.text
        obtain ⟨str, hstr⟩ : ∃ str, strOfNums s.x = str := ⟨_, rfl⟩
        rw [hstr] at hcv
        obtain ⟨go, hgo⟩ : ∃ go, w6.heap.size = go := ⟨_, rfl⟩
        obtain ⟨W8, hW8⟩ : ∃ W8, w6.alloc (.cells #[.string str, .slice none 0 0] 25) = W8 := ⟨_, rfl⟩
        have hbW := below_alloc (Below.refl w6.heap.size w6) (.cells #[.string str, .slice none 0 0] 25)
        rw [hW8] at hbW
        have HP := Aside0.mk (show PSt w W8 gr gh go str l1 [] v6 (.slice none 0 0) from
          ⟨S6.er, S6.eh, below_step S6.below hbW, blk_below S6.fr hbW, by rw [← hW8, ← hgo]; exact blk_new _ _, S6.held.below hbW, Kd.R_nil _ _ _ _ _, fun k hk => by simp [Value.ownBlock] at hk, by have := S6.size; omega⟩)
        have HW8 := Aside0.mk hW8
        have HSTR := Aside0.mk hstr
        clear S6 K6 hbW hW8 HS hstr
        go_wp2_with fail
        rw [HW8.out]
        clear HW8 hcv
        go_loopg [] (l1.length) (fun q w' => ∃ (l7 out7 : List S31) (v7 vo : Value), l7.length = q ∧ out7.length + q = l1.length ∧ Aside0 (out7 ++ popAll q l7 = r2) ∧ Aside0 (PSt w w' gr gh go str l7 out7 v7 vo))
        case atStart => exact ⟨l1, [], _, _, rfl, by simp, HR2, HP⟩
        case round =>
          clear HR2 HP
          obtain ⟨l7, out7, v7, vo, hl7, hol, HO7, HP⟩ := hrel
          obtain ⟨A7, c7, e7⟩ := Kd.R_slice HP.out.held.row
          obtain ⟨Ao, co, eo⟩ := Kd.R_slice HP.out.row
          subst e7 eo
          have k0 : wr.cell? ⟨gh, 0, none⟩ = some (.slice A7 l7.length c7) := HP.out.held.cell
          cases gk with
          | zero =>
            rw [hl7] at k0
            obtain rfl : r2 = out7 := by rw [← HO7.out]; simp [popAll]
            have o0 : wr.cell? ⟨go, 0, none⟩ = some (.string str) := blk_cell HP.out.fo 0
            have o1 : wr.cell? ⟨go, 1, none⟩ = some (.slice Ao r2.length co) := blk_cell HP.out.fo 1
            have z0 : wr.cell? ⟨gr, 0, none⟩ = some (.string ⟨#[]⟩) := blk_cell HP.out.fr 0
            have z1 : wr.cell? ⟨gr, 1, none⟩ = some (.slice none 0 0) := blk_cell HP.out.fr 1
            have y0 := blk_frozen HP.out.fr 0
            have y1 := blk_frozen HP.out.fr 1
            go_wp2_with fail
            rw [HSTR.out]
            refine bodyPost_ret (results_ct rfl _ _ gr 25 #[.string str, .slice Ao r2.length co] (0, 0) _ rfl (by refine blk_put (cs := #[.string str, .slice none 0 0]) ?_ 1 _ rfl; refine blk_put (cs := #[.string (⟨#[]⟩ : ByteArray), .slice none 0 0]) ?_ 0 _ rfl; exact HP.out.fr) Tryd.underlying25 rfl (by kernel_rfl)) rfl ?_
            have e1 := HP.out.er
            exact ⟨_, rfl, Kd.R_lower (R31_set (R31_set HP.out.row (by omega) 0 _) (by omega) 1 _) (by omega), below_set (below_set HP.out.below (by omega)) (by omega)⟩
          | succ n =>
            have hn1 : decide ((0 : Int) < ((n + 1 : Nat) : Int)) = true := decide_eq_true (by omega)
            obtain ⟨X7, hX7⟩ : ∃ X7, l7.getD 0 z31 = X7 := ⟨_, rfl⟩
            have HO8 := Aside0.mk (show (out7 ++ [X7]) ++ popAll n (popH l7) = r2 by rw [← HO7.out, ← hX7, popAll]; simp)
            have HX7 := Aside0.mk hX7
            have HD8 := Aside0.mk (HP.out.step (below_drew (Below.refl _ _)))
            have hta := assert31
            rw [hl7] at k0
            clear HO7 hX7
            go_wp2_with fail
            refine start_ (n := 9) (S := fun w' => w'.cell? ⟨go, 1, none⟩ = some (.slice Ao out7.length co)) (ds := [8]) #[false, false, false, false, false, false, false, false, false] (by kernel_rfl) rfl rfl (blk_cell HD8.out.fo 1) (fun hHeld => ?_)
            refine pure_ (i := 0) (N := some 81) (v := ?_) (a' := ?_) #[true, false, false, false, false, false, false, false, false] rfl rfl (by kernel_rfl) (fun _ _ _ h => h) (Or.inl ⟨by rfl, ?_⟩) ?_ ?_
            rotate_left
            · intro w'
              go_simp
              with_reducible rfl
            rotate_left
            · simp only [Act.put, List.setIfInBounds_toArray, List.set_cons_zero, List.set_cons_succ, i64_w, i32_w]
              rfl
            refine pure_ (i := 2) (N := some 83) (v := ?_) (a' := ?_) #[true, false, true, false, false, false, false, false, false] rfl rfl (by kernel_rfl) (fun _ _ _ h => h) (Or.inl ⟨by rfl, ?_⟩) ?_ ?_
            rotate_left
            · intro w'
              go_simp
              with_reducible rfl
            rotate_left
            · simp only [Act.put, List.setIfInBounds_toArray, List.set_cons_zero, List.set_cons_succ, i64_w, i32_w]
              rfl
            refine take_ (i := 1) (N := some 82) (v := ?_) (a' := ?_) #[true, true, true, false, false, false, false, false, false] rfl rfl (by kernel_rfl) (fun _ _ _ h => h) (Or.inl ⟨by rfl, ?_⟩) hHeld ?_ ?_
            rotate_left
            · intro w' s0
              go_simp
              with_reducible rfl
            rotate_left
            · simp only [Act.put, List.setIfInBounds_toArray, List.set_cons_zero, List.set_cons_succ, i64_w, i32_w]
              rfl
            refine one_ (i := 3) (N := some 84) #[true, true, true, true, false, false, false, false, false] rfl rfl (by kernel_rfl) (by decide) (fun K hK => ?_)
            refine call_ 25 #[.iface 56 (.pointer (some ⟨gh, 0, none⟩))] (by rfl) rfl (by go_simp; first | done | rfl) ?_
            refine (heap_Pop wr.drew (w.heap.size + 3) gh n (.slice A7 l7.length c7) l7 HD8.out.held hl7 (by omega)).mono ?_
            rw [HX7.out]
            rintro e w9 ⟨rfl, T9⟩
            obtain ⟨v9, S9⟩ := HD8.out.turns T9
            have HS9 := Aside0.mk S9
            clear T9 S9
            refine ⟨_, rfl, ?_⟩
            refine hK.out _ _ (blk_cell HS9.out.fo 1) (fun hHeld => ?_)
            clear hK K
            refine norm_ (a' := ?_) ?_ ?_
            rotate_left
            · show Act.put _ (some 84) _ = _
              simp only [Act.put, List.setIfInBounds_toArray, List.set_cons_zero, List.set_cons_succ, i64_w, i32_w]
              rfl
            refine pure_ (i := 4) (N := some 85) (v := ?_) (a' := ?_) #[true, true, true, true, true, false, false, false, false] rfl rfl (by kernel_rfl) (fun _ _ _ h => h) (Or.inl ⟨by rfl, ?_⟩) ?_ ?_
            rotate_left
            · intro w'
              go_simp
              with_reducible rfl
            rotate_left
            · simp only [Act.put, List.setIfInBounds_toArray, List.set_cons_zero, List.set_cons_succ, i64_w, i32_w]
              rfl
            refine one_ (i := 5) (N := some 86) #[true, true, true, true, true, true, false, false, false] rfl rfl (by kernel_rfl) (by decide) (fun K hK => ?_)
            refine value_ (w1 := ?_) (v := ?_) (by rfl) rfl ?_ ?_
            rotate_left 2
            · go_simp
              constructor
              · rfl
              · rfl
            refine hK.out _ _ (pw_cell_below (below_alloc (Below.refl _ _) _) hHeld) (fun hHeld => ?_)
            clear hK K
            refine norm_ (a' := ?_) ?_ ?_
            rotate_left
            · show Act.put _ (some 86) _ = _
              simp only [Act.put, List.setIfInBounds_toArray, List.set_cons_zero, List.set_cons_succ, i64_w, i32_w]
              rfl
            refine one_ (i := 6) (N := some 87) #[true, true, true, true, true, true, true, false, false] rfl rfl (by kernel_rfl) (by decide) (fun K hK => ?_)
            refine Kd.R_append_step k31 (w0 := w9) (W := w9) (w.heap.size + 3) (by rfl) (.tmp 82) (.tmp 86) 23 31 (.agg #[(.int .i64 0), (.int .i64 0), (.int .i64 0)]) 24 rfl Tryd.underlying23 info31 rfl (by decide) (by omega) (.slice Ao out7.length co) out7 X7 [.int .i64 X7.f0, .int .i64 X7.f1, .int .i64 X7.f2] (fun _ => True) (fun _ => False) rfl rfl (k31_mkM _ _ _ X7) (fun _ hk => hk.elim) (fun _ _ => trivial) HS9.out.row (Below.refl _ _) HS9.out.size3 (by omega) ?_
            intro v10 w10 ho10 hb10 hg10 hat10
            have H11 := Aside0.mk (HS9.out.grows ho10 hg10 hat10)
            have F10 := Aside0.mk (HS9.out.fo_grown hg10)
            refine hK.out _ _ (blk_cell F10.out 1) (fun hHeld => ?_)
            clear hK K
            refine norm_ (a' := ?_) ?_ ?_
            rotate_left
            · show Act.put _ (some 87) _ = _
              simp only [Act.put, List.setIfInBounds_toArray, List.set_cons_zero, List.set_cons_succ, i64_w, i32_w]
              rfl
            refine pure_ (i := 7) (N := some 88) (v := ?_) (a' := ?_) #[true, true, true, true, true, true, true, true, false] rfl rfl (by kernel_rfl) (fun _ _ _ h => h) (Or.inl ⟨by rfl, ?_⟩) ?_ ?_
            rotate_left
            · intro w'
              go_simp
              with_reducible rfl
            rotate_left
            · simp only [Act.put, List.setIfInBounds_toArray, List.set_cons_zero, List.set_cons_succ, i64_w, i32_w]
              rfl
            refine last_ (i := 8) (N := none) #[true, true, true, true, true, true, true, true, true] rfl rfl (by kernel_rfl) (by decide) (fun K hK => ?_)
            have b0 : w10.cell? ⟨go, 1, none⟩ = some (.slice Ao out7.length co) := blk_cell F10.out 1
            have b1 := blk_frozen F10.out 1
            obtain ⟨A10, c10, e10⟩ := Kd.R_slice ho10
            subst e10
            refine skip_ (w1 := ?_) (by rfl) rfl ?_ ?_
            rotate_left
            · go_simp
              rfl
            refine hK.out _ _ ?_
            clear hK K
            refine done_ (by kernel_rfl) ?_
            go_wp2_with fail
            have hl8 : (out7 ++ [X7]).length = out7.length + 1 := by simp
            rw [hl8] at H11
            go_roundg n
            case measure => omega
            case rel => exact ⟨popH l7, out7 ++ [X7], v9, _, by rw [popH_length]; omega, by rw [hl8]; omega, HO8, H11⟩
      | succ q =>
        have ci : (i : Int) < (l0.length : Int) := by omega
        obtain ⟨Y, r, hd⟩ : ∃ Y r, l0.drop i = Y :: r := ⟨_, _, List.drop_eq_getElem_cons (by omega)⟩
        obtain ⟨hd1, hd2, _⟩ := rd_drop43 hd
        obtain ⟨ad, ea, hx0, hx1⟩ := at_T43 (Kd.C_below HR.out HS.out.below) (i : Int) (by omega) ci
        rw [show ((i : Nat) : Int).toNat = i by omega] at hx0 hx1
        subst ea
        rw [hd1] at hx0 hx1
        have HNS := Aside0.mk (show (if bGood Y = true then buildGo r (bStep s Y) else none) = N by rw [← HN.out, hd]; rfl)
        have LX2 := Aside0.mk (show s.x.length + (Y.f0.size + total r) ≤ 1000000000 by have := LX.out; rw [hd] at this; simpa [total] using this)
        have HD := Aside0.mk hd2
        clear hd hd1 hd2 HN LX
        obtain ⟨gq, hgq⟩ : ∃ g, wr.heap.size = g := ⟨_, rfl⟩
        obtain ⟨W1, hW1⟩ : ∃ W1, wr.alloc (.cells #[.string Y.f0, .int .i64 Y.f1] 43) = W1 := ⟨_, rfl⟩
        have HQ := Aside0.mk (show W1.heap[gq]? = some (.cells #[.string Y.f0, .int .i64 Y.f1] 43 (0, 0)) by rw [← hW1, ← hgq]; exact blk_new _ _)
        have HS1 := Aside0.mk (show BSt w W1 gr gh gg s.x s.l s.p (.slice A4 s.x.length c4) v by rw [← hW1]; exact HS.out.step (below_alloc (Below.refl _ _) _))
        have q0 : W1.cell? ⟨gq, 0, none⟩ = some (.string Y.f0) := blk_cell HQ.out 0
        have q1 : W1.cell? ⟨gq, 1, none⟩ = some (.int .i64 Y.f1) := blk_cell HQ.out 1
        clear HS
        by_cases h1 : Y.f1 < 0
        · have c1 : decide (Y.f1 < 0) = true := decide_eq_true h1
          have HGD : Aside0 (bGood Y = false) := ⟨by unfold bGood; rw [decide_eq_false (by omega : ¬ 0 ≤ Y.f1)]; rfl⟩
          obtain rfl : N = none := by rw [← HNS.out, HGD.out]; rfl
          have hE := HE.out
          simp only [buildEnd, Prod.mk.injEq] at hE
          obtain ⟨rfl, rfl, rfl⟩ := hE
          have z0 : W1.cell? ⟨gr, 0, none⟩ = some (.string ⟨#[]⟩) := blk_cell HS1.out.fr 0
          have z1 : W1.cell? ⟨gr, 1, none⟩ = some (.slice none 0 0) := blk_cell HS1.out.fr 1
          have y0 := blk_frozen HS1.out.fr 0
          have y1 := blk_frozen HS1.out.fr 1
          go_wp2_with fail
          refine bodyPost_ret (results_ct rfl _ _ gr 25 #[.string (⟨#[]⟩ : ByteArray), .slice none 0 0] (0, 0) _ rfl (by refine blk_put (cs := #[.string (⟨#[]⟩ : ByteArray), .slice none 0 0]) ?_ 1 _ rfl; refine blk_put (cs := #[.string (⟨#[]⟩ : ByteArray), .slice none 0 0]) ?_ 0 _ rfl; exact HS1.out.fr) Tryd.underlying25 rfl (by kernel_rfl)) rfl ?_
          exact ⟨_, rfl, Kd.R_nil _ _ _ _ _, below_set (below_set HS1.out.below (by rw [HS1.out.er]; exact Nat.le_refl _)) (by rw [HS1.out.er]; exact Nat.le_refl _)⟩
        · have c1 : decide (Y.f1 < 0) = false := decide_eq_false h1
          by_cases h2 : Y.f1 ≥ 18
          · have c2 : decide (Y.f1 ≥ 18) = true := decide_eq_true h2
            have HGD : Aside0 (bGood Y = false) := ⟨by unfold bGood; rw [decide_eq_false (by omega : ¬ Y.f1 < 18)]; simp⟩
            obtain rfl : N = none := by rw [← HNS.out, HGD.out]; rfl
            have hE := HE.out
            simp only [buildEnd, Prod.mk.injEq] at hE
            obtain ⟨rfl, rfl, rfl⟩ := hE
            have z0 : W1.cell? ⟨gr, 0, none⟩ = some (.string ⟨#[]⟩) := blk_cell HS1.out.fr 0
            have z1 : W1.cell? ⟨gr, 1, none⟩ = some (.slice none 0 0) := blk_cell HS1.out.fr 1
            have y0 := blk_frozen HS1.out.fr 0
            have y1 := blk_frozen HS1.out.fr 1
            go_wp2_with fail
            refine bodyPost_ret (results_ct rfl _ _ gr 25 #[.string (⟨#[]⟩ : ByteArray), .slice none 0 0] (0, 0) _ rfl (by refine blk_put (cs := #[.string (⟨#[]⟩ : ByteArray), .slice none 0 0]) ?_ 1 _ rfl; refine blk_put (cs := #[.string (⟨#[]⟩ : ByteArray), .slice none 0 0]) ?_ 0 _ rfl; exact HS1.out.fr) Tryd.underlying25 rfl (by kernel_rfl)) rfl ?_
            exact ⟨_, rfl, Kd.R_nil _ _ _ _ _, below_set (below_set HS1.out.below (by rw [HS1.out.er]; exact Nat.le_refl _)) (by rw [HS1.out.er]; exact Nat.le_refl _)⟩
          · have c2 : decide (Y.f1 ≥ 18) = false := decide_eq_false h2
            obtain ⟨t, ht⟩ : ∃ t, Lib.validD Y.f0.data.toList = t := ⟨_, rfl⟩
            have HV := Aside0.mk (show utf8_ValidString.f Y.f0 = some t by unfold utf8_ValidString.f; rw [if_pos (by have := LX2.out; omega), ht])
            have HGD := Aside0.mk (show bGood Y = t by unfold bGood; rw [decide_eq_true (by omega : 0 ≤ Y.f1), decide_eq_true (by omega : Y.f1 < 18), ht]; rfl)
            clear ht
            go_wp2_with fail
            clear hW1 hgq q0 q1
            refine (utf8_ValidString.calls Y.f0 t W1 ⟨Tabs_.step hT_.out HS1.out.below⟩ HV.out).mono ?_
            rintro e w2 ⟨rfl, hb⟩
            have HS2 := Aside0.mk (HS1.out.step hb)
            have HQ2 := Aside0.mk (blk_below HQ.out hb)
            clear hb HS1 HQ
            cases t with
            | false =>
              obtain rfl : N = none := by rw [← HNS.out, HGD.out]; rfl
              have hE := HE.out
              simp only [buildEnd, Prod.mk.injEq] at hE
              obtain ⟨rfl, rfl, rfl⟩ := hE
              have z0 : w2.cell? ⟨gr, 0, none⟩ = some (.string ⟨#[]⟩) := blk_cell HS2.out.fr 0
              have z1 : w2.cell? ⟨gr, 1, none⟩ = some (.slice none 0 0) := blk_cell HS2.out.fr 1
              have y0 := blk_frozen HS2.out.fr 0
              have y1 := blk_frozen HS2.out.fr 1
              go_wp2_with fail
              refine bodyPost_ret (results_ct rfl _ _ gr 25 #[.string (⟨#[]⟩ : ByteArray), .slice none 0 0] (0, 0) _ rfl (by refine blk_put (cs := #[.string (⟨#[]⟩ : ByteArray), .slice none 0 0]) ?_ 1 _ rfl; refine blk_put (cs := #[.string (⟨#[]⟩ : ByteArray), .slice none 0 0]) ?_ 0 _ rfl; exact HS2.out.fr) Tryd.underlying25 rfl (by kernel_rfl)) rfl ?_
              exact ⟨_, rfl, Kd.R_nil _ _ _ _ _, below_set (below_set HS2.out.below (by rw [HS2.out.er]; exact Nat.le_refl _)) (by rw [HS2.out.er]; exact Nat.le_refl _)⟩
            | true =>
              have HN2 := Aside0.mk (show buildGo r (bStep s Y) = N by rw [← HNS.out, HGD.out]; rfl)
              have q0 : w2.cell? ⟨gq, 0, none⟩ = some (.string Y.f0) := blk_cell HQ2.out 0
              have q1 : w2.cell? ⟨gq, 1, none⟩ = some (.int .i64 Y.f1) := blk_cell HQ2.out 1
              by_cases h3 : Y.f0.toList = ([] : List UInt8)
              · have c3 : Y.f0.toList.isEmpty = true := by rw [h3]; rfl
                have HN3 := Aside0.mk (show buildGo r s = N by have := HN2.out; rw [bStep, if_pos h3] at this; exact this)
                go_wp2_with fail
                go_roundg q
                case measure => omega
                case rel => exact ⟨i + 1, s, v, by first | rfl | (simp; done), by omega, by omega, ⟨by rw [HD.out]; exact HN3.out⟩, HS2, ⟨by rw [HD.out]; have := LX2.out; omega⟩⟩
              · have c3 : Y.f0.toList.isEmpty = false := by simpa using h3
                obtain ⟨x5, hx5⟩ : ∃ x5, s.x ++ bytesOf Y.f0 = x5 := ⟨_, rfl⟩
                have HXL := Aside0.mk (show x5.length = s.x.length + Y.f0.size by rw [← hx5, List.length_append, bytesOf_length])
                have hbn : bNew s Y = ⟨Y.f1, (s.x.length : Int), (x5.length : Int)⟩ := by unfold bNew; rw [hx5]
                have hbs : bStep s Y = (if Y.f1 = 2 then ⟨x5, s.l, ⟨s.p.f0, if s.p.f2 = 0 then (s.x.length : Int) else s.p.f1, (x5.length : Int)⟩⟩ else if Y.f1 = 3 then ⟨x5, pushH s.l ⟨Y.f1, (s.x.length : Int), (x5.length : Int)⟩, s.p⟩ else if Y.f1 = 0 then ⟨x5, endH s.l s.p, ⟨s.p.f0, 0, 0⟩⟩ else ⟨x5, pushH (endH s.l s.p) ⟨Y.f1, (s.x.length : Int), (x5.length : Int)⟩, ⟨s.p.f0, 0, 0⟩⟩) := by
                  rw [bStep, if_neg h3, hx5, hbn]
                have HBS := Aside0.mk hbs
                have HX5 := Aside0.mk hx5
                have q1' := q1
                clear hbs hbn hx5
                by_cases h4 : Y.f1 = 2
                · by_cases h5 : s.p.f2 = 0
                  · have HN3 := Aside0.mk (show buildGo r ⟨x5, s.l, ⟨s.p.f0, (s.x.length : Int), (x5.length : Int)⟩⟩ = N by have := HN2.out; rw [HBS.out, if_pos h4, if_pos h5] at this; exact this)
                    go_wp2_with (first | (at_builtin; refine print_append_str (w0 := w2) (W := w2) (w.heap.size + 3) rfl (.tmp 40) (.tmp 42) 41 9 5 rfl Tryd.underlying41 Tryd.underlying9 info5 (.slice A4 s.x.length c4) s.x Y.f0 rfl rfl HS2.out.text (Below.refl _ _) HS2.out.size (by have := LX2.out; omega) ?_; intro v5 w5 ho5 hb5 hg5; rw [HX5.out] at ho5; obtain ⟨A5, c5, e5⟩ := own_slice ho5; subst e5; have HS5 := Aside0.mk (HS2.out.grows ho5 hg5); have HQ5 := Aside0.mk (HS2.out.kept_text hg5 _ _ HQ2.out); clear ho5 hb5 hg5; have q5 := blk_cell HQ5.out 0; have q6 := blk_cell HQ5.out 1; have g2 := blk_cell HS5.out.fg 2; have f1 := blk_frozen HS5.out.fg 1; have f2 := blk_frozen HS5.out.fg 2; have g1 := blk_cell HS5.out.fg 1))
                    go_roundg q
                    case measure => omega
                    case rel => exact ⟨i + 1, ⟨x5, s.l, ⟨s.p.f0, (s.x.length : Int), (x5.length : Int)⟩⟩, _, by first | rfl | (simp; done), by omega, (by show s.l.length ≤ 2 * (i + 1); omega), ⟨by rw [HD.out]; exact HN3.out⟩, ⟨(HS5.out.put1 _).put2 _⟩, ⟨by rw [HD.out]; have := LX2.out; have := HXL.out; show x5.length + total r ≤ 1000000000; omega⟩⟩
                  · have h5' : (s.p.f2 == 0) = false := by simpa using h5
                    have HN3 := Aside0.mk (show buildGo r ⟨x5, s.l, ⟨s.p.f0, s.p.f1, (x5.length : Int)⟩⟩ = N by have := HN2.out; rw [HBS.out, if_pos h4, if_neg h5] at this; exact this)
                    go_wp2_with (first | (at_builtin; refine print_append_str (w0 := w2) (W := w2) (w.heap.size + 3) rfl (.tmp 40) (.tmp 42) 41 9 5 rfl Tryd.underlying41 Tryd.underlying9 info5 (.slice A4 s.x.length c4) s.x Y.f0 rfl rfl HS2.out.text (Below.refl _ _) HS2.out.size (by have := LX2.out; omega) ?_; intro v5 w5 ho5 hb5 hg5; rw [HX5.out] at ho5; obtain ⟨A5, c5, e5⟩ := own_slice ho5; subst e5; have HS5 := Aside0.mk (HS2.out.grows ho5 hg5); have HQ5 := Aside0.mk (HS2.out.kept_text hg5 _ _ HQ2.out); clear ho5 hb5 hg5; have q5 := blk_cell HQ5.out 0; have q6 := blk_cell HQ5.out 1; have g2 := blk_cell HS5.out.fg 2; have f1 := blk_frozen HS5.out.fg 1; have f2 := blk_frozen HS5.out.fg 2; have g1 := blk_cell HS5.out.fg 1))
                    go_roundg q
                    case measure => omega
                    case rel => exact ⟨i + 1, ⟨x5, s.l, ⟨s.p.f0, s.p.f1, (x5.length : Int)⟩⟩, _, by first | rfl | (simp; done), by omega, (by show s.l.length ≤ 2 * (i + 1); omega), ⟨by rw [HD.out]; exact HN3.out⟩, ⟨HS5.out.put2 _⟩, ⟨by rw [HD.out]; have := LX2.out; have := HXL.out; show x5.length + total r ≤ 1000000000; omega⟩⟩
                · have h4' : (Y.f1 == 2) = false := by simpa using h4
                  by_cases h6 : Y.f1 = 3
                  · have HN3 := Aside0.mk (show buildGo r ⟨x5, pushH s.l ⟨Y.f1, (s.x.length : Int), (x5.length : Int)⟩, s.p⟩ = N by have := HN2.out; rw [HBS.out, if_neg h4, if_pos h6] at this; exact this)
                    rw [h6] at HN3
                    go_wp2_with (first | (at_builtin; refine print_append_str (w0 := w2) (W := w2) (w.heap.size + 3) rfl (.tmp 40) (.tmp 42) 41 9 5 rfl Tryd.underlying41 Tryd.underlying9 info5 (.slice A4 s.x.length c4) s.x Y.f0 rfl rfl HS2.out.text (Below.refl _ _) HS2.out.size (by have := LX2.out; omega) ?_; intro v5 w5 ho5 hb5 hg5; rw [HX5.out] at ho5; obtain ⟨A5, c5, e5⟩ := own_slice ho5; subst e5; have HS5 := Aside0.mk (HS2.out.grows ho5 hg5); have HQ5 := Aside0.mk (HS2.out.kept_text hg5 _ _ HQ2.out); clear ho5 hb5 hg5; have q5 := blk_cell HQ5.out 0; have q6 := blk_cell HQ5.out 1; have g2 := blk_cell HS5.out.fg 2; have f1 := blk_frozen HS5.out.fg 1; have f2 := blk_frozen HS5.out.fg 2; have g1 := blk_cell HS5.out.fg 1))
                    refine (heap_Push w5 (w.heap.size + 3) gh v s.l ⟨3, (s.x.length : Int), (x5.length : Int)⟩ HS5.out.held HS5.out.size (by omega)).mono ?_
                    rintro e w6 ⟨⟨u, rfl⟩, T⟩
                    obtain ⟨v6, S6⟩ := HS5.out.turns T
                    have HS6 := Aside0.mk S6
                    clear T S6
                    go_wp2_with fail
                    go_roundg q
                    case measure => omega
                    case rel => exact ⟨i + 1, ⟨x5, pushH s.l ⟨3, (s.x.length : Int), (x5.length : Int)⟩, s.p⟩, _, by first | rfl | (simp; done), by omega, (by show (pushH _ _).length ≤ 2 * (i + 1); rw [pushH_length]; omega), ⟨by rw [HD.out]; exact HN3.out⟩, HS6, ⟨by rw [HD.out]; have := LX2.out; have := HXL.out; show x5.length + total r ≤ 1000000000; omega⟩⟩
                  · have h6' : (Y.f1 == 3) = false := by simpa using h6
                    by_cases h7 : Y.f1 = 0
                    · have HN3 := Aside0.mk (show buildGo r ⟨x5, endH s.l s.p, ⟨s.p.f0, 0, 0⟩⟩ = N by have := HN2.out; rw [HBS.out, if_neg h4, if_neg h6, if_pos h7] at this; exact this)
                      go_wp2_with (first | (at_builtin; refine print_append_str (w0 := w2) (W := w2) (w.heap.size + 3) rfl (.tmp 40) (.tmp 42) 41 9 5 rfl Tryd.underlying41 Tryd.underlying9 info5 (.slice A4 s.x.length c4) s.x Y.f0 rfl rfl HS2.out.text (Below.refl _ _) HS2.out.size (by have := LX2.out; omega) ?_; intro v5 w5 ho5 hb5 hg5; rw [HX5.out] at ho5; obtain ⟨A5, c5, e5⟩ := own_slice ho5; subst e5; have HS5 := Aside0.mk (HS2.out.grows ho5 hg5); have HQ5 := Aside0.mk (HS2.out.kept_text hg5 _ _ HQ2.out); clear ho5 hb5 hg5; have q5 := blk_cell HQ5.out 0; have q6 := blk_cell HQ5.out 1; have g2 := blk_cell HS5.out.fg 2; have f1 := blk_frozen HS5.out.fg 1; have f2 := blk_frozen HS5.out.fg 2; have g1 := blk_cell HS5.out.fg 1))
                      refine (build_end w w5 gr gh gg _ s.l s.p _ v HS5.out (by omega)).mono ?_
                      rintro e w6 ⟨⟨u, rfl⟩, ⟨v6, S6⟩, K6⟩
                      have HS6 := Aside0.mk S6
                      have HQ6 := Aside0.mk (K6 _ _ HQ5.out)
                      have q7 := blk_cell HQ6.out 0
                      have q8 := blk_cell HQ6.out 1
                      clear S6 K6
                      go_wp2_with fail
                      have hel := endH_length s.l s.p
                      go_roundg q
                      case measure => omega
                      case rel => exact ⟨i + 1, ⟨x5, endH s.l s.p, ⟨s.p.f0, 0, 0⟩⟩, _, by first | rfl | (simp; done), by omega, (by show (endH s.l s.p).length ≤ 2 * (i + 1); omega), ⟨by rw [HD.out]; exact HN3.out⟩, HS6, ⟨by rw [HD.out]; have := LX2.out; have := HXL.out; show x5.length + total r ≤ 1000000000; omega⟩⟩
                    · have h7' : (Y.f1 != 0) = true := by simpa using h7
                      have HN3 := Aside0.mk (show buildGo r ⟨x5, pushH (endH s.l s.p) ⟨Y.f1, (s.x.length : Int), (x5.length : Int)⟩, ⟨s.p.f0, 0, 0⟩⟩ = N by have := HN2.out; rw [HBS.out, if_neg h4, if_neg h6, if_neg h7] at this; exact this)
                      go_wp2_with (first | (at_builtin; refine print_append_str (w0 := w2) (W := w2) (w.heap.size + 3) rfl (.tmp 40) (.tmp 42) 41 9 5 rfl Tryd.underlying41 Tryd.underlying9 info5 (.slice A4 s.x.length c4) s.x Y.f0 rfl rfl HS2.out.text (Below.refl _ _) HS2.out.size (by have := LX2.out; omega) ?_; intro v5 w5 ho5 hb5 hg5; rw [HX5.out] at ho5; obtain ⟨A5, c5, e5⟩ := own_slice ho5; subst e5; have HS5 := Aside0.mk (HS2.out.grows ho5 hg5); have HQ5 := Aside0.mk (HS2.out.kept_text hg5 _ _ HQ2.out); clear ho5 hb5 hg5; have q5 := blk_cell HQ5.out 0; have q6 := blk_cell HQ5.out 1; have g2 := blk_cell HS5.out.fg 2; have f1 := blk_frozen HS5.out.fg 1; have f2 := blk_frozen HS5.out.fg 2; have g1 := blk_cell HS5.out.fg 1))
                      refine (build_end w w5 gr gh gg _ s.l s.p _ v HS5.out (by omega)).mono ?_
                      rintro e w6 ⟨⟨u, rfl⟩, ⟨v6, S6⟩, K6⟩
                      have HS6 := Aside0.mk S6
                      have HQ6 := Aside0.mk (K6 _ _ HQ5.out)
                      have q7 := blk_cell HQ6.out 0
                      have q8 := blk_cell HQ6.out 1
                      clear S6 K6
                      go_wp2_with fail
                      have hel := endH_length s.l s.p
                      refine (heap_Push w6 (w.heap.size + 3) gh v6 (endH s.l s.p) ⟨Y.f1, (s.x.length : Int), (x5.length : Int)⟩ HS6.out.held HS6.out.size (by omega)).mono ?_
                      rintro e w7 ⟨⟨u, rfl⟩, T⟩
                      obtain ⟨v7, S7⟩ := HS6.out.turns T
                      have HS7 := Aside0.mk S7
                      clear T S7
                      go_wp2_with fail
                      go_roundg q
                      case measure => omega
                      case rel => exact ⟨i + 1, ⟨x5, pushH (endH s.l s.p) ⟨Y.f1, (s.x.length : Int), (x5.length : Int)⟩, ⟨s.p.f0, 0, 0⟩⟩, _, by first | rfl | (simp; done), by omega, (by show (pushH _ _).length ≤ 2 * (i + 1); rw [pushH_length]; omega), ⟨by rw [HD.out]; exact HN3.out⟩, HS7, ⟨by rw [HD.out]; have := LX2.out; have := HXL.out; show x5.length + total r ≤ 1000000000; omega⟩⟩
  · rw [if_neg hsz] at h
    cases h
end Go.Proofs.YthickfehldjgdaaDoor.X
