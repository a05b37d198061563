/-
  slices.Clone and slices.Insert over spans.
-/
import Derived.Test.YthickfehldjgdaaDoorX0
import Derived.Outline
import Derived.StillTailTactics
import Derived.Deep.LoopGhost
import Derived.Lib.AppendZeros
import Derived.Lib.Overlaps
import Derived.Lib.SliceRun
import Derived.Laws.Externs
import Derived.Laws.IdiomCopy
import Derived.Laws.CopyOwn
import Derived.Shelf.RegionOpenPlain
namespace Go.Proofs.YthickfehldjgdaaDoor.X
open Go.RowKit Go.Proofs.YthickfehldjgdaaDoorW.PrintWords Go.Proofs.YthickfehldjgdaaDoorW.PrintLast
/-- The cells of a row of spans. -/
def cells31 : List S31 → List Value
  | [] => []
  | x :: l => .int .i64 x.f0 :: .int .i64 x.f1 :: .int .i64 x.f2 :: cells31 l
theorem cells31_length (l : List S31) : (cells31 l).length = l.length * 3 := by
  induction l with
  | nil => rfl
  | cons x l ih => simp only [cells31, List.length_cons, ih]; omega
theorem cells31_append (a b : List S31) : cells31 (a ++ b) = cells31 a ++ cells31 b := by
  induction a with
  | nil => rfl
  | cons x l ih => simp only [cells31, List.cons_append, ih]
theorem cells31_take (l : List S31) (i : Nat) : (cells31 l).take (i * 3) = cells31 (l.take i) := by
  induction l generalizing i with
  | nil => simp [cells31]
  | cons x l ih =>
    cases i with
    | zero => simp [cells31]
    | succ n => rw [show (n + 1) * 3 = n * 3 + 1 + 1 + 1 by omega]; simp only [cells31, List.take_succ_cons, ih]
theorem cells31_drop (l : List S31) (i : Nat) : (cells31 l).drop (i * 3) = cells31 (l.drop i) := by
  induction l generalizing i with
  | nil => simp [cells31]
  | cons x l ih =>
    cases i with
    | zero => simp [cells31]
    | succ n => rw [show (n + 1) * 3 = n * 3 + 1 + 1 + 1 by omega]; simp only [cells31, List.drop_succ_cons, ih]
theorem cells31_one (l : List S31) : ∀ u ∈ cells31 l, u.oneCell' = true := by
  induction l with
  | nil => simp [cells31]
  | cons x l ih =>
    intro u hu
    simp only [cells31, List.mem_cons] at hu
    rcases hu with rfl | rfl | rfl | hu
    · rfl
    · rfl
    · rfl
    · exact ih u hu
theorem reps31_mk {w : World} {b : Nat} {ok : Nat → Prop} (l : List S31) : Reps (k31.M w b ok) 3 l (cells31 l) := by
  refine ⟨cells31_length l, fun j p hj => ?_⟩
  rw [cells31_drop]
  obtain ⟨hlt, hp⟩ := List.getElem?_eq_some_iff.1 hj
  rw [List.drop_eq_getElem_cons hlt, hp]
  exact k31_mkM _ _ _ p
theorem reps31 {w : World} {b : Nat} {ok : Nat → Prop} {l : List S31} {cs : List Value} (h : Reps (k31.M w b ok) 3 l cs) : cs = cells31 l := by
  apply List.ext_getElem?
  intro q
  by_cases hq : q < l.length * 3
  · have hd : q / 3 < l.length := by omega
    have h1 := k31_openM (h.2 (q / 3) _ (List.getElem?_eq_getElem hd))
    have h2 := k31_openM ((reps31_mk (w := w) (b := b) (ok := ok) l).2 (q / 3) _ (List.getElem?_eq_getElem hd))
    have e : ((cs.drop (q / 3 * 3)).take 3)[q % 3]? = (((cells31 l).drop (q / 3 * 3)).take 3)[q % 3]? := by rw [h1, h2]
    rw [List.getElem?_take, List.getElem?_take, if_pos (Nat.mod_lt _ (by omega)), if_pos (Nat.mod_lt _ (by omega)), List.getElem?_drop, List.getElem?_drop, show q / 3 * 3 + q % 3 = q by omega] at e
    exact e
  · rw [List.getElem?_eq_none (by rw [h.1]; omega), List.getElem?_eq_none (by rw [cells31_length]; omega)]
theorem R31_own {w : World} {base : Nat} {ok : Nat → Prop} {v : Value} {l : List S31} (h : Kd.R k31 31 w base ok v l) : w.ownsRow base 31 3 v l.length (cells31 l) := by
  obtain ⟨_, inner, ho, hr⟩ := h
  obtain rfl := reps31 hr
  exact ho
theorem R31_mk {w : World} {base : Nat} {ok : Nat → Prop} {v : Value} {l : List S31} (h : w.ownsRow base 31 3 v l.length (cells31 l)) (hok : ∀ k, v.ownBlock = some k → ok k) : Kd.R k31 31 w base ok v l :=
  ⟨hok, cells31 l, h, reps31_mk l⟩
section
variable {P : Program}
/-- copy of whole elements of z cells onto a row that is known whole. -/
theorem run_copy_rowZ (w : World) (dT sT ty elem : TypeId) (z g o dLen dCap : Nat) (a : Addr) (sLen sCap m : Nat) (cur : List Value) (t : TypeId) (cs : List Value)
    (hu : P.underlying dT = some (.slice elem)) (hs : (P.info? elem).map (·.size) = some z) (hg : w.heap[g]? = some (.cells cur.toArray t (0, 0))) (hm : Nat.min sLen dLen = m) (hn : cs.length = m * z)
    (hsrc : ∀ j v, cs[j]? = some v → w.cell? (a.add j) = some v) (hfit : o + cs.length ≤ cur.length) (h1 : ∀ v ∈ cs, v.oneCell' = true) :
    (Builtin.copy_ #[dT, sT] ty #[.slice (some ⟨g, o, none⟩) dLen dCap, .slice (some a) sLen sCap]).run P w = .ok (goInt m) (w.setRow g (splice cur o cs).toArray) := by
  have hl := run_loadCells_list (P := P) w a cs hsrc
  have hst := run_storeCells_at P g o t cs 0 cur.toArray w hg (by simpa using hfit) h1
  cases hq : P.info? elem with
  | none => simp [hq] at hs
  | some i =>
    have hi : i.size = z := by simpa [hq] using hs
    simp [Builtin.copy_, run_underlying hu, Builtin.lenOf, Builtin.firstCells, sizeOf, typeInfo, hq, hi, hm, ← hn, hl, hst, splice]
theorem wpList_copy_run {w : World} {ops : Array Oper} {rest : List Oper} {o : Oper} {a : Act} {Q : Exit → Act → World → Prop} (hgd : o.guard = none) (d s : Operand) (t t' : TypeId)
    (ho : o.op = .call { callee := .builtin .copy, args := #[d, s], argTypes := #[t, t'] }) (v u : Value) (hd : a.eval d = v) (hs : a.eval s = u) {v' : Value} {w' : World}
    (hr : (Builtin.copy_ #[t, t'] o.type #[v, u]).run P w = .ok v' w') (h : wpList P ops Q rest (a.put o.dst v') w') : wpList P ops Q (o :: rest) a w :=
  wpList_plain hgd fun _ hK => by
    unfold Oper.wp execOp
    simp only [ho, resolve, invoke, builtin, Sem.run_bind, Sem.run_pure, Result.andThen_ok, List.map_toArray, List.map_cons, List.map_nil, hd, hs, hr]
    exact hK _ _ h
theorem step_copy_run {ops : Array Oper} {o : Oper} {a : Act} {w : World} {K : Act → World → Prop} {Q : Exit → Act → World → Prop} {E : Prop}
    (hg : o.guard = none) (d x : Operand) (dT sT : TypeId) (hop : o.op = Op.call { callee := Callee.builtin Builtin.copy, args := #[d, x], argTypes := #[dT, sT] })
    (v u : Value) (hd : a.eval d = v) (hx : a.eval x = u) {v' : Value} {w' : World} (hr : (Builtin.copy_ #[dT, sT] o.type #[v, u]).run P w = .ok v' w') (hK : K (a.put o.dst v') w') :
    if Region.wanted o (yielded ops a.tmps) = true then Oper.wp P o a w K Q else E := by
  have hw : Region.wanted o (yielded ops a.tmps) = true := by simp [Region.wanted, hg]
  rw [if_pos hw]
  unfold Oper.wp
  simp [execOp, hop, resolve, invoke, builtin, hd, hx, hr, Result.andThen]
  exact hK
/-- append(s, make([]T, m)...) where there is no room: a row of its own; what stood is untouched. -/
theorem run_append_zerosG (w : World) (t ti ty e : TypeId) (i : TypeInfo) (z : Value) (ht : P.underlying t = some (.slice e)) {k : IntKind} (hti : P.underlying ti = some (.int k)) (hi : P.info? e = some i) (hz : i.zero = some z)
    (hzs : z.cells.size = i.size) (hsz : 0 < i.size) (hb0 : 0 < i.bytes) (A : Option Addr) (n cap : Nat) (xs : List Value) (kx : IntKind) (m : Nat) (hxl : xs.length = n * i.size) (hcap : cap < n + m) (hm : 0 < m)
    (hbytes : (n + m) * i.bytes ≤ 140737488355328) (hfo : (Builtin.firstCells i.size n (.slice A n cap)).run P w.drew = .ok xs.toArray w.drew) :
    ∃ c1 row, (Builtin.append_ #[t, ti] ty #[.slice A n cap, .int kx m]).run P w = .ok (.slice (some ⟨w.heap.size, 0, none⟩) (n + m) c1) (w.drew.alloc (.cells row e)) ∧ n + m ≤ c1 ∧ c1 ≤ maxLen ∧ row.size = c1 * i.size ∧ row.toList.take (n * i.size) = xs := by
  have hle : n + m ≤ 140737488355328 := Nat.le_trans (Nat.le_mul_of_pos_right _ hb0) hbytes
  have h63 : n + m ≤ maxLen := by simp only [maxLen]; omega
  have hw : IntKind.i64.wrap (m : Int) = m := by rw [IntKind.wrap_i64]; omega
  have hneg : ¬ ((m : Int) < 0) := by omega
  have hmb : m * i.bytes ≤ 140737488355328 := Nat.le_trans (Nat.mul_le_mul_right _ (Nat.le_add_left m n)) hbytes
  have hbig : ¬ (281474976710656 < (m : Int) * (i.bytes : Int)) := by rw [← Int.natCast_mul]; omega
  have hsn : i.size ≠ 0 := by omega
  obtain ⟨news, hnews⟩ : ∃ news, news = (Builtin.zeroCells z.cells m).toList := ⟨_, rfl⟩
  have hl : news.length = m * i.size := by rw [hnews, Array.length_toList, size_zeroCells, hzs]
  have hna : Builtin.zeroCells z.cells m = news.toArray := by rw [hnews]
  have hn : ¬ (n + m ≤ cap) := by omega
  have h63' : ¬ (9223372036854775807 < ((n : Int) + (m : Int))) := by omega
  have hfit := growslice_fits hcap hbytes
  have h48' : ¬ (281474976710656 < Builtin.nextslicecap (n + m) cap * i.bytes) := by omega
  have hmz : ¬ (m * i.size = 0) := Nat.mul_ne_zero (by omega) hsn
  refine ⟨grownCap w (n + m) cap e, xs.toArray ++ news.toArray ++ Builtin.zeroCells z.cells (grownCap w (n + m) cap e - (n + m)), ?_, grownCap_ge w (n + m) cap e, grownCap_le_maxLen w (n + m) cap e h63, ?_, ?_⟩
  · simp [Builtin.append_, run_underlying ht, run_underlying hti, sizeOf, typeInfo, zeroValue, hi, hz, asInt, asIntOf, hw, hneg, hbig, hn, h63', h48', Question.forced, hfo, newRow, grownCap, hmz, hna]
    congr 2
    apply Array.ext'
    simp [List.append_assoc]
  · have hge := grownCap_ge w (n + m) cap e
    simp only [Array.size_append, List.size_toArray, size_zeroCells, hzs, hxl, hl, ← Nat.add_mul]
    congr 1
    omega
  · simp only [Array.toList_append, List.append_assoc]
    rw [← hxl]
    exact List.take_left
end
set_option maxRecDepth 100000 in
set_option maxHeartbeats 1000000 in
theorem span_Clone (A0 : Option Addr) (c0 : Nat) (l0 : List S31) (w : World) (hr0 : Kd.C k31 w A0 l0.length l0) (hc0 : l0.length ≤ c0) (hsz : l0.length * 24 ≤ 140737488355328) :
    Calls Tryd.prog 34 #[.slice A0 l0.length c0] w fun e w' => ∃ v, e = .returned v ∧ Kd.R k31 31 w' w.heap.size (fun _ => True) v l0 ∧ Below w.heap.size w w' := by
  have q23 : ∀ (w : World) (a : Option Addr) (n c n' c' : Nat), (binOp .eql 23 (.slice a n c) (.slice none n' c')).run Tryd.prog w = .ok (.bool a.isNone) w := fun w a n c n' c' => Lib.run_eql_slice_nil w _ _ a n c n' c' Tryd.underlying23
  cases A0 with
  | none =>
    have hl : l0 = [] := by
      rcases Nat.eq_zero_or_pos l0.length with h0 | h0
      · exact List.eq_nil_of_length_eq_zero h0
      · obtain ⟨ad, h, _⟩ := hr0.2.2 h0
        cases h
    subst hl
    clear hr0
    go_enter Tryd.func34, Tryd.ntmps34
    go_wp2_with fail
    go_ret
    exact ⟨_, rfl, Kd.R_nil _ _ _ _ _, Below.refl _ _⟩
  | some ad =>
    have HR := Aside0.mk hr0
    clear hr0
    have HB := Aside0.mk (below_alloc (Below.refl w.heap.size w) (.cells #[] 31 (0, 0)))
    have HO := Aside0.mk (R31_mk (l := []) (ok := fun _ => True) (World.ownsRow_made (e := 31) (size := 3) w #[] 0 (Nat.le_refl _) (Nat.zero_le _) rfl) (fun _ _ => trivial))
    have HR1 := Aside0.mk (Kd.C_below HR.out ((below_alloc (Below.refl w.heap.size w) (.cells #[] 31 (0, 0)))))
    go_enter Tryd.func34, Tryd.ntmps34
    go_wp2_with (at_builtin; refine Kd.R_append_rows k31 (w0 := w) (W := w.alloc (.cells #[] 31 (0, 0))) w.heap.size rfl (.tmp 5) (.tmp 6) 23 31 (.agg #[(.int .i64 0), (.int .i64 0), (.int .i64 0)]) 24 rfl Tryd.underlying23 info31 rfl (by decide) (by omega) (.slice (some ⟨w.heap.size, 0, none⟩) 0 0) [] l0 (some ad) l0.length c0 (fun _ => True) (fun _ => False) rfl rfl HO.out HR1.out ?aK (fun _ hk => hk.elim) (fun _ _ => trivial) HB.out ?aB ?aL ?_; (case aK => intro x cs hx; rw [k31_open hx]; exact k31_mkM _ _ _ x); (case aB => simp); (case aL => simp; omega))
    intro v1 w1 h1 hb1 _ _
    go_wp2_with fail
    go_ret
    exact ⟨v1, rfl, h1, hb1⟩
theorem read31 {w : World} {b off : Nat} {cells : Array Value} (hb : w.heap[b]? = some (.cells cells 31 (0, 0))) (l : List S31) (ht : (cells.toList.drop off).take (l.length * 3) = cells31 l) : ∀ j u, (cells31 l)[j]? = some u → w.cell? ((⟨b, off, none⟩ : Addr).add j) = some u := by
  intro j u hj
  have hlt : j < l.length * 3 := by rw [← cells31_length]; exact (List.getElem?_eq_some_iff.1 hj).1
  rw [← ht, List.getElem?_take, if_pos hlt, List.getElem?_drop] at hj
  rw [Addr.add_lit]
  rw [cell_of_row w b _ cells 31 (0, 0) hb]
  simpa using hj
theorem C31_block {w : World} {b : Nat} {x : S31} (hb : w.heap[b]? = some (.cells #[.int .i64 x.f0, .int .i64 x.f1, .int .i64 x.f2] 31 (0, 0))) : Kd.C k31 w (some ⟨b, 0, none⟩) 1 [x] := by
  refine ⟨rfl, by decide, fun _ => ⟨_, rfl, fun j p hj => ?_⟩⟩
  obtain ⟨hlt, hp⟩ := List.getElem?_eq_some_iff.1 hj
  have hj0 : j = 0 := by simpa using hlt
  subst hj0
  obtain rfl : x = p := by simpa using hp
  refine ⟨_, rfl, k31_mk w x, fun i u hu => ?_⟩
  rw [Addr.add_lit, cell_of_row w b _ _ 31 (0, 0) hb]
  show #[Value.int .i64 x.f0, Value.int .i64 x.f1, Value.int .i64 x.f2][0 + (0 * 3 + i)]? = some u
  rw [show 0 + (0 * 3 + i) = i by omega]
  simpa using hu
set_option maxRecDepth 100000 in
set_option maxHeartbeats 1000000 in
theorem span_Insert_end (base : Nat) (w0 w : World) (HB : Below base w0 w) (hbase : base ≤ w.heap.size) (v : Value) (l : List S31) (x : S31) (vb : Nat) (hsz : (l.length + 1) * 24 ≤ 140737488355328)
    (ho : Kd.R k31 31 w base (fun _ => True) v l) (hx : w.heap[vb]? = some (.cells #[.int .i64 x.f0, .int .i64 x.f1, .int .i64 x.f2] 31 (0, 0))) :
    Calls Tryd.prog 33 #[v, .int .i64 l.length, .slice (some ⟨vb, 0, none⟩) 1 1] w fun e w' => ∃ v', e = .returned v' ∧ Kd.R k31 31 w' base (fun _ => True) v' (l ++ [x]) ∧ Below base w0 w' := by
  obtain ⟨A, c, rfl⟩ := Kd.R_slice ho
  have HO := Aside0.mk ho
  have HC := Aside0.mk (C31_block hx)
  have HBA := Aside0.mk HB
  clear ho hx HB
  by_cases hc : c = l.length
  all_goals
    cases A
    all_goals
      go_enter Tryd.func33, Tryd.ntmps33
      go_wp2_with (first | ((with_reducible refine gate_builtin (b := .append) (xs := #[.tmp 23, .tmp 24]) rfl ?_); at_builtin; refine Kd.R_append_rows k31 (w0 := w0) (W := w) base rfl (.tmp 23) (.tmp 24) 23 31 (.agg #[(.int .i64 0), (.int .i64 0), (.int .i64 0)]) 24 rfl Tryd.underlying23 info31 rfl (by decide) (by omega) _ l [x] (some ⟨vb, 0, none⟩) 1 1 (fun _ => True) (fun _ => False) rfl rfl HO.out HC.out ?aK (fun _ hk => hk.elim) (fun _ _ => trivial) HBA.out hbase hsz ?_; (case aK => intro x cs hx; rw [k31_open hx]; exact k31_mkM _ _ _ x)))
      intro v1 w1 h1 hb1 _ _
      go_wp2_with fail
      go_ret
      exact ⟨v1, rfl, h1, hb1⟩
theorem run_loads_take (w : World) (b n c i : Nat) (cur : Array Value) (hb : w.heap[b]? = some (.cells cur 31 (0, 0))) (hi : i * 3 ≤ cur.size) (P : Program) :
    (Builtin.firstCells 3 i (.slice (some ⟨b, 0, none⟩) n c)).run P w.drew = .ok (cur.toList.take (i * 3)).toArray w.drew := by
  refine run_firstCells_some w.drew 3 i ⟨b, 0, none⟩ n c (cur.toList.take (i * 3)) (by rw [List.length_take, Array.length_toList]; omega) (fun j u hj => ?_)
  have hlt : j < i * 3 := by have := (List.getElem?_eq_some_iff.1 hj).1; rw [List.length_take] at this; omega
  rw [List.getElem?_take, if_pos hlt] at hj
  rw [Addr.add_lit]
  show w.cell? _ = _
  rw [cell_of_row w b _ cur 31 (0, 0) hb]
  simpa using hj
theorem splice2_take {α : Type} (R b c : List α) (o q : Nat) (hq : q = o + b.length) (hR : q + c.length ≤ R.length) : (splice (splice R o b) q c).take (q + c.length) = R.take o ++ (b ++ c) := by
  subst hq
  have h1 : (splice R o b).take (o + b.length) = R.take o ++ b := by
    unfold splice
    rw [← List.append_assoc, List.take_append_of_le_length (by simp; omega), List.take_of_length_le (by simp; omega)]
  have h2 : splice (splice R o b) (o + b.length) c = (R.take o ++ b) ++ (c ++ (splice R o b).drop (o + b.length + c.length)) := by
    rw [show splice (splice R o b) (o + b.length) c = (splice R o b).take (o + b.length) ++ (c ++ (splice R o b).drop (o + b.length + c.length)) from rfl, h1]
  rw [h2, ← List.append_assoc, List.take_append_of_le_length (by simp; omega), List.take_of_length_le (by simp; omega), List.append_assoc]
theorem read31_drop {cur : List Value} {l : List S31} (i : Nat) (ht : cur.take (l.length * 3) = cells31 l) : (cur.drop (i * 3)).take ((l.drop i).length * 3) = cells31 (l.drop i) := by
  rw [← cells31_drop, ← ht, List.length_drop, List.drop_take, Nat.sub_mul]
set_option maxRecDepth 100000 in
set_option maxHeartbeats 2000000 in
theorem span_Insert_grow (base : Nat) (w0 w : World) (HB : Below base w0 w) (hbase : base ≤ w.heap.size) (l : List S31) (i : Nat) (x : S31) (vb b c : Nat) (cur : Array Value) (hsz : (l.length + 1) * 24 ≤ 140737488355328) (hi : i < l.length)
    (hc : c = l.length) (hb : w.heap[b]? = some (.cells cur 31 (0, 0))) (hcs : cur.size = c * 3) (ht : cur.toList.take (l.length * 3) = cells31 l)
    (hx : w.heap[vb]? = some (.cells #[.int .i64 x.f0, .int .i64 x.f1, .int .i64 x.f2] 31 (0, 0))) :
    Calls Tryd.prog 33 #[.slice (some ⟨b, 0, none⟩) l.length c, .int .i64 i, .slice (some ⟨vb, 0, none⟩) 1 1] w fun e w' => ∃ v', e = .returned v' ∧ Kd.R k31 31 w' base (fun _ => True) v' (l.take i ++ x :: l.drop i) ∧ Below base w0 w' := by
  subst hc
  obtain ⟨i0, hi0, hzz⟩ := Option.map_eq_some_iff.1 info31
  simp only [Prod.mk.injEq] at hzz
  obtain ⟨hz0, hz1, hz2⟩ := hzz
  obtain ⟨m, hm⟩ : ∃ m : Nat, l.length + 1 = i + m := ⟨l.length + 1 - i, by omega⟩
  have hsub : (l.length : Int) + 1 - (i : Int) = (m : Int) := by omega
  have hblt := blk_lt hb
  have hvlt := blk_lt hx
  obtain ⟨c1, row, hrun, hc1, hc1m, hrs, hrt⟩ := run_append_zerosG (P := Tryd.prog) w 23 3 23 31 i0 _ Tryd.underlying23 (k := .i64) (by first | exact Tryd.underlying3 | kernel_rfl) hi0 hz0 (by rw [hz1]; rfl) (by omega) (by omega) (some ⟨b, 0, none⟩) i l.length (cur.toList.take (i * 3)) .i64 m
    (by rw [hz1, List.length_take, Array.length_toList, hcs]; omega) (by omega) (by omega) (by rw [hz2]; omega) (by rw [hz1]; exact run_loads_take w b i l.length i cur hb (by omega) _)
  rw [hz1] at hrs hrt
  have hsz31 : (Tryd.prog.info? 31).map (·.size) = some 3 := by rw [hi0]; simp [hz1]
  obtain ⟨g, hg⟩ : ∃ g, w.heap.size = g := ⟨_, rfl⟩
  rw [hg] at hrun
  obtain ⟨W1, hW1⟩ : ∃ W1, w.drew.alloc (.cells row 31) = W1 := ⟨_, rfl⟩
  rw [hW1] at hrun
  have hg1 : W1.heap[g]? = some (.cells row.toList.toArray 31 (0, 0)) := by rw [← hW1, ← hg]; simpa using heap_alloc_new w.drew (.cells row 31)
  have hb1 : W1.heap[b]? = some (.cells cur 31 (0, 0)) := by rw [← hW1]; exact (heap_alloc_old w.drew _ hblt).trans hb
  have hx1 : W1.heap[vb]? = some (.cells #[.int .i64 x.f0, .int .i64 x.f1, .int .i64 x.f2] 31 (0, 0)) := by rw [← hW1]; exact (heap_alloc_old w.drew _ hvlt).trans hx
  have hB1 : Below base w0 W1 := by rw [← hW1]; exact ((HB.trans ⟨rfl, rfl, rfl, Nat.le_refl _, fun _ _ => rfl⟩ : Below base w0 w.drew)).alloc hbase _
  clear hW1
  have hcp1 : ∀ ty dl dc, 1 ≤ dl → (Builtin.copy_ #[23, 23] ty #[.slice (some ⟨g, i * 3, none⟩) dl dc, .slice (some ⟨vb, 0, none⟩) 1 1]).run Tryd.prog W1 = .ok (goInt 1) (W1.setRow g (splice row.toList (i * 3) (cells31 [x])).toArray) := fun ty dl dc hdl =>
    run_copy_rowZ W1 23 23 ty 31 3 g (i * 3) dl dc ⟨vb, 0, none⟩ 1 1 1 row.toList 31 (cells31 [x]) Tryd.underlying23 hsz31 hg1 (by simp only [Nat.min_def]; split <;> omega) rfl (read31 hx1 [x] rfl) (by simp [cells31]; omega) (cells31_one _)
  obtain ⟨W2, hW2⟩ : ∃ W2, W1.setRow g (splice row.toList (i * 3) (cells31 [x])).toArray = W2 := ⟨_, rfl⟩
  rw [hW2] at hcp1
  obtain ⟨r2, hr2⟩ : ∃ r2, splice row.toList (i * 3) (cells31 [x]) = r2 := ⟨_, rfl⟩
  rw [hr2] at hW2
  have hr2l : r2.length = c1 * 3 := by rw [← hr2, length_splice _ _ _ (by simp [cells31]; omega)]; simpa using hrs
  have hg2 : W2.heap[g]? = some (.cells r2.toArray 31 (0, 0)) := by rw [← hW2]; exact setRow_heap W1 g _ _ 31 _ hg1
  have hb2 : W2.heap[b]? = some (.cells cur 31 (0, 0)) := by rw [← hW2, setRow_other W1 g b _ (by omega)]; exact hb1
  have hB2 : Below base w0 W2 := by rw [← hW2]; exact below_setRow hB1 (by omega) _
  clear hW2
  have hdl : (l.drop i).length = l.length - i := List.length_drop
  have hcp2 : ∀ ty dl dc sl sc, sl = l.length - i → sl ≤ dl → (Builtin.copy_ #[23, 23] ty #[.slice (some ⟨g, (i + 1) * 3, none⟩) dl dc, .slice (some ⟨b, i * 3, none⟩) sl sc]).run Tryd.prog W2.drew = .ok (goInt (l.length - i : Nat)) (W2.drew.setRow g (splice r2 ((i + 1) * 3) (cells31 (l.drop i))).toArray) := fun ty dl dc sl sc hsl1 hsl2 =>
    run_copy_rowZ W2.drew 23 23 ty 31 3 g ((i + 1) * 3) dl dc ⟨b, i * 3, none⟩ sl sc (l.length - i) r2 31 (cells31 (l.drop i)) Tryd.underlying23 hsz31 hg2 (by simp only [Nat.min_def]; split <;> omega) (by rw [cells31_length, hdl])
      (read31 (w := W2.drew) hb2 _ (read31_drop i ht)) (by rw [cells31_length, hdl]; omega) (cells31_one _)
  obtain ⟨W3, hW3⟩ : ∃ W3, W2.drew.setRow g (splice r2 ((i + 1) * 3) (cells31 (l.drop i))).toArray = W3 := ⟨_, rfl⟩
  rw [hW3] at hcp2
  have hg3 : W3.heap[g]? = some (.cells (splice r2 ((i + 1) * 3) (cells31 (l.drop i))).toArray 31 (0, 0)) := by rw [← hW3]; exact setRow_heap W2.drew g _ _ 31 _ hg2
  have HB3 : Aside0 (Below base w0 W3) := Aside0.mk (by rw [← hW3]; exact below_setRow hB2.drew (by omega) _)
  have HR : Aside0 (Kd.R k31 31 W3 base (fun _ => True) (.slice (some ⟨g, 0, none⟩) (i + m) c1) (l.take i ++ x :: l.drop i)) := by
    have hln : (l.take i ++ x :: l.drop i).length = i + m := by rw [List.length_append, List.length_take, List.length_cons, hdl]; omega
    refine Aside0.mk (R31_mk ⟨cells31_length _, .inr ⟨g, c1, _, by rw [hln], by omega, hg3, by omega, hc1m, ?_, ?_⟩⟩ (fun _ _ => trivial))
    · simp only [List.size_toArray]
      rw [length_splice _ _ _ (by rw [cells31_length, hdl]; omega), hr2l]
    · have e := splice2_take row.toList (cells31 [x]) (cells31 (l.drop i)) (i * 3) ((i + 1) * 3) (by simp [cells31]; omega) (by rw [cells31_length, hdl]; simp only [Array.length_toList] at hrs ⊢; omega)
      rw [hr2, cells31_length, hdl] at e
      rw [show (l.take i ++ x :: l.drop i).length * 3 = (i + 1) * 3 + (l.length - i) * 3 by rw [hln]; omega]
      show List.take _ (splice r2 ((i + 1) * 3) (cells31 (l.drop i))) = _
      have ht2 : cur.toList.take (i * 3) = cells31 (l.take i) := by
        rw [← cells31_take, ← ht, List.take_take, Nat.min_eq_left (by omega)]
      rw [e, hrt, ht2, ← cells31_append, ← cells31_append]
      rfl
  clear hW3 hg3 hB2 hb2 hg2 hr2l hr2 hB1 hx1 hb1 hg1 hrt hrs hx ht hcs hb HB
  have mixed : Tryd.prog.follows Departure.mixedOrders = true := by kernel_rfl
  have hw1 : IntKind.i64.wrap ((i : Int) + 1) = (i : Int) + 1 := by rw [IntKind.wrap_i64]; omega
  have htn : ((i : Int) + 1).toNat = i + 1 := by omega
  have hn0 : (0 : Int) ≤ (i : Int) + 1 := by omega
  have hnm : (i : Int) + 1 ≤ (i : Int) + (m : Int) := by omega
  have hne1 : ¬ (c1 = i + 1) := by omega
  have hne2 : ¬ (l.length = i) := by omega
  have hle1 : (i : Int) ≤ (l.length : Int) := by omega
  go_enter Tryd.func33, Tryd.ntmps33
  go_wp2_with (first
    | (at_builtin; refine Lib.wpList_append_run _ rfl _ _ _ _ rfl _ _ rfl rfl _ _ hrun ?_)
    | ((with_reducible refine gate_builtin (b := .copy) (xs := #[.tmp 43, .tmp 44]) rfl ?_); (refine wpList_copy_run rfl (.tmp 43) (.tmp 44) 23 23 rfl _ _ rfl rfl (hcp1 _ _ _ (by omega)) ?_)))
  go_region_law_o (refine step_copy_run rfl (.tmp 50) (.tmp 53) 23 23 rfl (.slice (some ⟨g, (i + 1) * 3, none⟩) (i + m - (i + 1)) (c1 - (i + 1))) (.slice (some ⟨b, i * 3, none⟩) (l.length - i) (l.length - i)) ?hd ?hx (hcp2 3 (i + m - (i + 1)) (c1 - (i + 1)) (l.length - i) (l.length - i) rfl (by omega)) ?_; (case hd => (simp [Act.eval, Act.put])); (case hx => (simp [Act.eval, Act.put])))
  go_wp2_with fail
  go_ret
  exact ⟨_, rfl, HR.out, HB3.out⟩
theorem splice2_back {α : Type} (R b c : List α) (o q : Nat) (hq : q = o + b.length) (hR : q + c.length ≤ R.length) : (splice (splice R q c) o b).take (q + c.length) = R.take o ++ (b ++ c) := by
  subst hq
  have h1 : (splice R (o + b.length) c).take o = R.take o := by
    unfold splice
    rw [List.take_append_of_le_length (by simp; omega), List.take_take, Nat.min_eq_left (by omega)]
  have h2 : (splice R (o + b.length) c).drop (o + b.length) = c ++ R.drop (o + b.length + c.length) := by
    unfold splice
    rw [List.drop_append, List.drop_eq_nil_of_le (by simp; omega), List.nil_append]
    rw [show o + b.length - (R.take (o + b.length)).length = 0 by rw [List.length_take]; omega, List.drop_zero]
  have h3 : splice (splice R (o + b.length) c) o b = (R.take o ++ b ++ c) ++ R.drop (o + b.length + c.length) := by
    rw [show splice (splice R (o + b.length) c) o b = (splice R (o + b.length) c).take o ++ (b ++ (splice R (o + b.length) c).drop (o + b.length)) from rfl, h1, h2]
    simp
  rw [h3, List.take_append_of_le_length (by simp; omega), List.take_of_length_le (by simp; omega), List.append_assoc]
set_option maxRecDepth 100000 in
set_option maxHeartbeats 2000000 in
theorem span_Insert_shift (base : Nat) (w0 w : World) (HB : Below base w0 w) (l : List S31) (i : Nat) (x : S31) (vb b c : Nat) (cur : Array Value) (hi : i < l.length)
    (hc : l.length + 1 ≤ c) (hcm : c ≤ maxLen) (hbb : base ≤ b) (hne : vb ≠ b) (hb : w.heap[b]? = some (.cells cur 31 (0, 0))) (hcs : cur.size = c * 3) (ht : cur.toList.take (l.length * 3) = cells31 l)
    (hx : w.heap[vb]? = some (.cells #[.int .i64 x.f0, .int .i64 x.f1, .int .i64 x.f2] 31 (0, 0))) :
    Calls Tryd.prog 33 #[.slice (some ⟨b, 0, none⟩) l.length c, .int .i64 i, .slice (some ⟨vb, 0, none⟩) 1 1] w fun e w' => ∃ v', e = .returned v' ∧ Kd.R k31 31 w' base (fun _ => True) v' (l.take i ++ x :: l.drop i) ∧ Below base w0 w' := by
  obtain ⟨i0, hi0, hzz⟩ := Option.map_eq_some_iff.1 info31
  simp only [Prod.mk.injEq] at hzz
  obtain ⟨hz0, hz1, hz2⟩ := hzz
  have hsz31 : (Tryd.prog.info? 31).map (·.size) = some 3 := by rw [hi0]; simp [hz1]
  have hz31 : ∀ w, (Go.sizeOf 31).run Tryd.prog w = .ok 3 w := fun w => by simp [Go.sizeOf, typeInfo, hi0, hz1]
  have hov : ∀ lb cb, (callFunc 50 #[.slice (some ⟨vb, 0, none⟩) 1 1, .slice (some ⟨b, (i + 1) * 3, none⟩) lb cb]).run Tryd.prog w = .ok (.value (.bool false)) w := fun lb cb => by
    rw [run_callFunc_extern Tryd.func50 (by kernel_rfl) (by kernel_rfl) (by kernel_rfl) (e := Extern.SlicesOverlaps.overlaps #[23, 23] #[4]) (by kernel_rfl),
      Lib.run_overlaps_apart w 23 4 31 Tryd.underlying23 3 hz31 ⟨vb, 0, none⟩ ⟨b, (i + 1) * 3, none⟩ 1 1 lb cb hne 31 31 3 (c * 3) (by simp [World.shape?, hx]) (by simp [World.shape?, hb, hcs]) (by omega) (by simp [World.frozen?, hx]) (by simp [World.frozen?, hx])]
    rfl
  have hdl : (l.drop i).length = l.length - i := List.length_drop
  have hmax : c ≤ 9223372036854775807 := by unfold maxLen at hcm; omega
  have hcp1 : ∀ ty dl dc sl sc, dl = l.length - i → dl ≤ sl → (Builtin.copy_ #[23, 23] ty #[.slice (some ⟨b, (i + 1) * 3, none⟩) dl dc, .slice (some ⟨b, i * 3, none⟩) sl sc]).run Tryd.prog w.drew = .ok (goInt (l.length - i : Nat)) (w.drew.setRow b (splice cur.toList ((i + 1) * 3) (cells31 (l.drop i))).toArray) := fun ty dl dc sl sc h1 h2 =>
    run_copy_rowZ w.drew 23 23 ty 31 3 b ((i + 1) * 3) dl dc ⟨b, i * 3, none⟩ sl sc (l.length - i) cur.toList 31 (cells31 (l.drop i)) Tryd.underlying23 hsz31 (by rw [Array.toArray_toList]; exact hb) (by simp only [Nat.min_def]; split <;> omega) (by rw [cells31_length, hdl])
      (read31 (w := w.drew) hb _ (read31_drop i ht)) (by rw [cells31_length, hdl]; simp only [Array.length_toList] at hcs ⊢; omega) (cells31_one _)
  obtain ⟨r1, hr1⟩ : ∃ r1, splice cur.toList ((i + 1) * 3) (cells31 (l.drop i)) = r1 := ⟨_, rfl⟩
  rw [hr1] at hcp1
  obtain ⟨W1, hW1⟩ : ∃ W1, w.drew.setRow b r1.toArray = W1 := ⟨_, rfl⟩
  rw [hW1] at hcp1
  have hr1l : r1.length = c * 3 := by rw [← hr1, length_splice _ _ _ (by rw [cells31_length, hdl]; simp only [Array.length_toList] at hcs ⊢; omega)]; simpa using hcs
  have hg1 : W1.heap[b]? = some (.cells r1.toArray 31 (0, 0)) := by rw [← hW1]; exact setRow_heap w.drew b _ _ 31 _ hb
  have hx1 : W1.heap[vb]? = some (.cells #[.int .i64 x.f0, .int .i64 x.f1, .int .i64 x.f2] 31 (0, 0)) := by rw [← hW1, setRow_other w.drew b vb _ (by omega)]; exact hx
  have hB1 : Below base w0 W1 := by rw [← hW1]; exact below_setRow HB.drew hbb _
  clear hW1
  have hcp2 : ∀ ty dl dc, 1 ≤ dl → (Builtin.copy_ #[23, 23] ty #[.slice (some ⟨b, i * 3, none⟩) dl dc, .slice (some ⟨vb, 0, none⟩) 1 1]).run Tryd.prog W1 = .ok (goInt 1) (W1.setRow b (splice r1 (i * 3) (cells31 [x])).toArray) := fun ty dl dc hdl =>
    run_copy_rowZ W1 23 23 ty 31 3 b (i * 3) dl dc ⟨vb, 0, none⟩ 1 1 1 r1 31 (cells31 [x]) Tryd.underlying23 hsz31 hg1 (by simp only [Nat.min_def]; split <;> omega) rfl (read31 hx1 [x] rfl) (by simp [cells31]; omega) (cells31_one _)
  obtain ⟨W2, hW2⟩ : ∃ W2, W1.setRow b (splice r1 (i * 3) (cells31 [x])).toArray = W2 := ⟨_, rfl⟩
  rw [hW2] at hcp2
  have hg2 : W2.heap[b]? = some (.cells (splice r1 (i * 3) (cells31 [x])).toArray 31 (0, 0)) := by rw [← hW2]; exact setRow_heap W1 b _ _ 31 _ hg1
  have HB2 : Aside0 (Below base w0 W2) := Aside0.mk (by rw [← hW2]; exact below_setRow hB1 hbb _)
  have HR : Aside0 (Kd.R k31 31 W2 base (fun _ => True) (.slice (some ⟨b, 0, none⟩) (l.length + 1) c) (l.take i ++ x :: l.drop i)) := by
    have hln : (l.take i ++ x :: l.drop i).length = l.length + 1 := by rw [List.length_append, List.length_take, List.length_cons, hdl]; omega
    refine Aside0.mk (R31_mk ⟨cells31_length _, .inr ⟨b, c, _, by rw [hln], by omega, hg2, by omega, hcm, ?_, ?_⟩⟩ (fun _ _ => trivial))
    · simp only [List.size_toArray]
      rw [length_splice _ _ _ (by simp [cells31]; omega), hr1l]
    · have e := splice2_back cur.toList (cells31 [x]) (cells31 (l.drop i)) (i * 3) ((i + 1) * 3) (by simp [cells31]; omega) (by rw [cells31_length, hdl]; simp only [Array.length_toList] at hcs ⊢; omega)
      rw [hr1, cells31_length, hdl] at e
      rw [show (l.take i ++ x :: l.drop i).length * 3 = (i + 1) * 3 + (l.length - i) * 3 by rw [hln]; omega]
      show List.take _ (splice r1 (i * 3) (cells31 [x])) = _
      have ht2 : cur.toList.take (i * 3) = cells31 (l.take i) := by
        rw [← cells31_take, ← ht, List.take_take, Nat.min_eq_left (by omega)]
      rw [e, ht2, ← cells31_append, ← cells31_append]
      rfl
  clear hW2 hg2 hB1 hx1 hg1 hr1l hr1 hx ht hcs hb HB
  have mixed : Tryd.prog.follows Departure.mixedOrders = true := by kernel_rfl
  have hw1 : IntKind.i64.wrap ((i : Int) + 1) = (i : Int) + 1 := by rw [IntKind.wrap_i64]; omega
  have htn : ((i : Int) + 1).toNat = i + 1 := by omega
  have hn0 : (0 : Int) ≤ (i : Int) + 1 := by omega
  have hnm : (i : Int) + 1 ≤ (l.length : Int) + 1 := by omega
  have hnc : (l.length : Int) + 1 ≤ (c : Int) := by omega
  have hne1 : ¬ (c = i + 1) := by omega
  have hne2 : ¬ (l.length = i) := by omega
  have hne3 : ¬ (c = i) := by omega
  have hle1 : (i : Int) ≤ (l.length : Int) := by omega
  have hle2 : (i : Int) ≤ (l.length : Int) + 1 := by omega
  go_enter Tryd.func33, Tryd.ntmps33
  go_wp2_with (simp only [hov])
  go_region_law_o (refine step_copy_run rfl (.tmp 73) (.tmp 76) 23 23 rfl (.slice (some ⟨b, (i + 1) * 3, none⟩) (l.length + 1 - (i + 1)) (c - (i + 1))) (.slice (some ⟨b, i * 3, none⟩) (l.length + 1 - i) (c - i)) ?hd ?hx (hcp1 3 (l.length + 1 - (i + 1)) (c - (i + 1)) (l.length + 1 - i) (c - i) (by omega) (by omega)) ?_; (case hd => (simp [Act.eval, Act.put])); (case hx => (simp [Act.eval, Act.put])))
  go_wp2_with ((with_reducible refine gate_builtin (b := .copy) (xs := #[.tmp 80, .tmp 81]) rfl ?_); (refine wpList_copy_run rfl (.tmp 80) (.tmp 81) 23 23 rfl _ _ rfl rfl (hcp2 _ _ _ (by omega)) ?_))
  go_ret
  exact ⟨_, rfl, HR.out, HB2.out⟩
/-- slices.Insert(s, i, x): s is a row of the call's own, or nil. -/
theorem span_Insert (base : Nat) (w0 w : World) (HB : Below base w0 w) (hbase : base ≤ w.heap.size) (v : Value) (l : List S31) (i : Nat) (x : S31) (vb : Nat) (hsz : (l.length + 1) * 24 ≤ 140737488355328) (hi : i ≤ l.length)
    (ho : Kd.R k31 31 w base (fun _ => True) v l) (hx : w.heap[vb]? = some (.cells #[.int .i64 x.f0, .int .i64 x.f1, .int .i64 x.f2] 31 (0, 0))) (hne : some vb ≠ v.ownBlock) :
    Calls Tryd.prog 33 #[v, .int .i64 i, .slice (some ⟨vb, 0, none⟩) 1 1] w fun e w' => ∃ v', e = .returned v' ∧ Kd.R k31 31 w' base (fun _ => True) v' (l.take i ++ x :: l.drop i) ∧ Below base w0 w' := by
  by_cases hin : i = l.length
  · subst hin
    rw [List.take_length, List.drop_length]
    exact span_Insert_end base w0 w HB hbase v l x vb hsz ho hx
  · rcases (R31_own ho).2 with ⟨_, h0⟩ | ⟨b, c, cur, rfl, hbb, hb, hnc, hcm, hcs, ht⟩
    · omega
    · by_cases hc : l.length + 1 ≤ c
      · exact span_Insert_shift base w0 w HB l i x vb b c cur (by omega) hc hcm hbb (fun e => hne (by rw [e]; rfl)) hb hcs ht hx
      · exact span_Insert_grow base w0 w HB hbase l i x vb b c cur hsz (by omega) (by omega) hb hcs ht hx
theorem world3 {w W : World} {o0 o1 o2 : Obj} (hW : ((w.alloc o0).alloc o1).alloc o2 = W) : W.heap[w.heap.size]? = some o0 ∧ W.heap[w.heap.size + 1]? = some o1 ∧ W.heap[w.heap.size + 1 + 1]? = some o2 ∧ Below w.heap.size w W := by
  subst hW
  refine ⟨blk_alloc (blk_alloc (blk_new _ _) _) _, ?_, ?_, below_alloc (below_alloc (below_alloc (Below.refl _ _) _) _) _⟩
  · have := blk_alloc (blk_new (w.alloc o0) o1) o2
    simpa using this
  · have := blk_new ((w.alloc o0).alloc o1) o2
    simpa using this
theorem R31_fresh {w : World} {base : Nat} {ok : Nat → Prop} {v : Value} {l : List S31} (h : Kd.R k31 31 w base ok v l) : some w.heap.size ≠ v.ownBlock := fun e => by
  have := (R31_own h).lt _ e.symm
  omega
theorem R31_elder {w : World} {base g : Nat} {ok : Nat → Prop} {v : Value} {l : List S31} (h : Kd.R k31 31 w base ok v l) (hg : g < base) : some g ≠ v.ownBlock := fun e => by
  have := (R31_own h).lt _ e.symm
  omega
theorem R31_set {w : World} {base g : Nat} {ok : Nat → Prop} {v : Value} {l : List S31} (h : Kd.R k31 31 w base ok v l) (hg : g < base) (j : Nat) (u : Value) : Kd.R k31 31 (w.setCell ⟨g, j, none⟩ u) base ok v l :=
  Kd.R_mono (Kd.R_far (p := ⟨g, j, none⟩) (Kd.R_bound h) (fun k hk => by show k ≠ g; omega) u) (fun _ hk => hk.1)
end Go.Proofs.YthickfehldjgdaaDoor.X
