/-
  The rows of layer 17: the two tables' world; a slice of pieces that came in.
-/
import Derived.Test.YthickfehldjgdaaDoorCards
import Derived.Test.YthickfehldjgdaaDoorTie
import Derived.Test.YthickfehldjgdaaDoorE1
import Derived.Test.YthickfehldjgdaaDoorE4c
import Derived.WalkKit
import Derived.ProofKit
import Derived.OpenShut
import Derived.Deep.DeepHandedRow
import Derived.Deep.DeepWitnessRowRef
import Derived.Deep.SlicePairs
import Derived.Lib.LaidIn
import Derived.Lib.LaidU8T
namespace Go.Proofs.YthickfehldjgdaaDoor.X
open Go.RowKit Go.Proofs.YthickfehldjgdaaDoorW.PrintWords Go.Proofs.YthickfehldjgdaaDoorW.PrintLast
open Go.ChangeShapes Go.WideShapes Go.ChangeAt
theorem own17 : ownKnob Tryd.prog.godebug = none := by kernel_rfl
theorem laidOut17 : laidOutB Tryd.prog = true := by kernel_rfl
/-- The settled world, the two variables holding what their initialisers lay. -/
noncomputable def laidWorld (os : Os) : World :=
  let w0 := World.holding Tryd.prog os ⟨#[], #[], []⟩
  let put (h : Array Obj) (g : Nat) (cs : Array Value) : Array Obj := h.modify g fun
    | .cells _ t frozen => .cells cs t frozen
    | o => o
  let h1 := put w0.heap 0 (Lib.firstTab.map fun z => Value.int .u8 z).toArray
  let h2 := put h1 1 ((List.range 16).flatMap fun i => [Value.int .u8 (Lib.accLo i), Value.int .u8 (Lib.accHi i)]).toArray
  { w0 with heap := h2 }
def laid17 : List (String × DataW Unit) := [("unicode/utf8.acceptRanges", Lib.acceptData), ("unicode/utf8.first", Lib.firstData)]
theorem laid17_met (os : Os) (args : Array Value) : laidMet Tryd.prog laid17 ((laidWorld os).forCall (fun _ _ => 0) ⟨#[], args, []⟩).memory :=
  (LaidIn.of_run (l := [("unicode/utf8.acceptRanges", Lib.acceptData), ("unicode/utf8.first", Lib.firstData)]) [1, 0] 8 (by kernel_rfl) (by kernel_rfl) (by kernel_rfl) (by kernel_rfl)).met
theorem tabs17 {W : World} (hL : laidMet Tryd.prog laid17 W) : Tabs_ W :=
  Go.Proofs.utf8Tabs_of_readsT (Go.Proofs.U8Types.of196 Go.Proofs.Tryd.laysValid) ⟨by kernel_rfl, by kernel_rfl, by kernel_rfl, by kernel_rfl, by kernel_rfl, by kernel_rfl, by kernel_rfl⟩ (Lib.laidMet.reads hL (.tail _ (.head _))) (Lib.laidMet.reads hL (.head _))
theorem cells43c : Tryd.prog.cellsOf 43 = 2 := by kernel_rfl
theorem cells9c : Tryd.prog.cellsOf 9 = 1 := by kernel_rfl
theorem cells3c : Tryd.prog.cellsOf 3 = 1 := by kernel_rfl
/-- How a piece reads. -/
def dat43 {H : Type} (q : S43) : DataW H := .agg [.lit (.string q.f0.data.toList), .lit (.int .i64 q.f1)]
theorem bulk43 {H : Type} (l : List S43) : total l + l.length ≤ Rows.uptoBulkAll (l.map (dat43 (H := H))) := by
  induction l with
  | nil => simp [total, Rows.uptoBulkAll]
  | cons q r ih =>
    have e : q.f0.data.toList.length = q.f0.size := by rw [Array.length_toList]; rfl
    have ht : total (q :: r) = q.f0.size + total r := by simp [total]
    rw [List.map_cons, Rows.uptoBulkAll, ht, List.length_cons]
    have hb : q.f0.size + 1 ≤ Rows.uptoBulk (dat43 (H := H) q) := by
      simp only [dat43, Rows.uptoBulkAll, Rows.uptoBulk]
      omega
    omega
theorem open_pieces {H : Type} {enc : TypeId × Value → H} {W : World} {v : Value} {d : DataW H} {p : List MemPlace} (h0 : DataW.Trod enc Tryd.prog W 0 (fun _ => true) true 22 v d p) (hs : ∃ A n c, v = .slice A n c) :
    ∃ A c l0, v = .slice A l0.length c ∧ l0.length ≤ c ∧ Kd.C k43 W A l0.length l0 ∧ total l0 + l0.length ≤ Rows.uptoBulk d := by
  obtain ⟨A, n, c, rfl⟩ := hs
  obtain ⟨fuel, hf⟩ := h0
  rcases Go.Deep.open_slice_pairs Tryd.underlying22 Tryd.underlying43 cells43c rfl rfl cells9c cells3c hf with ⟨hcs, _⟩ | ⟨a, len, cap, m, k, V0, V1, D0, D1, P0, P1, hcs, _, hl, hm, hmm, hx, hc⟩
  · simp [Value.cells] at hcs
    obtain ⟨rfl, rfl, rfl⟩ := hcs
    exact ⟨none, 0, [], rfl, Nat.le_refl _, Kd.C_nil k43 W, by simp [total]⟩
  · simp [Value.cells] at hcs
    obtain ⟨rfl, rfl, rfl⟩ := hcs
    simp at hmm
    subst hmm
    have key : ∀ i, i < m → ∃ (s : ByteArray) (z : Int), V0 i = .string s ∧ V1 i = .int .i64 z ∧ D0 i = .lit (.string s.data.toList) ∧ D1 i = .lit (.int .i64 z) := by
      intro i hi
      obtain ⟨_, _, e0, e1⟩ := hc i hi
      obtain ⟨s, f1, f2, _⟩ := DataW.trod_string Tryd.underlying9 e0
      obtain ⟨z, g1, g2, _⟩ := DataW.trod_int Tryd.underlying3 e1
      simp only [List.cons.injEq, and_true] at f1 g1
      simp only [Prod.mk.injEq] at f2 g2
      exact ⟨s, z, f1, g1, f2.1, g2.1⟩
    obtain ⟨L, hL⟩ : ∃ L : Nat → S43, ∀ i, i < m → V0 i = .string (L i).f0 ∧ V1 i = .int .i64 (L i).f1 ∧ D0 i = .lit (.string (L i).f0.data.toList) ∧ D1 i = .lit (.int .i64 (L i).f1) := by
      refine ⟨fun i => if hi : i < m then ⟨(key i hi).choose, (key i hi).choose_spec.choose⟩ else z43, fun i hi => ?_⟩
      simp only [dif_pos hi]
      exact (key i hi).choose_spec.choose_spec
    have hln : ((List.range n).map L).length = n := by simp
    refine ⟨some a, m, (List.range n).map L, by rw [hln], by rw [hln]; exact hl, ?_, ?_⟩
    · rw [hln]
      refine ⟨hln, by unfold maxLen at hm; omega, fun hn => ⟨a, rfl, fun j q hj => ?_⟩⟩
      have hjn : j < n := by
        have := (List.getElem?_eq_some_iff.1 hj).1
        simpa using this
      have hq : L j = q := by simpa [hjn] using hj
      obtain ⟨c0, c1, _, _⟩ := hc j (by omega)
      obtain ⟨f0, f1, _, _⟩ := hL j (by omega)
      rw [f0, hq] at c0
      rw [f1, hq] at c1
      refine ⟨[.string q.f0, .int .i64 q.f1], rfl, k43_mk W q, fun i u hu => ?_⟩
      match i, hu with
      | 0, hu =>
        simp at hu
        subst hu
        exact c0
      | 1, hu =>
        simp at hu
        subst hu
        exact c1
      | i + 2, hu => simp at hu
    · simp only [Prod.mk.injEq] at hx
      rw [hx.1]
      have he : (List.range n).map (fun i => (DataW.agg [D0 i, D1 i] : DataW H)) = ((List.range n).map L).map dat43 := by
        rw [List.map_map]
        refine List.map_congr_left (fun i hi => ?_)
        have hin : i < n := List.mem_range.1 hi
        obtain ⟨_, _, f2, f3⟩ := hL i (by omega)
        rw [f2, f3]
        rfl
      have hb := bulk43 (H := H) ((List.range n).map L)
      simp only [Rows.uptoBulk]
      rw [he]
      omega
end Go.Proofs.YthickfehldjgdaaDoor.X
