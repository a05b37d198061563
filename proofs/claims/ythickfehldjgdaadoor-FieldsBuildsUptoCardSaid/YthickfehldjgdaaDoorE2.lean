import Derived.Test.YthickfehldjgdaaDoorE1
import Derived.Outline
namespace Go.Proofs.YthickfehldjgdaaDoor.X
open Go.RowKit Go.Proofs.YthickfehldjgdaaDoorW.PrintWords Go.Proofs.YthickfehldjgdaaDoorW.PrintLast
set_option maxHeartbeats 400000
/-- Is n a place of s: its end, or where a byte stands that begins a rune. -/
def isPlace (s : ByteArray) (n : Int) : Bool := decide (0 ≤ n) && (n == (s.size : Int) || decide (n < (s.size : Int)) && Lib.runeStart (bt s n))

theorem st1 (n : Int) (B : Nat) (s : ByteArray) (w : World) (hc : w.cell? ⟨B, 0, none⟩ = some (.string s)) (r : Bool) (hr : isPlace s n = r) :
    Calls Tryd.prog 45 #[.int .i64 n, .pointer (some ⟨B, 0, none⟩)] w fun e w' => e = .returned (.bool r) ∧ w' = w := by
  unfold isPlace at hr
  by_cases h0 : 0 ≤ n
  · by_cases h1 : n = (s.size : Int)
    · have h1b : (n == (s.size : Int)) = true := by simp [h1]
      obtain rfl : r = true := by rw [← hr, h1b]; simp [h0]
      clear hr
      go_enter Tryd.func45, Tryd.ntmps45
      go_wp2_with fail
      go_ret
      exact ⟨rfl, rfl⟩
    · have h1b : (n == (s.size : Int)) = false := by simp [h1]
      by_cases h2 : n < (s.size : Int)
      · have hb := bt_range s n
        obtain rfl : r = Lib.runeStart (bt s n) := by rw [← hr, h1b]; simp [h0, h2]
        clear hr
        have hbt := bt_at s n (by omega)
        have hcon := fun W => Tryd.utf8_RuneStart (bt s n) W (by omega) (by omega)
        generalize Lib.runeStart (bt s n) = q at hcon ⊢
        go_enter Tryd.func45, Tryd.ntmps45
        go_wp2_with fail
        refine (hcon _).mono ?_
        rintro e w' ⟨rfl, rfl⟩
        go_wp2_with fail
        go_ret
        exact ⟨rfl, rfl⟩
      · have h2b : decide (n < (s.size : Int)) = false := by simp; omega
        obtain rfl : r = false := by rw [← hr, h1b, h2b]; simp
        clear hr
        go_enter Tryd.func45, Tryd.ntmps45
        go_wp2_with fail
        go_ret
        exact ⟨rfl, rfl⟩
  · obtain rfl : r = false := by rw [← hr]; simp [h0]
    clear hr
    go_enter Tryd.func45, Tryd.ntmps45
    go_wp2_with fail
    go_ret
    exact ⟨rfl, rfl⟩

def fields_stretch.f (a0 : ByteArray) (a1 a2 : Int) : Option Bool := some (isPlace a0 a1 && isPlace a0 a2 && decide (a1 < a2))
theorem fields_stretch.calls (a0 : ByteArray) (a1 a2 : Int) (r : Bool) (w : World) (h : fields_stretch.f a0 a1 a2 = some r) :
    Calls Tryd.prog 27 #[.string a0, .int .i64 a1, .int .i64 a2] w fun e w' => e = .returned (.bool r) ∧ Below w.heap.size w w' := by
  obtain rfl := Option.some.inj h
  clear h
  obtain ⟨p, hp⟩ : ∃ p, isPlace a0 a1 = p := ⟨_, rfl⟩
  obtain ⟨q, hq⟩ : ∃ p, isPlace a0 a2 = p := ⟨_, rfl⟩
  have c1 := fun W (hW : W.cell? ⟨w.heap.size, 0, none⟩ = some (.string a0)) => st1 a1 w.heap.size a0 W hW p hp
  have c2 := fun W (hW : W.cell? ⟨w.heap.size, 0, none⟩ = some (.string a0)) => st1 a2 w.heap.size a0 W hW q hq
  have C1 := Aside0.mk c1
  have C2 := Aside0.mk c2
  clear c1 c2
  rw [hp, hq]
  clear hp hq
  cases p
  · go_enter Tryd.func27, Tryd.ntmps27
    go_wp2_with fail
    refine (C1.out _ (by simp)).mono ?_
    rintro e w' ⟨rfl, rfl⟩
    go_wp2_with fail
    go_ret
    exact ⟨rfl, below_alloc (Below.refl _ _) _⟩
  · cases q
    · go_enter Tryd.func27, Tryd.ntmps27
      go_wp2_with fail
      refine (C1.out _ (by simp)).mono ?_
      rintro e w' ⟨rfl, rfl⟩
      go_wp2_with fail
      refine (C2.out _ (by simp)).mono ?_
      rintro e w' ⟨rfl, rfl⟩
      go_wp2_with fail
      go_ret
      exact ⟨rfl, below_alloc (Below.refl _ _) _⟩
    · go_enter Tryd.func27, Tryd.ntmps27
      go_wp2_with fail
      refine (C1.out _ (by simp)).mono ?_
      rintro e w' ⟨rfl, rfl⟩
      go_wp2_with fail
      refine (C2.out _ (by simp)).mono ?_
      rintro e w' ⟨rfl, rfl⟩
      go_wp2_with fail
      go_ret
      exact ⟨by simp, below_alloc (Below.refl _ _) _⟩
end Go.Proofs.YthickfehldjgdaaDoor.X
