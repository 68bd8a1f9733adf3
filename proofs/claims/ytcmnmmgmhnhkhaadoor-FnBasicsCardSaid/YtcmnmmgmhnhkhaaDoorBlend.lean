/- The value on a line through two points: both texts of it. -/
import Derived.Test.YtcmnmmgmhnhkhaaDoorDiv
namespace Go.Proofs.YtcmnmmgmhnhkhaaDoor
open Go.RowKit

def lineI (x0 y0 x1 y1 x : Int) : Int := if x ≤ x0 ∨ x1 ≤ x0 then y0 else if x1 ≤ x then y1 else y0 + rnd ((y1 - y0) * (x - x0)) (x1 - x0)
theorem line_bd {y d : Int} (h1 : -2000000 ≤ y) (h2 : y ≤ 2000000) (h3 : 0 ≤ d) (h4 : d ≤ 2000000) : -4000000000000 ≤ y * d ∧ y * d ≤ 4000000000000 := by
  have a1 : -2000000 * d ≤ y * d := Int.mul_le_mul_of_nonneg_right h1 h3
  have a2 : y * d ≤ 2000000 * d := Int.mul_le_mul_of_nonneg_right h2 h3
  omega

theorem blend_any (x0 y0 x1 y1 x : Int) (w : World) (a1 : -1000000 ≤ x0) (a2 : x0 ≤ 1000000) (b1 : -1000000 ≤ y0) (b2 : y0 ≤ 1000000) (c1 : -1000000 ≤ x1) (c2 : x1 ≤ 1000000) (d1 : -1000000 ≤ y1) (d2 : y1 ≤ 1000000) :
    Calls Tryd.prog 38 #[.int .i64 x0, .int .i64 y0, .int .i64 x1, .int .i64 y1, .int .i64 x] w fun e w' => e = .returned (.int .i64 (lineI x0 y0 x1 y1 x)) ∧ w = w' := by
  by_cases h1 : x ≤ x0
  · go_enter Tryd.func38, Tryd.ntmps38
    go_wp2
    go_ret
    exact ⟨ret_int (by unfold lineI; rw [if_pos (.inl h1)]), rfl⟩
  · by_cases h2 : x1 ≤ x0
    · go_enter Tryd.func38, Tryd.ntmps38
      go_wp2
      go_ret
      exact ⟨ret_int (by unfold lineI; rw [if_pos (.inr h2)]), rfl⟩
    · have h3 : ¬ (x ≤ x0 ∨ x1 ≤ x0) := by omega
      by_cases h4 : x1 ≤ x
      · have hr := Lib.hid (show lineI x0 y0 x1 y1 x = y1 by unfold lineI; rw [if_neg h3, if_pos h4])
        clear h3
        go_enter Tryd.func38, Tryd.ntmps38
        go_wp2
        go_ret
        exact ⟨ret_int hr.out.symm, rfl⟩
      · have hr := Lib.hid (show lineI x0 y0 x1 y1 x = y0 + rnd ((y1 - y0) * (x - x0)) (x1 - x0) by unfold lineI; rw [if_neg h3, if_neg h4])
        clear h3
        have p := line_bd (y := y1 - y0) (d := x - x0) (by omega) (by omega) (by omega) (by omega)
        have q := rnd_bd ((y1 - y0) * (x - x0)) (x1 - x0) 4000000000000 (by omega) p.1 p.2
        go_enter Tryd.func38, Tryd.ntmps38
        go_wp2_with (go_at_call 36; refine (divRound_any _ _ _ (by omega) (by omega) (by omega) (by omega) (by omega)).mono ?_; rintro e w' ⟨rfl, rfl⟩)
        go_ret
        exact ⟨ret_int hr.out.symm, rfl⟩

end Go.Proofs.YtcmnmmgmhnhkhaaDoor
