/- The value on a line through two points: both texts of it. -/
import Derived.Test.YtfmbmgdemdbpaaaGreatDoorDiv
namespace Go.Proofs.YtfmbmgdemdbpaaaGreatDoor
open Go.RowKit

def lineI (x0 y0 x1 y1 x : Int) : Int := if x ≤ x0 ∨ x1 ≤ x0 then y0 else if x1 ≤ x then y1 else y0 + rnd ((y1 - y0) * (x - x0)) (x1 - x0)
theorem line_bd {y d : Int} (h1 : -2000000 ≤ y) (h2 : y ≤ 2000000) (h3 : 0 ≤ d) (h4 : d ≤ 2000000) : -4000000000000 ≤ y * d ∧ y * d ≤ 4000000000000 := by
  have a1 : -2000000 * d ≤ y * d := Int.mul_le_mul_of_nonneg_right h1 h3
  have a2 : y * d ≤ 2000000 * d := Int.mul_le_mul_of_nonneg_right h2 h3
  omega

end Go.Proofs.YtfmbmgdemdbpaaaGreatDoor
