/- Digits: both texts. -/
import Derived.Test.YtemloifpcjphkaaDoorBasic
namespace Go.Proofs.YtemloifpcjphkaaDoor
open Go.RowKit
def digitB (n : Int) : Bool := decide (48 ≤ n) && decide (n ≤ 57)

theorem isDigit_any (n : Int) (w : World) :
    Calls Tryd.prog 70 #[.int .u8 n] w fun e w' => e = .returned (.bool (digitB n)) ∧ w = w' := by
  by_cases h1 : 48 ≤ n <;> by_cases h2 : n ≤ 57
  all_goals
    go_enter Tryd.func70, Tryd.ntmps70
    go_wp2
    go_ret
    exact ⟨ret_bool (by simp [digitB, *]), rfl⟩
theorem isDigit_is {n : Int} {b : Bool} (h : digitB n = b) (w : World) :
    Calls Tryd.prog 70 #[.int .u8 n] w fun e w' => e = .returned (.bool b) ∧ w = w' := by rw [← h]; exact isDigit_any n w

theorem l01Digit_any (n : Int) (w : World) :
    Calls Tryd.prog 49 #[.int .u8 n] w fun e w' => e = .returned (.bool (digitB n)) ∧ w = w' := by
  by_cases h1 : 48 ≤ n <;> by_cases h2 : n ≤ 57
  all_goals
    go_enter Tryd.func49, Tryd.ntmps49
    go_wp2
    go_ret
    exact ⟨ret_bool (by simp [digitB, *]), rfl⟩
theorem l01Digit_is {n : Int} {b : Bool} (h : digitB n = b) (w : World) :
    Calls Tryd.prog 49 #[.int .u8 n] w fun e w' => e = .returned (.bool b) ∧ w = w' := by rw [← h]; exact l01Digit_any n w
end Go.Proofs.YtemloifpcjphkaaDoor
