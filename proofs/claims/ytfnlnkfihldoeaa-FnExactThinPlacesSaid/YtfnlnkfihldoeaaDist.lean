/- Distances, least and greatest of two numbers: both texts. -/
import Derived.Test.YtfnlnkfihldoeaaBasic
namespace Go.Proofs.Ytfnlnkfihldoeaa
open Go.RowKit

def distI (a b : Int) : Int := if a < b then b - a else a - b
theorem distI_bd {a b m : Int} (a1 : -m ≤ a) (a2 : a ≤ m) (b1 : -m ≤ b) (b2 : b ≤ m) : 0 ≤ distI a b ∧ distI a b ≤ 2 * m := by unfold distI; split <;> omega
theorem distance_any (a b : Int) (w : World) (a1 : -1000000000000 ≤ a) (a2 : a ≤ 1000000000000) (b1 : -1000000000000 ≤ b) (b2 : b ≤ 1000000000000) :
    Calls Try.prog 52 #[.int .i64 a, .int .i64 b] w fun e w' => e = .returned (.int .i64 (distI a b)) ∧ w = w' := by
  by_cases h : a < b
  · have hr := Lib.hid (show distI a b = b - a by rw [distI, if_pos h])
    go_enter Try.func52, Try.ntmps52
    go_wp2
    go_ret
    exact ⟨ret_int hr.out.symm, rfl⟩
  · have hr := Lib.hid (show distI a b = a - b by rw [distI, if_neg h])
    by_cases h2 : a = b
    · subst h2
      go_enter Try.func52, Try.ntmps52
      go_wp2
      go_ret
      exact ⟨ret_int (by rw [hr.out]; omega), rfl⟩
    · have h3 : b < a := by omega
      clear h2
      go_enter Try.func52, Try.ntmps52
      go_wp2
      go_ret
      exact ⟨ret_int hr.out.symm, rfl⟩

theorem l03Abs_any (a b : Int) (w : World) (a1 : -1000000000000 ≤ a) (a2 : a ≤ 1000000000000) (b1 : -1000000000000 ≤ b) (b2 : b ≤ 1000000000000) :
    Calls Try.prog 51 #[.int .i64 a, .int .i64 b] w fun e w' => e = .returned (.int .i64 (distI a b)) ∧ w = w' := by
  by_cases h : b - a < a - b
  · have hr := Lib.hid (show distI a b = a - b by rw [distI, if_neg (by omega)])
    go_enter Try.func51, Try.ntmps51
    go_wp2
    go_ret
    exact ⟨ret_int hr.out.symm, rfl⟩
  · have hr := Lib.hid (show distI a b = b - a by unfold distI; split <;> omega)
    go_enter Try.func51, Try.ntmps51
    go_wp2
    go_ret
    exact ⟨ret_int hr.out.symm, rfl⟩


def mxI (a b : Int) : Int := if b < a then a else b
def mnI (a b : Int) : Int := if a < b then a else b
theorem l00Max_any (a b : Int) (w : World) :
    Calls Try.prog 50 #[.int .i64 a, .int .i64 b] w fun e w' => e = .returned (.int .i64 (mxI a b)) ∧ w = w' := by
  by_cases h : b < a
  all_goals
    have hr := Lib.hid (show mxI a b = if b < a then a else b from rfl)
    go_enter Try.func50, Try.ntmps50
    go_wp2
    go_ret
    exact ⟨ret_int (by rw [hr.out]; split <;> omega), rfl⟩
theorem l00Min_any (a b : Int) (w : World) :
    Calls Try.prog 58 #[.int .i64 a, .int .i64 b] w fun e w' => e = .returned (.int .i64 (mnI a b)) ∧ w = w' := by
  by_cases h : a < b
  all_goals
    have hr := Lib.hid (show mnI a b = if a < b then a else b from rfl)
    go_enter Try.func58, Try.ntmps58
    go_wp2
    go_ret
    exact ⟨ret_int (by rw [hr.out]; split <;> omega), rfl⟩
end Go.Proofs.Ytfnlnkfihldoeaa
