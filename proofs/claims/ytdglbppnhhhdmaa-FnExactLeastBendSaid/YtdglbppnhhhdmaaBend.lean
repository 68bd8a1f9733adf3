/- Bending: the ranges of thickness and heat, and the number of steps. -/
import Derived.Test.YtdglbppnhhhdmaaBasic
namespace Go.Proofs.Ytdglbppnhhhdmaa
open Go.RowKit

theorem isBend_any (t h : Int) (w : World) :
    Calls Try.prog 48 #[.int .i64 t, .int .i64 h] w fun e w' => e = .returned (.bool (inB t 1 100 && inB h 1 1000)) ∧ w = w' := by
  cases h1 : inB t 1 100 <;> cases h2 : inB h 1 1000
  all_goals
    go_enter Try.func48, Try.ntmps48
    go_wp2_with (go_at_call 40; refine (within_any _ _ _ _).mono ?_; rintro e w' ⟨rfl, rfl⟩)
    go_ret
    exact ⟨rfl, rfl⟩

theorem l06Bend_any (t h : Int) (w : World) :
    Calls Try.prog 46 #[.int .i64 t, .int .i64 h] w fun e w' => e = .returned (.bool (inB t 1 100 && inB h 1 1000)) ∧ w = w' := by
  cases h1 : inB t 1 100 <;> cases h2 : inB h 1 1000
  all_goals
    go_enter Try.func46, Try.ntmps46
    go_wp2_with (go_at_call 39; refine (in_any _ _ _ _).mono ?_; rintro e w' ⟨rfl, rfl⟩)
    go_ret
    exact ⟨rfl, rfl⟩

/-- the number of steps, of a quotient and a heat -/
def stepsOf (q h : Int) : Int := if q - h ≤ 0 then 0 else (q - h + 9) / 10

theorem quo_bd (t r : Int) (h1 : 1 ≤ r) (h3 : 1 ≤ t) (h4 : t ≤ 100) : 0 ≤ t * 1000 / r ∧ t * 1000 / r ≤ 100000 := by
  refine ⟨Int.ediv_nonneg (by omega) (by omega), ?_⟩
  have := Int.ediv_le_self (a := t * 1000) r (by omega)
  omega

theorem bendSteps_any (r t h : Int) (w : World) (h1 : 1 ≤ r) (h2 : r ≤ 10000) (h3 : 1 ≤ t) (h4 : t ≤ 100) (h5 : 1 ≤ h) (h6 : h ≤ 1000) :
    Calls Try.prog 49 #[.int .i64 r, .int .i64 t, .int .i64 h] w fun e w' => e = .returned (.int .i64 (stepsOf (t * 1000 / r) h)) ∧ w = w' := by
  obtain ⟨q1, q2⟩ := quo_bd t r h1 h3 h4
  by_cases hc : t * 1000 / r - h + 9 ≤ 0
  · go_enter Try.func49, Try.ntmps49
    go_wp2
    go_ret
    exact ⟨ret_int (by unfold stepsOf; rw [if_pos (by omega)]), rfl⟩
  · go_enter Try.func49, Try.ntmps49
    go_wp2
    go_ret
    exact ⟨ret_int (by unfold stepsOf; split <;> omega), rfl⟩
end Go.Proofs.Ytdglbppnhhhdmaa
