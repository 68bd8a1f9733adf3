/- The square root, rounded down: both texts of it. -/
import Derived.Test.YtcmnmmgmhnhkhaaDoorBasic
namespace Go.Proofs.YtcmnmmgmhnhkhaaDoor
open Go.RowKit

def RootPost (n : Int) (w : World) (e : Ending) (w' : World) : Prop := ∃ r : Int, e = .returned (.int .i64 r) ∧ RootIs n r ∧ w = w'

/-- what the search knows: the root lies from low to high -/
def Between (n low high : Int) : Prop := 0 ≤ low ∧ low ≤ high ∧ high ≤ 3037000499 ∧ (low = 0 ∨ low * low ≤ n) ∧ n < (high + 1) * (high + 1)
theorem between_start (n : Int) (h : n ≤ 9223372036854775807) : Between n 0 3037000499 := ⟨by omega, by omega, by omega, .inl rfl, by omega⟩
theorem between_end {n low : Int} (h : Between n low low) : RootIs n low := by
  obtain ⟨h1, _, h3, h4, h5⟩ := h
  refine ⟨fun hn => ?_, fun hn => ⟨h1, h3, ?_, h5⟩⟩
  · rcases h4 with h4 | h4
    · exact h4
    · have := Int.mul_nonneg h1 h1; omega
  · rcases h4 with h4 | h4
    · subst h4; simpa using hn
    · exact h4
theorem mid_bd {low high : Int} (h0 : 0 ≤ low) (h1 : low < high) (h2 : high ≤ 3037000499) : 0 ≤ (low + high + 1) / 2 * ((low + high + 1) / 2) ∧ (low + high + 1) / 2 * ((low + high + 1) / 2) ≤ 9223372030926249001 := by
  have a : 0 ≤ (low + high + 1) / 2 := by omega
  have b : (low + high + 1) / 2 ≤ 3037000499 := by omega
  refine ⟨Int.mul_nonneg a a, ?_⟩
  have := Int.mul_le_mul b b a (by omega)
  omega
theorem between_low {n low high m : Int} (h : Between n low high) (h1 : low < m) (h2 : m ≤ high) (hm : m * m ≤ n) : Between n m high := by
  obtain ⟨g1, g2, g3, g4, g5⟩ := h
  exact ⟨by omega, by omega, g3, .inr hm, g5⟩
theorem between_high {n low high m : Int} (h : Between n low high) (h1 : low < m) (h2 : m ≤ high) (hm : ¬ m * m ≤ n) : Between n low (m - 1) := by
  obtain ⟨g1, g2, g3, g4, g5⟩ := h
  refine ⟨g1, by omega, by omega, g4, ?_⟩
  have : m - 1 + 1 = m := by omega
  rw [this]; omega

set_option maxHeartbeats 400000 in
theorem RootOf_any (n : Int) (w : World) (hn : n ≤ 9223372036854775807) : Calls Tryd.prog 16 #[.int .i64 n] w (RootPost n w) := by
  by_cases h0 : n < 0
  · go_enter Tryd.func16, Tryd.ntmps16
    go_wp2
    go_ret
    exact ⟨0, rfl, ⟨fun _ => rfl, fun h => by omega⟩, rfl⟩
  go_enter Tryd.func16, Tryd.ntmps16
  go_wp2
  go_loop [3, 4] (fun x y => ∃ low high : Int, Between n low high ∧ x = .int .i64 low ∧ y = .int .i64 high) (fun x y => (intOf y - intOf x).toNat)
  case atStart => exact ⟨0, 3037000499, between_start n hn, rfl, rfl⟩
  case round =>
    obtain ⟨low, high, hb, rfl, rfl⟩ := hrel
    have HB := Lib.hid hb
    obtain ⟨g1, g2, g3, -, -⟩ := hb
    by_cases hl : low < high
    · obtain ⟨m1, m2⟩ := mid_bd g1 hl g3
      by_cases hm : (low + high + 1) / 2 * ((low + high + 1) / 2) ≤ n
      · have b1 := between_low (m := (low + high + 1) / 2) HB.out (by omega) (by omega) hm
        have B1 := Lib.hid b1
        clear b1
        go_wp2
        go_round
        case rel => exact ⟨_, _, B1.out, rfl, rfl⟩
        case measure => simp [intOf]; omega
      · have b1 := between_high (m := (low + high + 1) / 2) HB.out (by omega) (by omega) hm
        have B1 := Lib.hid b1
        clear b1
        go_wp2
        go_round
        case rel => exact ⟨_, _, B1.out, rfl, rfl⟩
        case measure => simp [intOf]; omega
    · obtain rfl : low = high := by omega
      go_wp2
      go_ret
      exact ⟨low, rfl, between_end HB.out, rfl⟩

end Go.Proofs.YtcmnmmgmhnhkhaaDoor
