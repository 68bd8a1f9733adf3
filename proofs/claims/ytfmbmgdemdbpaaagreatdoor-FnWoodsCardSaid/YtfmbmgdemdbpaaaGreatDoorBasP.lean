/- Roots, nearest quotients and lines: plain law. -/
import Derived.Test.YtfmbmgdemdbpaaaGreatDoorPlainA
import Derived.Test.YtfmbmgdemdbpaaaGreatDoorBlend
namespace Go.Proofs.YtfmbmgdemdbpaaaGreatDoor
open Go.RowKit

theorem rnd_near {a b : Int} (hb : 0 < b) : -b ≤ 2 * (a - rnd a b * b) ∧ 2 * (a - rnd a b * b) ≤ b := by
  unfold rnd
  rw [if_neg (by omega)]
  by_cases ha : a < 0
  · rw [if_pos ha]
    have h1 := Int.mul_ediv_add_emod (b - 2 * a) (2 * b)
    have h2 := Int.emod_nonneg (b - 2 * a) (show 2 * b ≠ 0 by omega)
    have h3 := Int.emod_lt_of_pos (b - 2 * a) (show 0 < 2 * b by omega)
    obtain ⟨q, hq⟩ : ∃ q, (b - 2 * a) / (2 * b) = q := ⟨_, rfl⟩
    rw [hq] at h1 ⊢
    have e : 2 * b * q = 2 * (q * b) := by rw [Int.mul_assoc, Int.mul_comm b q]
    rw [Int.neg_mul]
    rw [e] at h1
    omega
  · rw [if_neg ha]
    have h1 := Int.mul_ediv_add_emod (2 * a + b) (2 * b)
    have h2 := Int.emod_nonneg (2 * a + b) (show 2 * b ≠ 0 by omega)
    have h3 := Int.emod_lt_of_pos (2 * a + b) (show 0 < 2 * b by omega)
    obtain ⟨q, hq⟩ : ∃ q, (2 * a + b) / (2 * b) = q := ⟨_, rfl⟩
    rw [hq] at h1 ⊢
    have e : 2 * b * q = 2 * (q * b) := by rw [Int.mul_assoc, Int.mul_comm b q]
    rw [e] at h1
    omega
theorem rnd_def {a b : Int} (hb : 0 < b) : rnd a b = if a < 0 then -((b - 2 * a) / (2 * b)) else (2 * a + b) / (2 * b) := by
  unfold rnd
  rw [if_neg (by omega)]
theorem rnd_opp {a b : Int} (hb : 0 < b) : rnd (-a) b = -rnd a b := by
  rw [rnd_def (a := -a) hb, rnd_def (a := a) hb]
  by_cases ha : a < 0
  · rw [if_pos ha, if_neg (by omega), show 2 * -a + b = b - 2 * a by omega]; omega
  · rw [if_neg ha]
    by_cases h0 : a = 0
    · subst h0
      rw [if_neg (by omega), show 2 * (-0 : Int) + b = b by omega, show 2 * (0 : Int) + b = b by omega, Int.ediv_eq_zero_of_lt (by omega) (by omega)]; rfl
    · rw [if_pos (by omega), show b - 2 * -a = 2 * a + b by omega]
theorem line_zero (y z : Int) : lineI 0 y 1000 z 0 = y := by unfold lineI; rw [if_pos (by omega)]
theorem line_end (y z : Int) : lineI 0 y 1000 z 1000 = z := by unfold lineI; rw [if_neg (by omega), if_pos (by omega)]
theorem line_mid {y z x : Int} (h0 : 0 ≤ x) (h1 : x < 1000) : (y ≤ z → y ≤ lineI 0 y 1000 z x ∧ lineI 0 y 1000 z x ≤ z) ∧ (z ≤ y → z ≤ lineI 0 y 1000 z x ∧ lineI 0 y 1000 z x ≤ y) := by
  unfold lineI
  by_cases hx : x ≤ 0
  · rw [if_pos (.inl hx)]
    exact ⟨fun h => ⟨by omega, h⟩, fun h => ⟨h, by omega⟩⟩
  · rw [if_neg (by omega), if_neg (by omega)]
    obtain ⟨m, hm⟩ : ∃ m, (z - y) * (x - 0) = m := ⟨_, rfl⟩
    rw [hm, show (1000 : Int) - 0 = 1000 by omega]
    unfold rnd
    rw [if_neg (by omega)]
    refine ⟨fun h => ?_, fun h => ?_⟩
    · have k0 : 0 ≤ m := by rw [← hm]; exact Int.mul_nonneg (by omega) (by omega)
      have k1 : m ≤ (z - y) * 1000 := by rw [← hm]; exact Int.mul_le_mul_of_nonneg_left (by omega) (by omega)
      rw [if_neg (by omega)]
      omega
    · have k0 : m ≤ 0 := by
        have : 0 ≤ (y - z) * (x - 0) := Int.mul_nonneg (by omega) (by omega)
        have e : (y - z) * (x - 0) = -m := by rw [← hm, ← Int.neg_mul]; congr 1; omega
        omega
      have k1 : (z - y) * 1000 ≤ m := by
        have : (y - z) * (x - 0) ≤ (y - z) * 1000 := Int.mul_le_mul_of_nonneg_left (by omega) (by omega)
        have e : (y - z) * (x - 0) = -m := by rw [← hm, ← Int.neg_mul]; congr 1; omega
        omega
      by_cases g : m < 0
      · rw [if_pos g]; omega
      · rw [if_neg g]; omega
end Go.Proofs.YtfmbmgdemdbpaaaGreatDoor
