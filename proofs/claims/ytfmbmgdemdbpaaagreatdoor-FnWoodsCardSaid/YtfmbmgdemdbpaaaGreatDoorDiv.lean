/- The nearest quotient: both texts of it. -/
import Derived.Test.YtfmbmgdemdbpaaaGreatDoorBasic
namespace Go.Proofs.YtfmbmgdemdbpaaaGreatDoor
open Go.RowKit

theorem divfacts (A B : Int) (hA : 0 ≤ A) (hB : 0 < B) : 0 ≤ A % B ∧ A % B < B ∧ 0 ≤ A / B ∧ A / B ≤ A :=
  ⟨Int.emod_nonneg A (by omega), Int.emod_lt_of_pos A hB, Int.ediv_nonneg hA (by omega), Int.ediv_le_self B hA⟩

set_option maxHeartbeats 400000 in
theorem divRound_any (a b : Int) (w : World) (hb : b ≠ 0) (ha1 : -4000000000000000000 ≤ a) (ha2 : a ≤ 4000000000000000000) (hb1 : -4000000000000000000 ≤ b) (hb2 : b ≤ 4000000000000000000) :
    Calls Tryz.prog 42 #[.int .i64 a, .int .i64 b] w fun e w' => e = .returned (.int .i64 (rnd a b)) ∧ w = w' := by
  have K := Lib.hid (rnd_abs a b hb)
  obtain ⟨A, hA, hA0⟩ : ∃ A, absI a = A ∧ 0 ≤ A := ⟨_, rfl, absI_nonneg a⟩
  obtain ⟨B, hB, hB0⟩ : ∃ B, absI b = B ∧ 0 < B := ⟨_, rfl, absI_pos hb⟩
  obtain ⟨q1, q2, q3, q4⟩ := divfacts A B hA0 hB0
  rcases Int.lt_or_le a 0 with ha | ha <;> rcases Int.lt_or_le b 0 with hb0 | hb0
  · obtain rfl : a = -A := by unfold absI at hA; rw [if_pos ha] at hA; omega
    obtain rfl : b = -B := by unfold absI at hB; rw [if_pos hb0] at hB; omega
    have HA := Lib.hid hA
    have HB := Lib.hid hB
    clear hA hB
    have pa : 0 < A := by omega
    have pb : 0 < B := by omega
    by_cases hr : B - A % B ≤ A % B
    all_goals
      go_enter Tryz.func42, Tryz.ntmps42
      go_wp2
      go_ret
      exact ⟨ret_int (by rw [K.out, HA.out, HB.out]; simp [pa, pb]; try omega), rfl⟩
  · obtain rfl : a = -A := by unfold absI at hA; rw [if_pos ha] at hA; omega
    obtain rfl : b = B := by unfold absI at hB; rw [if_neg (by omega)] at hB; omega
    have hb4 : ¬ b < 0 := by omega
    have HA := Lib.hid hA
    have HB := Lib.hid hB
    clear hA hB
    have pa : 0 < A := by omega
    by_cases hr : b - A % b ≤ A % b
    all_goals
      go_enter Tryz.func42, Tryz.ntmps42
      go_wp2
      go_ret
      exact ⟨ret_int (by rw [K.out, HA.out, HB.out]; simp [pa, hb4]; try omega), rfl⟩
  · obtain rfl : a = A := by unfold absI at hA; rw [if_neg (by omega)] at hA; omega
    obtain rfl : b = -B := by unfold absI at hB; rw [if_pos hb0] at hB; omega
    have ha4 : ¬ a < 0 := by omega
    have HA := Lib.hid hA
    have HB := Lib.hid hB
    clear hA hB
    have pb : 0 < B := by omega
    by_cases hr : B - a % B ≤ a % B
    all_goals
      go_enter Tryz.func42, Tryz.ntmps42
      go_wp2
      go_ret
      exact ⟨ret_int (by rw [K.out, HA.out, HB.out]; simp [ha4, pb]; try omega), rfl⟩
  · obtain rfl : a = A := by unfold absI at hA; rw [if_neg (by omega)] at hA; omega
    obtain rfl : b = B := by unfold absI at hB; rw [if_neg (by omega)] at hB; omega
    have ha4 : ¬ a < 0 := by omega
    have hb4 : ¬ b < 0 := by omega
    have HA := Lib.hid hA
    have HB := Lib.hid hB
    clear hA hB
    by_cases hr : b - a % b ≤ a % b
    all_goals
      go_enter Tryz.func42, Tryz.ntmps42
      go_wp2
      go_ret
      exact ⟨ret_int (by rw [K.out, HA.out, HB.out]; simp; try omega), rfl⟩

theorem halffacts (A B : Int) (hA : 0 ≤ A) (hB : 0 < B) : 0 ≤ (2 * A + B) / (2 * B) ∧ (2 * A + B) / (2 * B) ≤ 2 * A + B :=
  ⟨Int.ediv_nonneg (by omega) (by omega), Int.ediv_le_self _ (by omega)⟩

set_option maxHeartbeats 400000 in
theorem div_any (a b : Int) (w : World) (hb : b ≠ 0) (ha1 : -1000000000000000000 ≤ a) (ha2 : a ≤ 1000000000000000000) (hb1 : -1000000000000000000 ≤ b) (hb2 : b ≤ 1000000000000000000) :
    Calls Tryz.prog 52 #[.int .i64 a, .int .i64 b] w fun e w' => e = .returned (.int .i64 (rnd a b)) ∧ w = w' := by
  obtain ⟨S, hS⟩ : ∃ S, rnd a b = S := ⟨_, rfl⟩
  rw [hS]
  rcases Int.lt_or_le b 0 with hb0 | hb0
  · rw [rnd_neg a b hb0] at hS
    obtain ⟨B, rfl⟩ : ∃ B, b = -B := ⟨-b, by omega⟩
    obtain ⟨A, rfl⟩ : ∃ A, a = -A := ⟨-a, by omega⟩
    by_cases ha : A < 0
    · rw [if_pos (by omega)] at hS
      have q := Int.ediv_nonneg (a := B - 2 * A) (b := 2 * B) (by omega) (by omega)
      have q4 := Int.ediv_le_self (a := B - 2 * A) (2 * B) (by omega)
      have HS := Lib.hid hS
      clear hS
      go_enter Tryz.func52, Tryz.ntmps52
      go_wp2
      go_ret
      exact ⟨ret_int (by rw [← HS.out, show (- -B + 2 * -A) = B - 2 * A from by omega, show - -B = B from by omega]), rfl⟩
    · rw [if_neg (by omega)] at hS
      obtain ⟨q3, q4⟩ := halffacts A B (by omega) (by omega)
      have HS := Lib.hid hS
      clear hS
      go_enter Tryz.func52, Tryz.ntmps52
      go_wp2
      go_ret
      exact ⟨ret_int (by rw [← HS.out, Int.neg_neg, Int.neg_neg]), rfl⟩
  · rw [rnd_pos a b (by omega)] at hS
    have hb3 : 0 < b := by omega
    by_cases ha : a < 0
    · rw [if_pos ha] at hS
      have q := Int.ediv_nonneg (a := b - 2 * a) (b := 2 * b) (by omega) (by omega)
      have q4 := Int.ediv_le_self (a := b - 2 * a) (2 * b) (by omega)
      have HS := Lib.hid hS
      clear hS
      go_enter Tryz.func52, Tryz.ntmps52
      go_wp2
      go_ret
      exact ⟨ret_int (by rw [← HS.out]), rfl⟩
    · rw [if_neg ha] at hS
      obtain ⟨q3, q4⟩ := halffacts a b (by omega) (by omega)
      have HS := Lib.hid hS
      clear hS
      go_enter Tryz.func52, Tryz.ntmps52
      go_wp2
      go_ret
      exact ⟨ret_int (by rw [← HS.out]), rfl⟩
end Go.Proofs.YtfmbmgdemdbpaaaGreatDoor
