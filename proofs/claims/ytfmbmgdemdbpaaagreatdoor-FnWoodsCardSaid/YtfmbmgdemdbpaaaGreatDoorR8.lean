/- The helpers of the laws of basics: numbers out of bytes, absolute values, equal lists. -/
import Derived.Test.YtfmbmgdemdbpaaaGreatDoorSrc
import Derived.Test.YtfmbmgdemdbpaaaGreatDoorInts
import Derived.Below
namespace Go.Proofs.YtfmbmgdemdbpaaaGreatDoor
open Go.RowKit
set_option linter.unusedVariables false

def Bytes (w : World) (b : Nat) (A : Option Addr) (n : Nat) : Prop := ∃ zs, Reads w b 1 A n (u8v zs) ∧ ∀ z ∈ zs, 0 ≤ z ∧ z ≤ 255
theorem Bytes.below {w w' : World} {b : Nat} {A : Option Addr} {n : Nat} (h : Bytes w b A n) (hb : Below b w w') : Bytes w' b A n := by
  obtain ⟨zs, hx, hz⟩ := h
  exact ⟨zs, hx.below hb, hz⟩

set_option maxHeartbeats 800000 in
theorem from_any (A : Option Addr) (n c : Nat) (w : World) :
    Calls Tryz.prog 22 #[.slice A n c] w fun e w' => e = .returned (.pointer (some ⟨w.heap.size, 0, none⟩)) ∧ Blk w' w.heap.size 62 #[.slice A n c, .int .i64 0, .int .u64 0] ∧ Below w.heap.size w w' := by
  go_enter Tryz.func22, Tryz.ntmps22
  go_wp2
  go_ret
  exact ⟨rfl, Blk.new _ _ _, (Below.refl _ _).alloc (Nat.le_refl _) _⟩

theorem long_any (A B : Option Addr) (n c m d : Nat) (w : World) :
    Calls Tryz.prog 4 #[.slice A n c, .slice B m d] w fun e w' => e = .returned (.bool (decide (1048576 < n) || decide (1048576 < m))) ∧ w = w' := by
  by_cases h1 : 1048576 < n <;> by_cases h2 : 1048576 < m
  all_goals
    have g1 : (1048576 : Int) < (n : Int) ↔ 1048576 < n := by omega
    have g2 : (1048576 : Int) < (m : Int) ↔ 1048576 < m := by omega
    go_enter Tryz.func4, Tryz.ntmps4
    go_wp2
    go_ret
    exact ⟨ret_bool (by simp [h1, h2]), rfl⟩

theorem r8At_any (A : Option Addr) (n c b : Nat) (k : Int) (w : World) (hb : Bytes w b A n) (hn : n ≤ 1048576) (k0 : 0 ≤ k) (k1 : k ≤ 100) :
    Calls Tryz.prog 16 #[.slice A n c, .int .i64 k, .int .i64 256] w fun e w' => ∃ v : Int, e = .returned (.int .i64 v) ∧ 0 ≤ v ∧ v ≤ 255 ∧ w = w' := by
  obtain ⟨zs, hx, hz⟩ := hb
  obtain ⟨j, rfl⟩ := Int.eq_ofNat_of_zero_le k0
  by_cases hlt : j < n
  · obtain ⟨a1, u1, rfl, hbl1, hu1, hc1⟩ := hx.at_ hlt
    obtain ⟨z, hzm, rfl⟩ := u8v_at hu1
    have zb := hz z hzm
    have g1 : (j : Int) < (n : Int) := by omega
    have zm : z % 256 = z := by omega
    clear hu1 hzm hx hz
    go_enter Tryz.func16, Tryz.ntmps16
    go_wp2
    go_ret
    exact ⟨z % 256, rfl, by omega, by omega, rfl⟩
  · have g1 : ¬ (j : Int) < (n : Int) := by omega
    clear hx hz
    go_enter Tryz.func16, Tryz.ntmps16
    go_wp2
    go_ret
    exact ⟨0, rfl, by omega, by omega, rfl⟩

theorem r8Wide_any (A : Option Addr) (n c b : Nat) (k m : Int) (w : World) (hb : Bytes w b A n) (hn : n ≤ 1048576) (k0 : 0 ≤ k) (k1 : k ≤ 90) (m0 : 0 < m) (m1 : m ≤ 100000) :
    Calls Tryz.prog 15 #[.slice A n c, .int .i64 k, .int .i64 m] w fun e w' => ∃ v : Int, e = .returned (.int .i64 v) ∧ 0 ≤ v ∧ v < m ∧ w = w' := by
  have F := Lib.hid (fun k h0 h1 => r8At_any A n c b k w hb hn h0 h1)
  clear hb
  go_enter Tryz.func15, Tryz.ntmps15
  go_wp2_with fail
  refine (F.out _ (by omega) (by omega)).mono ?_
  rintro e w1 ⟨v1, rfl, l1, u1, rfl⟩
  go_wp2_with fail
  refine (F.out _ (by omega) (by omega)).mono ?_
  rintro e w1 ⟨v2, rfl, l2, u2, rfl⟩
  have gm : ¬ m = 0 := by omega
  obtain ⟨x, hx⟩ : ∃ x, 256 * v1 + v2 = x := ⟨_, rfl⟩
  have xb : 0 ≤ x ∧ x ≤ 65535 := by omega
  have r0 := Int.emod_nonneg x gm
  have r1 := Int.emod_lt_of_pos x m0
  have HR := Lib.hid (And.intro r0 r1)
  have tm : x.tmod m = x % m := Int.tmod_eq_emod_of_nonneg xb.1
  clear r0 r1
  go_wp2
  go_ret
  exact ⟨x % m, rfl, HR.out.1, HR.out.2, rfl⟩

theorem r8Abs_any (x : Int) (w : World) (h0 : -4000000000000000000 ≤ x) (h1 : x ≤ 4000000000000000000) :
    Calls Tryz.prog 11 #[.int .i64 x] w fun e w' => ∃ v : Int, e = .returned (.int .i64 v) ∧ v = max x (-x) ∧ w = w' := by
  go_enter Tryz.func11, Tryz.ntmps11
  go_wp2
  all_goals
    go_ret
    exact ⟨_, rfl, by omega, rfl⟩

end Go.Proofs.YtfmbmgdemdbpaaaGreatDoor
