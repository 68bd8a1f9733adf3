/- The helpers of the laws of basics: numbers out of bytes, absolute values, equal lists. -/
import Derived.Test.YtcmnmmgmhnhkhaaDoorSrc
import Derived.Test.YtcmnmmgmhnhkhaaDoorInts
import Derived.Below
namespace Go.Proofs.YtcmnmmgmhnhkhaaDoor
open Go.RowKit
set_option linter.unusedVariables false

def Bytes (w : World) (b : Nat) (A : Option Addr) (n : Nat) : Prop := ∃ zs, Reads w b 1 A n (u8v zs) ∧ ∀ z ∈ zs, 0 ≤ z ∧ z ≤ 255
theorem Bytes.below {w w' : World} {b : Nat} {A : Option Addr} {n : Nat} (h : Bytes w b A n) (hb : Below b w w') : Bytes w' b A n := by
  obtain ⟨zs, hx, hz⟩ := h
  exact ⟨zs, hx.below hb, hz⟩

set_option maxHeartbeats 800000 in
theorem from_any (A : Option Addr) (n c : Nat) (w : World) :
    Calls Tryd.prog 33 #[.slice A n c] w fun e w' => e = .returned (.pointer (some ⟨w.heap.size, 0, none⟩)) ∧ Blk w' w.heap.size 74 #[.slice A n c, .int .i64 0, .int .u64 0] ∧ Below w.heap.size w w' := by
  go_enter Tryd.func33, Tryd.ntmps33
  go_wp2
  go_ret
  exact ⟨rfl, Blk.new _ _ _, (Below.refl _ _).alloc (Nat.le_refl _) _⟩

set_option maxHeartbeats 800000 in
theorem numbers_any (A : Option Addr) (n c : Nat) (w : World) (hb : Bytes w w.heap.size A n) (hn : n ≤ 1048576) :
    Calls Tryd.prog 15 #[.slice A n c] w fun e w' => ∃ a b : Int, e = .returned (.tuple #[.int .i64 a, .int .i64 b]) ∧ -100000 ≤ a ∧ a ≤ 3600000000 ∧ 1 ≤ b ∧ b ≤ 5000 ∧ Below w.heap.size w w' := by
  obtain ⟨zs, hx, hz⟩ := hb
  have F := Lib.hid (from_any A n c w)
  have P1 := Lib.hid (fun W i sd k (hB : Below w.heap.size w W) hs hi hk hk2 => pick_any A n c w.heap.size w.heap.size zs i sd k W (hx.below hB) hz (Nat.le_refl _) hs hi hn hk hk2)
  clear hx hz
  go_enter Tryd.func15, Tryd.ntmps15
  go_wp2_with fail
  refine F.out.mono ?_
  rintro e w1 ⟨rfl, h1, b1⟩
  have H1 := Lib.hid h1
  have B1 := Lib.hid b1
  clear h1 b1
  go_wp2_with fail
  refine (P1.out w1 0 0 60000 B1.out H1.out (by omega) (by omega) (by omega)).mono ?_
  rintro e w2 ⟨v1, s1, rfl, l1, u1, h2, b2⟩
  have H2 := Lib.hid (show Blk w2 w.heap.size 74 #[.slice A n c, .int .i64 ((2 : Nat) : Int), .int .u64 s1] from h2)
  have B2 := Lib.hid (B1.out.trans b2)
  clear h2 b2
  go_wp2_with fail
  refine (P1.out w2 2 s1 60000 B2.out H2.out (by omega) (by omega) (by omega)).mono ?_
  rintro e w3 ⟨v2, s2, rfl, l2, u2, h3, b3⟩
  have H3 := Lib.hid (show Blk w3 w.heap.size 74 #[.slice A n c, .int .i64 ((4 : Nat) : Int), .int .u64 s2] from h3)
  have B3 := Lib.hid (B2.out.trans b3)
  clear h3 b3
  obtain ⟨p, hp⟩ : ∃ p, v1 * v2 = p := ⟨_, rfl⟩
  have p0 : 0 ≤ p := by rw [← hp]; exact Int.mul_nonneg l1 l2
  have p1 : p ≤ 59999 * 59999 := by rw [← hp]; exact Int.mul_le_mul u1 u2 l2 (by omega)
  go_wp2_with fail
  refine (P1.out w3 4 s2 5000 B3.out H3.out (by omega) (by omega) (by omega)).mono ?_
  rintro e w4 ⟨v3, s3, rfl, l3, u3, h4, b4⟩
  have B4 := Lib.hid (B3.out.trans b4)
  clear h4 b4
  go_wp2
  go_ret2
  exact ⟨p - 100000, 1 + v3, rfl, by omega, by omega, by omega, by omega, B4.out⟩

theorem long_any (A B : Option Addr) (n c m d : Nat) (w : World) :
    Calls Tryd.prog 14 #[.slice A n c, .slice B m d] w fun e w' => e = .returned (.bool (decide (1048576 < n) || decide (1048576 < m))) ∧ w = w' := by
  by_cases h1 : 1048576 < n <;> by_cases h2 : 1048576 < m
  all_goals
    have g1 : (1048576 : Int) < (n : Int) ↔ 1048576 < n := by omega
    have g2 : (1048576 : Int) < (m : Int) ↔ 1048576 < m := by omega
    go_enter Tryd.func14, Tryd.ntmps14
    go_wp2
    go_ret
    exact ⟨ret_bool (by simp [h1, h2]), rfl⟩

theorem r8At_any (A : Option Addr) (n c b : Nat) (k : Int) (w : World) (hb : Bytes w b A n) (hn : n ≤ 1048576) (k0 : 0 ≤ k) (k1 : k ≤ 100) :
    Calls Tryd.prog 37 #[.slice A n c, .int .i64 k, .int .i64 256] w fun e w' => ∃ v : Int, e = .returned (.int .i64 v) ∧ 0 ≤ v ∧ v ≤ 255 ∧ w = w' := by
  obtain ⟨zs, hx, hz⟩ := hb
  obtain ⟨j, rfl⟩ := Int.eq_ofNat_of_zero_le k0
  by_cases hlt : j < n
  · obtain ⟨a1, u1, rfl, hbl1, hu1, hc1⟩ := hx.at_ hlt
    obtain ⟨z, hzm, rfl⟩ := u8v_at hu1
    have zb := hz z hzm
    have g1 : (j : Int) < (n : Int) := by omega
    have zm : z % 256 = z := by omega
    clear hu1 hzm hx hz
    go_enter Tryd.func37, Tryd.ntmps37
    go_wp2
    go_ret
    exact ⟨z % 256, rfl, by omega, by omega, rfl⟩
  · have g1 : ¬ (j : Int) < (n : Int) := by omega
    clear hx hz
    go_enter Tryd.func37, Tryd.ntmps37
    go_wp2
    go_ret
    exact ⟨0, rfl, by omega, by omega, rfl⟩

theorem r8Wide_any (A : Option Addr) (n c b : Nat) (k m : Int) (w : World) (hb : Bytes w b A n) (hn : n ≤ 1048576) (k0 : 0 ≤ k) (k1 : k ≤ 90) (m0 : 0 < m) (m1 : m ≤ 100000) :
    Calls Tryd.prog 19 #[.slice A n c, .int .i64 k, .int .i64 m] w fun e w' => ∃ v : Int, e = .returned (.int .i64 v) ∧ 0 ≤ v ∧ v < m ∧ w = w' := by
  have F := Lib.hid (fun k h0 h1 => r8At_any A n c b k w hb hn h0 h1)
  clear hb
  go_enter Tryd.func19, Tryd.ntmps19
  go_wp2_with fail
  refine (F.out _ (by omega) (by omega)).mono ?_
  rintro e w1 ⟨v1, rfl, l1, u1, rfl⟩
  go_wp2_with fail
  refine (F.out _ (by omega) (by omega)).mono ?_
  rintro e w1 ⟨v2, rfl, l2, u2, rfl⟩
  have gm : ¬ m = 0 := by omega
  obtain ⟨x, hx⟩ : ∃ x, 256 * v1 + v2 = x := ⟨_, rfl⟩
  have xb : 0 ≤ x ∧ x ≤ 65535 := by omega
  have r0 := Int.emod_nonneg x gm
  have r1 := Int.emod_lt_of_pos x m0
  have HR := Lib.hid (And.intro r0 r1)
  have tm : x.tmod m = x % m := Int.tmod_eq_emod_of_nonneg xb.1
  clear r0 r1
  go_wp2
  go_ret
  exact ⟨x % m, rfl, HR.out.1, HR.out.2, rfl⟩

theorem r8Abs_any (x : Int) (w : World) (h0 : -4000000000000000000 ≤ x) (h1 : x ≤ 4000000000000000000) :
    Calls Tryd.prog 18 #[.int .i64 x] w fun e w' => ∃ v : Int, e = .returned (.int .i64 v) ∧ v = max x (-x) ∧ w = w' := by
  go_enter Tryd.func18, Tryd.ntmps18
  go_wp2
  all_goals
    go_ret
    exact ⟨_, rfl, by omega, rfl⟩

set_option maxHeartbeats 800000 in
theorem r8Same_any (A B : Option Addr) (n c d : Nat) (xs : List Int) (b1 b2 : Nat) (w : World) (hx : Reads w b1 1 A n (iv xs)) (hy : Reads w b2 1 B n (iv xs)) (hb1 : b1 ≤ w.heap.size) (hb2 : b2 ≤ w.heap.size) (hn : n ≤ maxLen) :
    Calls Tryd.prog 25 #[.slice A n c, .slice B n d] w fun e w' => e = .returned (.bool true) ∧ Below w.heap.size w w' := by
  unfold maxLen at hn
  have HX := Lib.hid hx
  have HY := Lib.hid hy
  clear hx hy
  go_enter Tryd.func25, Tryd.ntmps25
  go_wp2_with fail
  go_loopw [5] (fun i wr => ∃ k : Nat, k ≤ n ∧ i = .int .i64 k ∧ Below w.heap.size w wr) (fun i _ => n - (intOf i).toNat)
  case atStart => exact ⟨0, Nat.zero_le _, rfl, Below.refl _ _⟩
  case round =>
    obtain ⟨k, hk, rfl, hb⟩ := hrel
    have HB := Lib.hid hb
    clear hb
    by_cases hlt : k < n
    · obtain ⟨a1, u1, rfl, hbl1, hu1, hc1⟩ := ((HX.out.more hb1).below HB.out).at_ hlt
      obtain ⟨a2, u2, rfl, hbl2, hu2, hc2⟩ := ((HY.out.more hb2).below HB.out).at_ hlt
      obtain rfl := iv_at hu1
      obtain rfl := iv_at hu2
      clear hu1 hu2 hbl1 hbl2
      obtain ⟨t, ht⟩ : ∃ t, xs.getD k 0 = t := ⟨_, rfl⟩
      rw [ht] at hc1 hc2
      clear ht
      have g1 : (k : Int) < (n : Int) := by omega
      have g0 : (0 : Int) ≤ (k : Int) := by omega
      have e1 : (t == t) = true := by simp
      have e2 : (t != t) = false := by simp
      go_wp2_with fail
      go_quiet (fail)
      go_wp2
      go_roundw
      case rel => exact ⟨k + 1, by omega, by go_num, below_drewN HB.out _⟩
      case measure => simp [intOf]; omega
    · obtain rfl : k = n := by omega
      go_wp2
      go_ret
      exact ⟨rfl, HB.out⟩
end Go.Proofs.YtcmnmmgmhnhkhaaDoor
