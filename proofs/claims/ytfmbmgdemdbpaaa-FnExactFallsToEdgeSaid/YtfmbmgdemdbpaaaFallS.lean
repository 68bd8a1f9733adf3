/- FallsToEdge, both texts, for all grids: what they say. -/
import Derived.Test.YtfmbmgdemdbpaaaFallR
import Derived.Test.YtfmbmgdemdbpaaaFallI
namespace Go.Proofs.Ytfmbmgdemdbpaaa
open Go.RowKit Go.Sort
set_option linter.unusedVariables false

theorem fall_ofb {P : Program} {f : FuncId} {args : Array Value} {w : World} {b c : Bool} (h : Calls P f args w fun e w' => e = .returned (.bool b) ∧ Below w.heap.size w w') (hb : b = c) :
    Calls P f args w fun e w' => e = .returned (.bool c) ∧ Below w.heap.size w w' := by rw [← hb]; exact h

def FallsPost (Z : List (List Int)) (n m : Nat) (w : World) (e : Ending) (w' : World) : Prop := ∃ x, e = .returned (.bool x) ∧ FallsIs Z n m x ∧ Below w.heap.size w w'

set_option maxRecDepth 100000 in
set_option maxHeartbeats 4000000 in
theorem l07Falls_any (ad : Addr) (n m c b : Nat) (Z : List (List Int)) (w : World) (hM : Mat w b ad n m Z) (ha : archB Z = true) (hb0 : b ≤ w.heap.size) :
    Calls Try.prog 11 #[.slice (some ad) n c] w (FallsPost Z n m w) := by
  have n1 := hM.n1
  have n2 := hM.n2
  have m1 := hM.m1
  have m2 := hM.m2
  have hnm : n * m ≤ 100 := Nat.mul_le_mul n2 m2
  have HM := Lib.hid hM
  clear hM
  go_enter Try.func11, Try.ntmps11
  go_wp2_with fail
  refine (l07Runs_any ad n m c b Z w HM.out hb0).mono ?_
  rintro e w2 ⟨g, c2, s, H, rfl, o2, q2, b2⟩
  have O2 := Lib.hid o2
  have Q2 := Lib.hid q2
  have B2 := Lib.hid b2
  clear o2 q2 b2
  go_wp2_with fail
  go_loop [4] (fun x => ∃ k : Nat, k ≤ n ∧ x = .int .i64 k ∧ ∀ p, p < k * m → s p = true) (fun x => n - (intOf x).toNat)
  case atStart => exact ⟨0, Nat.zero_le _, rfl, fun p hp => by omega⟩
  case round =>
    obtain ⟨k, hk, rfl, hal⟩ := hrel
    have AL := Lib.hid hal
    clear hal
    by_cases hlt : k < n
    · obtain ⟨gi, ci, _, _, hc1, hc2⟩ := O2.out.cells hlt m1
      have HC2 := Lib.hid hc2
      have gk : (k : Int) < (n : Int) := by omega
      clear hc2
      go_wp2
      go_loop [5] (fun x => ∃ y : Nat, y ≤ m ∧ x = .int .i64 y ∧ ∀ p, p < k * m + y → s p = true) (fun x => m - (intOf x).toNat)
      case atStart => exact ⟨0, Nat.zero_le _, rfl, AL.out⟩
      case round =>
        obtain ⟨y, hy, rfl, hal⟩ := hrel
        have AL2 := Lib.hid hal
        clear hal
        by_cases hyl : y < m
        · have hc3 := (HC2.out y hyl).1
          have gy : (y : Int) < (m : Int) := by omega
          have hlt2 := idx_lt hlt hyl
          cases hst : s (k * m + y)
          · rw [hst] at hc3
            have NB := Lib.hid (show FallsIs Z n m false from .inr ⟨ha, 100, s, hnm, Q2.out, by
              unfold allB
              exact (decide_eq_false fun h => by rw [h _ hlt2] at hst; cases hst).symm⟩)
            clear hst
            go_wp2
            go_ret
            exact ⟨_, rfl, NB.out, B2.out⟩
          · rw [hst] at hc3
            have AN := Lib.hid (show ∀ p, p < k * m + (y + 1) → s p = true from fun p hp => by
              by_cases e : p = k * m + y
              · subst e; exact hst
              · exact AL2.out p (by omega))
            clear hst
            go_wp2
            go_round
            case rel => exact ⟨y + 1, by omega, by go_num, AN.out⟩
            case measure => simp [intOf]; omega
        · have AN := Lib.hid (show ∀ p, p < (k + 1) * m → s p = true from fun p hp => AL2.out p (by rw [← row_end] at hp; omega))
          go_wp2
          go_round
          case rel => exact ⟨k + 1, by omega, by go_num, AN.out⟩
          case measure => simp [intOf]; omega
    · obtain rfl : k = n := by omega
      have NB := Lib.hid (show FallsIs Z k m true from .inr ⟨ha, 100, s, hnm, Q2.out, by
        unfold allB
        exact (decide_eq_true AL.out).symm⟩)
      go_wp2
      go_ret
      exact ⟨_, rfl, NB.out, B2.out⟩

theorem specFalls_any (A : Option Addr) (n c b : Nat) (Z : List (List Int)) (w : World) (hg : Grid w b A n Z) (hb0 : b ≤ w.heap.size) (hn : n ≤ 1048576) :
    Calls Try.prog 5 #[.slice A n c] w (FallsPost Z n (rowZ Z 0).length w) := by
  have HG := Lib.hid hg
  clear hg
  cases h : archB Z
  · go_enter Try.func5, Try.ntmps5
    go_wp2_with fail
    refine (fall_ofb (l07Ok_any A n c b Z _ HG.out hb0 hn) h).mono ?_
    rintro e w1 ⟨rfl, b1⟩
    have B1 := Lib.hid b1
    clear b1
    go_wp2
    go_ret
    exact ⟨false, rfl, .inl ⟨h, rfl⟩, B1.out⟩
  · obtain ⟨ad, rfl, M⟩ := Mat.of HG.out h
    obtain ⟨m, hm⟩ : ∃ m, (rowZ Z 0).length = m := ⟨_, rfl⟩
    rw [hm] at M ⊢
    have HM := Lib.hid M
    clear M hm
    go_enter Try.func5, Try.ntmps5
    go_wp2_with fail
    refine (fall_ofb (l07Ok_any (some ad) n c b Z _ HG.out hb0 hn) h).mono ?_
    rintro e w1 ⟨rfl, b1⟩
    have B1 := Lib.hid b1
    clear b1
    go_wp2_with fail
    refine (l07Falls_any ad n m c b Z _ (HM.out.below (B1.out.mono hb0)) h (Nat.le_trans hb0 B1.out.size)).mono ?_
    rintro e w2 ⟨x, rfl, hx, b2⟩
    have B2 := Lib.hid (B1.out.trans (b2.mono B1.out.size))
    have HX := Lib.hid hx
    clear b2 hx
    go_wp2
    go_ret
    exact ⟨x, rfl, HX.out, B2.out⟩

theorem implFalls_any (A : Option Addr) (n c b : Nat) (Z : List (List Int)) (w : World) (hg : Grid w b A n Z) (hb0 : b ≤ w.heap.size) (hn : n ≤ 1048576) :
    Calls Try.prog 7 #[.slice A n c] w (FallsPost Z n (rowZ Z 0).length w) := by
  have HG := Lib.hid hg
  clear hg
  cases h : archB Z
  · go_enter Try.func7, Try.ntmps7
    go_wp2_with (go_at_call 13; refine (fall_ofb (implArch_any A n c b Z _ HG.out hb0 hn) h).mono ?_; rintro e w1 ⟨rfl, b1⟩; have B1 := Lib.hid b1; clear b1)
    go_ret
    exact ⟨false, rfl, .inl ⟨h, rfl⟩, B1.out⟩
  · obtain ⟨ad, rfl, M⟩ := Mat.of HG.out h
    exact fallsM_any ad n _ c b Z w HG.out M h hb0
end Go.Proofs.Ytfmbmgdemdbpaaa
