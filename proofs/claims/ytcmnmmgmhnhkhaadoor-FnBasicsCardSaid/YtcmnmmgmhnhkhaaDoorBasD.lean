/- DivRound and Blend: what the program's texts give, for the law of basics. -/
import Derived.Test.YtcmnmmgmhnhkhaaDoorBasP
namespace Go.Proofs.YtcmnmmgmhnhkhaaDoor.bDiv
open Go.RowKit Go.Proofs.YtcmnmmgmhnhkhaaDoor
def okB (a b : Int) : Bool := !(b == 0) && (inB a (-1000000000000) 1000000000000 && inB b (-1000000000000) 1000000000000)
def res (a b : Int) : Int := if okB a b then rnd a b else 0

theorem impl_any (a b : Int) (w : World) :
    Calls Tryd.prog 17 #[.int .i64 a, .int .i64 b] w fun r w' => r = .returned (.int .i64 (res a b)) ∧ w = w' := by
  by_cases hb : b = 0
  · subst hb
    go_enter Tryd.func17, Tryd.ntmps17
    go_wp2_with (go_at_call 35; refine (within_any _ _ _ _).mono ?_; rintro e w' ⟨rfl, rfl⟩)
    go_ret
    exact ⟨ret_int (by simp [res, okB]), rfl⟩
  · have hbb : (b == 0) = false := by simpa using hb
    cases h1 : inB a (-1000000000000) 1000000000000 <;> cases h2 : inB b (-1000000000000) 1000000000000
    case true.true =>
      have b1 := inB_t h1
      have b2 := inB_t h2
      go_enter Tryd.func17, Tryd.ntmps17
      go_wp2_with (first | (go_at_call 35; refine (within_any _ _ _ _).mono ?_; rintro e w' ⟨rfl, rfl⟩) | (go_at_call 36; refine (divRound_any _ _ _ hb (by omega) (by omega) (by omega) (by omega)).mono ?_; rintro e w' ⟨rfl, rfl⟩))
      go_ret
      exact ⟨ret_int (by simp [res, okB, *]), rfl⟩
    all_goals
      go_enter Tryd.func17, Tryd.ntmps17
      go_wp2_with (go_at_call 35; refine (within_any _ _ _ _).mono ?_; rintro e w' ⟨rfl, rfl⟩)
      go_ret
      exact ⟨ret_int (by simp [res, okB, *]), rfl⟩

end Go.Proofs.YtcmnmmgmhnhkhaaDoor.bDiv
namespace Go.Proofs.YtcmnmmgmhnhkhaaDoor.bBlend
open Go.RowKit Go.Proofs.YtcmnmmgmhnhkhaaDoor
def okB (x0 y0 x1 y1 : Int) : Bool := inB x0 (-1000000) 1000000 && (inB y0 (-1000000) 1000000 && (inB x1 (-1000000) 1000000 && inB y1 (-1000000) 1000000))
def res (x0 y0 x1 y1 x : Int) : Int := if okB x0 y0 x1 y1 then lineI x0 y0 x1 y1 x else 0

def Seen (a b c d k : Int) : Prop := (1 ≤ k → inB a (-1000000) 1000000 = true) ∧ (2 ≤ k → inB b (-1000000) 1000000 = true) ∧ (3 ≤ k → inB c (-1000000) 1000000 = true) ∧ (4 ≤ k → inB d (-1000000) 1000000 = true)

theorem idx0 (a b c d : Int) (w : World) : (Instr.index 59 (.agg #[.int .i64 a, .int .i64 b, .int .i64 c, .int .i64 d]) (.int .i64 0)).run Tryd.prog w = .ok (.int .i64 a) w := by kernel_rfl
theorem idx1 (a b c d : Int) (w : World) : (Instr.index 59 (.agg #[.int .i64 a, .int .i64 b, .int .i64 c, .int .i64 d]) (.int .i64 1)).run Tryd.prog w = .ok (.int .i64 b) w := by kernel_rfl
theorem idx2 (a b c d : Int) (w : World) : (Instr.index 59 (.agg #[.int .i64 a, .int .i64 b, .int .i64 c, .int .i64 d]) (.int .i64 2)).run Tryd.prog w = .ok (.int .i64 c) w := by kernel_rfl
theorem idx3 (a b c d : Int) (w : World) : (Instr.index 59 (.agg #[.int .i64 a, .int .i64 b, .int .i64 c, .int .i64 d]) (.int .i64 3)).run Tryd.prog w = .ok (.int .i64 d) w := by kernel_rfl

set_option maxHeartbeats 800000 in
theorem impl_any (a b c d x : Int) (w : World) :
    Calls Tryd.prog 20 #[.int .i64 a, .int .i64 b, .int .i64 c, .int .i64 d, .int .i64 x] w fun r w' => r = .returned (.int .i64 (res a b c d x)) ∧ w = w' := by
  have i0 := idx0 a b c d
  have i1 := idx1 a b c d
  have i2 := idx2 a b c d
  have i3 := idx3 a b c d
  go_enter Tryd.func20, Tryd.ntmps20
  go_wp2_with fail
  go_loop [18] (fun i => ∃ k : Int, 0 ≤ k ∧ k ≤ 4 ∧ Seen a b c d k ∧ i = .int .i64 k) (fun i => (4 - intOf i).toNat)
  case atStart => exact ⟨0, by omega, by omega, ⟨fun h => by omega, fun h => by omega, fun h => by omega, fun h => by omega⟩, rfl⟩
  case round =>
    obtain ⟨k, k1, k2, hs, rfl⟩ := hrel
    have HS := Lib.hid hs
    clear hs
    rcases (show k = 0 ∨ k = 1 ∨ k = 2 ∨ k = 3 ∨ k = 4 by omega) with rfl | rfl | rfl | rfl | rfl
    · cases h : inB a (-1000000) 1000000
      · have hr := Lib.hid (show res a b c d x = 0 by simp [res, okB, h])
        go_wp2_with (go_at_call 35; refine (within_any _ _ _ _).mono ?_; rintro e w' ⟨rfl, rfl⟩)
        go_ret
        exact ⟨ret_int hr.out.symm, rfl⟩
      · have st := Lib.hid (show Seen a b c d 1 from ⟨fun _ => h, fun h => by omega, fun h => by omega, fun h => by omega⟩)
        go_wp2_with (go_at_call 35; refine (within_any _ _ _ _).mono ?_; rintro e w' ⟨rfl, rfl⟩)
        go_round
        case rel => exact ⟨1, by omega, by omega, st.out, rfl⟩
        case measure => simp [intOf]
    · cases h : inB b (-1000000) 1000000
      · have hr := Lib.hid (show res a b c d x = 0 by simp [res, okB, h])
        go_wp2_with (go_at_call 35; refine (within_any _ _ _ _).mono ?_; rintro e w' ⟨rfl, rfl⟩)
        go_ret
        exact ⟨ret_int hr.out.symm, rfl⟩
      · have st := Lib.hid (show Seen a b c d 2 from ⟨fun _ => HS.out.1 (by omega), fun _ => h, fun h => by omega, fun h => by omega⟩)
        go_wp2_with (go_at_call 35; refine (within_any _ _ _ _).mono ?_; rintro e w' ⟨rfl, rfl⟩)
        go_round
        case rel => exact ⟨2, by omega, by omega, st.out, rfl⟩
        case measure => simp [intOf]
    · cases h : inB c (-1000000) 1000000
      · have hr := Lib.hid (show res a b c d x = 0 by simp [res, okB, h])
        go_wp2_with (go_at_call 35; refine (within_any _ _ _ _).mono ?_; rintro e w' ⟨rfl, rfl⟩)
        go_ret
        exact ⟨ret_int hr.out.symm, rfl⟩
      · have st := Lib.hid (show Seen a b c d 3 from ⟨fun _ => HS.out.1 (by omega), fun _ => HS.out.2.1 (by omega), fun _ => h, fun h => by omega⟩)
        go_wp2_with (go_at_call 35; refine (within_any _ _ _ _).mono ?_; rintro e w' ⟨rfl, rfl⟩)
        go_round
        case rel => exact ⟨3, by omega, by omega, st.out, rfl⟩
        case measure => simp [intOf]
    · cases h : inB d (-1000000) 1000000
      · have hr := Lib.hid (show res a b c d x = 0 by simp [res, okB, h])
        go_wp2_with (go_at_call 35; refine (within_any _ _ _ _).mono ?_; rintro e w' ⟨rfl, rfl⟩)
        go_ret
        exact ⟨ret_int hr.out.symm, rfl⟩
      · have st := Lib.hid (show Seen a b c d 4 from ⟨fun _ => HS.out.1 (by omega), fun _ => HS.out.2.1 (by omega), fun _ => HS.out.2.2.1 (by omega), fun _ => h⟩)
        go_wp2_with (go_at_call 35; refine (within_any _ _ _ _).mono ?_; rintro e w' ⟨rfl, rfl⟩)
        go_round
        case rel => exact ⟨4, by omega, by omega, st.out, rfl⟩
        case measure => simp [intOf]
    · have h1 := HS.out.1 (by omega)
      have h2 := HS.out.2.1 (by omega)
      have h3 := HS.out.2.2.1 (by omega)
      have h4 := HS.out.2.2.2 (by omega)
      have b1 := inB_t h1
      have b2 := inB_t h2
      have b3 := inB_t h3
      have b4 := inB_t h4
      have hr := Lib.hid (show res a b c d x = lineI a b c d x by simp [res, okB, *])
      clear h1 h2 h3 h4
      go_wp2_with (go_at_call 38; refine (blend_any _ _ _ _ _ _ b1.1 b1.2 b2.1 b2.2 b3.1 b3.2 b4.1 b4.2).mono ?_; rintro e w' ⟨rfl, rfl⟩)
      go_ret
      exact ⟨ret_int hr.out.symm, rfl⟩

end Go.Proofs.YtcmnmmgmhnhkhaaDoor.bBlend
namespace Go.Proofs.YtcmnmmgmhnhkhaaDoor
open Go.RowKit
theorem DivRound_in (a b : Int) (w : World) (a0 : -1000000000000 ≤ a) (a1 : a ≤ 1000000000000) (b0 : 1 ≤ b) (b1 : b ≤ 1000000000000) :
    Calls Tryd.prog 17 #[.int .i64 a, .int .i64 b] w fun r w' => r = .returned (.int .i64 (rnd a b)) ∧ w = w' := by
  have h := bDiv.impl_any a b w
  have e : bDiv.res a b = rnd a b := by
    have hb : (b == 0) = false := by rw [beq_eq_false_iff_ne]; omega
    rw [bDiv.res, bDiv.okB, hb, inB_mk a0 a1, inB_mk (by omega) b1]; rfl
  rw [e] at h
  exact h
theorem Blend_in (y z x : Int) (w : World) (y0 : -2500 ≤ y) (y1 : y ≤ 2500) (z0 : -2500 ≤ z) (z1 : z ≤ 2500) :
    Calls Tryd.prog 20 #[.int .i64 0, .int .i64 y, .int .i64 1000, .int .i64 z, .int .i64 x] w fun r w' => r = .returned (.int .i64 (lineI 0 y 1000 z x)) ∧ w = w' := by
  have h := bBlend.impl_any 0 y 1000 z x w
  have e : bBlend.res 0 y 1000 z x = lineI 0 y 1000 z x := by
    rw [bBlend.res, bBlend.okB, inB_mk (by omega) (by omega), inB_mk (by omega) (by omega), inB_mk (by omega) (by omega), inB_mk (by omega) (by omega)]; rfl
  rw [e] at h
  exact h
end Go.Proofs.YtcmnmmgmhnhkhaaDoor
