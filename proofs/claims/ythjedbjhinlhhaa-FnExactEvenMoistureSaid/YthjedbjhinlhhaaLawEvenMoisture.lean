/- For every humidity, the program's EvenMoisture returns what the reference's returns. Conditions: none. -/
import Derived.Test.YthjedbjhinlhhaaBlend
import Derived.ProofKit
import Derived.OpenShut
import Derived.ShutString
import Derived.ChangeOld
import Derived.Below
namespace Go.Proofs.Ythjedbjhinlhhaa.fnExactEvenMoisture
open Go.ChangeShapes Go.WideShapes Go.ChangeAt Go.RowKit
open Go.ChangeMaps (open_string shut_string)
set_option linter.unusedVariables false

def evenI (h : Int) : Int := if h ≤ 300 then lineI 0 0 300 60 h else if h ≤ 600 then lineI 300 60 600 110 h else if h ≤ 800 then lineI 600 110 800 160 h else lineI 800 160 1000 280 h
def res (h : Int) : Int := if inB h 0 1000 then evenI h else 0
def cod (h : Int) : Int := if inB h 0 1000 then 0 else 2

theorem isPart_any (n : Int) (w : World) :
    Calls Try.prog 50 #[.int .i64 n] w fun e w' => e = .returned (.bool (inB n 0 1000)) ∧ w = w' := by
  go_enter Try.func50, Try.ntmps50
  go_wp2_with (go_at_call 46; refine (within_any _ _ _ _).mono ?_; rintro e w' ⟨rfl, rfl⟩)
  go_ret
  exact ⟨rfl, rfl⟩

theorem l04Share_any (n : Int) (w : World) :
    Calls Try.prog 48 #[.int .i64 n] w fun e w' => e = .returned (.bool (inB n 0 1000)) ∧ w = w' := by
  go_enter Try.func48, Try.ntmps48
  go_wp2_with (go_at_call 44; refine (in_any _ _ _ _).mono ?_; rintro e w' ⟨rfl, rfl⟩)
  go_ret
  exact ⟨rfl, rfl⟩

def Seen (h k : Int) : Prop := (2 ≤ k → 300 < h) ∧ (3 ≤ k → 600 < h) ∧ (4 ≤ k → 800 < h)

set_option maxHeartbeats 800000 in
theorem even_any (h : Int) (w : World) (h0 : 0 ≤ h) (h1 : h ≤ 1000) :
    Calls Try.prog 51 #[.int .i64 h] w fun r w' => r = .returned (.int .i64 (evenI h)) ∧ Below w.heap.size w w' := by
  go_enter Try.func51, Try.ntmps51
  go_wp2_with fail
  go_loop [4] (fun i => ∃ k : Int, 1 ≤ k ∧ k ≤ 4 ∧ Seen h k ∧ i = .int .i64 k) (fun i => (4 - intOf i).toNat)
  case atStart => exact ⟨1, by omega, by omega, ⟨fun h => by omega, fun h => by omega, fun h => by omega⟩, rfl⟩
  case round =>
    obtain ⟨k, k1, k2, hs, rfl⟩ := hrel
    have HS := Lib.hid hs
    clear hs
    rcases (show k = 1 ∨ k = 2 ∨ k = 3 ∨ k = 4 by omega) with rfl | rfl | rfl | rfl
    · by_cases c : h ≤ 300
      · have hr := Lib.hid (show evenI h = lineI 0 0 300 60 h by unfold evenI; rw [if_pos (by omega)])
        go_wp2_with fail
        go_quiet ((go_at_call 47; exact Calls.quiet_of_same (flip (blend_any _ _ _ _ _ _ (by omega) (by omega) (by omega) (by omega) (by omega) (by omega) (by omega) (by omega)))))
        go_wp2
        go_ret
        exact ⟨ret_int hr.out.symm, below_drewN ((Below.refl _ _).alloc (Nat.le_refl _) _) _⟩
      · have st := Lib.hid (show Seen h 2 from ⟨fun _ => by omega, fun h => by omega, fun h => by omega⟩)
        go_wp2_with fail
        go_round
        case rel => exact ⟨2, by omega, by omega, st.out, rfl⟩
        case measure => simp [intOf]
    · have g1 := HS.out.1 (by omega)
      by_cases c : h ≤ 600
      · have hr := Lib.hid (show evenI h = lineI 300 60 600 110 h by unfold evenI; rw [if_neg (by omega), if_pos (by omega)])
        go_wp2_with fail
        go_quiet ((go_at_call 47; exact Calls.quiet_of_same (flip (blend_any _ _ _ _ _ _ (by omega) (by omega) (by omega) (by omega) (by omega) (by omega) (by omega) (by omega)))))
        go_wp2
        go_ret
        exact ⟨ret_int hr.out.symm, below_drewN ((Below.refl _ _).alloc (Nat.le_refl _) _) _⟩
      · have st := Lib.hid (show Seen h 3 from ⟨fun _ => by omega, fun _ => by omega, fun h => by omega⟩)
        go_wp2_with fail
        go_round
        case rel => exact ⟨3, by omega, by omega, st.out, rfl⟩
        case measure => simp [intOf]
    · have g1 := HS.out.1 (by omega)
      have g2 := HS.out.2.1 (by omega)
      by_cases c : h ≤ 800
      · have hr := Lib.hid (show evenI h = lineI 600 110 800 160 h by unfold evenI; rw [if_neg (by omega), if_neg (by omega), if_pos (by omega)])
        go_wp2_with fail
        go_quiet ((go_at_call 47; exact Calls.quiet_of_same (flip (blend_any _ _ _ _ _ _ (by omega) (by omega) (by omega) (by omega) (by omega) (by omega) (by omega) (by omega)))))
        go_wp2
        go_ret
        exact ⟨ret_int hr.out.symm, below_drewN ((Below.refl _ _).alloc (Nat.le_refl _) _) _⟩
      · have st := Lib.hid (show Seen h 4 from ⟨fun _ => by omega, fun _ => by omega, fun _ => by omega⟩)
        go_wp2_with fail
        go_round
        case rel => exact ⟨4, by omega, by omega, st.out, rfl⟩
        case measure => simp [intOf]
    · have g1 := HS.out.1 (by omega)
      have g2 := HS.out.2.1 (by omega)
      have g3 := HS.out.2.2 (by omega)
      have hr := Lib.hid (show evenI h = lineI 800 160 1000 280 h by unfold evenI; rw [if_neg (by omega), if_neg (by omega), if_neg (by omega)])
      go_wp2_with fail
      go_quiet ((go_at_call 47; exact Calls.quiet_of_same (flip (blend_any _ _ _ _ _ _ (by omega) (by omega) (by omega) (by omega) (by omega) (by omega) (by omega) (by omega)))))
      go_wp2
      go_ret
      exact ⟨ret_int hr.out.symm, below_drewN ((Below.refl _ _).alloc (Nat.le_refl _) _) _⟩

set_option maxHeartbeats 800000 in
theorem l04Even_any (h : Int) (w : World) (h0 : 0 ≤ h) (h1 : h ≤ 1000) :
    Calls Try.prog 49 #[.int .i64 h] w fun r w' => r = .returned (.int .i64 (evenI h)) ∧ Below w.heap.size w w' := by
  go_enter Try.func49, Try.ntmps49
  go_wp2_with fail
  go_loop [5] (fun i => ∃ k : Int, 1 ≤ k ∧ k ≤ 4 ∧ Seen h k ∧ i = .int .i64 k) (fun i => (4 - intOf i).toNat)
  case atStart => exact ⟨1, by omega, by omega, ⟨fun h => by omega, fun h => by omega, fun h => by omega⟩, rfl⟩
  case round =>
    obtain ⟨k, k1, k2, hs, rfl⟩ := hrel
    have HS := Lib.hid hs
    clear hs
    rcases (show k = 1 ∨ k = 2 ∨ k = 3 ∨ k = 4 by omega) with rfl | rfl | rfl | rfl
    · by_cases c : h ≤ 300
      · have hr := Lib.hid (show evenI h = lineI 0 0 300 60 h by unfold evenI; rw [if_pos (by omega)])
        go_wp2_with fail
        go_quiet ((go_at_call 45; exact Calls.quiet_of_same (flip (l01Line_any _ _ _ _ _ _ (by omega) (by omega) (by omega) (by omega) (by omega) (by omega) (by omega) (by omega)))))
        go_wp2
        go_ret
        exact ⟨ret_int hr.out.symm, below_drewN (((Below.refl _ _).alloc (Nat.le_refl _) _).alloc (by simp) _) _⟩
      · have st := Lib.hid (show Seen h 2 from ⟨fun _ => by omega, fun h => by omega, fun h => by omega⟩)
        go_wp2_with fail
        go_round
        case rel => exact ⟨2, by omega, by omega, st.out, rfl⟩
        case measure => simp [intOf]
    · have g1 := HS.out.1 (by omega)
      by_cases c : h ≤ 600
      · have hr := Lib.hid (show evenI h = lineI 300 60 600 110 h by unfold evenI; rw [if_neg (by omega), if_pos (by omega)])
        go_wp2_with fail
        go_quiet ((go_at_call 45; exact Calls.quiet_of_same (flip (l01Line_any _ _ _ _ _ _ (by omega) (by omega) (by omega) (by omega) (by omega) (by omega) (by omega) (by omega)))))
        go_wp2
        go_ret
        exact ⟨ret_int hr.out.symm, below_drewN (((Below.refl _ _).alloc (Nat.le_refl _) _).alloc (by simp) _) _⟩
      · have st := Lib.hid (show Seen h 3 from ⟨fun _ => by omega, fun _ => by omega, fun h => by omega⟩)
        go_wp2_with fail
        go_round
        case rel => exact ⟨3, by omega, by omega, st.out, rfl⟩
        case measure => simp [intOf]
    · have g1 := HS.out.1 (by omega)
      have g2 := HS.out.2.1 (by omega)
      by_cases c : h ≤ 800
      · have hr := Lib.hid (show evenI h = lineI 600 110 800 160 h by unfold evenI; rw [if_neg (by omega), if_neg (by omega), if_pos (by omega)])
        go_wp2_with fail
        go_quiet ((go_at_call 45; exact Calls.quiet_of_same (flip (l01Line_any _ _ _ _ _ _ (by omega) (by omega) (by omega) (by omega) (by omega) (by omega) (by omega) (by omega)))))
        go_wp2
        go_ret
        exact ⟨ret_int hr.out.symm, below_drewN (((Below.refl _ _).alloc (Nat.le_refl _) _).alloc (by simp) _) _⟩
      · have st := Lib.hid (show Seen h 4 from ⟨fun _ => by omega, fun _ => by omega, fun _ => by omega⟩)
        go_wp2_with fail
        go_round
        case rel => exact ⟨4, by omega, by omega, st.out, rfl⟩
        case measure => simp [intOf]
    · have g1 := HS.out.1 (by omega)
      have g2 := HS.out.2.1 (by omega)
      have g3 := HS.out.2.2 (by omega)
      have hr := Lib.hid (show evenI h = lineI 800 160 1000 280 h by unfold evenI; rw [if_neg (by omega), if_neg (by omega), if_neg (by omega)])
      go_wp2_with fail
      go_quiet ((go_at_call 45; exact Calls.quiet_of_same (flip (l01Line_any _ _ _ _ _ _ (by omega) (by omega) (by omega) (by omega) (by omega) (by omega) (by omega) (by omega)))))
      go_wp2
      go_ret
      exact ⟨ret_int hr.out.symm, below_drewN (((Below.refl _ _).alloc (Nat.le_refl _) _).alloc (by simp) _) _⟩

theorem impl_any (d : Int) (w : World) :
    Calls Try.prog 18 #[.int .i64 d] w fun r w' => r = .returned (.tuple #[.int .i64 (res d), .int .i64 (cod d)]) ∧ Below w.heap.size w w' := by
  cases h1 : inB d 0 1000
  case true =>
    have b1 := inB_t h1
    have hr := Lib.hid (show res d = evenI d by rw [res, h1, if_pos rfl])
    have hc := Lib.hid (show cod d = 0 by rw [cod, h1, if_pos rfl])
    go_enter Try.func18, Try.ntmps18
    go_wp2_with (first | (go_at_call 50; refine (isPart_any _ _).mono ?_; rintro e w' ⟨rfl, rfl⟩) | (go_at_call 51; refine (even_any _ _ b1.1 b1.2).mono ?_; rintro e w' ⟨rfl, hb⟩; have HB := Lib.hid hb; clear hb))
    go_ret2
    exact ⟨ret_int2 hr.out.symm hc.out.symm, HB.out⟩
  case false =>
    go_enter Try.func18, Try.ntmps18
    go_wp2_with (go_at_call 50; refine (isPart_any _ _).mono ?_; rintro e w' ⟨rfl, rfl⟩)
    go_ret2
    exact ⟨ret_int2 (by simp [res, *]) (by simp [cod, *]), Below.refl _ _⟩

theorem spec_any (d : Int) (w : World) :
    Calls Try.prog 17 #[.int .i64 d] w fun r w' => r = .returned (.tuple #[.int .i64 (res d), .int .i64 (cod d)]) ∧ Below w.heap.size w w' := by
  cases h1 : inB d 0 1000
  case true =>
    have b1 := inB_t h1
    have hr := Lib.hid (show res d = evenI d by rw [res, h1, if_pos rfl])
    have hc := Lib.hid (show cod d = 0 by rw [cod, h1, if_pos rfl])
    go_enter Try.func17, Try.ntmps17
    go_wp2_with (first | (go_at_call 48; refine (l04Share_any _ _).mono ?_; rintro e w' ⟨rfl, rfl⟩) | (go_at_call 49; refine (l04Even_any _ _ b1.1 b1.2).mono ?_; rintro e w' ⟨rfl, hb⟩; have HB := Lib.hid hb; clear hb))
    go_ret2
    exact ⟨ret_int2 hr.out.symm hc.out.symm, HB.out⟩
  case false =>
    go_enter Try.func17, Try.ntmps17
    go_wp2_with (go_at_call 48; refine (l04Share_any _ _).mono ?_; rintro e w' ⟨rfl, rfl⟩)
    go_ret2
    exact ⟨ret_int2 (by simp [res, *]) (by simp [cod, *]), Below.refl _ _⟩

theorem walk (d : Int) (w : World) (w0 : (Lit.int .i64 d).wf = true) :
    Calls Try.prog 4 #[.int .i64 d] w fun r w' => r = .returned (.bool true) ∧ Below w.heap.size w w' := by
  go_enter Try.func4, Try.ntmps4
  go_wp2_with (first | (go_at_call 17; refine (spec_any _ _).mono ?_; rintro e w1 ⟨rfl, b1⟩; have B1 := Lib.hid b1; clear b1) | (go_at_call 18; refine (impl_any _ _).mono ?_; rintro e w2 ⟨rfl, b2⟩; have B2 := Lib.hid b2; clear b2))
  go_ret
  exact ⟨rfl, B1.out.trans (B2.out.mono B1.out.size)⟩

/-! ### The row's step -/
theorem own : ownKnob Try.prog.godebug = none := by kernel_rfl
theorem laidOut : laidOutB Try.prog = true := by kernel_rfl
set_option maxRecDepth 100000 in
theorem lifted (os : Os) (started : os.Started) (H : Type) (enc : TypeId × Value → H) :
    ReturnsInHanded {} Try.checked os 4 .any (Rows.fnExactEvenMoistureSpec.pre6 enc Try.prog Try.f4 Rows.fnExactEvenMoistureRow.domain false) (Rows.fnExactEvenMoistureSpec.post enc Try.prog Try.f4 false true false false) := by
  refine returnsInHanded_of_change (C := Try.checked) own started (by kernel_rfl) Try.func4
    (ChangeSpec.witness6 (enc := enc) (C := Try.checked) false ⟨#[], #[.int .i64 0], []⟩ 8 (by kernel_rfl) (by kernel_rfl) (by kernel_rfl) (by kernel_rfl)) ?_
  intro W base args ds gs before hval0 hW hcnd _
  have hval : ∀ (j : Nat) t v, Try.f4.params[j]? = some t → args[j]? = some v → Value.okWide Try.prog W .any base t v := hval0
  have hW' := hW
  obtain ⟨p, q, hA0, hV, rfl, hfz, hnd⟩ := hW
  have hA : DataW.TrodAll enc Try.prog W 0 (fun _ => true) true Try.f4.params.toList args.toList ds p := hA0
  rw [Try.params4] at hA hval
  obtain ⟨v0, vs0, d0, ds0, p0, q0, hargs, rfl, rfl, h0, r0⟩ := trodAll_cons hA
  obtain ⟨rfl, rfl, rfl⟩ := trodAll_nil r0
  obtain rfl : args = #[v0] := by cases args; simp_all
  obtain ⟨rfl, rfl⟩ := trodVars_none hV
  have k0 := h0
  have lt0 : ∀ x ∈ p0, x.block < W.heap.size := by obtain ⟨m, hm⟩ := k0; exact DataW.trod_lt m _ _ _ hm
  obtain ⟨a0, rfl, rfl, rfl, w0⟩ := open_int Try.underlying2 (hval 0 2 v0 rfl rfl) h0
  clear hA0 hval0
  refine (walk a0 W w0).mono fun e W' ⟨he, bel⟩ => ?_
  subst he
  exact ⟨_, rfl, _, _, _, [], _, [], hW', trodAll_mk1 (shut_bool Try.underlying4 _), (trodAll_cons_mk (Below.trod laidOut (by kernel_rfl) (of_decide_eq_true (by kernel_rfl)) k0 bel lt0) trodAll_mk0), rfl, bel.frame _, fun h => by cases h⟩

theorem over : Rows.fnExactEvenMoistureRow.holds Try.pinned (OpenSpec.ofChange Rows.fnExactEvenMoistureSpec) :=
  OpenClaim.holds_of_wide 4 Try.f4 rfl rfl rfl rfl rfl rfl rfl ⟨rfl, rfl, rfl, rfl, rfl⟩ rfl rfl rfl rfl rfl (by kernel_rfl) Try.func4 (by kernel_rfl)
    (of_decide_eq_true (by kernel_rfl)) (by unfold Func.isWrapper; first | (rw [if_pos (by decide +kernel)]; kernel_rfl) | (rw [if_neg (by decide +kernel)]; exact ⟨rfl, rfl⟩))
    (fun os started H enc _ => lifted os started H enc)

/-- The given statement. -/
theorem proved : Rows.FnExactEvenMoistureSaid := over
#print axioms proved

end Go.Proofs.Ythjedbjhinlhhaa.fnExactEvenMoisture
