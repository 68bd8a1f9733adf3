/- For every two days, the program's WorkDays returns what the reference's returns. Conditions: none. -/
import Derived.Test.YtdglbppnhhhdmaaDay
import Derived.ProofKit
import Derived.OpenShut
import Derived.ShutString
import Derived.ChangeOld
import Derived.Below
namespace Go.Proofs.Ytdglbppnhhhdmaa.fnExactWorkDays
open Go.ChangeShapes Go.WideShapes Go.ChangeAt Go.RowKit
open Go.ChangeMaps (open_string shut_string)
set_option linter.unusedVariables false

def okB (a b : Int) : Bool := inB a 0 36524 && inB b a 36525
def res (a b : Int) : Int := if okB a b then wds b - wds a else 0
def cod (a b : Int) : Int := if okB a b then 0 else 2
theorem wds_bd (a : Int) (h : 0 ≤ a) (h2 : a ≤ 36525) : 0 ≤ wds a ∧ wds a ≤ 40000 := by unfold wds; split <;> omega

theorem impl_any (a b : Int) (w : World) :
    Calls Try.prog 28 #[.int .i64 a, .int .i64 b] w fun r w' => r = .returned (.tuple #[.int .i64 (res a b), .int .i64 (cod a b)]) ∧ w = w' := by
  cases h1 : inB a 0 36524 <;> cases h2 : inB b a 36525
  case true.true =>
    have b1 := inB_t h1
    have b2 := inB_t h2
    have hok := Lib.hid (show okB a b = true by simp [okB, *])
    have hw := Lib.hid (wds_weeks a b b1.1 b2.1)
    go_enter Try.func28, Try.ntmps28
    go_wp2_with (first | (go_at_call 40; refine (within_any _ _ _ _).mono ?_; rintro e w' ⟨rfl, rfl⟩) | (go_at_call 43; refine (isDay_any _ _).mono ?_; rintro e w' ⟨rfl, rfl⟩))
    go_loop [6, 7] (fun n d => ∃ x : Int, b - (b - a) % 7 ≤ x ∧ x ≤ b ∧ n = .int .i64 (wds x - wds a) ∧ d = .int .i64 x) (fun _ d => (b - intOf d).toNat)
    case atStart => exact ⟨b - (b - a) % 7, by omega, by omega, by rw [hw.out], rfl⟩
    case round =>
      obtain ⟨x, x1, x2, rfl, rfl⟩ := hrel
      have k1 := wds_bd x (by omega) (by omega)
      have k2 := wds_bd a (by omega) (by omega)
      have k3 := Lib.hid (wds_succ x (by omega))
      by_cases hl : x < b
      · by_cases hd : (x + 5) % 7 < 5
        · go_wp2_with go_in
          go_round
          case rel => exact ⟨x + 1, by omega, by omega, by rw [k3.out, if_pos hd]; go_num, rfl⟩
          case measure => simp [intOf]; omega
        · go_wp2_with go_in
          go_round
          case rel => exact ⟨x + 1, by omega, by omega, by rw [k3.out, if_neg (by omega)]; go_num, rfl⟩
          case measure => simp [intOf]; omega
      · obtain rfl : x = b := by omega
        go_wp2
        go_ret2
        exact ⟨ret_int2 (by rw [res, hok.out, if_pos rfl]) (by rw [cod, hok.out, if_pos rfl]), rfl⟩
  all_goals
    go_enter Try.func28, Try.ntmps28
    go_wp2_with (first | (go_at_call 40; refine (within_any _ _ _ _).mono ?_; rintro e w' ⟨rfl, rfl⟩) | (go_at_call 43; refine (isDay_any _ _).mono ?_; rintro e w' ⟨rfl, rfl⟩))
    go_ret2
    exact ⟨ret_int2 (by simp [res, okB, *]) (by simp [cod, okB, *]), rfl⟩

theorem spec_any (a b : Int) (w : World) :
    Calls Try.prog 27 #[.int .i64 a, .int .i64 b] w fun r w' => r = .returned (.tuple #[.int .i64 (res a b), .int .i64 (cod a b)]) ∧ w = w' := by
  cases h1 : inB a 0 36524 <;> cases h2 : inB b a 36525
  case true.true =>
    have b1 := inB_t h1
    have b2 := inB_t h2
    have hok := Lib.hid (show okB a b = true by simp [okB, *])
    go_enter Try.func27, Try.ntmps27
    go_wp2_with (first | (go_at_call 39; refine (in_any _ _ _ _).mono ?_; rintro e w' ⟨rfl, rfl⟩) | (go_at_call 41; refine (l02Day_any _ _).mono ?_; rintro e w' ⟨rfl, rfl⟩) | go_in)
    go_loop [6, 7] (fun n d => ∃ x : Int, a ≤ x ∧ x ≤ b ∧ n = .int .i64 (wds x - wds a) ∧ d = .int .i64 x) (fun _ d => (b - intOf d).toNat)
    case atStart => exact ⟨a, by omega, by omega, by simp, rfl⟩
    case round =>
      obtain ⟨x, x1, x2, rfl, rfl⟩ := hrel
      have k1 := wds_bd x (by omega) (by omega)
      have k2 := wds_bd a (by omega) (by omega)
      have k3 := Lib.hid (wds_succ x (by omega))
      by_cases hl : x < b
      · by_cases hd : (x + 5) % 7 < 5
        · go_wp2_with go_in
          go_round
          case rel => exact ⟨x + 1, by omega, by omega, by rw [k3.out, if_pos hd]; go_num, rfl⟩
          case measure => simp [intOf]; omega
        · go_wp2_with go_in
          go_round
          case rel => exact ⟨x + 1, by omega, by omega, by rw [k3.out, if_neg (by omega)]; go_num, rfl⟩
          case measure => simp [intOf]; omega
      · obtain rfl : x = b := by omega
        go_wp2
        go_ret2
        exact ⟨ret_int2 (by rw [res, hok.out, if_pos rfl]) (by rw [cod, hok.out, if_pos rfl]), rfl⟩
  all_goals
    go_enter Try.func27, Try.ntmps27
    go_wp2_with (first | (go_at_call 39; refine (in_any _ _ _ _).mono ?_; rintro e w' ⟨rfl, rfl⟩) | (go_at_call 41; refine (l02Day_any _ _).mono ?_; rintro e w' ⟨rfl, rfl⟩) | go_in)
    go_ret2
    exact ⟨ret_int2 (by simp [res, okB, *]) (by simp [cod, okB, *]), rfl⟩

theorem walk (a b : Int) (w : World) (w0 : (Lit.int .i64 a).wf = true) (w1 : (Lit.int .i64 b).wf = true) :
    Calls Try.prog 10 #[.int .i64 a, .int .i64 b] w fun r w' => r = .returned (.bool true) ∧ Below w.heap.size w w' := by
  go_enter Try.func10, Try.ntmps10
  go_wp2_with (first | (go_at_call 27; refine (spec_any _ _ _).mono ?_; rintro e w' ⟨rfl, rfl⟩) | (go_at_call 28; refine (impl_any _ _ _).mono ?_; rintro e w' ⟨rfl, rfl⟩))
  go_ret
  exact ⟨rfl, Below.refl _ _⟩

/-! ### The row's step -/
theorem own : ownKnob Try.prog.godebug = none := by kernel_rfl
theorem laidOut : laidOutB Try.prog = true := by kernel_rfl
set_option maxRecDepth 100000 in
theorem lifted (os : Os) (started : os.Started) (H : Type) (enc : TypeId × Value → H) :
    ReturnsInHanded {} Try.checked os 10 .any (Rows.fnExactWorkDaysSpec.pre6 enc Try.prog Try.f10 Rows.fnExactWorkDaysRow.domain false) (Rows.fnExactWorkDaysSpec.post enc Try.prog Try.f10 false true false false) := by
  refine returnsInHanded_of_change (C := Try.checked) own started (by kernel_rfl) Try.func10
    (ChangeSpec.witness6 (enc := enc) (C := Try.checked) false ⟨#[], #[.int .i64 0, .int .i64 0], []⟩ 8 (by kernel_rfl) (by kernel_rfl) (by kernel_rfl) (by kernel_rfl)) ?_
  intro W base args ds gs before hval0 hW hcnd _
  have hval : ∀ (j : Nat) t v, Try.f10.params[j]? = some t → args[j]? = some v → Value.okWide Try.prog W .any base t v := hval0
  have hW' := hW
  obtain ⟨p, q, hA0, hV, rfl, hfz, hnd⟩ := hW
  have hA : DataW.TrodAll enc Try.prog W 0 (fun _ => true) true Try.f10.params.toList args.toList ds p := hA0
  rw [Try.params10] at hA hval
  obtain ⟨v0, vs0, d0, ds0, p0, q0, hargs, rfl, rfl, h0, r0⟩ := trodAll_cons hA
  obtain ⟨v1, vs1, d1, ds1, p1, q1, rfl, rfl, rfl, h1, r1⟩ := trodAll_cons r0
  obtain ⟨rfl, rfl, rfl⟩ := trodAll_nil r1
  obtain rfl : args = #[v0, v1] := by cases args; simp_all
  obtain ⟨rfl, rfl⟩ := trodVars_none hV
  have k0 := h0
  have lt0 : ∀ x ∈ p0, x.block < W.heap.size := by obtain ⟨m, hm⟩ := k0; exact DataW.trod_lt m _ _ _ hm
  obtain ⟨a0, rfl, rfl, rfl, w0⟩ := open_int Try.underlying2 (hval 0 2 v0 rfl rfl) h0
  have k1 := h1
  have lt1 : ∀ x ∈ p1, x.block < W.heap.size := by obtain ⟨m, hm⟩ := k1; exact DataW.trod_lt m _ _ _ hm
  obtain ⟨a1, rfl, rfl, rfl, w1⟩ := open_int Try.underlying2 (hval 1 2 v1 rfl rfl) h1
  clear hA0 hval0
  refine (walk a0 a1 W w0 w1).mono fun e W' ⟨he, bel⟩ => ?_
  subst he
  exact ⟨_, rfl, _, _, _, [], _, [], hW', trodAll_mk1 (shut_bool Try.underlying4 _), (trodAll_cons_mk (Below.trod laidOut (by kernel_rfl) (of_decide_eq_true (by kernel_rfl)) k0 bel lt0) (trodAll_cons_mk (Below.trod laidOut (by kernel_rfl) (of_decide_eq_true (by kernel_rfl)) k1 bel lt1) trodAll_mk0)), rfl, bel.frame _, fun h => by cases h⟩

theorem over : Rows.fnExactWorkDaysRow.holds Try.pinned (OpenSpec.ofChange Rows.fnExactWorkDaysSpec) :=
  OpenClaim.holds_of_wide 10 Try.f10 rfl rfl rfl rfl rfl rfl rfl ⟨rfl, rfl, rfl, rfl, rfl⟩ rfl rfl rfl rfl rfl (by kernel_rfl) Try.func10 (by kernel_rfl)
    (of_decide_eq_true (by kernel_rfl)) (by unfold Func.isWrapper; first | (rw [if_pos (by decide +kernel)]; kernel_rfl) | (rw [if_neg (by decide +kernel)]; exact ⟨rfl, rfl⟩))
    (fun os started H enc _ => lifted os started H enc)

/-- The given statement. -/
theorem proved : Rows.FnExactWorkDaysSaid := over
#print axioms proved

end Go.Proofs.Ytdglbppnhhhdmaa.fnExactWorkDays
