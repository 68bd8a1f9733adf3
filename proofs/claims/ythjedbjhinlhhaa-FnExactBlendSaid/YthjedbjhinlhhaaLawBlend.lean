/- For every two points and every place, the program's Blend returns what the reference's returns. Conditions: none. -/
import Derived.Test.YthjedbjhinlhhaaBlend
import Derived.ProofKit
import Derived.OpenShut
import Derived.ShutString
import Derived.ChangeOld
import Derived.Below
namespace Go.Proofs.Ythjedbjhinlhhaa.fnExactBlend
open Go.ChangeShapes Go.WideShapes Go.ChangeAt Go.RowKit
open Go.ChangeMaps (open_string shut_string)
set_option linter.unusedVariables false

def okB (x0 y0 x1 y1 : Int) : Bool := inB x0 (-1000000) 1000000 && (inB y0 (-1000000) 1000000 && (inB x1 (-1000000) 1000000 && inB y1 (-1000000) 1000000))
def res (x0 y0 x1 y1 x : Int) : Int := if okB x0 y0 x1 y1 then lineI x0 y0 x1 y1 x else 0

def Seen (a b c d k : Int) : Prop := (1 ≤ k → inB a (-1000000) 1000000 = true) ∧ (2 ≤ k → inB b (-1000000) 1000000 = true) ∧ (3 ≤ k → inB c (-1000000) 1000000 = true) ∧ (4 ≤ k → inB d (-1000000) 1000000 = true)

theorem idx0 (a b c d : Int) (w : World) : (Instr.index 51 (.agg #[.int .i64 a, .int .i64 b, .int .i64 c, .int .i64 d]) (.int .i64 0)).run Try.prog w = .ok (.int .i64 a) w := by kernel_rfl
theorem idx1 (a b c d : Int) (w : World) : (Instr.index 51 (.agg #[.int .i64 a, .int .i64 b, .int .i64 c, .int .i64 d]) (.int .i64 1)).run Try.prog w = .ok (.int .i64 b) w := by kernel_rfl
theorem idx2 (a b c d : Int) (w : World) : (Instr.index 51 (.agg #[.int .i64 a, .int .i64 b, .int .i64 c, .int .i64 d]) (.int .i64 2)).run Try.prog w = .ok (.int .i64 c) w := by kernel_rfl
theorem idx3 (a b c d : Int) (w : World) : (Instr.index 51 (.agg #[.int .i64 a, .int .i64 b, .int .i64 c, .int .i64 d]) (.int .i64 3)).run Try.prog w = .ok (.int .i64 d) w := by kernel_rfl

set_option maxHeartbeats 800000 in
theorem impl_any (a b c d x : Int) (w : World) :
    Calls Try.prog 16 #[.int .i64 a, .int .i64 b, .int .i64 c, .int .i64 d, .int .i64 x] w fun r w' => r = .returned (.int .i64 (res a b c d x)) ∧ w = w' := by
  have i0 := idx0 a b c d
  have i1 := idx1 a b c d
  have i2 := idx2 a b c d
  have i3 := idx3 a b c d
  go_enter Try.func16, Try.ntmps16
  go_wp2_with fail
  go_loop [18] (fun i => ∃ k : Int, 0 ≤ k ∧ k ≤ 4 ∧ Seen a b c d k ∧ i = .int .i64 k) (fun i => (4 - intOf i).toNat)
  case atStart => exact ⟨0, by omega, by omega, ⟨fun h => by omega, fun h => by omega, fun h => by omega, fun h => by omega⟩, rfl⟩
  case round =>
    obtain ⟨k, k1, k2, hs, rfl⟩ := hrel
    have HS := Lib.hid hs
    clear hs
    rcases (show k = 0 ∨ k = 1 ∨ k = 2 ∨ k = 3 ∨ k = 4 by omega) with rfl | rfl | rfl | rfl | rfl
    · cases h : inB a (-1000000) 1000000
      · have hr := Lib.hid (show res a b c d x = 0 by simp [res, okB, h])
        go_wp2_with (go_at_call 46; refine (within_any _ _ _ _).mono ?_; rintro e w' ⟨rfl, rfl⟩)
        go_ret
        exact ⟨ret_int hr.out.symm, rfl⟩
      · have st := Lib.hid (show Seen a b c d 1 from ⟨fun _ => h, fun h => by omega, fun h => by omega, fun h => by omega⟩)
        go_wp2_with (go_at_call 46; refine (within_any _ _ _ _).mono ?_; rintro e w' ⟨rfl, rfl⟩)
        go_round
        case rel => exact ⟨1, by omega, by omega, st.out, rfl⟩
        case measure => simp [intOf]
    · cases h : inB b (-1000000) 1000000
      · have hr := Lib.hid (show res a b c d x = 0 by simp [res, okB, h])
        go_wp2_with (go_at_call 46; refine (within_any _ _ _ _).mono ?_; rintro e w' ⟨rfl, rfl⟩)
        go_ret
        exact ⟨ret_int hr.out.symm, rfl⟩
      · have st := Lib.hid (show Seen a b c d 2 from ⟨fun _ => HS.out.1 (by omega), fun _ => h, fun h => by omega, fun h => by omega⟩)
        go_wp2_with (go_at_call 46; refine (within_any _ _ _ _).mono ?_; rintro e w' ⟨rfl, rfl⟩)
        go_round
        case rel => exact ⟨2, by omega, by omega, st.out, rfl⟩
        case measure => simp [intOf]
    · cases h : inB c (-1000000) 1000000
      · have hr := Lib.hid (show res a b c d x = 0 by simp [res, okB, h])
        go_wp2_with (go_at_call 46; refine (within_any _ _ _ _).mono ?_; rintro e w' ⟨rfl, rfl⟩)
        go_ret
        exact ⟨ret_int hr.out.symm, rfl⟩
      · have st := Lib.hid (show Seen a b c d 3 from ⟨fun _ => HS.out.1 (by omega), fun _ => HS.out.2.1 (by omega), fun _ => h, fun h => by omega⟩)
        go_wp2_with (go_at_call 46; refine (within_any _ _ _ _).mono ?_; rintro e w' ⟨rfl, rfl⟩)
        go_round
        case rel => exact ⟨3, by omega, by omega, st.out, rfl⟩
        case measure => simp [intOf]
    · cases h : inB d (-1000000) 1000000
      · have hr := Lib.hid (show res a b c d x = 0 by simp [res, okB, h])
        go_wp2_with (go_at_call 46; refine (within_any _ _ _ _).mono ?_; rintro e w' ⟨rfl, rfl⟩)
        go_ret
        exact ⟨ret_int hr.out.symm, rfl⟩
      · have st := Lib.hid (show Seen a b c d 4 from ⟨fun _ => HS.out.1 (by omega), fun _ => HS.out.2.1 (by omega), fun _ => HS.out.2.2.1 (by omega), fun _ => h⟩)
        go_wp2_with (go_at_call 46; refine (within_any _ _ _ _).mono ?_; rintro e w' ⟨rfl, rfl⟩)
        go_round
        case rel => exact ⟨4, by omega, by omega, st.out, rfl⟩
        case measure => simp [intOf]
    · have h1 := HS.out.1 (by omega)
      have h2 := HS.out.2.1 (by omega)
      have h3 := HS.out.2.2.1 (by omega)
      have h4 := HS.out.2.2.2 (by omega)
      have b1 := inB_t h1
      have b2 := inB_t h2
      have b3 := inB_t h3
      have b4 := inB_t h4
      have hr := Lib.hid (show res a b c d x = lineI a b c d x by simp [res, okB, *])
      clear h1 h2 h3 h4
      go_wp2_with (go_at_call 47; refine (blend_any _ _ _ _ _ _ b1.1 b1.2 b2.1 b2.2 b3.1 b3.2 b4.1 b4.2).mono ?_; rintro e w' ⟨rfl, rfl⟩)
      go_ret
      exact ⟨ret_int hr.out.symm, rfl⟩

theorem spec_any (a b c d x : Int) (w : World) :
    Calls Try.prog 15 #[.int .i64 a, .int .i64 b, .int .i64 c, .int .i64 d, .int .i64 x] w fun r w' => r = .returned (.int .i64 (res a b c d x)) ∧ w = w' := by
  cases h1 : inB a (-1000000) 1000000 <;> cases h2 : inB b (-1000000) 1000000 <;> cases h3 : inB c (-1000000) 1000000 <;> cases h4 : inB d (-1000000) 1000000
  case true.true.true.true =>
    have b1 := inB_t h1
    have b2 := inB_t h2
    have b3 := inB_t h3
    have b4 := inB_t h4
    have hr := Lib.hid (show res a b c d x = lineI a b c d x by simp [res, okB, *])
    go_enter Try.func15, Try.ntmps15
    go_wp2_with (first | (go_at_call 44; refine (in_any _ _ _ _).mono ?_; rintro e w' ⟨rfl, rfl⟩) | (go_at_call 45; refine (l01Line_any _ _ _ _ _ _ b1.1 b1.2 b2.1 b2.2 b3.1 b3.2 b4.1 b4.2).mono ?_; rintro e w' ⟨rfl, rfl⟩))
    go_ret
    exact ⟨ret_int hr.out.symm, rfl⟩
  all_goals
    go_enter Try.func15, Try.ntmps15
    go_wp2_with (go_at_call 44; refine (in_any _ _ _ _).mono ?_; rintro e w' ⟨rfl, rfl⟩)
    go_ret
    exact ⟨ret_int (by simp [res, okB, *]), rfl⟩

theorem walk (a b c d x : Int) (w : World) (w0 : (Lit.int .i64 a).wf = true) (w1 : (Lit.int .i64 b).wf = true) (w2 : (Lit.int .i64 c).wf = true) (w3 : (Lit.int .i64 d).wf = true) (w4 : (Lit.int .i64 x).wf = true) :
    Calls Try.prog 3 #[.int .i64 a, .int .i64 b, .int .i64 c, .int .i64 d, .int .i64 x] w fun r w' => r = .returned (.bool true) ∧ Below w.heap.size w w' := by
  go_enter Try.func3, Try.ntmps3
  go_wp2_with (first | (go_at_call 15; refine (spec_any _ _ _ _ _ _).mono ?_; rintro e w' ⟨rfl, rfl⟩) | (go_at_call 16; refine (impl_any _ _ _ _ _ _).mono ?_; rintro e w' ⟨rfl, rfl⟩))
  go_ret
  exact ⟨rfl, Below.refl _ _⟩

/-! ### The row's step -/
theorem own : ownKnob Try.prog.godebug = none := by kernel_rfl
theorem laidOut : laidOutB Try.prog = true := by kernel_rfl
set_option maxRecDepth 100000 in
theorem lifted (os : Os) (started : os.Started) (H : Type) (enc : TypeId × Value → H) :
    ReturnsInHanded {} Try.checked os 3 .any (Rows.fnExactBlendSpec.pre6 enc Try.prog Try.f3 Rows.fnExactBlendRow.domain false) (Rows.fnExactBlendSpec.post enc Try.prog Try.f3 false true false false) := by
  refine returnsInHanded_of_change (C := Try.checked) own started (by kernel_rfl) Try.func3
    (ChangeSpec.witness6 (enc := enc) (C := Try.checked) false ⟨#[], #[.int .i64 0, .int .i64 0, .int .i64 0, .int .i64 0, .int .i64 0], []⟩ 8 (by kernel_rfl) (by kernel_rfl) (by kernel_rfl) (by kernel_rfl)) ?_
  intro W base args ds gs before hval0 hW hcnd _
  have hval : ∀ (j : Nat) t v, Try.f3.params[j]? = some t → args[j]? = some v → Value.okWide Try.prog W .any base t v := hval0
  have hW' := hW
  obtain ⟨p, q, hA0, hV, rfl, hfz, hnd⟩ := hW
  have hA : DataW.TrodAll enc Try.prog W 0 (fun _ => true) true Try.f3.params.toList args.toList ds p := hA0
  rw [Try.params3] at hA hval
  obtain ⟨v0, vs0, d0, ds0, p0, q0, hargs, rfl, rfl, h0, r0⟩ := trodAll_cons hA
  obtain ⟨v1, vs1, d1, ds1, p1, q1, rfl, rfl, rfl, h1, r1⟩ := trodAll_cons r0
  obtain ⟨v2, vs2, d2, ds2, p2, q2, rfl, rfl, rfl, h2, r2⟩ := trodAll_cons r1
  obtain ⟨v3, vs3, d3, ds3, p3, q3, rfl, rfl, rfl, h3, r3⟩ := trodAll_cons r2
  obtain ⟨v4, vs4, d4, ds4, p4, q4, rfl, rfl, rfl, h4, r4⟩ := trodAll_cons r3
  obtain ⟨rfl, rfl, rfl⟩ := trodAll_nil r4
  obtain rfl : args = #[v0, v1, v2, v3, v4] := by cases args; simp_all
  obtain ⟨rfl, rfl⟩ := trodVars_none hV
  have k0 := h0
  have lt0 : ∀ x ∈ p0, x.block < W.heap.size := by obtain ⟨m, hm⟩ := k0; exact DataW.trod_lt m _ _ _ hm
  obtain ⟨a0, rfl, rfl, rfl, w0⟩ := open_int Try.underlying2 (hval 0 2 v0 rfl rfl) h0
  have k1 := h1
  have lt1 : ∀ x ∈ p1, x.block < W.heap.size := by obtain ⟨m, hm⟩ := k1; exact DataW.trod_lt m _ _ _ hm
  obtain ⟨a1, rfl, rfl, rfl, w1⟩ := open_int Try.underlying2 (hval 1 2 v1 rfl rfl) h1
  have k2 := h2
  have lt2 : ∀ x ∈ p2, x.block < W.heap.size := by obtain ⟨m, hm⟩ := k2; exact DataW.trod_lt m _ _ _ hm
  obtain ⟨a2, rfl, rfl, rfl, w2⟩ := open_int Try.underlying2 (hval 2 2 v2 rfl rfl) h2
  have k3 := h3
  have lt3 : ∀ x ∈ p3, x.block < W.heap.size := by obtain ⟨m, hm⟩ := k3; exact DataW.trod_lt m _ _ _ hm
  obtain ⟨a3, rfl, rfl, rfl, w3⟩ := open_int Try.underlying2 (hval 3 2 v3 rfl rfl) h3
  have k4 := h4
  have lt4 : ∀ x ∈ p4, x.block < W.heap.size := by obtain ⟨m, hm⟩ := k4; exact DataW.trod_lt m _ _ _ hm
  obtain ⟨a4, rfl, rfl, rfl, w4⟩ := open_int Try.underlying2 (hval 4 2 v4 rfl rfl) h4
  clear hA0 hval0
  refine (walk a0 a1 a2 a3 a4 W w0 w1 w2 w3 w4).mono fun e W' ⟨he, bel⟩ => ?_
  subst he
  exact ⟨_, rfl, _, _, _, [], _, [], hW', trodAll_mk1 (shut_bool Try.underlying4 _), (trodAll_cons_mk (Below.trod laidOut (by kernel_rfl) (of_decide_eq_true (by kernel_rfl)) k0 bel lt0) (trodAll_cons_mk (Below.trod laidOut (by kernel_rfl) (of_decide_eq_true (by kernel_rfl)) k1 bel lt1) (trodAll_cons_mk (Below.trod laidOut (by kernel_rfl) (of_decide_eq_true (by kernel_rfl)) k2 bel lt2) (trodAll_cons_mk (Below.trod laidOut (by kernel_rfl) (of_decide_eq_true (by kernel_rfl)) k3 bel lt3) (trodAll_cons_mk (Below.trod laidOut (by kernel_rfl) (of_decide_eq_true (by kernel_rfl)) k4 bel lt4) trodAll_mk0))))), rfl, bel.frame _, fun h => by cases h⟩

theorem over : Rows.fnExactBlendRow.holds Try.pinned (OpenSpec.ofChange Rows.fnExactBlendSpec) :=
  OpenClaim.holds_of_wide 3 Try.f3 rfl rfl rfl rfl rfl rfl rfl ⟨rfl, rfl, rfl, rfl, rfl⟩ rfl rfl rfl rfl rfl (by kernel_rfl) Try.func3 (by kernel_rfl)
    (of_decide_eq_true (by kernel_rfl)) (by unfold Func.isWrapper; first | (rw [if_pos (by decide +kernel)]; kernel_rfl) | (rw [if_neg (by decide +kernel)]; exact ⟨rfl, rfl⟩))
    (fun os started H enc _ => lifted os started H enc)

/-- The given statement. -/
theorem proved : Rows.FnExactBlendSaid := over
#print axioms proved

end Go.Proofs.Ythjedbjhinlhhaa.fnExactBlend
