/- For every plank, the program's RingWidth returns what the reference's returns. Conditions: none. -/
import Derived.Test.YthjedbjhinlhhaaPlankC
import Derived.Test.YthjedbjhinlhhaaAgg
import Derived.ProofKit
import Derived.OpenShut
import Derived.ShutString
import Derived.ChangeOld
import Derived.Below
namespace Go.Proofs.Ythjedbjhinlhhaa.fnExactRingWidth
open Go.ChangeShapes Go.WideShapes Go.ChangeAt Go.RowKit
open Go.ChangeMaps (open_string shut_string)
set_option linter.unusedVariables false

def res (p : Pl) : Int := if validB p then ring p else 0
def cod (p : Pl) : Int := if validB p then 0 else 1
theorem res_t {p : Pl} (h : validB p = true) : res p = ring p ∧ cod p = 0 := by rw [res, cod, h]; exact ⟨rfl, rfl⟩
theorem res_f {p : Pl} (h : validB p = false) : res p = 0 ∧ cod p = 1 := by rw [res, cod, h]; exact ⟨rfl, rfl⟩

theorem impl_any (p : Pl) (w : World) (hs : p.id.size ≤ maxLen) :
    Calls Try.prog 39 #[.agg #[.string p.id, .int .i64 p.l, .int .i64 p.wd, .int .i64 p.t, .int .i64 p.m, .int .i64 p.r]] w fun r w' => r = .returned (.tuple #[.int .i64 (res p ), .int .i64 (cod p )]) ∧ Below w.heap.size w w' := by
  have K := Lib.hid (Keeps.start w p 40 hs)
  cases h : validB p
  · have hr := Lib.hid (res_f h)
    go_enter Try.func39, Try.ntmps39
    go_wp2_with (go_at_call 31; refine (ValidPlank_any p _ hs).mono ?_; rintro e w1 ⟨rfl, b1⟩; have K := Lib.hid (K.out.step b1); obtain ⟨q0, q1, q2, q3, q4, q5⟩ := K.out.cells; clear b1)
    go_ret2
    exact ⟨ret_int2 hr.out.1.symm hr.out.2.symm, K.out.old⟩
  · have hr := Lib.hid (res_t h)
    have hf := validB_fits h
    have hb := ring_bd hf
    have f1 := hf.w1
    have f2 := hf.w2
    have f3 := hf.r1
    have f4 := hf.r2
    go_enter Try.func39, Try.ntmps39
    go_wp2_with (first | (go_at_call 31; refine (ValidPlank_any p _ hs).mono ?_; rintro e w1 ⟨rfl, b1⟩; have K := Lib.hid (K.out.step b1); obtain ⟨q0, q1, q2, q3, q4, q5⟩ := K.out.cells; clear b1) | (go_at_call 66; refine (rings_any p _ hf).mono ?_; rintro e w1 ⟨rfl, b1⟩; have K := Lib.hid (K.out.step b1); obtain ⟨q0, q1, q2, q3, q4, q5⟩ := K.out.cells; clear b1))
    go_ret2
    exact ⟨ret_int2 hr.out.1.symm hr.out.2.symm, K.out.old⟩

theorem spec_any (p : Pl) (w : World) (hs : p.id.size ≤ maxLen) :
    Calls Try.prog 38 #[.agg #[.string p.id, .int .i64 p.l, .int .i64 p.wd, .int .i64 p.t, .int .i64 p.m, .int .i64 p.r]] w fun r w' => r = .returned (.tuple #[.int .i64 (res p ), .int .i64 (cod p )]) ∧ Below w.heap.size w w' := by
  have K := Lib.hid (Keeps.start w p 40 hs)
  cases h : validB p
  · have hr := Lib.hid (res_f h)
    go_enter Try.func38, Try.ntmps38
    go_wp2_with (go_at_call 59; refine (l03One_any p _ _ _ K.out.at_).mono ?_; rintro e w' ⟨rfl, rfl⟩)
    go_ret2
    exact ⟨ret_int2 hr.out.1.symm hr.out.2.symm, K.out.old⟩
  · have hr := Lib.hid (res_t h)
    have hf := validB_fits h
    have hb := ring_bd hf
    have f1 := hf.w1
    have f2 := hf.w2
    have f3 := hf.r1
    have f4 := hf.r2
    go_enter Try.func38, Try.ntmps38
    go_wp2_with (first | (go_at_call 59; refine (l03One_any p _ _ _ K.out.at_).mono ?_; rintro e w' ⟨rfl, rfl⟩) | (go_at_call 65; refine (div_any _ _ _ (by omega) (by omega) (by omega) (by omega) (by omega)).mono ?_; rintro e w' ⟨rfl, rfl⟩))
    go_ret2
    exact ⟨ret_int2 hr.out.1.symm hr.out.2.symm, K.out.old⟩

theorem walk (p : Pl) (w : World) (w0 : p.id.size ≤ maxLen) :
    Calls Try.prog 12 #[.agg #[.string p.id, .int .i64 p.l, .int .i64 p.wd, .int .i64 p.t, .int .i64 p.m, .int .i64 p.r]] w fun r w' => r = .returned (.bool true) ∧ Below w.heap.size w w' := by
  have K := Lib.hid (Keeps.start w p 37 w0)
  by_cases hl : (1048576 : Int) < p.id.size
  · have hr := Lib.hid (show lessI 1048576 p.id.size = -1 by rw [lessI, if_pos hl])
    have hr1 : lessI 1048576 p.id.size < 0 := by rw [hr.out]; omega
    go_enter Try.func12, Try.ntmps12
    go_wp2_with (go_at_call 28; refine (szPlank_any p _ _ w0 (by omega) (by omega)).mono ?_; rintro e w1 ⟨rfl, b1⟩; have K := Lib.hid (K.out.step b1); obtain ⟨q0, q1, q2, q3, q4, q5⟩ := K.out.cells; clear b1)
    go_ret
    exact ⟨rfl, K.out.old⟩
  · have hr : (0 : Int) ≤ lessI 1048576 p.id.size := by rw [lessI, if_neg hl]; omega
    go_enter Try.func12, Try.ntmps12
    go_wp2_with (first | (go_at_call 28; refine (szPlank_any p _ _ w0 (by omega) (by omega)).mono ?_; rintro e w1 ⟨rfl, b1⟩; have K := Lib.hid (K.out.step b1); obtain ⟨q0, q1, q2, q3, q4, q5⟩ := K.out.cells; clear b1) | (go_at_call 30; refine (toPlank_any p _).mono ?_; rintro e w1 ⟨rfl, b1⟩; have K := Lib.hid (K.out.step b1); obtain ⟨q0, q1, q2, q3, q4, q5⟩ := K.out.cells; clear b1) | (go_at_call 38; refine (spec_any p _ w0).mono ?_; rintro e w1 ⟨rfl, b1⟩; have K := Lib.hid (K.out.step b1); obtain ⟨q0, q1, q2, q3, q4, q5⟩ := K.out.cells; clear b1) | (go_at_call 39; refine (impl_any p _ w0).mono ?_; rintro e w1 ⟨rfl, b1⟩; have K := Lib.hid (K.out.step b1); obtain ⟨q0, q1, q2, q3, q4, q5⟩ := K.out.cells; clear b1))
    go_ret
    exact ⟨rfl, K.out.old⟩

/-! ### The row's step -/
theorem own : ownKnob Try.prog.godebug = none := by kernel_rfl
theorem laidOut : laidOutB Try.prog = true := by kernel_rfl
set_option maxRecDepth 100000 in
theorem lifted (os : Os) (started : os.Started) (H : Type) (enc : TypeId × Value → H) :
    ReturnsInHanded {} Try.checked os 12 .any (Rows.fnExactRingWidthSpec.pre6 enc Try.prog Try.f12 Rows.fnExactRingWidthRow.domain false) (Rows.fnExactRingWidthSpec.post enc Try.prog Try.f12 false true false false) := by
  refine returnsInHanded_of_change (C := Try.checked) own started (by kernel_rfl) Try.func12
    (ChangeSpec.witness6 (enc := enc) (C := Try.checked) false ⟨#[], #[.agg #[.string ByteArray.empty, .int .i64 0, .int .i64 0, .int .i64 0, .int .i64 0, .int .i64 0]], []⟩ 8 (by kernel_rfl) (by kernel_rfl) (by kernel_rfl) (by kernel_rfl)) ?_
  intro W base args ds gs before hval0 hW hcnd _
  have hval : ∀ (j : Nat) t v, Try.f12.params[j]? = some t → args[j]? = some v → Value.okWide Try.prog W .any base t v := hval0
  have hW' := hW
  obtain ⟨p, q, hA0, hV, rfl, hfz, hnd⟩ := hW
  have hA : DataW.TrodAll enc Try.prog W 0 (fun _ => true) true Try.f12.params.toList args.toList ds p := hA0
  rw [Try.params12] at hA hval
  obtain ⟨v0, vs0, d0, ds0, p0, q0, hargs, rfl, rfl, h0, r0⟩ := trodAll_cons hA
  obtain ⟨rfl, rfl, rfl⟩ := trodAll_nil r0
  obtain rfl : args = #[v0] := by cases args; simp_all
  obtain ⟨rfl, rfl⟩ := trodVars_none hV
  have k0 := h0
  have lt0 : ∀ x ∈ p0, x.block < W.heap.size := by obtain ⟨m, hm⟩ := k0; exact DataW.trod_lt m _ _ _ hm
  obtain ⟨c0_0, c1_0, c2_0, c3_0, c4_0, c5_0, y0_0, y1_0, y2_0, y3_0, y4_0, y5_0, m0, rfl, _, _, hy0_0, hy1_0, hy2_0, hy3_0, hy4_0, hy5_0⟩ := open_agg6 Try.underlying37 (by kernel_rfl) (by kernel_rfl) (hval 0 37 v0 rfl rfl) h0
  obtain ⟨s0, e0, _, w0⟩ := DataW.trod_string Try.underlying9 hy0_0
  obtain ⟨n1_0, e1, _, b1_0⟩ := DataW.trod_int Try.underlying2 hy1_0
  obtain ⟨n2_0, e2, _, b2_0⟩ := DataW.trod_int Try.underlying2 hy2_0
  obtain ⟨n3_0, e3, _, b3_0⟩ := DataW.trod_int Try.underlying2 hy3_0
  obtain ⟨n4_0, e4, _, b4_0⟩ := DataW.trod_int Try.underlying2 hy4_0
  obtain ⟨n5_0, e5, _, b5_0⟩ := DataW.trod_int Try.underlying2 hy5_0
  simp only [List.cons.injEq, and_true] at e0 e1 e2 e3 e4 e5
  subst e0
  subst e1
  subst e2
  subst e3
  subst e4
  subst e5
  clear hA0 hval0
  refine (walk (Pl.mk s0 n1_0 n2_0 n3_0 n4_0 n5_0) W w0).mono fun e W' ⟨he, bel⟩ => ?_
  subst he
  exact ⟨_, rfl, _, _, _, [], _, [], hW', trodAll_mk1 (shut_bool Try.underlying4 _), (trodAll_cons_mk (Below.trod laidOut (by kernel_rfl) (of_decide_eq_true (by kernel_rfl)) k0 bel lt0) trodAll_mk0), rfl, bel.frame _, fun h => by cases h⟩

theorem over : Rows.fnExactRingWidthRow.holds Try.pinned (OpenSpec.ofChange Rows.fnExactRingWidthSpec) :=
  OpenClaim.holds_of_wide 12 Try.f12 rfl rfl rfl rfl rfl rfl rfl ⟨rfl, rfl, rfl, rfl, rfl⟩ rfl rfl rfl rfl rfl (by kernel_rfl) Try.func12 (by kernel_rfl)
    (of_decide_eq_true (by kernel_rfl)) (by unfold Func.isWrapper; first | (rw [if_pos (by decide +kernel)]; kernel_rfl) | (rw [if_neg (by decide +kernel)]; exact ⟨rfl, rfl⟩))
    (fun os started H enc _ => lifted os started H enc)

/-- The given statement. -/
theorem proved : Rows.FnExactRingWidthSaid := over
#print axioms proved

end Go.Proofs.Ythjedbjhinlhhaa.fnExactRingWidth
