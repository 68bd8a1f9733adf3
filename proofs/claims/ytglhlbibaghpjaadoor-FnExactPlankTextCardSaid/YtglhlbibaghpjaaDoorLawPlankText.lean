/- For every plank, the program's PlankText writes what the reference's writes; planks whose name is longer than 2^20 the law lets pass. Conditions: none. -/
import Derived.Test.YtglhlbibaghpjaaDoorPtext
import Derived.Test.YtglhlbibaghpjaaDoorAgg
import Derived.ProofKit
import Derived.OpenShut
import Derived.ShutString
import Derived.ChangeOld
import Derived.Below
import Derived.Lib.LaidU8
import Derived.LaidMore
import Derived.Stop.Joined
import Derived.SevenTiedAt
import Derived.Test.YtglhlbibaghpjaaDoorTie
import Derived.Test.YtglhlbibaghpjaaDoorCards
namespace Go.Proofs.YtglhlbibaghpjaaDoor.fnExactPlankText
open Go.ChangeShapes Go.WideShapes Go.ChangeAt Go.RowKit
open Go.ChangeMaps (open_string shut_string)
set_option linter.unusedVariables false
open Go.Sort

set_option maxHeartbeats 800000 in
theorem walk (p : Pl) (w : World) (tab : PowTab w) (w0 : p.id.size ≤ maxLen) :
    Calls Tryd.prog 6 #[.agg #[.string p.id, .int .i64 p.l, .int .i64 p.wd, .int .i64 p.t, .int .i64 p.m, .int .i64 p.r]] w fun r w' => r = .returned (.bool true) ∧ Below w.heap.size w w' := by
  have K := Lib.hid (Keeps.start w p 35 w0)
  have TB := Lib.hid tab
  by_cases hl : (1048576 : Int) < p.id.size
  · have hr := Lib.hid (show lessI 1048576 p.id.size = -1 by rw [lessI, if_pos hl])
    have hr1 : lessI 1048576 p.id.size < 0 := by rw [hr.out]; omega
    go_enter Tryd.func6, Tryd.ntmps6
    go_wp2_with (go_at_call 22; refine (szPlank_any p _ _ w0 (by omega) (by omega)).mono ?_; rintro e w1 ⟨rfl, b1⟩; have K := Lib.hid (K.out.step b1); obtain ⟨q0, q1, q2, q3, q4, q5⟩ := K.out.cells; clear b1)
    go_ret
    exact ⟨rfl, K.out.old⟩
  · have hr : (0 : Int) ≤ lessI 1048576 p.id.size := by rw [lessI, if_neg hl]; omega
    go_enter Tryd.func6, Tryd.ntmps6
    go_wp2_with (first | (go_at_call 22; refine (szPlank_any p _ _ w0 (by omega) (by omega)).mono ?_; rintro e w1 ⟨rfl, b1⟩; have K := Lib.hid (K.out.step b1); obtain ⟨q0, q1, q2, q3, q4, q5⟩ := K.out.cells; clear b1) | (go_at_call 24; refine (toPlank_any p _).mono ?_; rintro e w1 ⟨rfl, b1⟩; have K := Lib.hid (K.out.step b1); obtain ⟨q0, q1, q2, q3, q4, q5⟩ := K.out.cells; clear b1) | (go_at_call 23; refine (specPtext_any p _ w0).mono ?_; rintro e w1 ⟨rfl, b1⟩; have K := Lib.hid (K.out.step b1); obtain ⟨q0, q1, q2, q3, q4, q5⟩ := K.out.cells; clear b1) | (go_at_call 25; refine (implPtext_any p _ w0 (tab_below TB.out K.out.old)).mono ?_; rintro e w1 ⟨rfl, b1⟩; have K := Lib.hid (K.out.step b1); obtain ⟨q0, q1, q2, q3, q4, q5⟩ := K.out.cells; clear b1))
    all_goals
      go_ret
      exact ⟨rfl, K.out.old⟩

/-! ### The row's step -/
theorem own : ownKnob Tryd.prog.godebug = none := by kernel_rfl
theorem laidOut : laidOutB Tryd.prog = true := by kernel_rfl
theorem plainL : (Rows.fnExactPlankTextRow.laid.all fun x => x.2.handleName?.isNone) = true := by kernel_rfl
theorem door_met (os : Os) (args : Array Value) : laidMetH Tryd.prog Rows.fnExactPlankTextRow.laid ((World.doorLaid Tryd.prog 72 os).forCall (fun _ _ => 0) ⟨#[], args, []⟩).memory :=
  laidMetH_of_parts3 (fuel := 8) (laidMet_of_run' 8 (by kernel_rfl) (by kernel_rfl)) (by kernel_rfl) (by kernel_rfl)
set_option maxRecDepth 100000 in
theorem lifted (os : Os) (started : os.Started) (H : Type) (enc : TypeId × Value → H) :
    ReturnsInHanded {} Tryd.checked os 6 .any (fun w args => (Rows.fnExactPlankTextSpec.pre enc Tryd.prog Tryd.f6 Rows.fnExactPlankTextRow.domain false w args ∧ laidMetH Tryd.prog Rows.fnExactPlankTextRow.laid w) ∧ sizedMet enc Tryd.prog Tryd.f6 (OpenSpec.ofChange Rows.fnExactPlankTextSpec) false w args) (Rows.fnExactPlankTextSpec.post enc Tryd.prog Tryd.f6 false true false false) := by
  refine returnsInHanded_of_change_and (C := Tryd.checked) (X := (fun w _ => laidMetH Tryd.prog Rows.fnExactPlankTextRow.laid w)) (fun _ _ _ hh h => h.of_heap hh) own started (by kernel_rfl) Tryd.func6
    (ChangeSpec.witness_shaped (enc := enc) (C := Tryd.checked) (os := os) (X := (fun w _ => laidMetH Tryd.prog Rows.fnExactPlankTextRow.laid w)) false (World.doorLaid Tryd.prog 72 os) #[.agg #[.string ByteArray.empty, .int .i64 0, .int .i64 0, .int .i64 0, .int .i64 0, .int .i64 0]] 8 rfl (World.shaped_of_RefB (by kernel_rfl) (by kernel_rfl)) (by kernel_rfl) (by kernel_rfl) (by kernel_rfl) (door_met os _)) ?_
  intro W base args ds gs before hval0 hW hcnd _ hL _
  have hval : ∀ (j : Nat) t v, Tryd.f6.params[j]? = some t → args[j]? = some v → Value.okWide Tryd.prog W .any base t v := hval0
  have hW' := hW
  obtain ⟨p, q, hA0, hV, rfl, hfz, hnd⟩ := hW
  have hA : DataW.TrodAll enc Tryd.prog W 0 (fun _ => true) true Tryd.f6.params.toList args.toList ds p := hA0
  rw [Tryd.params6] at hA hval
  obtain ⟨v0, vs0, d0, ds0, p0, q0, hargs, rfl, rfl, h0, r0⟩ := trodAll_cons hA
  obtain ⟨rfl, rfl, rfl⟩ := trodAll_nil r0
  obtain rfl : args = #[v0] := by cases args; simp_all
  obtain ⟨rfl, rfl⟩ := trodVars_none hV
  have k0 := h0
  have lt0 : ∀ x ∈ p0, x.block < W.heap.size := by obtain ⟨m, hm⟩ := k0; exact DataW.trod_lt m _ _ _ hm
  obtain ⟨c0_0, c1_0, c2_0, c3_0, c4_0, c5_0, y0_0, y1_0, y2_0, y3_0, y4_0, y5_0, m0, rfl, _, _, hy0_0, hy1_0, hy2_0, hy3_0, hy4_0, hy5_0⟩ := open_agg6 Tryd.underlying35 (by kernel_rfl) (by kernel_rfl) (hval 0 35 v0 rfl rfl) h0
  obtain ⟨s0, e0, _, w0⟩ := DataW.trod_string Tryd.underlying9 hy0_0
  obtain ⟨n1_0, e1, _, b1_0⟩ := DataW.trod_int Tryd.underlying2 hy1_0
  obtain ⟨n2_0, e2, _, b2_0⟩ := DataW.trod_int Tryd.underlying2 hy2_0
  obtain ⟨n3_0, e3, _, b3_0⟩ := DataW.trod_int Tryd.underlying2 hy3_0
  obtain ⟨n4_0, e4, _, b4_0⟩ := DataW.trod_int Tryd.underlying2 hy4_0
  obtain ⟨n5_0, e5, _, b5_0⟩ := DataW.trod_int Tryd.underlying2 hy5_0
  simp only [List.cons.injEq, and_true] at e0 e1 e2 e3 e4 e5
  subst e0
  subst e1
  subst e2
  subst e3
  subst e4
  subst e5
  clear hA0 hval0
  refine (walk (Pl.mk s0 n1_0 n2_0 n3_0 n4_0 n5_0) W (pow_of_laid plainL hL (by simp [Rows.fnExactPlankTextRow])) w0).mono fun e W' ⟨he, bel⟩ => ?_
  subst he
  exact ⟨_, rfl, _, _, _, [], _, [], hW', trodAll_mk1 (shut_bool Tryd.underlying4 _), (trodAll_cons_mk (Below.trod laidOut (by kernel_rfl) (of_decide_eq_true (by kernel_rfl)) k0 bel lt0) trodAll_mk0), rfl, bel.frame _, fun h => by cases h⟩

theorem over : Rows.fnExactPlankTextRow.holds Tryd.pinned (OpenSpec.ofChange Rows.fnExactPlankTextSpec) :=
  OpenClaim.holds_of_wide 6 Tryd.f6 rfl rfl rfl rfl rfl rfl rfl ⟨rfl, rfl, rfl, rfl, rfl⟩ rfl rfl rfl rfl rfl (by kernel_rfl) Tryd.func6 (by kernel_rfl)
    (of_decide_eq_true (by kernel_rfl)) (by unfold Func.isWrapper; first | (rw [if_pos (by decide +kernel)]; kernel_rfl) | (rw [if_neg (by decide +kernel)]; exact ⟨rfl, rfl⟩))
    (fun os started H enc _ => lifted os started H enc)

/-- The given statement: the tied card. -/
theorem proved : Rows.FnExactPlankTextCardSaid :=
  Claim7.holds_tied_plain_at .later [] [.data, .data, .data] true (true, "8610680bd0cff2fba2c6926cf0c8391ce34876188d42b0fc78057b4e81bcd11f") true
    over (fun _ h => by cases h) (by kernel_rfl) (fun _ h => by cases h) fnExactPlankText_row_tie rfl ⟨rfl, rfl⟩ (by kernel_rfl) rfl
    (fun f fn hf hfn => by
      obtain rfl : f = 6 := Option.some.inj (hf.symm.trans (show Tryd.prog.funcNamed "loop.example/g01061/laws.FnExactPlankText" = some 6 by kernel_rfl))
      obtain rfl : fn = Tryd.f6 := (Option.some.inj (Tryd.func6.symm.trans hfn)).symm
      exact ⟨by kernel_rfl, fun j t ht => by
        rw [Tryd.params6] at ht
        have hm : t ∈ [35] := by simpa using Array.mem_of_getElem? ht
        have hall : ([35].all fun u => !Tryd.prog.wantsStandIn u) = true := by kernel_rfl
        exact (show Tryd.prog.wantsStandIn t = false by simpa using List.all_eq_true.1 hall t hm)⟩)
    (by kernel_rfl)
#print axioms proved

end Go.Proofs.YtglhlbibaghpjaaDoor.fnExactPlankText
