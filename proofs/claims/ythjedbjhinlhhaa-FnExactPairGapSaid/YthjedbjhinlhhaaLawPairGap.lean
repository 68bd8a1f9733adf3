/- For every two planks, the program's PairGap returns what the reference's returns. Conditions: none. -/
import Derived.Test.YthjedbjhinlhhaaGap
import Derived.Test.YthjedbjhinlhhaaAgg
import Derived.ProofKit
import Derived.OpenShut
import Derived.ShutString
import Derived.ChangeOld
import Derived.Below
namespace Go.Proofs.Ythjedbjhinlhhaa.fnExactPairGap
open Go.ChangeShapes Go.WideShapes Go.ChangeAt Go.RowKit
open Go.ChangeMaps (open_string shut_string)
set_option linter.unusedVariables false
open Go.Sort

/-- what a law knows of its two boxed planks, call after call -/
structure Keeps2 (W : World) (b : Nat) (p : Pl) (c : Nat) (q : Pl) (w : World) : Prop where
  one : Keeps W b p w
  two : Keeps W c q w
theorem Keeps2.step {W w w' : World} {b c : Nat} {p q : Pl} (h : Keeps2 W b p c q w) (hb : Below w.heap.size w w') : Keeps2 W b p c q w' := ⟨h.one.step hb, h.two.step hb⟩
theorem Keeps2.start (W : World) (p q : Pl) (T : TypeId) (hp : p.id.size ≤ maxLen) (hq : q.id.size ≤ maxLen) : Keeps2 W W.heap.size p (W.heap.size + 1) q ((W.alloc (.cells #[.string p.id, .int .i64 p.l, .int .i64 p.wd, .int .i64 p.t, .int .i64 p.m, .int .i64 p.r] T)).alloc (.cells #[.string q.id, .int .i64 q.l, .int .i64 q.wd, .int .i64 q.t, .int .i64 q.m, .int .i64 q.r] T)) :=
  ⟨⟨((Below.refl _ _).alloc (Nat.le_refl _) _).alloc (by simp) _, by simp; omega, (two_new p q W T hp hq).1⟩, ⟨((Below.refl _ _).alloc (Nat.le_refl _) _).alloc (by simp) _, by simp, (two_new p q W T hp hq).2⟩⟩
theorem Keeps2.cells {W w : World} {b c : Nat} {p q : Pl} (h : Keeps2 W b p c q w) : (w.cell? ⟨b, 0, none⟩ = some (.string p.id) ∧ w.cell? ⟨b, 1, none⟩ = some (.int .i64 p.l) ∧ w.cell? ⟨b, 2, none⟩ = some (.int .i64 p.wd) ∧
    w.cell? ⟨b, 3, none⟩ = some (.int .i64 p.t) ∧ w.cell? ⟨b, 4, none⟩ = some (.int .i64 p.m) ∧ w.cell? ⟨b, 5, none⟩ = some (.int .i64 p.r)) ∧ w.cell? ⟨c, 0, none⟩ = some (.string q.id) ∧ w.cell? ⟨c, 1, none⟩ = some (.int .i64 q.l) ∧ w.cell? ⟨c, 2, none⟩ = some (.int .i64 q.wd) ∧
    w.cell? ⟨c, 3, none⟩ = some (.int .i64 q.t) ∧ w.cell? ⟨c, 4, none⟩ = some (.int .i64 q.m) ∧ w.cell? ⟨c, 5, none⟩ = some (.int .i64 q.r) := ⟨h.one.cells, h.two.cells⟩
theorem is_ofb {P : Program} {f : FuncId} {args : Array Value} {w : World} {b c : Bool} (h : Calls P f args w fun e w' => e = .returned (.bool b) ∧ Below w.heap.size w w') (hb : b = c) :
    Calls P f args w fun e w' => e = .returned (.bool c) ∧ Below w.heap.size w w' := by rw [← hb]; exact h

def res (p q : Pl) : Int := if validB p && validB q then gapI p q else 0
def cod (p q : Pl) : Int := if validB p && validB q then 0 else 1
theorem res_t {p q : Pl} (h : validB p = true) (g : validB q = true) : res p q = gapI p q ∧ cod p q = 0 := by simp [res, cod, h, g]
theorem res_1 {p q : Pl} (h : validB p = false) : res p q = 0 ∧ cod p q = 1 := by simp [res, cod, h]
theorem res_2 {p q : Pl} (g : validB q = false) : res p q = 0 ∧ cod p q = 1 := by simp [res, cod, g]

set_option maxHeartbeats 800000 in
theorem impl_any (p q : Pl) (w : World) (hp : p.id.size ≤ maxLen) (hq : q.id.size ≤ maxLen) :
    Calls Try.prog 43 #[.agg #[.string p.id, .int .i64 p.l, .int .i64 p.wd, .int .i64 p.t, .int .i64 p.m, .int .i64 p.r], .agg #[.string q.id, .int .i64 q.l, .int .i64 q.wd, .int .i64 q.t, .int .i64 q.m, .int .i64 q.r]] w fun r w' => r = .returned (.tuple #[.int .i64 (res p q), .int .i64 (cod p q)]) ∧ Below w.heap.size w w' := by
  have K := Lib.hid (Keeps2.start w p q 40 hp hq)
  cases h : validB p
  · have hr := Lib.hid (res_1 (q := q) h)
    go_enter Try.func43, Try.ntmps43
    go_wp2_with (go_at_call 31; refine (is_ofb (ValidPlank_any p _ hp) h).mono ?_; rintro e w1 ⟨rfl, b1⟩; have K := Lib.hid (K.out.step b1); obtain ⟨⟨q0, q1, q2, q3, q4, q5⟩, s0, s1, s2, s3, s4, s5⟩ := K.out.cells; clear b1)
    go_ret2
    exact ⟨ret_int2 hr.out.1.symm hr.out.2.symm, K.out.one.old⟩
  · cases g : validB q
    · have hr := Lib.hid (res_2 (p := p) g)
      go_enter Try.func43, Try.ntmps43
      go_wp2_with (first | (go_at_call_of 31 (Pl.l p); refine (is_ofb (ValidPlank_any p _ hp) h).mono ?_; rintro e w1 ⟨rfl, b1⟩; have K := Lib.hid (K.out.step b1); obtain ⟨⟨q0, q1, q2, q3, q4, q5⟩, s0, s1, s2, s3, s4, s5⟩ := K.out.cells; clear b1) | (go_at_call 31; refine (is_ofb (ValidPlank_any q _ hq) g).mono ?_; rintro e w1 ⟨rfl, b1⟩; have K := Lib.hid (K.out.step b1); obtain ⟨⟨q0, q1, q2, q3, q4, q5⟩, s0, s1, s2, s3, s4, s5⟩ := K.out.cells; clear b1))
      go_ret2
      exact ⟨ret_int2 hr.out.1.symm hr.out.2.symm, K.out.one.old⟩
    · have hr := Lib.hid (res_t h g)
      have f1 := validB_fits h
      have f2 := validB_fits g
      go_enter Try.func43, Try.ntmps43
      go_wp2_with (first | (go_at_call_of 31 (Pl.l p); refine (is_ofb (ValidPlank_any p _ hp) h).mono ?_; rintro e w1 ⟨rfl, b1⟩; have K := Lib.hid (K.out.step b1); obtain ⟨⟨q0, q1, q2, q3, q4, q5⟩, s0, s1, s2, s3, s4, s5⟩ := K.out.cells; clear b1) | (go_at_call 31; refine (is_ofb (ValidPlank_any q _ hq) g).mono ?_; rintro e w1 ⟨rfl, b1⟩; have K := Lib.hid (K.out.step b1); obtain ⟨⟨q0, q1, q2, q3, q4, q5⟩, s0, s1, s2, s3, s4, s5⟩ := K.out.cells; clear b1) | (go_at_call 70; refine (gap_any p q _ hp hq f1 f2).mono ?_; rintro e w1 ⟨rfl, b1⟩; have K := Lib.hid (K.out.step b1); obtain ⟨⟨q0, q1, q2, q3, q4, q5⟩, s0, s1, s2, s3, s4, s5⟩ := K.out.cells; clear b1))
      go_ret2
      exact ⟨ret_int2 hr.out.1.symm hr.out.2.symm, K.out.one.old⟩

set_option maxHeartbeats 800000 in
theorem spec_any (p q : Pl) (w : World) (hp : p.id.size ≤ maxLen) (hq : q.id.size ≤ maxLen) :
    Calls Try.prog 42 #[.agg #[.string p.id, .int .i64 p.l, .int .i64 p.wd, .int .i64 p.t, .int .i64 p.m, .int .i64 p.r], .agg #[.string q.id, .int .i64 q.l, .int .i64 q.wd, .int .i64 q.t, .int .i64 q.m, .int .i64 q.r]] w fun r w' => r = .returned (.tuple #[.int .i64 (res p q), .int .i64 (cod p q)]) ∧ Below w.heap.size w w' := by
  have K := Lib.hid (Keeps2.start w p q 40 hp hq)
  cases h : validB p
  · have hr := Lib.hid (res_1 (q := q) h)
    go_enter Try.func42, Try.ntmps42
    go_wp2_with (go_at_call 59; refine (is_of (l03One_any p _ _ _ K.out.one.at_) h).mono ?_; rintro e w' ⟨rfl, rfl⟩)
    go_ret2
    exact ⟨ret_int2 hr.out.1.symm hr.out.2.symm, K.out.one.old⟩
  · cases g : validB q
    · have hr := Lib.hid (res_2 (p := p) g)
      go_enter Try.func42, Try.ntmps42
      go_wp2_with fail
      refine (is_of (l03One_any p _ _ _ K.out.one.at_) h).mono ?_
      rintro e w' ⟨rfl, rfl⟩
      go_wp2_with fail
      refine (is_of (l03One_any q _ _ _ K.out.two.at_) g).mono ?_
      rintro e w' ⟨rfl, rfl⟩
      go_wp2
      go_ret2
      exact ⟨ret_int2 hr.out.1.symm hr.out.2.symm, K.out.one.old⟩
    · have hr := Lib.hid (res_t h g)
      have f1 := validB_fits h
      have f2 := validB_fits g
      go_enter Try.func42, Try.ntmps42
      go_wp2_with fail
      refine (is_of (l03One_any p _ _ _ K.out.one.at_) h).mono ?_
      rintro e w' ⟨rfl, rfl⟩
      go_wp2_with fail
      refine (is_of (l03One_any q _ _ _ K.out.two.at_) g).mono ?_
      rintro e w' ⟨rfl, rfl⟩
      go_wp2_with fail
      refine (l03Gap_any p q _ _ _ _ _ K.out.one.at_ K.out.two.at_ f1 f2).mono ?_
      rintro e w1 ⟨rfl, b1⟩
      have K := Lib.hid (K.out.step b1)
      clear b1
      go_wp2
      go_ret2
      exact ⟨ret_int2 hr.out.1.symm hr.out.2.symm, K.out.one.old⟩

set_option maxHeartbeats 1600000 in
theorem walk (p q : Pl) (w : World) (w0 : p.id.size ≤ maxLen) (wq0 : q.id.size ≤ maxLen) :
    Calls Try.prog 14 #[.agg #[.string p.id, .int .i64 p.l, .int .i64 p.wd, .int .i64 p.t, .int .i64 p.m, .int .i64 p.r], .agg #[.string q.id, .int .i64 q.l, .int .i64 q.wd, .int .i64 q.t, .int .i64 q.m, .int .i64 q.r]] w fun r w' => r = .returned (.bool true) ∧ Below w.heap.size w w' := by
  have K := Lib.hid (Keeps2.start w p q 37 w0 wq0)
  by_cases hl : (1048576 : Int) < p.id.size
  · have hr := Lib.hid (show lessI 1048576 p.id.size = -1 by rw [lessI, if_pos hl])
    have hr1 : lessI 1048576 p.id.size < 0 := by rw [hr.out]; omega
    go_enter Try.func14, Try.ntmps14
    go_wp2_with (go_at_call 28; refine (szPlank_any p _ _ w0 (by omega) (by omega)).mono ?_; rintro e w1 ⟨rfl, b1⟩; have K := Lib.hid (K.out.step b1); obtain ⟨⟨q0, q1, q2, q3, q4, q5⟩, s0, s1, s2, s3, s4, s5⟩ := K.out.cells; clear b1)
    go_ret
    exact ⟨rfl, K.out.one.old⟩
  · obtain ⟨n, hn⟩ : ∃ n, lessI 1048576 p.id.size = n := ⟨_, rfl⟩
    have HN := Lib.hid hn
    have n1 : 0 ≤ n := by rw [lessI, if_neg hl] at hn; omega
    have n2 : n ≤ 1048576 := by rw [lessI, if_neg hl] at hn; omega
    clear hn
    have sz1 := fun W => (show Calls Try.prog 28 #[.agg #[.string p.id, .int .i64 p.l, .int .i64 p.wd, .int .i64 p.t, .int .i64 p.m, .int .i64 p.r], .int .i64 1048576] W fun e w' => e = .returned (.int .i64 n) ∧ Below W.heap.size W w' from by rw [← HN.out]; exact szPlank_any p _ _ w0 (by omega) (by omega))
    have SZ := Lib.hid sz1
    clear sz1
    by_cases hl2 : n < (q.id.size : Int)
    · have hr := Lib.hid (show lessI n q.id.size = -1 by rw [lessI, if_pos hl2])
      have hr1 : lessI n q.id.size < 0 := by rw [hr.out]; omega
      go_enter Try.func14, Try.ntmps14
      go_wp2_with (first | (go_at_call_of 28 (Pl.l p); refine (SZ.out _).mono ?_; rintro e w1 ⟨rfl, b1⟩; have K := Lib.hid (K.out.step b1); obtain ⟨⟨q0, q1, q2, q3, q4, q5⟩, s0, s1, s2, s3, s4, s5⟩ := K.out.cells; clear b1) | (go_at_call 28; refine (szPlank_any q _ _ wq0 n1 n2).mono ?_; rintro e w1 ⟨rfl, b1⟩; have K := Lib.hid (K.out.step b1); obtain ⟨⟨q0, q1, q2, q3, q4, q5⟩, s0, s1, s2, s3, s4, s5⟩ := K.out.cells; clear b1))
      go_ret
      exact ⟨rfl, K.out.one.old⟩
    · have hr : (0 : Int) ≤ lessI n q.id.size := by rw [lessI, if_neg hl2]; omega
      go_enter Try.func14, Try.ntmps14
      go_wp2_with (first | (go_at_call_of 28 (Pl.l p); refine (SZ.out _).mono ?_; rintro e w1 ⟨rfl, b1⟩; have K := Lib.hid (K.out.step b1); obtain ⟨⟨q0, q1, q2, q3, q4, q5⟩, s0, s1, s2, s3, s4, s5⟩ := K.out.cells; clear b1) | (go_at_call 28; refine (szPlank_any q _ _ wq0 n1 n2).mono ?_; rintro e w1 ⟨rfl, b1⟩; have K := Lib.hid (K.out.step b1); obtain ⟨⟨q0, q1, q2, q3, q4, q5⟩, s0, s1, s2, s3, s4, s5⟩ := K.out.cells; clear b1))
      obtain ⟨k0, k1, k2, k3, k4, k5⟩ := K.out.one.at_.rg
      obtain ⟨j0, j1, j2, j3, j4, j5⟩ := K.out.two.at_.rg
      refine wp_region_quiet_below (by kernel_rfl) (by kernel_rfl) ?_; (repeat (quiet_step (first | (go_at_call_of 30 (Pl.l p); exact Calls.regrown_of (toPlank_any p _)) | (go_at_call 30; exact Calls.regrown_of (toPlank_any q _)) | (go_at_call 42; exact Calls.regrown_of (spec_any p q _ w0 wq0))))); refine wpQuiet_nil ?_; intro wq hwq; obtain ⟨⟨dq, osq⟩, hwq2⟩ := hwq; have bq := below_of hwq2; clear hwq2
      have K := Lib.hid (K.out.step bq)
      clear bq k0 k1 k2 k3 k4 k5 j0 j1 j2 j3 j4 j5
      go_wp2
      obtain ⟨k0, k1, k2, k3, k4, k5⟩ := K.out.one.at_.rg
      obtain ⟨j0, j1, j2, j3, j4, j5⟩ := K.out.two.at_.rg
      refine wp_region_quiet_below (by kernel_rfl) (by kernel_rfl) ?_; (repeat (quiet_step (first | (go_at_call_of 30 (Pl.l p); exact Calls.regrown_of (toPlank_any p _)) | (go_at_call 30; exact Calls.regrown_of (toPlank_any q _)) | (go_at_call 43; exact Calls.regrown_of (impl_any p q _ w0 wq0))))); refine wpQuiet_nil ?_; intro wq hwq; obtain ⟨⟨dq, osq⟩, hwq2⟩ := hwq; have bq := below_of hwq2; clear hwq2
      have K := Lib.hid (K.out.step bq)
      clear bq k0 k1 k2 k3 k4 k5 j0 j1 j2 j3 j4 j5
      go_wp2
      go_ret
      exact ⟨rfl, K.out.one.old⟩

/-! ### The row's step -/
theorem own : ownKnob Try.prog.godebug = none := by kernel_rfl
theorem laidOut : laidOutB Try.prog = true := by kernel_rfl
set_option maxRecDepth 100000 in
theorem lifted (os : Os) (started : os.Started) (H : Type) (enc : TypeId × Value → H) :
    ReturnsInHanded {} Try.checked os 14 .any (Rows.fnExactPairGapSpec.pre6 enc Try.prog Try.f14 Rows.fnExactPairGapRow.domain false) (Rows.fnExactPairGapSpec.post enc Try.prog Try.f14 false true false false) := by
  refine returnsInHanded_of_change (C := Try.checked) own started (by kernel_rfl) Try.func14
    (ChangeSpec.witness6 (enc := enc) (C := Try.checked) false ⟨#[], #[.agg #[.string ByteArray.empty, .int .i64 0, .int .i64 0, .int .i64 0, .int .i64 0, .int .i64 0], .agg #[.string ByteArray.empty, .int .i64 0, .int .i64 0, .int .i64 0, .int .i64 0, .int .i64 0]], []⟩ 8 (by kernel_rfl) (by kernel_rfl) (by kernel_rfl) (by kernel_rfl)) ?_
  intro W base args ds gs before hval0 hW hcnd _
  have hval : ∀ (j : Nat) t v, Try.f14.params[j]? = some t → args[j]? = some v → Value.okWide Try.prog W .any base t v := hval0
  have hW' := hW
  obtain ⟨p, q, hA0, hV, rfl, hfz, hnd⟩ := hW
  have hA : DataW.TrodAll enc Try.prog W 0 (fun _ => true) true Try.f14.params.toList args.toList ds p := hA0
  rw [Try.params14] at hA hval
  obtain ⟨v0, vs0, d0, ds0, p0, q0, hargs, rfl, rfl, h0, r0⟩ := trodAll_cons hA
  obtain ⟨v1, vs1, d1, ds1, p1, q1, rfl, rfl, rfl, h1, r1⟩ := trodAll_cons r0
  obtain ⟨rfl, rfl, rfl⟩ := trodAll_nil r1
  obtain rfl : args = #[v0, v1] := by cases args; simp_all
  obtain ⟨rfl, rfl⟩ := trodVars_none hV
  have k0 := h0
  have lt0 : ∀ x ∈ p0, x.block < W.heap.size := by obtain ⟨m, hm⟩ := k0; exact DataW.trod_lt m _ _ _ hm
  obtain ⟨c0_0, c1_0, c2_0, c3_0, c4_0, c5_0, y0_0, y1_0, y2_0, y3_0, y4_0, y5_0, m0, rfl, _, _, hy0_0, hy1_0, hy2_0, hy3_0, hy4_0, hy5_0⟩ := open_agg6 Try.underlying37 (by kernel_rfl) (by kernel_rfl) (hval 0 37 v0 rfl rfl) h0
  obtain ⟨s0, e0, _, w0⟩ := DataW.trod_string Try.underlying9 hy0_0
  obtain ⟨n1_0, e1, _, b1_0⟩ := DataW.trod_int Try.underlying2 hy1_0
  obtain ⟨n2_0, e2, _, b2_0⟩ := DataW.trod_int Try.underlying2 hy2_0
  obtain ⟨n3_0, e3, _, b3_0⟩ := DataW.trod_int Try.underlying2 hy3_0
  obtain ⟨n4_0, e4, _, b4_0⟩ := DataW.trod_int Try.underlying2 hy4_0
  obtain ⟨n5_0, e5, _, b5_0⟩ := DataW.trod_int Try.underlying2 hy5_0
  simp only [List.cons.injEq, and_true] at e0 e1 e2 e3 e4 e5
  subst e0
  subst e1
  subst e2
  subst e3
  subst e4
  subst e5
  have k1 := h1
  have lt1 : ∀ x ∈ p1, x.block < W.heap.size := by obtain ⟨m, hm⟩ := k1; exact DataW.trod_lt m _ _ _ hm
  obtain ⟨c0_1, c1_1, c2_1, c3_1, c4_1, c5_1, y0_1, y1_1, y2_1, y3_1, y4_1, y5_1, m1, rfl, _, _, hy0_1, hy1_1, hy2_1, hy3_1, hy4_1, hy5_1⟩ := open_agg6 Try.underlying37 (by kernel_rfl) (by kernel_rfl) (hval 1 37 v1 rfl rfl) h1
  obtain ⟨s1, e0, _, w1⟩ := DataW.trod_string Try.underlying9 hy0_1
  obtain ⟨n1_1, e1, _, b1_1⟩ := DataW.trod_int Try.underlying2 hy1_1
  obtain ⟨n2_1, e2, _, b2_1⟩ := DataW.trod_int Try.underlying2 hy2_1
  obtain ⟨n3_1, e3, _, b3_1⟩ := DataW.trod_int Try.underlying2 hy3_1
  obtain ⟨n4_1, e4, _, b4_1⟩ := DataW.trod_int Try.underlying2 hy4_1
  obtain ⟨n5_1, e5, _, b5_1⟩ := DataW.trod_int Try.underlying2 hy5_1
  simp only [List.cons.injEq, and_true] at e0 e1 e2 e3 e4 e5
  subst e0
  subst e1
  subst e2
  subst e3
  subst e4
  subst e5
  clear hA0 hval0
  refine (walk (Pl.mk s0 n1_0 n2_0 n3_0 n4_0 n5_0) (Pl.mk s1 n1_1 n2_1 n3_1 n4_1 n5_1) W w0 w1).mono fun e W' ⟨he, bel⟩ => ?_
  subst he
  exact ⟨_, rfl, _, _, _, [], _, [], hW', trodAll_mk1 (shut_bool Try.underlying4 _), (trodAll_cons_mk (Below.trod laidOut (by kernel_rfl) (of_decide_eq_true (by kernel_rfl)) k0 bel lt0) (trodAll_cons_mk (Below.trod laidOut (by kernel_rfl) (of_decide_eq_true (by kernel_rfl)) k1 bel lt1) trodAll_mk0)), rfl, bel.frame _, fun h => by cases h⟩

theorem over : Rows.fnExactPairGapRow.holds Try.pinned (OpenSpec.ofChange Rows.fnExactPairGapSpec) :=
  OpenClaim.holds_of_wide 14 Try.f14 rfl rfl rfl rfl rfl rfl rfl ⟨rfl, rfl, rfl, rfl, rfl⟩ rfl rfl rfl rfl rfl (by kernel_rfl) Try.func14 (by kernel_rfl)
    (of_decide_eq_true (by kernel_rfl)) (by unfold Func.isWrapper; first | (rw [if_pos (by decide +kernel)]; kernel_rfl) | (rw [if_neg (by decide +kernel)]; exact ⟨rfl, rfl⟩))
    (fun os started H enc _ => lifted os started H enc)

/-- The given statement. -/
theorem proved : Rows.FnExactPairGapSaid := over
#print axioms proved

end Go.Proofs.Ythjedbjhinlhhaa.fnExactPairGap
