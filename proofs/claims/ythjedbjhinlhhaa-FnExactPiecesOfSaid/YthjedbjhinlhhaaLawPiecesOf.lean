/- For every plank and piece, the program's PiecesOf returns what the reference's returns. Conditions: none. -/
import Derived.Test.YthjedbjhinlhhaaPlankC
import Derived.Test.YthjedbjhinlhhaaAgg
import Derived.ProofKit
import Derived.OpenShut
import Derived.ShutString
import Derived.ChangeOld
import Derived.Below
namespace Go.Proofs.Ythjedbjhinlhhaa.fnExactPiecesOf
open Go.ChangeShapes Go.WideShapes Go.ChangeAt Go.RowKit
open Go.ChangeMaps (open_string shut_string)
set_option linter.unusedVariables false

def many (p : Pl) (a b c : Int) : Int := p.l / a * (p.wd / b) * (p.t / c)
def res (p : Pl) (a b c : Int) : Int := if validB p && pieceB a b c then many p a b c else 0
def cod (p : Pl) (a b c : Int) : Int := if validB p then (if pieceB a b c then 0 else 2) else 1
theorem res_t {p : Pl} {a b c : Int} (h : validB p = true) (g : pieceB a b c = true) : res p a b c = many p a b c ∧ cod p a b c = 0 := by simp [res, cod, h, g]
theorem res_r {p : Pl} {a b c : Int} (h : validB p = true) (g : pieceB a b c = false) : res p a b c = 0 ∧ cod p a b c = 2 := by simp [res, cod, h, g]
theorem res_f {p : Pl} {a b c : Int} (h : validB p = false) : res p a b c = 0 ∧ cod p a b c = 1 := by simp [res, cod, h]
theorem quo_bd {x a : Int} (h1 : 1 ≤ x) (h2 : x ≤ 2000) (h3 : 1 ≤ a) : 0 ≤ x / a ∧ x / a ≤ 2000 := by
  refine ⟨Int.ediv_nonneg (by omega) (by omega), ?_⟩
  have := Int.ediv_le_self (a := x) a (by omega)
  omega

theorem impl_any (p : Pl) (a b c : Int) (w : World) (hs : p.id.size ≤ maxLen) :
    Calls Try.prog 37 #[.agg #[.string p.id, .int .i64 p.l, .int .i64 p.wd, .int .i64 p.t, .int .i64 p.m, .int .i64 p.r], .int .i64 a, .int .i64 b, .int .i64 c] w fun r w' => r = .returned (.tuple #[.int .i64 (res p a b c), .int .i64 (cod p a b c)]) ∧ Below w.heap.size w w' := by
  have K := Lib.hid (Keeps.start w p 40 hs)
  cases h : validB p
  · have hr := Lib.hid (res_f (a := a) (b := b) (c := c) h)
    go_enter Try.func37, Try.ntmps37
    go_wp2_with (go_at_call 31; refine (ValidPlank_any p _ hs).mono ?_; rintro e w1 ⟨rfl, b1⟩; have K := Lib.hid (K.out.step b1); obtain ⟨q0, q1, q2, q3, q4, q5⟩ := K.out.cells; clear b1)
    go_ret2
    exact ⟨ret_int2 hr.out.1.symm hr.out.2.symm, K.out.old⟩
  · cases g : pieceB a b c
    · have hr := Lib.hid (res_r h g)
      go_enter Try.func37, Try.ntmps37
      go_wp2_with (first | (go_at_call 31; refine (ValidPlank_any p _ hs).mono ?_; rintro e w1 ⟨rfl, b1⟩; have K := Lib.hid (K.out.step b1); obtain ⟨q0, q1, q2, q3, q4, q5⟩ := K.out.cells; clear b1) | (go_at_call 61; refine (isPiece_any _ _ _ _).mono ?_; rintro e w' ⟨rfl, rfl⟩))
      go_ret2
      exact ⟨ret_int2 hr.out.1.symm hr.out.2.symm, K.out.old⟩
    · have hr := Lib.hid (res_t h g)
      have hf := validB_fits h
      have hg := g
      simp only [pieceB, Bool.and_eq_true] at hg
      obtain ⟨g1, g2, g3⟩ := hg
      have a1 := (inB_t g1).1
      have a2 := (inB_t g2).1
      have a3 := (inB_t g3).1
      clear g1 g2 g3
      have x1 := quo_bd hf.l1 hf.l2 a1
      have x2 := quo_bd hf.w1 hf.w2 a2
      have x3 := quo_bd hf.t1 hf.t2 a3
      have y1 := mul_bd1 x1.1 x1.2 x2.1 x2.2
      have y2 := mul_bd1 y1.1 y1.2 x3.1 x3.2
      obtain ⟨l1, l2, w1, w2, t1, t2, m1, m2, r1, r2⟩ := hf
      have d1 : p.l.tdiv a = p.l / a := Int.tdiv_eq_ediv_of_nonneg (by omega)
      have d2 : p.wd.tdiv b = p.wd / b := Int.tdiv_eq_ediv_of_nonneg (by omega)
      have d3 : p.t.tdiv c = p.t / c := Int.tdiv_eq_ediv_of_nonneg (by omega)
      have e1 : IntKind.i64.wrap (p.l / a) = p.l / a := wrap_i64 (by omega) (by omega)
      have e2 : IntKind.i64.wrap (p.wd / b) = p.wd / b := wrap_i64 (by omega) (by omega)
      have e3 : IntKind.i64.wrap (p.t / c) = p.t / c := wrap_i64 (by omega) (by omega)
      have e4 : IntKind.i64.wrap (p.l / a * (p.wd / b)) = p.l / a * (p.wd / b) := wrap_i64 (by omega) (by omega)
      have e5 : IntKind.i64.wrap (p.l / a * (p.wd / b) * (p.t / c)) = p.l / a * (p.wd / b) * (p.t / c) := wrap_i64 (by omega) (by omega)
      have z1 : (a == 0) = false := by simp; omega
      have z2 : (b == 0) = false := by simp; omega
      have z3 : (c == 0) = false := by simp; omega
      go_enter Try.func37, Try.ntmps37
      go_wp2_with (first | (go_at_call 31; refine (ValidPlank_any p _ hs).mono ?_; rintro e w1 ⟨rfl, b1⟩; have K := Lib.hid (K.out.step b1); obtain ⟨q0, q1, q2, q3, q4, q5⟩ := K.out.cells; clear b1) | (go_at_call 61; refine (isPiece_any _ _ _ _).mono ?_; rintro e w' ⟨rfl, rfl⟩))
      go_quiet (fail)
      clear d1 d2 d3 e1 e2 e3 e4 e5 z1 z2 z3
      go_wp2
      go_ret2
      exact ⟨ret_int2 (by rw [hr.out.1]; rfl) hr.out.2.symm, below_drewN K.out.old _⟩

theorem spec_any (p : Pl) (a b c : Int) (w : World) (hs : p.id.size ≤ maxLen) :
    Calls Try.prog 36 #[.agg #[.string p.id, .int .i64 p.l, .int .i64 p.wd, .int .i64 p.t, .int .i64 p.m, .int .i64 p.r], .int .i64 a, .int .i64 b, .int .i64 c] w fun r w' => r = .returned (.tuple #[.int .i64 (res p a b c), .int .i64 (cod p a b c)]) ∧ Below w.heap.size w w' := by
  have K := Lib.hid (Keeps.start w p 40 hs)
  cases h : validB p
  · have hr := Lib.hid (res_f (a := a) (b := b) (c := c) h)
    go_enter Try.func36, Try.ntmps36
    go_wp2_with (go_at_call 59; refine (l03One_any p _ _ _ K.out.at_).mono ?_; rintro e w' ⟨rfl, rfl⟩)
    go_ret2
    exact ⟨ret_int2 hr.out.1.symm hr.out.2.symm, K.out.old⟩
  · cases g : pieceB a b c
    · have hr := Lib.hid (res_r h g)
      go_enter Try.func36, Try.ntmps36
      go_wp2_with (first | (go_at_call 59; refine (l03One_any p _ _ _ K.out.at_).mono ?_; rintro e w' ⟨rfl, rfl⟩) | (go_at_call 62; refine (l03Piece_any _ _ _ _).mono ?_; rintro e w' ⟨rfl, rfl⟩))
      go_ret2
      exact ⟨ret_int2 hr.out.1.symm hr.out.2.symm, K.out.old⟩
    · have hr := Lib.hid (res_t h g)
      have hf := validB_fits h
      have hg := g
      simp only [pieceB, Bool.and_eq_true] at hg
      obtain ⟨g1, g2, g3⟩ := hg
      have a1 := (inB_t g1).1
      have a2 := (inB_t g2).1
      have a3 := (inB_t g3).1
      clear g1 g2 g3
      have x1 := quo_bd hf.l1 hf.l2 a1
      have x2 := quo_bd hf.w1 hf.w2 a2
      have x3 := quo_bd hf.t1 hf.t2 a3
      have y1 := mul_bd1 x1.1 x1.2 x2.1 x2.2
      have y2 := mul_bd1 y1.1 y1.2 x3.1 x3.2
      obtain ⟨l1, l2, w1, w2, t1, t2, m1, m2, r1, r2⟩ := hf
      have d1 : p.l.tdiv a = p.l / a := Int.tdiv_eq_ediv_of_nonneg (by omega)
      have d2 : p.wd.tdiv b = p.wd / b := Int.tdiv_eq_ediv_of_nonneg (by omega)
      have d3 : p.t.tdiv c = p.t / c := Int.tdiv_eq_ediv_of_nonneg (by omega)
      have e1 : IntKind.i64.wrap (p.l / a) = p.l / a := wrap_i64 (by omega) (by omega)
      have e2 : IntKind.i64.wrap (p.wd / b) = p.wd / b := wrap_i64 (by omega) (by omega)
      have e3 : IntKind.i64.wrap (p.t / c) = p.t / c := wrap_i64 (by omega) (by omega)
      have e4 : IntKind.i64.wrap (p.l / a * (p.wd / b)) = p.l / a * (p.wd / b) := wrap_i64 (by omega) (by omega)
      have e5 : IntKind.i64.wrap (p.l / a * (p.wd / b) * (p.t / c)) = p.l / a * (p.wd / b) * (p.t / c) := wrap_i64 (by omega) (by omega)
      have z1 : (a == 0) = false := by simp; omega
      have z2 : (b == 0) = false := by simp; omega
      have z3 : (c == 0) = false := by simp; omega
      go_enter Try.func36, Try.ntmps36
      go_wp2_with (first | (go_at_call 59; refine (l03One_any p _ _ _ K.out.at_).mono ?_; rintro e w' ⟨rfl, rfl⟩) | (go_at_call 62; refine (l03Piece_any _ _ _ _).mono ?_; rintro e w' ⟨rfl, rfl⟩))
      go_quiet (fail)
      clear d1 d2 d3 e1 e2 e3 e4 e5 z1 z2 z3
      go_wp2
      go_ret2
      exact ⟨ret_int2 (by rw [hr.out.1]; rfl) hr.out.2.symm, below_drewN K.out.old _⟩

theorem walk (p : Pl) (a b c : Int) (w : World) (w0 : p.id.size ≤ maxLen) (w1 : (Lit.int .i64 a).wf = true) (w2 : (Lit.int .i64 b).wf = true) (w3 : (Lit.int .i64 c).wf = true) :
    Calls Try.prog 11 #[.agg #[.string p.id, .int .i64 p.l, .int .i64 p.wd, .int .i64 p.t, .int .i64 p.m, .int .i64 p.r], .int .i64 a, .int .i64 b, .int .i64 c] w fun r w' => r = .returned (.bool true) ∧ Below w.heap.size w w' := by
  have K := Lib.hid (Keeps.start w p 37 w0)
  by_cases hl : (1048576 : Int) < p.id.size
  · have hr := Lib.hid (show lessI 1048576 p.id.size = -1 by rw [lessI, if_pos hl])
    have hr1 : lessI 1048576 p.id.size < 0 := by rw [hr.out]; omega
    go_enter Try.func11, Try.ntmps11
    go_wp2_with (go_at_call 28; refine (szPlank_any p _ _ w0 (by omega) (by omega)).mono ?_; rintro e w1 ⟨rfl, b1⟩; have K := Lib.hid (K.out.step b1); obtain ⟨q0, q1, q2, q3, q4, q5⟩ := K.out.cells; clear b1)
    go_ret
    exact ⟨rfl, K.out.old⟩
  · have hr : (0 : Int) ≤ lessI 1048576 p.id.size := by rw [lessI, if_neg hl]; omega
    go_enter Try.func11, Try.ntmps11
    go_wp2_with (first | (go_at_call 28; refine (szPlank_any p _ _ w0 (by omega) (by omega)).mono ?_; rintro e w1 ⟨rfl, b1⟩; have K := Lib.hid (K.out.step b1); obtain ⟨q0, q1, q2, q3, q4, q5⟩ := K.out.cells; clear b1) | (go_at_call 30; refine (toPlank_any p _).mono ?_; rintro e w1 ⟨rfl, b1⟩; have K := Lib.hid (K.out.step b1); obtain ⟨q0, q1, q2, q3, q4, q5⟩ := K.out.cells; clear b1) | (go_at_call 36; refine (spec_any p _ _ _ _ w0).mono ?_; rintro e w1 ⟨rfl, b1⟩; have K := Lib.hid (K.out.step b1); obtain ⟨q0, q1, q2, q3, q4, q5⟩ := K.out.cells; clear b1) | (go_at_call 37; refine (impl_any p _ _ _ _ w0).mono ?_; rintro e w1 ⟨rfl, b1⟩; have K := Lib.hid (K.out.step b1); obtain ⟨q0, q1, q2, q3, q4, q5⟩ := K.out.cells; clear b1))
    go_ret
    exact ⟨rfl, K.out.old⟩

/-! ### The row's step -/
theorem own : ownKnob Try.prog.godebug = none := by kernel_rfl
theorem laidOut : laidOutB Try.prog = true := by kernel_rfl
set_option maxRecDepth 100000 in
theorem lifted (os : Os) (started : os.Started) (H : Type) (enc : TypeId × Value → H) :
    ReturnsInHanded {} Try.checked os 11 .any (Rows.fnExactPiecesOfSpec.pre6 enc Try.prog Try.f11 Rows.fnExactPiecesOfRow.domain false) (Rows.fnExactPiecesOfSpec.post enc Try.prog Try.f11 false true false false) := by
  refine returnsInHanded_of_change (C := Try.checked) own started (by kernel_rfl) Try.func11
    (ChangeSpec.witness6 (enc := enc) (C := Try.checked) false ⟨#[], #[.agg #[.string ByteArray.empty, .int .i64 0, .int .i64 0, .int .i64 0, .int .i64 0, .int .i64 0], .int .i64 0, .int .i64 0, .int .i64 0], []⟩ 8 (by kernel_rfl) (by kernel_rfl) (by kernel_rfl) (by kernel_rfl)) ?_
  intro W base args ds gs before hval0 hW hcnd _
  have hval : ∀ (j : Nat) t v, Try.f11.params[j]? = some t → args[j]? = some v → Value.okWide Try.prog W .any base t v := hval0
  have hW' := hW
  obtain ⟨p, q, hA0, hV, rfl, hfz, hnd⟩ := hW
  have hA : DataW.TrodAll enc Try.prog W 0 (fun _ => true) true Try.f11.params.toList args.toList ds p := hA0
  rw [Try.params11] at hA hval
  obtain ⟨v0, vs0, d0, ds0, p0, q0, hargs, rfl, rfl, h0, r0⟩ := trodAll_cons hA
  obtain ⟨v1, vs1, d1, ds1, p1, q1, rfl, rfl, rfl, h1, r1⟩ := trodAll_cons r0
  obtain ⟨v2, vs2, d2, ds2, p2, q2, rfl, rfl, rfl, h2, r2⟩ := trodAll_cons r1
  obtain ⟨v3, vs3, d3, ds3, p3, q3, rfl, rfl, rfl, h3, r3⟩ := trodAll_cons r2
  obtain ⟨rfl, rfl, rfl⟩ := trodAll_nil r3
  obtain rfl : args = #[v0, v1, v2, v3] := by cases args; simp_all
  obtain ⟨rfl, rfl⟩ := trodVars_none hV
  have k0 := h0
  have lt0 : ∀ x ∈ p0, x.block < W.heap.size := by obtain ⟨m, hm⟩ := k0; exact DataW.trod_lt m _ _ _ hm
  obtain ⟨c0_0, c1_0, c2_0, c3_0, c4_0, c5_0, y0_0, y1_0, y2_0, y3_0, y4_0, y5_0, m0, rfl, _, _, hy0_0, hy1_0, hy2_0, hy3_0, hy4_0, hy5_0⟩ := open_agg6 Try.underlying37 (by kernel_rfl) (by kernel_rfl) (hval 0 37 v0 rfl rfl) h0
  obtain ⟨s0, e0, _, w0⟩ := DataW.trod_string Try.underlying9 hy0_0
  obtain ⟨n1_0, e1, _, b1_0⟩ := DataW.trod_int Try.underlying2 hy1_0
  obtain ⟨n2_0, e2, _, b2_0⟩ := DataW.trod_int Try.underlying2 hy2_0
  obtain ⟨n3_0, e3, _, b3_0⟩ := DataW.trod_int Try.underlying2 hy3_0
  obtain ⟨n4_0, e4, _, b4_0⟩ := DataW.trod_int Try.underlying2 hy4_0
  obtain ⟨n5_0, e5, _, b5_0⟩ := DataW.trod_int Try.underlying2 hy5_0
  simp only [List.cons.injEq, and_true] at e0 e1 e2 e3 e4 e5
  subst e0
  subst e1
  subst e2
  subst e3
  subst e4
  subst e5
  have k1 := h1
  have lt1 : ∀ x ∈ p1, x.block < W.heap.size := by obtain ⟨m, hm⟩ := k1; exact DataW.trod_lt m _ _ _ hm
  obtain ⟨a1, rfl, rfl, rfl, w1⟩ := open_int Try.underlying2 (hval 1 2 v1 rfl rfl) h1
  have k2 := h2
  have lt2 : ∀ x ∈ p2, x.block < W.heap.size := by obtain ⟨m, hm⟩ := k2; exact DataW.trod_lt m _ _ _ hm
  obtain ⟨a2, rfl, rfl, rfl, w2⟩ := open_int Try.underlying2 (hval 2 2 v2 rfl rfl) h2
  have k3 := h3
  have lt3 : ∀ x ∈ p3, x.block < W.heap.size := by obtain ⟨m, hm⟩ := k3; exact DataW.trod_lt m _ _ _ hm
  obtain ⟨a3, rfl, rfl, rfl, w3⟩ := open_int Try.underlying2 (hval 3 2 v3 rfl rfl) h3
  clear hA0 hval0
  refine (walk (Pl.mk s0 n1_0 n2_0 n3_0 n4_0 n5_0) a1 a2 a3 W w0 w1 w2 w3).mono fun e W' ⟨he, bel⟩ => ?_
  subst he
  exact ⟨_, rfl, _, _, _, [], _, [], hW', trodAll_mk1 (shut_bool Try.underlying4 _), (trodAll_cons_mk (Below.trod laidOut (by kernel_rfl) (of_decide_eq_true (by kernel_rfl)) k0 bel lt0) (trodAll_cons_mk (Below.trod laidOut (by kernel_rfl) (of_decide_eq_true (by kernel_rfl)) k1 bel lt1) (trodAll_cons_mk (Below.trod laidOut (by kernel_rfl) (of_decide_eq_true (by kernel_rfl)) k2 bel lt2) (trodAll_cons_mk (Below.trod laidOut (by kernel_rfl) (of_decide_eq_true (by kernel_rfl)) k3 bel lt3) trodAll_mk0)))), rfl, bel.frame _, fun h => by cases h⟩

theorem over : Rows.fnExactPiecesOfRow.holds Try.pinned (OpenSpec.ofChange Rows.fnExactPiecesOfSpec) :=
  OpenClaim.holds_of_wide 11 Try.f11 rfl rfl rfl rfl rfl rfl rfl ⟨rfl, rfl, rfl, rfl, rfl⟩ rfl rfl rfl rfl rfl (by kernel_rfl) Try.func11 (by kernel_rfl)
    (of_decide_eq_true (by kernel_rfl)) (by unfold Func.isWrapper; first | (rw [if_pos (by decide +kernel)]; kernel_rfl) | (rw [if_neg (by decide +kernel)]; exact ⟨rfl, rfl⟩))
    (fun os started H enc _ => lifted os started H enc)

/-- The given statement. -/
theorem proved : Rows.FnExactPiecesOfSaid := over
#print axioms proved

end Go.Proofs.Ythjedbjhinlhhaa.fnExactPiecesOf
