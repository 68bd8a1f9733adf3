/- For every width, moistures and share, the program's ShrunkTo returns what the reference's returns. Conditions: none. -/
import Derived.Test.YtdglbppnhhhdmaaDiv
import Derived.ProofKit
import Derived.OpenShut
import Derived.ShutString
import Derived.ChangeOld
import Derived.Below
namespace Go.Proofs.Ytdglbppnhhhdmaa.fnExactShrunkTo
open Go.ChangeShapes Go.WideShapes Go.ChangeAt Go.RowKit
open Go.ChangeMaps (open_string shut_string)
set_option linter.unusedVariables false

def okB (x f t s : Int) : Bool := inB x 1 100000 && (inB f 0 1000 && (inB t 0 1000 && inB s 0 1000))
def mn (f : Int) : Int := if f < 280 then f else 280
theorem mn_bd (f : Int) (h : 0 ≤ f) : 0 ≤ mn f ∧ mn f ≤ 280 := by unfold mn; split <;> omega
def res (x f t s : Int) : Int := if okB x f t s then x - rnd (x * (mn f - mn t) * s) 280000 else 0
def cod (x f t s : Int) : Int := if okB x f t s then 0 else 2

theorem prod_bd (x d : Int) (h1 : 1 ≤ x) (h2 : x ≤ 100000) (h3 : -280 ≤ d) (h4 : d ≤ 280) : -28000000 ≤ x * d ∧ x * d ≤ 28000000 := by
  have a1 : x * -280 ≤ x * d := Int.mul_le_mul_of_nonneg_left h3 (by omega)
  have a2 : x * d ≤ x * 280 := Int.mul_le_mul_of_nonneg_left h4 (by omega)
  omega
theorem prod_bd2 (y s : Int) (h1 : -28000000 ≤ y) (h2 : y ≤ 28000000) (h3 : 0 ≤ s) (h4 : s ≤ 1000) : -28000000000 ≤ y * s ∧ y * s ≤ 28000000000 := by
  have a1 : -28000000 * s ≤ y * s := Int.mul_le_mul_of_nonneg_right h1 h3
  have a2 : y * s ≤ 28000000 * s := Int.mul_le_mul_of_nonneg_right h2 h3
  omega

theorem isPart_any (n : Int) (w : World) :
    Calls Try.prog 60 #[.int .i64 n] w fun e w' => e = .returned (.bool (inB n 0 1000)) ∧ w = w' := by
  go_enter Try.func60, Try.ntmps60
  go_wp2_with (go_at_call 40; refine (within_any _ _ _ _).mono ?_; rintro e w' ⟨rfl, rfl⟩)
  go_ret
  exact ⟨rfl, rfl⟩

theorem l04Share_any (n : Int) (w : World) :
    Calls Try.prog 58 #[.int .i64 n] w fun e w' => e = .returned (.bool (inB n 0 1000)) ∧ w = w' := by
  go_enter Try.func58, Try.ntmps58
  go_wp2_with (go_at_call 39; refine (in_any _ _ _ _).mono ?_; rintro e w' ⟨rfl, rfl⟩)
  go_ret
  exact ⟨rfl, rfl⟩

theorem min_any (b : Int) (w : World) :
    Calls Try.prog 59 #[.int .i64 280, .int .i64 b] w fun e w' => e = .returned (.int .i64 (mn b)) ∧ w = w' := by
  by_cases h : 280 < b
  all_goals
    go_enter Try.func59, Try.ntmps59
    go_wp2
    go_ret
    exact ⟨ret_int (by unfold mn; split <;> omega), rfl⟩

set_option maxHeartbeats 800000 in
theorem impl_any (a b c d : Int) (w : World) :
    Calls Try.prog 36 #[.int .i64 a, .int .i64 b, .int .i64 c, .int .i64 d] w fun r w' => r = .returned (.tuple #[.int .i64 (res a b c d), .int .i64 (cod a b c d)]) ∧ w = w' := by
  cases h1 : inB a 1 100000 <;> cases h2 : inB b 0 1000 <;> cases h3 : inB c 0 1000 <;> cases h4 : inB d 0 1000
  case true.true.true.true =>
    have b1 := inB_t h1
    have b2 := inB_t h2
    have b3 := inB_t h3
    have b4 := inB_t h4
    have m1 := mn_bd b b2.1
    have m2 := mn_bd c b3.1
    obtain ⟨p1, p2⟩ := prod_bd a (mn b - mn c) b1.1 b1.2 (by omega) (by omega)
    obtain ⟨p3, p4⟩ := prod_bd2 (a * (mn b - mn c)) d p1 p2 b4.1 b4.2
    obtain ⟨p5, p6⟩ := rnd_bd (a * (mn b - mn c) * d) 280000 28000000000 (by omega) p3 p4
    have hok := Lib.hid (show okB a b c d = true by simp [okB, *])
    have z0 : wrap64 0 = 0 := by unfold wrap64; omega
    have e1 : mn b = b ∨ mn b = 280 := by unfold mn; split <;> simp
    obtain ⟨x, hx⟩ : ∃ x, mn b = x := ⟨_, rfl⟩
    obtain ⟨y, hy⟩ : ∃ y, mn c = y := ⟨_, rfl⟩
    have hres : Hid (res a b c d = a - rnd (a * (x - y) * d) 280000) := by unfold Hid res; rw [hok.out, if_pos rfl, hx, hy]
    rw [hx] at m1 p1 p2 p3 p4 p5 p6
    rw [hy] at m2 p1 p2 p3 p4 p5 p6
    clear e1
    rcases Int.lt_trichotomy b 280 with c1 | c1 | c1 <;> rcases Int.lt_trichotomy c 280 with c2 | c2 | c2
    all_goals
      unfold mn at hx hy
      first | rw [if_pos c1] at hx | rw [if_neg (by omega)] at hx
      first | rw [if_pos c2] at hy | rw [if_neg (by omega)] at hy
      try subst c1
      try subst c2
      subst hx
      subst hy
      try simp only [Int.sub_self, Int.mul_zero, Int.zero_mul] at p1 p2 p3 p4 p5 p6 hres
      go_enter Try.func36, Try.ntmps36
      go_wp2_with (first | (go_at_call 40; refine (within_any _ _ _ _).mono ?_; rintro e w' ⟨rfl, rfl⟩) | (go_at_call 60; refine (isPart_any _ _).mono ?_; rintro e w' ⟨rfl, rfl⟩) | (go_at_call 57; refine (divRound_any _ _ _ (by omega) (by omega) (by omega) (by omega) (by omega)).mono ?_; rintro e w' ⟨rfl, rfl⟩))
      go_ret2
      exact ⟨ret_int2 hres.out.symm (by rw [cod, hok.out]; rfl), rfl⟩
  all_goals
    go_enter Try.func36, Try.ntmps36
    go_wp2_with (first | (go_at_call 40; refine (within_any _ _ _ _).mono ?_; rintro e w' ⟨rfl, rfl⟩) | (go_at_call 60; refine (isPart_any _ _).mono ?_; rintro e w' ⟨rfl, rfl⟩))
    go_ret2
    exact ⟨ret_int2 (by simp [res, okB, *]) (by simp [cod, okB, *]), rfl⟩

theorem spec_any (a b c d : Int) (w : World) :
    Calls Try.prog 35 #[.int .i64 a, .int .i64 b, .int .i64 c, .int .i64 d] w fun r w' => r = .returned (.tuple #[.int .i64 (res a b c d), .int .i64 (cod a b c d)]) ∧ w = w' := by
  cases h1 : inB a 1 100000 <;> cases h2 : inB b 0 1000 <;> cases h3 : inB c 0 1000 <;> cases h4 : inB d 0 1000
  case true.true.true.true =>
    have b1 := inB_t h1
    have b2 := inB_t h2
    have b3 := inB_t h3
    have b4 := inB_t h4
    have m1 := mn_bd b b2.1
    have m2 := mn_bd c b3.1
    obtain ⟨p1, p2⟩ := prod_bd a (mn b - mn c) b1.1 b1.2 (by omega) (by omega)
    obtain ⟨p3, p4⟩ := prod_bd2 (a * (mn b - mn c)) d p1 p2 b4.1 b4.2
    obtain ⟨p5, p6⟩ := rnd_bd (a * (mn b - mn c) * d) 280000 28000000000 (by omega) p3 p4
    have hok := Lib.hid (show okB a b c d = true by simp [okB, *])
    go_enter Try.func35, Try.ntmps35
    go_wp2_with (first | (go_at_call 39; refine (in_any _ _ _ _).mono ?_; rintro e w' ⟨rfl, rfl⟩) | (go_at_call 58; refine (l04Share_any _ _).mono ?_; rintro e w' ⟨rfl, rfl⟩) | (go_at_call 59; refine (min_any _ _).mono ?_; rintro e w' ⟨rfl, rfl⟩) | (go_at_call 56; refine (div_any _ _ _ (by omega) (by omega) (by omega) (by omega) (by omega)).mono ?_; rintro e w' ⟨rfl, rfl⟩))
    go_ret2
    exact ⟨ret_int2 (by rw [res, hok.out, if_pos rfl]) (by rw [cod, hok.out]; rfl), rfl⟩
  all_goals
    go_enter Try.func35, Try.ntmps35
    go_wp2_with (first | (go_at_call 39; refine (in_any _ _ _ _).mono ?_; rintro e w' ⟨rfl, rfl⟩) | (go_at_call 58; refine (l04Share_any _ _).mono ?_; rintro e w' ⟨rfl, rfl⟩))
    go_ret2
    exact ⟨ret_int2 (by simp [res, okB, *]) (by simp [cod, okB, *]), rfl⟩

theorem walk (a b c d : Int) (w : World) (w0 : (Lit.int .i64 a).wf = true) (w1 : (Lit.int .i64 b).wf = true) (w2 : (Lit.int .i64 c).wf = true) (w3 : (Lit.int .i64 d).wf = true) :
    Calls Try.prog 14 #[.int .i64 a, .int .i64 b, .int .i64 c, .int .i64 d] w fun r w' => r = .returned (.bool true) ∧ Below w.heap.size w w' := by
  go_enter Try.func14, Try.ntmps14
  go_wp2_with (first | (go_at_call 35; refine (spec_any _ _ _ _ _).mono ?_; rintro e w' ⟨rfl, rfl⟩) | (go_at_call 36; refine (impl_any _ _ _ _ _).mono ?_; rintro e w' ⟨rfl, rfl⟩))
  go_ret
  exact ⟨rfl, Below.refl _ _⟩

/-! ### The row's step -/
theorem own : ownKnob Try.prog.godebug = none := by kernel_rfl
theorem laidOut : laidOutB Try.prog = true := by kernel_rfl
set_option maxRecDepth 100000 in
theorem lifted (os : Os) (started : os.Started) (H : Type) (enc : TypeId × Value → H) :
    ReturnsInHanded {} Try.checked os 14 .any (Rows.fnExactShrunkToSpec.pre6 enc Try.prog Try.f14 Rows.fnExactShrunkToRow.domain false) (Rows.fnExactShrunkToSpec.post enc Try.prog Try.f14 false true false false) := by
  refine returnsInHanded_of_change (C := Try.checked) own started (by kernel_rfl) Try.func14
    (ChangeSpec.witness6 (enc := enc) (C := Try.checked) false ⟨#[], #[.int .i64 0, .int .i64 0, .int .i64 0, .int .i64 0], []⟩ 8 (by kernel_rfl) (by kernel_rfl) (by kernel_rfl) (by kernel_rfl)) ?_
  intro W base args ds gs before hval0 hW hcnd _
  have hval : ∀ (j : Nat) t v, Try.f14.params[j]? = some t → args[j]? = some v → Value.okWide Try.prog W .any base t v := hval0
  have hW' := hW
  obtain ⟨p, q, hA0, hV, rfl, hfz, hnd⟩ := hW
  have hA : DataW.TrodAll enc Try.prog W 0 (fun _ => true) true Try.f14.params.toList args.toList ds p := hA0
  rw [Try.params14] at hA hval
  obtain ⟨v0, vs0, d0, ds0, p0, q0, hargs, rfl, rfl, h0, r0⟩ := trodAll_cons hA
  obtain ⟨v1, vs1, d1, ds1, p1, q1, rfl, rfl, rfl, h1, r1⟩ := trodAll_cons r0
  obtain ⟨v2, vs2, d2, ds2, p2, q2, rfl, rfl, rfl, h2, r2⟩ := trodAll_cons r1
  obtain ⟨v3, vs3, d3, ds3, p3, q3, rfl, rfl, rfl, h3, r3⟩ := trodAll_cons r2
  obtain ⟨rfl, rfl, rfl⟩ := trodAll_nil r3
  obtain rfl : args = #[v0, v1, v2, v3] := by cases args; simp_all
  obtain ⟨rfl, rfl⟩ := trodVars_none hV
  have k0 := h0
  have lt0 : ∀ x ∈ p0, x.block < W.heap.size := by obtain ⟨m, hm⟩ := k0; exact DataW.trod_lt m _ _ _ hm
  obtain ⟨a0, rfl, rfl, rfl, w0⟩ := open_int Try.underlying2 (hval 0 2 v0 rfl rfl) h0
  have k1 := h1
  have lt1 : ∀ x ∈ p1, x.block < W.heap.size := by obtain ⟨m, hm⟩ := k1; exact DataW.trod_lt m _ _ _ hm
  obtain ⟨a1, rfl, rfl, rfl, w1⟩ := open_int Try.underlying2 (hval 1 2 v1 rfl rfl) h1
  have k2 := h2
  have lt2 : ∀ x ∈ p2, x.block < W.heap.size := by obtain ⟨m, hm⟩ := k2; exact DataW.trod_lt m _ _ _ hm
  obtain ⟨a2, rfl, rfl, rfl, w2⟩ := open_int Try.underlying2 (hval 2 2 v2 rfl rfl) h2
  have k3 := h3
  have lt3 : ∀ x ∈ p3, x.block < W.heap.size := by obtain ⟨m, hm⟩ := k3; exact DataW.trod_lt m _ _ _ hm
  obtain ⟨a3, rfl, rfl, rfl, w3⟩ := open_int Try.underlying2 (hval 3 2 v3 rfl rfl) h3
  clear hA0 hval0
  refine (walk a0 a1 a2 a3 W w0 w1 w2 w3).mono fun e W' ⟨he, bel⟩ => ?_
  subst he
  exact ⟨_, rfl, _, _, _, [], _, [], hW', trodAll_mk1 (shut_bool Try.underlying4 _), (trodAll_cons_mk (Below.trod laidOut (by kernel_rfl) (of_decide_eq_true (by kernel_rfl)) k0 bel lt0) (trodAll_cons_mk (Below.trod laidOut (by kernel_rfl) (of_decide_eq_true (by kernel_rfl)) k1 bel lt1) (trodAll_cons_mk (Below.trod laidOut (by kernel_rfl) (of_decide_eq_true (by kernel_rfl)) k2 bel lt2) (trodAll_cons_mk (Below.trod laidOut (by kernel_rfl) (of_decide_eq_true (by kernel_rfl)) k3 bel lt3) trodAll_mk0)))), rfl, bel.frame _, fun h => by cases h⟩

theorem over : Rows.fnExactShrunkToRow.holds Try.pinned (OpenSpec.ofChange Rows.fnExactShrunkToSpec) :=
  OpenClaim.holds_of_wide 14 Try.f14 rfl rfl rfl rfl rfl rfl rfl ⟨rfl, rfl, rfl, rfl, rfl⟩ rfl rfl rfl rfl rfl (by kernel_rfl) Try.func14 (by kernel_rfl)
    (of_decide_eq_true (by kernel_rfl)) (by unfold Func.isWrapper; first | (rw [if_pos (by decide +kernel)]; kernel_rfl) | (rw [if_neg (by decide +kernel)]; exact ⟨rfl, rfl⟩))
    (fun os started H enc _ => lifted os started H enc)

/-- The given statement. -/
theorem proved : Rows.FnExactShrunkToSaid := over
#print axioms proved

end Go.Proofs.Ytdglbppnhhhdmaa.fnExactShrunkTo
