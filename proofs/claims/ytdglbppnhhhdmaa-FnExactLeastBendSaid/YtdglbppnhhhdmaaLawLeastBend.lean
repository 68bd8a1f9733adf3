/- For every thickness, heat and number of steps, the program's LeastBend returns what the reference's returns. Conditions: none. -/
import Derived.Test.YtdglbppnhhhdmaaBend
import Derived.ProofKit
import Derived.OpenShut
import Derived.ShutString
import Derived.ChangeOld
import Derived.Below
namespace Go.Proofs.Ytdglbppnhhhdmaa.fnExactLeastBend
open Go.ChangeShapes Go.WideShapes Go.ChangeAt Go.RowKit
open Go.ChangeMaps (open_string shut_string)
set_option linter.unusedVariables false

def okB (t h s : Int) : Bool := inB t 1 100 && (inB h 1 1000 && inB s 0 100)
/-- does a radius do? -/
def does (t h s r : Int) : Prop := t * 1000 / r ≤ h + 10 * s
/-- the least radius that does; 0 and the code 3 if none does -/
def Least (t h s : Int) (a c : Int) : Prop :=
  (1 ≤ a ∧ a ≤ 10000 ∧ does t h s a ∧ (∀ r, 1 ≤ r → r < a → ¬ does t h s r) ∧ c = 0) ∨ ((∀ r, 1 ≤ r → r ≤ 10000 → ¬ does t h s r) ∧ a = 0 ∧ c = 3)
theorem least_one {t h s a c a' c' : Int} (k : Least t h s a c) (k' : Least t h s a' c') : a = a' ∧ c = c' := by
  rcases k with ⟨h1, h2, h3, h4, h5⟩ | ⟨h1, h2, h3⟩ <;> rcases k' with ⟨g1, g2, g3, g4, g5⟩ | ⟨g1, g2, g3⟩
  · refine ⟨?_, by omega⟩
    rcases Int.lt_trichotomy a a' with x | x | x
    · exact absurd h3 (g4 a h1 x)
    · exact x
    · exact absurd g3 (h4 a' g1 x)
  · exact absurd h3 (g1 a h1 h2)
  · exact absurd g3 (h1 a' g1 g2)
  · omega
/-- what a call comes to -/
def Post (t h s : Int) (w : World) (e : Ending) (w' : World) : Prop :=
  ∃ a c : Int, e = .returned (.tuple #[.int .i64 a, .int .i64 c]) ∧ (okB t h s = true → Least t h s a c) ∧ (okB t h s = false → a = 0 ∧ c = 2) ∧ w = w'
/-- no radius below r does -/
def None_ (t h s r : Int) : Prop := ∀ q, 1 ≤ q → q < r → ¬ does t h s q

theorem steps_le (q h s : Int) (hs : 0 ≤ s) : stepsOf q h ≤ s ↔ q ≤ h + 10 * s := by unfold stepsOf; split <;> omega
theorem steps_bd (q h : Int) (h1 : 0 ≤ q) (h2 : q ≤ 100000) (h3 : 1 ≤ h) : 0 ≤ stepsOf q h ∧ stepsOf q h ≤ 100000 := by unfold stepsOf; split <;> omega

theorem impl_any (a b c : Int) (w : World) :
    Calls Try.prog 24 #[.int .i64 a, .int .i64 b, .int .i64 c] w (Post a b c w) := by
  cases h1 : inB a 1 100 <;> cases h2 : inB b 1 1000 <;> cases h3 : inB c 0 100
  case true.true.true =>
    have b1 := inB_t h1
    have b2 := inB_t h2
    have b3 := inB_t h3
    have hok := Lib.hid (show okB a b c = true by simp [okB, *])
    go_enter Try.func24, Try.ntmps24
    go_wp2_with (first | (go_at_call 40; refine (within_any _ _ _ _).mono ?_; rintro e w' ⟨rfl, rfl⟩) | (go_at_call 48; refine (isBend_any _ _ _).mono ?_; rintro e w' ⟨rfl, rfl⟩))
    go_loop [8] (fun i => ∃ r : Int, 1 ≤ r ∧ r ≤ 10001 ∧ None_ a b c r ∧ i = .int .i64 r) (fun i => (10001 - intOf i).toNat)
    case atStart => exact ⟨1, by omega, by omega, fun q x y => by omega, rfl⟩
    case round =>
      obtain ⟨r, r1, r2, hn, rfl⟩ := hrel
      have HN := Lib.hid hn
      clear hn
      by_cases hl : r ≤ 10000
      · obtain ⟨q1, q2⟩ := quo_bd a r r1 b1.1 b1.2
        obtain ⟨s1, s2⟩ := steps_bd (a * 1000 / r) b q1 q2 b2.1
        by_cases hd : stepsOf (a * 1000 / r) b ≤ c
        · go_wp2_with (go_at_call 49; refine (bendSteps_any _ _ _ _ (by omega) (by omega) (by omega) (by omega) (by omega) (by omega)).mono ?_; rintro e w' ⟨rfl, rfl⟩)
          go_ret2
          exact ⟨r, 0, rfl, fun _ => .inl ⟨r1, hl, (steps_le _ _ _ b3.1).1 hd, HN.out, rfl⟩, (fun h => by rw [hok.out] at h; cases h), rfl⟩
        · go_wp2_with (go_at_call 49; refine (bendSteps_any _ _ _ _ (by omega) (by omega) (by omega) (by omega) (by omega) (by omega)).mono ?_; rintro e w' ⟨rfl, rfl⟩)
          go_round
          case rel => exact ⟨r + 1, by omega, by omega, fun q x y => by
            by_cases e : q = r
            · subst e; intro g; exact absurd hd (Int.not_lt.2 ((steps_le _ _ _ b3.1).2 g))
            · exact HN.out q x (by omega), rfl⟩
          case measure => simp [intOf]; omega
      · go_wp2
        go_ret2
        exact ⟨0, 3, rfl, fun _ => .inr ⟨fun q x y => HN.out q x (by omega), rfl, rfl⟩, (fun h => by rw [hok.out] at h; cases h), rfl⟩
  all_goals
    go_enter Try.func24, Try.ntmps24
    go_wp2_with (first | (go_at_call 40; refine (within_any _ _ _ _).mono ?_; rintro e w' ⟨rfl, rfl⟩) | (go_at_call 48; refine (isBend_any _ _ _).mono ?_; rintro e w' ⟨rfl, rfl⟩))
    go_ret2
    exact ⟨0, 2, rfl, by simp [okB, *], by simp, rfl⟩

theorem spec_any (a b c : Int) (w : World) :
    Calls Try.prog 23 #[.int .i64 a, .int .i64 b, .int .i64 c] w (Post a b c w) := by
  cases h1 : inB a 1 100 <;> cases h2 : inB b 1 1000 <;> cases h3 : inB c 0 100
  case true.true.true =>
    have b1 := inB_t h1
    have b2 := inB_t h2
    have b3 := inB_t h3
    have hok := Lib.hid (show okB a b c = true by simp [okB, *])
    have ec := Lib.hid (Int.mul_comm a 1000)
    go_enter Try.func23, Try.ntmps23
    go_wp2_with (first | (go_at_call 39; refine (in_any _ _ _ _).mono ?_; rintro e w' ⟨rfl, rfl⟩) | (go_at_call 46; refine (l06Bend_any _ _ _).mono ?_; rintro e w' ⟨rfl, rfl⟩))
    go_loop [8] (fun i => ∃ r : Int, 1 ≤ r ∧ r ≤ 10001 ∧ None_ a b c r ∧ i = .int .i64 r) (fun i => (10001 - intOf i).toNat)
    case atStart => exact ⟨1, by omega, by omega, fun q x y => by omega, rfl⟩
    case round =>
      obtain ⟨r, r1, r2, hn, rfl⟩ := hrel
      have HN := Lib.hid hn
      clear hn
      by_cases hl : r ≤ 10000
      · obtain ⟨q1, q2⟩ := quo_bd a r r1 b1.1 b1.2
        rw [ec.out] at q1 q2
        by_cases hd : 1000 * a / r ≤ b + 10 * c
        · go_wp2
          go_ret2
          exact ⟨r, 0, rfl, fun _ => .inl ⟨r1, hl, by unfold does; rw [ec.out]; exact hd, HN.out, rfl⟩, (fun h => by rw [hok.out] at h; cases h), rfl⟩
        · go_wp2
          go_round
          case rel => exact ⟨r + 1, by omega, by omega, fun q x y => by
            by_cases e : q = r
            · subst e; intro g; unfold does at g; rw [ec.out] at g; exact hd g
            · exact HN.out q x (by omega), rfl⟩
          case measure => simp [intOf]; omega
      · go_wp2
        go_ret2
        exact ⟨0, 3, rfl, fun _ => .inr ⟨fun q x y => HN.out q x (by omega), rfl, rfl⟩, (fun h => by rw [hok.out] at h; cases h), rfl⟩
  all_goals
    go_enter Try.func23, Try.ntmps23
    go_wp2_with (first | (go_at_call 39; refine (in_any _ _ _ _).mono ?_; rintro e w' ⟨rfl, rfl⟩) | (go_at_call 46; refine (l06Bend_any _ _ _).mono ?_; rintro e w' ⟨rfl, rfl⟩))
    go_ret2
    exact ⟨0, 2, rfl, by simp [okB, *], by simp, rfl⟩

theorem post_one {t h s a c a' c' : Int} (k1 : okB t h s = true → Least t h s a c) (k2 : okB t h s = false → a = 0 ∧ c = 2) (g1 : okB t h s = true → Least t h s a' c') (g2 : okB t h s = false → a' = 0 ∧ c' = 2) : a' = a ∧ c' = c := by
  cases h : okB t h s
  · obtain ⟨rfl, rfl⟩ := k2 h; exact g2 h
  · exact least_one (g1 h) (k1 h)

theorem walk (a b c : Int) (w : World) (w0 : (Lit.int .i64 a).wf = true) (w1 : (Lit.int .i64 b).wf = true) (w2 : (Lit.int .i64 c).wf = true) :
    Calls Try.prog 8 #[.int .i64 a, .int .i64 b, .int .i64 c] w fun r w' => r = .returned (.bool true) ∧ Below w.heap.size w w' := by
  go_enter Try.func8, Try.ntmps8
  go_wp2_with (first | (go_at_call 23; refine (spec_any _ _ _ _).mono ?_; rintro e w' ⟨x, y, rfl, k1, k2, rfl⟩; have K1 := Lib.hid k1; have K2 := Lib.hid k2; clear k1 k2) | (go_at_call 24; refine (impl_any _ _ _ _).mono ?_; rintro e w' ⟨x', y', rfl, g1, g2, rfl⟩; obtain ⟨rfl, rfl⟩ := post_one K1.out K2.out g1 g2; clear g1 g2))
  go_ret
  exact ⟨rfl, Below.refl _ _⟩

/-! ### The row's step -/
theorem own : ownKnob Try.prog.godebug = none := by kernel_rfl
theorem laidOut : laidOutB Try.prog = true := by kernel_rfl
set_option maxRecDepth 100000 in
theorem lifted (os : Os) (started : os.Started) (H : Type) (enc : TypeId × Value → H) :
    ReturnsInHanded {} Try.checked os 8 .any (Rows.fnExactLeastBendSpec.pre6 enc Try.prog Try.f8 Rows.fnExactLeastBendRow.domain false) (Rows.fnExactLeastBendSpec.post enc Try.prog Try.f8 false true false false) := by
  refine returnsInHanded_of_change (C := Try.checked) own started (by kernel_rfl) Try.func8
    (ChangeSpec.witness6 (enc := enc) (C := Try.checked) false ⟨#[], #[.int .i64 0, .int .i64 0, .int .i64 0], []⟩ 8 (by kernel_rfl) (by kernel_rfl) (by kernel_rfl) (by kernel_rfl)) ?_
  intro W base args ds gs before hval0 hW hcnd _
  have hval : ∀ (j : Nat) t v, Try.f8.params[j]? = some t → args[j]? = some v → Value.okWide Try.prog W .any base t v := hval0
  have hW' := hW
  obtain ⟨p, q, hA0, hV, rfl, hfz, hnd⟩ := hW
  have hA : DataW.TrodAll enc Try.prog W 0 (fun _ => true) true Try.f8.params.toList args.toList ds p := hA0
  rw [Try.params8] at hA hval
  obtain ⟨v0, vs0, d0, ds0, p0, q0, hargs, rfl, rfl, h0, r0⟩ := trodAll_cons hA
  obtain ⟨v1, vs1, d1, ds1, p1, q1, rfl, rfl, rfl, h1, r1⟩ := trodAll_cons r0
  obtain ⟨v2, vs2, d2, ds2, p2, q2, rfl, rfl, rfl, h2, r2⟩ := trodAll_cons r1
  obtain ⟨rfl, rfl, rfl⟩ := trodAll_nil r2
  obtain rfl : args = #[v0, v1, v2] := by cases args; simp_all
  obtain ⟨rfl, rfl⟩ := trodVars_none hV
  have k0 := h0
  have lt0 : ∀ x ∈ p0, x.block < W.heap.size := by obtain ⟨m, hm⟩ := k0; exact DataW.trod_lt m _ _ _ hm
  obtain ⟨a0, rfl, rfl, rfl, w0⟩ := open_int Try.underlying2 (hval 0 2 v0 rfl rfl) h0
  have k1 := h1
  have lt1 : ∀ x ∈ p1, x.block < W.heap.size := by obtain ⟨m, hm⟩ := k1; exact DataW.trod_lt m _ _ _ hm
  obtain ⟨a1, rfl, rfl, rfl, w1⟩ := open_int Try.underlying2 (hval 1 2 v1 rfl rfl) h1
  have k2 := h2
  have lt2 : ∀ x ∈ p2, x.block < W.heap.size := by obtain ⟨m, hm⟩ := k2; exact DataW.trod_lt m _ _ _ hm
  obtain ⟨a2, rfl, rfl, rfl, w2⟩ := open_int Try.underlying2 (hval 2 2 v2 rfl rfl) h2
  clear hA0 hval0
  refine (walk a0 a1 a2 W w0 w1 w2).mono fun e W' ⟨he, bel⟩ => ?_
  subst he
  exact ⟨_, rfl, _, _, _, [], _, [], hW', trodAll_mk1 (shut_bool Try.underlying4 _), (trodAll_cons_mk (Below.trod laidOut (by kernel_rfl) (of_decide_eq_true (by kernel_rfl)) k0 bel lt0) (trodAll_cons_mk (Below.trod laidOut (by kernel_rfl) (of_decide_eq_true (by kernel_rfl)) k1 bel lt1) (trodAll_cons_mk (Below.trod laidOut (by kernel_rfl) (of_decide_eq_true (by kernel_rfl)) k2 bel lt2) trodAll_mk0))), rfl, bel.frame _, fun h => by cases h⟩

theorem over : Rows.fnExactLeastBendRow.holds Try.pinned (OpenSpec.ofChange Rows.fnExactLeastBendSpec) :=
  OpenClaim.holds_of_wide 8 Try.f8 rfl rfl rfl rfl rfl rfl rfl ⟨rfl, rfl, rfl, rfl, rfl⟩ rfl rfl rfl rfl rfl (by kernel_rfl) Try.func8 (by kernel_rfl)
    (of_decide_eq_true (by kernel_rfl)) (by unfold Func.isWrapper; first | (rw [if_pos (by decide +kernel)]; kernel_rfl) | (rw [if_neg (by decide +kernel)]; exact ⟨rfl, rfl⟩))
    (fun os started H enc _ => lifted os started H enc)

/-- The given statement. -/
theorem proved : Rows.FnExactLeastBendSaid := over
#print axioms proved

end Go.Proofs.Ytdglbppnhhhdmaa.fnExactLeastBend
