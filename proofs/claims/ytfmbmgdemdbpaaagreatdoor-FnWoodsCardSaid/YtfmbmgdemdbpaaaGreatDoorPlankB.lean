/- Planks: density, rings, gap, cuts: both texts of each. -/
import Derived.Test.YtfmbmgdemdbpaaaGreatDoorPlank
import Derived.Lib.QuietBelow
import Derived.Deep.RegionWith
namespace Go.Proofs.YtfmbmgdemdbpaaaGreatDoor
open Go.RowKit Go.Sort

/-- behind a region that draws -/
theorem below_of {w w' : World} {d : Nat} {os : Array Obj} (h : w' = grow (redrawn w d) os) : Below w.heap.size w w' := by rw [h]; exact below_regrown w d os

/-- in a region that draws: a contract that leaves the world, met there -/
theorem rg_same {P : Program} {f : FuncId} {args : Array Value} {w : World} {d : Nat} {os : Array Obj} {v : Value}
    (h : Calls P f args (grow (redrawn w d) os) fun e w' => e = .returned v ∧ grow (redrawn w d) os = w') : Calls P f args (grow (redrawn w d) os) fun e w'' => e = .returned v ∧ ∃ p : Regrown, w'' = grow (redrawn w p.d) p.os :=
  h.mono fun _ _ ⟨he, hw⟩ => ⟨he, ⟨d, os⟩, hw.symm⟩

theorem mul_bd1 {a b A B : Int} (a1 : 0 ≤ a) (a2 : a ≤ A) (b1 : 0 ≤ b) (b2 : b ≤ B) : 0 ≤ a * b ∧ a * b ≤ A * B :=
  ⟨Int.mul_nonneg a1 b1, Int.mul_le_mul a2 b2 b1 (by omega)⟩

theorem density_any (p : Pl) (w : World) (hf : Fits p) :
    Calls Tryz.prog 26 #[.agg #[.string p.id, .int .i64 p.l, .int .i64 p.wd, .int .i64 p.t, .int .i64 p.m, .int .i64 p.r]] w
      fun e w' => e = .returned (.int .i64 (dens p)) ∧ Below w.heap.size w w' := by
  obtain ⟨l1, l2, w1, w2, t1, t2, m1, m2, r1, r2⟩ := hf
  have a := area_bd l1 l2 w1 w2
  have v := vol_bd l1 l2 w1 w2 t1 t2
  have hr := Lib.hid (show dens p = rnd (1000000 * p.m) (p.l * p.wd * p.t) from rfl)
  go_enter Tryz.func26, Tryz.ntmps26
  go_wp2_with (go_at_call 42; refine (divRound_any _ _ _ (by omega) (by omega) (by omega) (by omega) (by omega)).mono ?_; rintro e w' ⟨rfl, rfl⟩)
  go_ret
  exact ⟨ret_int hr.out.symm, (Below.refl _ _).alloc (Nat.le_refl _) _⟩

theorem rings_any (p : Pl) (w : World) (hf : Fits p) :
    Calls Tryz.prog 27 #[.agg #[.string p.id, .int .i64 p.l, .int .i64 p.wd, .int .i64 p.t, .int .i64 p.m, .int .i64 p.r]] w
      fun e w' => e = .returned (.int .i64 (ring p)) ∧ Below w.heap.size w w' := by
  obtain ⟨l1, l2, w1, w2, t1, t2, m1, m2, r1, r2⟩ := hf
  have hr := Lib.hid (show ring p = rnd (100 * p.wd) p.r from rfl)
  go_enter Tryz.func27, Tryz.ntmps27
  go_wp2_with (go_at_call 42; refine (divRound_any _ _ _ (by omega) (by omega) (by omega) (by omega) (by omega)).mono ?_; rintro e w' ⟨rfl, rfl⟩)
  go_ret
  exact ⟨ret_int hr.out.symm, (Below.refl _ _).alloc (Nat.le_refl _) _⟩

theorem wrap_i64 {x : Int} (h1 : -9223372036854775808 ≤ x) (h2 : x ≤ 9223372036854775807) : IntKind.i64.wrap x = x := by
  rw [IntKind.wrap_i64]; omega

theorem l03Density_any (p : Pl) (b o : Nat) (w : World) (ha : At w b o p) (hf : Fits p) :
    Calls Tryz.prog 38 #[.pointer (some ⟨b, o, none⟩)] w fun e w' => e = .returned (.int .i64 (dens p)) ∧ Below w.heap.size w w' := by
  obtain ⟨c0, c1, c2, c3, c4, c5, hs⟩ := ha
  obtain ⟨l1, l2, w1, w2, t1, t2, m1, m2, r1, r2⟩ := hf
  have a := area_bd l1 l2 w1 w2
  have v := vol_bd l1 l2 w1 w2 t1 t2
  have hr := Lib.hid (show dens p = rnd (p.m * 1000000) (p.l * p.wd * p.t) by rw [Int.mul_comm]; rfl)
  have v1 : (p.l * p.wd * p.t) ≠ 0 := by omega
  have e1 : IntKind.i64.wrap (p.m * 1000000) = p.m * 1000000 := wrap_i64 (by omega) (by omega)
  have e2 : IntKind.i64.wrap (p.l * p.wd) = p.l * p.wd := wrap_i64 (by omega) (by omega)
  have e3 : IntKind.i64.wrap (p.l * p.wd * p.t) = p.l * p.wd * p.t := wrap_i64 (by omega) (by omega)
  go_enter Tryz.func38, Tryz.ntmps38
  go_wp2_with fail
  go_quiet ((go_at_call 52; exact Calls.quiet_of_same (flip (div_any _ _ _ v1 (by omega) (by omega) (by omega) (by omega)))))
  clear e1 e2 e3 v1
  go_wp2
  go_ret
  exact ⟨ret_int hr.out.symm, below_drewN (Below.refl _ _) _⟩

theorem distance_any (a b : Int) (w : World) (a1 : -1000000000000 ≤ a) (a2 : a ≤ 1000000000000) (b1 : -1000000000000 ≤ b) (b2 : b ≤ 1000000000000) :
    Calls Tryz.prog 47 #[.int .i64 a, .int .i64 b] w fun e w' => e = .returned (.int .i64 (distI a b)) ∧ w = w' := by
  by_cases h : a < b
  · have hr := Lib.hid (show distI a b = b - a by rw [distI, if_pos h])
    go_enter Tryz.func47, Tryz.ntmps47
    go_wp2
    go_ret
    exact ⟨ret_int hr.out.symm, rfl⟩
  · have hr := Lib.hid (show distI a b = a - b by rw [distI, if_neg h])
    by_cases h2 : a = b
    · subst h2
      go_enter Tryz.func47, Tryz.ntmps47
      go_wp2
      go_ret
      exact ⟨ret_int (by rw [hr.out]; omega), rfl⟩
    · have h3 : b < a := by omega
      clear h2
      go_enter Tryz.func47, Tryz.ntmps47
      go_wp2
      go_ret
      exact ⟨ret_int hr.out.symm, rfl⟩

theorem l03Abs_any (a b : Int) (w : World) (a1 : -1000000000000 ≤ a) (a2 : a ≤ 1000000000000) (b1 : -1000000000000 ≤ b) (b2 : b ≤ 1000000000000) :
    Calls Tryz.prog 51 #[.int .i64 a, .int .i64 b] w fun e w' => e = .returned (.int .i64 (distI a b)) ∧ w = w' := by
  by_cases h : b - a < a - b
  · have hr := Lib.hid (show distI a b = a - b by rw [distI, if_neg (by omega)])
    go_enter Tryz.func51, Tryz.ntmps51
    go_wp2
    go_ret
    exact ⟨ret_int hr.out.symm, rfl⟩
  · have hr := Lib.hid (show distI a b = b - a by unfold distI; split <;> omega)
    go_enter Tryz.func51, Tryz.ntmps51
    go_wp2
    go_ret
    exact ⟨ret_int hr.out.symm, rfl⟩

/-- two boxes, just laid -/
theorem two_new (p q : Pl) (w : World) (T : TypeId) (hp : p.id.size ≤ maxLen) (hq : q.id.size ≤ maxLen) :
    At ((w.alloc (.cells #[.string p.id, .int .i64 p.l, .int .i64 p.wd, .int .i64 p.t, .int .i64 p.m, .int .i64 p.r] T)).alloc (.cells #[.string q.id, .int .i64 q.l, .int .i64 q.wd, .int .i64 q.t, .int .i64 q.m, .int .i64 q.r] T)) w.heap.size 0 p ∧
    At ((w.alloc (.cells #[.string p.id, .int .i64 p.l, .int .i64 p.wd, .int .i64 p.t, .int .i64 p.m, .int .i64 p.r] T)).alloc (.cells #[.string q.id, .int .i64 q.l, .int .i64 q.wd, .int .i64 q.t, .int .i64 q.m, .int .i64 q.r] T)) (w.heap.size + 1) 0 q := by
  constructor
  · exact (at_new p w T hp).below ((Below.refl _ _).alloc (Nat.le_refl _) _) (by simp)
  · have := at_new q (w.alloc (.cells #[.string p.id, .int .i64 p.l, .int .i64 p.wd, .int .i64 p.t, .int .i64 p.m, .int .i64 p.r] T)) T hq
    rw [World.size_alloc] at this
    exact this

/-- the cells of a box, in every world of a region's class -/
theorem At.rg {w : World} {b : Nat} {p : Pl} (h : At w b 0 p) : (∀ d os, (grow (redrawn w d) os).cell? ⟨b, 0, none⟩ = some (.string p.id)) ∧ (∀ d os, (grow (redrawn w d) os).cell? ⟨b, 1, none⟩ = some (.int .i64 p.l)) ∧
    (∀ d os, (grow (redrawn w d) os).cell? ⟨b, 2, none⟩ = some (.int .i64 p.wd)) ∧ (∀ d os, (grow (redrawn w d) os).cell? ⟨b, 3, none⟩ = some (.int .i64 p.t)) ∧
    (∀ d os, (grow (redrawn w d) os).cell? ⟨b, 4, none⟩ = some (.int .i64 p.m)) ∧ (∀ d os, (grow (redrawn w d) os).cell? ⟨b, 5, none⟩ = some (.int .i64 p.r)) :=
  ⟨cell_regrown h.c0, cell_regrown (by simpa using h.c1), cell_regrown (by simpa using h.c2), cell_regrown (by simpa using h.c3), cell_regrown (by simpa using h.c4), cell_regrown (by simpa using h.c5)⟩

set_option maxHeartbeats 1000000 in
theorem gap_any (p q : Pl) (w : World) (hp : p.id.size ≤ maxLen) (hq : q.id.size ≤ maxLen) (fp : Fits p) (fq : Fits q) :
    Calls Tryz.prog 31 #[.agg #[.string p.id, .int .i64 p.l, .int .i64 p.wd, .int .i64 p.t, .int .i64 p.m, .int .i64 p.r], .agg #[.string q.id, .int .i64 q.l, .int .i64 q.wd, .int .i64 q.t, .int .i64 q.m, .int .i64 q.r]] w
      fun e w' => e = .returned (.int .i64 (gapI p q)) ∧ Below w.heap.size w w' := by
  obtain ⟨A1, A2⟩ := two_new p q w 27 hp hq
  obtain ⟨k0, k1, k2, k3, k4, k5⟩ := A1.rg
  obtain ⟨j0, j1, j2, j3, j4, j5⟩ := A2.rg
  clear A1 A2
  have d1 := dens_bd fp
  have d2 := dens_bd fq
  have d3 := ring_bd fp
  have d4 := ring_bd fq
  have x1 := distI_bd (a := dens p) (b := dens q) (m := 100000000001) (by omega) (by omega) (by omega) (by omega)
  have x2 := distI_bd (a := ring p) (b := ring q) (m := 200001) (by omega) (by omega) (by omega) (by omega)
  have e1 : IntKind.i64.wrap (distI (dens p) (dens q) + distI (ring p) (ring q)) = distI (dens p) (dens q) + distI (ring p) (ring q) := wrap_i64 (by omega) (by omega)
  have hr := Lib.hid (show gapI p q = distI (dens p) (dens q) + distI (ring p) (ring q) from rfl)
  go_enter Tryz.func31, Tryz.ntmps31
  go_wp2_with fail
  refine wp_region_quiet_below (by kernel_rfl) (by kernel_rfl) ?_
  repeat (quiet_step (first | (go_at_call_of 26 (Pl.l p); exact Calls.regrown_of (density_any p _ fp)) | (go_at_call 26; exact Calls.regrown_of (density_any q _ fq)) | (go_at_call_of 27 (Pl.l p); exact Calls.regrown_of (rings_any p _ fp)) | (go_at_call 27; exact Calls.regrown_of (rings_any q _ fq)) | (go_at_call 47; exact rg_same (distance_any _ _ _ (by omega) (by omega) (by omega) (by omega)))))
  refine wpQuiet_nil ?_
  intro _ hw'
  obtain ⟨⟨dq, osq⟩, hw''⟩ := hw'
  subst hw''
  clear k0 k1 k2 k3 k4 k5 j0 j1 j2 j3 j4 j5 e1
  go_wp2
  go_ret
  refine ⟨ret_int hr.out.symm, ?_⟩
  have hb := below_regrown ((w.alloc (.cells #[.string p.id, .int .i64 p.l, .int .i64 p.wd, .int .i64 p.t, .int .i64 p.m, .int .i64 p.r] 27)).alloc (.cells #[.string q.id, .int .i64 q.l, .int .i64 q.wd, .int .i64 q.t, .int .i64 q.m, .int .i64 q.r] 27)) dq osq
  exact (((Below.refl _ _).alloc (Nat.le_refl _) _).alloc (by simp) _).trans (hb.mono (by simp; omega))
end Go.Proofs.YtfmbmgdemdbpaaaGreatDoor
