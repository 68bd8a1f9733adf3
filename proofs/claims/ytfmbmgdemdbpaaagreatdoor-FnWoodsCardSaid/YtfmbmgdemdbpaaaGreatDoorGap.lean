/- The reference's gap of two planks. -/
import Derived.Test.YtfmbmgdemdbpaaaGreatDoorPlankB
namespace Go.Proofs.YtfmbmgdemdbpaaaGreatDoor
open Go.RowKit Go.Sort

theorem At.lt {w : World} {b o : Nat} {p : Pl} (h : At w b o p) : b < w.heap.size := by
  have := block_lt_of_cell h.c0
  exact this

theorem At.rgo {w : World} {b o : Nat} {p : Pl} (h : At w b o p) : (∀ d os, (grow (redrawn w d) os).cell? ⟨b, o + 2, none⟩ = some (.int .i64 p.wd)) ∧ (∀ d os, (grow (redrawn w d) os).cell? ⟨b, o + 5, none⟩ = some (.int .i64 p.r)) :=
  ⟨cell_regrown h.c2, cell_regrown h.c5⟩

set_option maxHeartbeats 1000000 in
theorem l03Gap_any (p q : Pl) (b o b2 o2 : Nat) (w : World) (A1 : At w b o p) (A2 : At w b2 o2 q) (fp : Fits p) (fq : Fits q) :
    Calls Tryz.prog 33 #[.pointer (some ⟨b, o, none⟩), .pointer (some ⟨b2, o2, none⟩)] w fun e w' => e = .returned (.int .i64 (gapI p q)) ∧ Below w.heap.size w w' := by
  obtain ⟨k2, k5⟩ := A1.rgo
  obtain ⟨j2, j5⟩ := A2.rgo
  have r1 : ∀ d os, At (grow (redrawn w d) os) b o p := fun d os => A1.below (below_regrown w d os) A1.lt
  have r2 : ∀ d os, At (grow (redrawn w d) os) b2 o2 q := fun d os => A2.below (below_regrown w d os) A2.lt
  have R1 := Lib.hid r1
  have R2 := Lib.hid r2
  clear r1 r2 A1 A2
  have d1 := dens_bd fp
  have d2 := dens_bd fq
  have d3 := ring_bd fp
  have d4 := ring_bd fq
  have x1 := distI_bd (a := dens p) (b := dens q) (m := 100000000001) (by omega) (by omega) (by omega) (by omega)
  have x2 := distI_bd (a := ring p) (b := ring q) (m := 200001) (by omega) (by omega) (by omega) (by omega)
  have p1 := fp.w1
  have p2 := fp.w2
  have p3 := fp.r1
  have p4 := fp.r2
  have q1 := fq.w1
  have q2 := fq.w2
  have q3 := fq.r1
  have q4 := fq.r2
  have v1 : p.r ≠ 0 := by omega
  have v2 : q.r ≠ 0 := by omega
  have e1 : IntKind.i64.wrap (distI (dens p) (dens q) + distI (ring p) (ring q)) = distI (dens p) (dens q) + distI (ring p) (ring q) := wrap_i64 (by omega) (by omega)
  have e2 : IntKind.i64.wrap (100 * p.wd) = 100 * p.wd := wrap_i64 (by omega) (by omega)
  have e3 : IntKind.i64.wrap (100 * q.wd) = 100 * q.wd := wrap_i64 (by omega) (by omega)
  have hr := Lib.hid (show gapI p q = distI (dens p) (dens q) + distI (ring p) (ring q) from rfl)
  have ring1 := fun W => (show Calls Tryz.prog 52 #[.int .i64 (100 * p.wd), .int .i64 p.r] W fun e w' => e = .returned (.int .i64 (ring p)) ∧ W = w' from div_any _ _ _ v1 (by omega) (by omega) (by omega) (by omega))
  have ring2 := fun W => (show Calls Tryz.prog 52 #[.int .i64 (100 * q.wd), .int .i64 q.r] W fun e w' => e = .returned (.int .i64 (ring q)) ∧ W = w' from div_any _ _ _ v2 (by omega) (by omega) (by omega) (by omega))
  have RG1 := Lib.hid ring1
  have RG2 := Lib.hid ring2
  clear ring1 ring2
  go_enter Tryz.func33, Tryz.ntmps33
  go_wp2_with fail
  refine wp_region_quiet_below (by kernel_rfl) (by kernel_rfl) ?_
  repeat (quiet_step (first | (go_at_call_of 38 b2; exact Calls.regrown_of (l03Density_any q _ _ _ (R2.out _ _) fq)) | (go_at_call 38; exact Calls.regrown_of (l03Density_any p _ _ _ (R1.out _ _) fp)) | (go_at_call_of 52 (Pl.r q); exact rg_same (RG2.out _)) | (go_at_call 52; exact rg_same (RG1.out _)) | (go_at_call 51; exact rg_same (l03Abs_any _ _ _ (by omega) (by omega) (by omega) (by omega)))))
  refine wpQuiet_nil ?_
  intro _ hw'
  obtain ⟨⟨dq, osq⟩, hw''⟩ := hw'
  subst hw''
  clear k2 k5 j2 j5 e1 e2 e3 v1 v2
  go_wp2
  go_ret
  exact ⟨ret_int hr.out.symm, below_regrown w dq osq⟩
end Go.Proofs.YtfmbmgdemdbpaaaGreatDoor
