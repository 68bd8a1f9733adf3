/- The laws' planks: a single one. -/
import Derived.Test.YtfmbmgdemdbpaaaGreatDoorDrawL
namespace Go.Proofs.YtfmbmgdemdbpaaaGreatDoor
open Go.RowKit Go.Sort
set_option linter.unusedVariables false

set_option maxRecDepth 100000 in
set_option maxHeartbeats 1600000 in
theorem plank_any (A : Option Addr) (n c : Nat) (w : World) (zs : List Int) (hx : Reads w w.heap.size 1 A n (u8v zs)) (hz : ∀ z ∈ zs, 0 ≤ z ∧ z ≤ 255) (hn : n ≤ 1048576) :
    Calls Tryz.prog 6 #[.slice A n c] w fun e w' => ∃ p, e = .returned (agg6' p) ∧ Drawn p ⟨#[112, 122]⟩ ∧ Below w.heap.size w w' := by
  have F := Lib.hid (fun W => fromQ_any A n c W)
  have G := Lib.hid (fun W g (hB : Below w.heap.size w W) hs (hg : w.heap.size ≤ g) (hw : w.heap.size ≤ W.heap.size) => drawOne_any A n c w.heap.size g zs 0 ⟨#[112, 122]⟩ W (hx.below hB) hz hg hw hs (by omega) hn)
  clear hx hz
  go_enter Tryz.func6, Tryz.ntmps6
  go_wp2_with fail
  have r1 := Blk.new w 27 #[.string ⟨#[]⟩, .int .i64 0, .int .i64 0, .int .i64 0, .int .i64 0, .int .i64 0]
  have B1 := (Below.refl w.heap.size w).alloc (Nat.le_refl _) (.cells #[.string ⟨#[]⟩, .int .i64 0, .int .i64 0, .int .i64 0, .int .i64 0, .int .i64 0] 27)
  have z1 : (w.alloc (.cells #[.string ⟨#[]⟩, .int .i64 0, .int .i64 0, .int .i64 0, .int .i64 0, .int .i64 0] 27)).heap.size = w.heap.size + 1 := by simp
  revert r1 B1 z1
  generalize (w.alloc (.cells #[.string ⟨#[]⟩, .int .i64 0, .int .i64 0, .int .i64 0, .int .i64 0, .int .i64 0] 27)) = w1
  intro r1 B1 z1
  refine (F.out w1).mono ?_
  rintro e w2 ⟨rfl, s2, b2, z2⟩
  have r2 := Lib.hid (r1.below b2 (by omega))
  have B2 := Lib.hid (B1.trans (b2.mono (by omega)))
  rw [z1] at s2
  have S2 := Lib.hid s2
  clear r1 B1 s2 b2
  go_wp2_with fail
  refine (G.out w2 (w.heap.size + 1) B2.out S2.out (by omega) (by omega)).mono ?_
  rintro e w3 ⟨⟨pid, pl, pwd, pt, pm, pr⟩, rfl, dr, s3, o3⟩
  have r3 := o3.blk r2.out (by omega)
  have B3 := Lib.hid (B2.out.trans (o3.below (by omega) (by omega)))
  have DR := Lib.hid dr
  clear s3 o3 dr
  unfold agg6'
  have k0 : w3.cell? ⟨w.heap.size, 0, none⟩ = some (.string ⟨#[]⟩) := r3.cell 0
  have k1 : w3.cell? ⟨w.heap.size, 1, none⟩ = some (.int .i64 0) := r3.cell 1
  have k2 : w3.cell? ⟨w.heap.size, 2, none⟩ = some (.int .i64 0) := r3.cell 2
  have k3 : w3.cell? ⟨w.heap.size, 3, none⟩ = some (.int .i64 0) := r3.cell 3
  have k4 : w3.cell? ⟨w.heap.size, 4, none⟩ = some (.int .i64 0) := r3.cell 4
  have k5 : w3.cell? ⟨w.heap.size, 5, none⟩ = some (.int .i64 0) := r3.cell 5
  have z0f := r3.frozen 0
  have z1f := r3.frozen 1
  have z2f := r3.frozen 2
  have z3f := r3.frozen 3
  have z4f := r3.frozen 4
  have z5f := r3.frozen 5
  have r3 := Lib.hid r3
  go_wp2
  have FB := ((((((r3.out.set_ 0 (.string pid)).set_ 1 (.int .i64 pl)).set_ 2 (.int .i64 pwd)).set_ 3 (.int .i64 pt)).set_ 4 (.int .i64 pm)).set_ 5 (.int .i64 pr))
  have BW := ((((((B3.out.setCell (p := ⟨w.heap.size, 0, none⟩) (by simp) (.string pid)).setCell (p := ⟨w.heap.size, 1, none⟩) (by simp) (.int .i64 pl)).setCell (p := ⟨w.heap.size, 2, none⟩) (by simp) (.int .i64 pwd)).setCell (p := ⟨w.heap.size, 3, none⟩) (by simp) (.int .i64 pt)).setCell (p := ⟨w.heap.size, 4, none⟩) (by simp) (.int .i64 pm)).setCell (p := ⟨w.heap.size, 5, none⟩) (by simp) (.int .i64 pr))
  clear k0 k1 k2 k3 k4 k5 z0f z1f z2f z3f z4f z5f
  revert FB BW
  generalize (World.setCell (World.setCell (World.setCell (World.setCell (World.setCell (World.setCell w3 ⟨w.heap.size, 0, none⟩ (.string pid)) ⟨w.heap.size, 1, none⟩ (.int .i64 pl)) ⟨w.heap.size, 2, none⟩ (.int .i64 pwd)) ⟨w.heap.size, 3, none⟩ (.int .i64 pt)) ⟨w.heap.size, 4, none⟩ (.int .i64 pm)) ⟨w.heap.size, 5, none⟩ (.int .i64 pr)) = W9
  intro FB BW
  have k0 : W9.cell? ⟨w.heap.size, 0, none⟩ = some (.string pid) := FB.cell 0
  have k1 : W9.cell? ⟨w.heap.size, 1, none⟩ = some (.int .i64 pl) := FB.cell 1
  have k2 : W9.cell? ⟨w.heap.size, 2, none⟩ = some (.int .i64 pwd) := FB.cell 2
  have k3 : W9.cell? ⟨w.heap.size, 3, none⟩ = some (.int .i64 pt) := FB.cell 3
  have k4 : W9.cell? ⟨w.heap.size, 4, none⟩ = some (.int .i64 pm) := FB.cell 4
  have k5 : W9.cell? ⟨w.heap.size, 5, none⟩ = some (.int .i64 pr) := FB.cell 5
  refine bodyPost_ret (v := agg6' ⟨pid, pl, pwd, pt, pm, pr⟩) (by simp [results, Tryz.results6, go_sem, agg6', k0, k1, k2, k3, k4, k5]) rfl ?_
  exact ⟨_, rfl, DR.out, BW⟩
end Go.Proofs.YtfmbmgdemdbpaaaGreatDoor
