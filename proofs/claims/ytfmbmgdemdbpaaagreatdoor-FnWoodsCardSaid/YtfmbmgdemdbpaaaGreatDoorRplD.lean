/- A plank's text, read back: the program's reader where the list is good. -/
import Derived.Test.YtfmbmgdemdbpaaaGreatDoorRplC
import Derived.Deep.RegionHeld3
namespace Go.Proofs.YtfmbmgdemdbpaaaGreatDoor
open Go.RowKit Go.Sort
set_option linter.unusedVariables false

theorem five {xs : List Int} (h : xs.length = 5) : iv xs = [.int .i64 (xs.getD 0 0), .int .i64 (xs.getD 1 0), .int .i64 (xs.getD 2 0), .int .i64 (xs.getD 3 0), .int .i64 (xs.getD 4 0)] := by
  match xs, h with
  | [a, b, c, d, e], _ => rfl

set_option maxRecDepth 100000 in
set_option maxHeartbeats 3200000 in
theorem implRplank_yes (s : ByteArray) (w : World) (hs : s.size ≤ 1048576) (tab : PowTab w) (er : ErrVars w) (mx : MaxL w) (a b : List UInt8) (f : Bool) (hc : Lib.cut s.data.toList [32] = (a, b, f)) (hbl : b.length ≤ 1048576) (hal : a.length ≤ 1048576)
    (hyes : (f && (goodL b && decide ((ys b).length = 5))) = true) :
    Calls Tryz.prog 9 #[.string s] w fun e w' => e = .returned (.tuple #[agg6 (if validB (plOf a (ys b)) then plOf a (ys b) else plNo), .bool (validB (plOf a (ys b)))]) ∧ Below w.heap.size w w' := by
  have F := Lib.hid (fun W (hB : Below w.heap.size w W) => readNamed_any s W hs (tab_below tab hB) (err_below er hB) (maxl_below mx hB) a b f hc hbl)
  clear tab er mx hc
  obtain ⟨R, hR⟩ : ∃ R, (if validB (plOf a (ys b)) = true then plOf a (ys b) else plNo) = R := ⟨_, rfl⟩
  obtain ⟨vx, hvx⟩ : ∃ vx, validB (plOf a (ys b)) = vx := ⟨_, rfl⟩
  rw [hR, hvx]
  have HX := Lib.hid (And.intro hR hvx)
  clear hR hvx
  go_enter Tryz.func9, Tryz.ntmps9
  go_wp2_with fail
  have bl := Blk.new w 27 #[.string ⟨#[]⟩, .int .i64 0, .int .i64 0, .int .i64 0, .int .i64 0, .int .i64 0]
  refine (F.out _ ((Below.refl w.heap.size w).alloc (Nat.le_refl _) _)).mono ?_
  rintro e w2 ⟨A, c, rfl, o2, b2⟩
  have bl2 := Lib.hid (bl.below b2 bl.lt)
  have B2 := Lib.hid (((Below.refl w.heap.size w).alloc (Nat.le_refl _) _).trans (b2.mono (by simp)))
  rw [hyes]
  have h5 : (ys b).length = 5 := by
    simp only [Bool.and_eq_true, decide_eq_true_eq] at hyes
    exact hyes.2.2
  obtain ⟨g, c2, hv, hbg, hgl⟩ := o2.form (by omega)
  rw [h5] at hv o2 ⊢
  obtain ⟨rfl, rfl⟩ : A = some ⟨g, 0, none⟩ ∧ c = c2 := by simpa using hv
  rw [five h5] at o2
  have r0 : w2.cell? ⟨g, 0, none⟩ = some (.int .i64 ((ys b).getD 0 0)) := o2.cellAt 0 (by omega)
  have r1 : w2.cell? ⟨g, 1, none⟩ = some (.int .i64 ((ys b).getD 1 0)) := o2.cellAt 1 (by omega)
  have r2 : w2.cell? ⟨g, 2, none⟩ = some (.int .i64 ((ys b).getD 2 0)) := o2.cellAt 2 (by omega)
  have r3 : w2.cell? ⟨g, 3, none⟩ = some (.int .i64 ((ys b).getD 3 0)) := o2.cellAt 3 (by omega)
  have r4 : w2.cell? ⟨g, 4, none⟩ = some (.int .i64 ((ys b).getD 4 0)) := o2.cellAt 4 (by omega)
  obtain ⟨x0, hx0⟩ : ∃ x0, (ys b).getD 0 0 = x0 := ⟨_, rfl⟩
  obtain ⟨x1, hx1⟩ : ∃ x1, (ys b).getD 1 0 = x1 := ⟨_, rfl⟩
  obtain ⟨x2, hx2⟩ : ∃ x2, (ys b).getD 2 0 = x2 := ⟨_, rfl⟩
  obtain ⟨x3, hx3⟩ : ∃ x3, (ys b).getD 3 0 = x3 := ⟨_, rfl⟩
  obtain ⟨x4, hx4⟩ : ∃ x4, (ys b).getD 4 0 = x4 := ⟨_, rfl⟩
  rw [hx0] at r0
  rw [hx1] at r1
  rw [hx2] at r2
  rw [hx3] at r3
  rw [hx4] at r4
  have HP := Lib.hid (show plOf a (ys b) = ⟨⟨a.toArray⟩, x0, x1, x2, x3, x4⟩ by rw [plOf, hx0, hx1, hx2, hx3, hx4])
  clear o2 b2 bl hv hx0 hx1 hx2 hx3 hx4
  go_wp2_with fail
  go_region_held3 (fun W => W.cell? ⟨g, 0, none⟩ = some (.int .i64 x0) ∧ W.cell? ⟨g, 1, none⟩ = some (.int .i64 x1) ∧ W.cell? ⟨g, 2, none⟩ = some (.int .i64 x2) ∧ W.cell? ⟨g, 3, none⟩ = some (.int .i64 x3) ∧ W.cell? ⟨g, 4, none⟩ = some (.int .i64 x4)) (go_keep) (first | fail)
  all_goals
    obtain ⟨w3, hw3⟩ : ∃ w3, (w2.alloc (.cells #[.string ⟨a.toArray⟩, .int .i64 x0, .int .i64 x1, .int .i64 x2, .int .i64 x3, .int .i64 x4] 27)).drew = w3 := ⟨_, rfl⟩
    have pb := Lib.hid (show Blk w3 w2.heap.size 27 #[.string ⟨a.toArray⟩, .int .i64 x0, .int .i64 x1, .int .i64 x2, .int .i64 x3, .int .i64 x4] by rw [← hw3]; exact (Blk.new w2 _ _).drew)
    have rb := Lib.hid (show Blk w3 w.heap.size 27 _ by rw [← hw3]; exact (bl2.out.alloc _).drew)
    have B3 := Lib.hid (show Below w.heap.size w w3 by rw [← hw3]; exact (B2.out.trans ((below_lit w2 _).mono B2.out.size)))
    have V := (fun W => ValidPlank_any ⟨⟨a.toArray⟩, x0, x1, x2, x3, x4⟩ W (by show a.length ≤ maxLen; unfold maxLen; omega))
    rw [hw3]
    obtain ⟨g2, hg2⟩ : ∃ g2, w2.heap.size = g2 := ⟨_, rfl⟩
    rw [hg2] at pb ⊢
    clear r0 r1 r2 r3 r4 hw3 hg2 bl2 B2
    have p0 := pb.out.cell 0
    have p1 := pb.out.cell 1
    have p2 := pb.out.cell 2
    have p3 := pb.out.cell 3
    have p4 := pb.out.cell 4
    have p5 := pb.out.cell 5
    simp at p0 p1 p2 p3 p4 p5
    obtain ⟨vb, hvb⟩ : ∃ vb, validB ⟨⟨a.toArray⟩, x0, x1, x2, x3, x4⟩ = vb := ⟨_, rfl⟩
    rw [hvb] at V
    have V := Lib.hid V
    have HV := Lib.hid hvb
    clear hvb
    go_wp2_with fail
    refine (V.out _).mono ?_
    rintro e w4 ⟨rfl, b4⟩
    have rb4 := Lib.hid (rb.out.below b4 rb.out.lt)
    have pb4 := Lib.hid (pb.out.below b4 pb.out.lt)
    have B4 := Lib.hid (B3.out.trans (b4.mono B3.out.size))
    clear b4 p0 p1 p2 p3 p4 p5
    have p0 := pb4.out.cell 0
    have p1 := pb4.out.cell 1
    have p2 := pb4.out.cell 2
    have p3 := pb4.out.cell 3
    have p4 := pb4.out.cell 4
    have p5 := pb4.out.cell 5
    have k0 := rb4.out.cell 0
    have k1 := rb4.out.cell 1
    have k2 := rb4.out.cell 2
    have k3 := rb4.out.cell 3
    have k4 := rb4.out.cell 4
    have k5 := rb4.out.cell 5
    simp at p0 p1 p2 p3 p4 p5 k0 k1 k2 k3 k4 k5
    have z0 := rb4.out.frozen 0
    have z1 := rb4.out.frozen 1
    have z2 := rb4.out.frozen 2
    have z3 := rb4.out.frozen 3
    have z4 := rb4.out.frozen 4
    have z5 := rb4.out.frozen 5
    cases vb
    · go_wp2
      have FB := ((((((rb4.out.set_ 0 (.string ⟨#[]⟩)).set_ 1 (.int .i64 0)).set_ 2 (.int .i64 0)).set_ 3 (.int .i64 0)).set_ 4 (.int .i64 0)).set_ 5 (.int .i64 0))
      have BW := ((((((B4.out.setCell (p := ⟨w.heap.size, 0, none⟩) (by simp) (.string ⟨#[]⟩)).setCell (p := ⟨w.heap.size, 1, none⟩) (by simp) (.int .i64 0)).setCell (p := ⟨w.heap.size, 2, none⟩) (by simp) (.int .i64 0)).setCell (p := ⟨w.heap.size, 3, none⟩) (by simp) (.int .i64 0)).setCell (p := ⟨w.heap.size, 4, none⟩) (by simp) (.int .i64 0)).setCell (p := ⟨w.heap.size, 5, none⟩) (by simp) (.int .i64 0))
      clear k0 k1 k2 k3 k4 k5 z0 z1 z2 z3 z4 z5 p0 p1 p2 p3 p4 p5
      revert FB BW
      generalize (World.setCell (World.setCell (World.setCell (World.setCell (World.setCell (World.setCell w4 ⟨w.heap.size, 0, none⟩ (.string ⟨#[]⟩)) ⟨w.heap.size, 1, none⟩ (.int .i64 0)) ⟨w.heap.size, 2, none⟩ (.int .i64 0)) ⟨w.heap.size, 3, none⟩ (.int .i64 0)) ⟨w.heap.size, 4, none⟩ (.int .i64 0)) ⟨w.heap.size, 5, none⟩ (.int .i64 0)) = W9
      intro FB BW
      have k0 : W9.cell? ⟨w.heap.size, 0, none⟩ = some (.string ⟨#[]⟩) := FB.cell 0
      have k1 : W9.cell? ⟨w.heap.size, 1, none⟩ = some (.int .i64 0) := FB.cell 1
      have k2 : W9.cell? ⟨w.heap.size, 2, none⟩ = some (.int .i64 0) := FB.cell 2
      have k3 : W9.cell? ⟨w.heap.size, 3, none⟩ = some (.int .i64 0) := FB.cell 3
      have k4 : W9.cell? ⟨w.heap.size, 4, none⟩ = some (.int .i64 0) := FB.cell 4
      have k5 : W9.cell? ⟨w.heap.size, 5, none⟩ = some (.int .i64 0) := FB.cell 5
      refine bodyPost_ret (v := .tuple #[agg6 plNo, .bool false]) (by simp [results, Tryz.results9, go_sem, agg6, plNo, k0, k1, k2, k3, k4, k5]) rfl ?_
      obtain ⟨hR, hvx⟩ := HX.out
      rw [HP.out, HV.out] at hR
      rw [HP.out, HV.out] at hvx
      exact ⟨by rw [← hR, ← hvx]; rfl, BW⟩
    · go_wp2
      have FB := ((((((rb4.out.set_ 0 (.string ⟨a.toArray⟩)).set_ 1 (.int .i64 x0)).set_ 2 (.int .i64 x1)).set_ 3 (.int .i64 x2)).set_ 4 (.int .i64 x3)).set_ 5 (.int .i64 x4))
      have BW := ((((((B4.out.setCell (p := ⟨w.heap.size, 0, none⟩) (by simp) (.string ⟨a.toArray⟩)).setCell (p := ⟨w.heap.size, 1, none⟩) (by simp) (.int .i64 x0)).setCell (p := ⟨w.heap.size, 2, none⟩) (by simp) (.int .i64 x1)).setCell (p := ⟨w.heap.size, 3, none⟩) (by simp) (.int .i64 x2)).setCell (p := ⟨w.heap.size, 4, none⟩) (by simp) (.int .i64 x3)).setCell (p := ⟨w.heap.size, 5, none⟩) (by simp) (.int .i64 x4))
      clear k0 k1 k2 k3 k4 k5 z0 z1 z2 z3 z4 z5 p0 p1 p2 p3 p4 p5
      revert FB BW
      generalize (World.setCell (World.setCell (World.setCell (World.setCell (World.setCell (World.setCell w4 ⟨w.heap.size, 0, none⟩ (.string ⟨a.toArray⟩)) ⟨w.heap.size, 1, none⟩ (.int .i64 x0)) ⟨w.heap.size, 2, none⟩ (.int .i64 x1)) ⟨w.heap.size, 3, none⟩ (.int .i64 x2)) ⟨w.heap.size, 4, none⟩ (.int .i64 x3)) ⟨w.heap.size, 5, none⟩ (.int .i64 x4)) = W9
      intro FB BW
      have k0 : W9.cell? ⟨w.heap.size, 0, none⟩ = some (.string ⟨a.toArray⟩) := FB.cell 0
      have k1 : W9.cell? ⟨w.heap.size, 1, none⟩ = some (.int .i64 x0) := FB.cell 1
      have k2 : W9.cell? ⟨w.heap.size, 2, none⟩ = some (.int .i64 x1) := FB.cell 2
      have k3 : W9.cell? ⟨w.heap.size, 3, none⟩ = some (.int .i64 x2) := FB.cell 3
      have k4 : W9.cell? ⟨w.heap.size, 4, none⟩ = some (.int .i64 x3) := FB.cell 4
      have k5 : W9.cell? ⟨w.heap.size, 5, none⟩ = some (.int .i64 x4) := FB.cell 5
      refine bodyPost_ret (v := .tuple #[agg6 ⟨⟨a.toArray⟩, x0, x1, x2, x3, x4⟩, .bool true]) (by simp [results, Tryz.results9, go_sem, agg6, k0, k1, k2, k3, k4, k5]) rfl ?_
      obtain ⟨hR, hvx⟩ := HX.out
      rw [HP.out, HV.out] at hR
      rw [HP.out, HV.out] at hvx
      exact ⟨by rw [← hR, ← hvx]; rfl, BW⟩
end Go.Proofs.YtfmbmgdemdbpaaaGreatDoor
