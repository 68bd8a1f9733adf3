/- A plank's text, read back: the reference's reader. -/
import Derived.Test.YtcmnmmgmhnhkhaaDoorRplD
namespace Go.Proofs.YtcmnmmgmhnhkhaaDoor
open Go.RowKit Go.Sort
set_option linter.unusedVariables false

def RpIs (l : List UInt8) (p : Pl) (f : Bool) : Prop :=
  (f = true ∧ ∃ a b, spl 32 l = [a, b] ∧ goodL b = true ∧ (ys b).length = 5 ∧ validB (plOf a (ys b)) = true ∧ p = plOf a (ys b)) ∨
  (f = false ∧ p = plNo ∧ ¬ ∃ a b, spl 32 l = [a, b] ∧ goodL b = true ∧ (ys b).length = 5 ∧ validB (plOf a (ys b)) = true)
theorem rp_one {l : List UInt8} {p q : Pl} {f g : Bool} (h : RpIs l p f) (k : RpIs l q g) : p = q ∧ f = g := by
  rcases h with ⟨rfl, a, b, e, h1, h2, h3, rfl⟩ | ⟨rfl, rfl, hn⟩
  · rcases k with ⟨rfl, a', b', e', _, _, _, rfl⟩ | ⟨_, _, hn⟩
    · rw [e] at e'
      simp only [List.cons.injEq, and_true] at e'
      obtain ⟨rfl, rfl⟩ := e'
      exact ⟨rfl, rfl⟩
    · exact absurd ⟨a, b, e, h1, h2, h3⟩ hn
  · rcases k with ⟨rfl, a', b', e', h1, h2, h3, _⟩ | ⟨rfl, rfl, _⟩
    · exact absurd ⟨a', b', e', h1, h2, h3⟩ hn
    · exact ⟨rfl, rfl⟩

set_option maxRecDepth 100000 in
set_option maxHeartbeats 3200000 in
theorem specRplank_any (s : ByteArray) (w : World) (hs : s.size ≤ 1048576) :
    Calls Tryd.prog 11 #[.string s] w fun e w' => ∃ p f, RpIs s.data.toList p f ∧ e = .returned (.tuple #[agg6 p, .bool f]) ∧ Below w.heap.size w w' := by
  have F := (fun W => l01Split_any s 32 W hs)
  have SM : ∀ p ∈ spl 32 s.data.toList, p.length ≤ 1048576 := fun p hp => by have := piece_short p hp; rw [len_data] at this; omega
  obtain ⟨ps, hps⟩ : ∃ ps, spl 32 s.data.toList = ps := ⟨_, rfl⟩
  rw [show (((32 : UInt8).toNat : Nat) : Int) = 32 from rfl, hps] at F
  rw [hps] at SM
  have RI : ∀ p f, ((f = true ∧ ∃ a b, ps = [a, b] ∧ goodL b = true ∧ (ys b).length = 5 ∧ validB (plOf a (ys b)) = true ∧ p = plOf a (ys b)) ∨
    (f = false ∧ p = plNo ∧ ¬ ∃ a b, ps = [a, b] ∧ goodL b = true ∧ (ys b).length = 5 ∧ validB (plOf a (ys b)) = true)) → RpIs s.data.toList p f := by
    intro p f h
    rw [← hps] at h
    exact h
  have F := Lib.hid F
  have RI := Lib.hid RI
  clear hps
  by_cases h2 : ps.length = 2
  · obtain ⟨a, b, rfl⟩ : ∃ a b, ps = [a, b] := by
      rcases ps with _ | ⟨a, _ | ⟨b, _ | ⟨c, r⟩⟩⟩
      · simp at h2
      · simp at h2
      · exact ⟨a, b, rfl⟩
      · simp at h2
    have F := F.out
    rw [show [a, b].length = 2 from rfl] at F
    rw [show tv [a, b] = [.string ⟨a.toArray⟩, .string ⟨b.toArray⟩] from rfl] at F
    have F := Lib.hid F
    have m0 := SM a (by simp)
    have m1 := SM b (by simp)
    have G := Lib.hid (fun W => specRlist_any ⟨b.toArray⟩ W (by show b.length ≤ _; exact m1))
    clear SM h2
    by_cases hgd : goodL b = true ∧ (ys b).length = 5
    · obtain ⟨hg, h5⟩ := hgd
      go_enter Tryd.func11, Tryd.ntmps11
      go_wp2_with fail
      have bl := Blk.new w 28 #[.string ⟨#[]⟩, .int .i64 0, .int .i64 0, .int .i64 0, .int .i64 0, .int .i64 0]
      have B0 := (Below.refl w.heap.size w).alloc (Nat.le_refl _) (.cells #[.string ⟨#[]⟩, .int .i64 0, .int .i64 0, .int .i64 0, .int .i64 0, .int .i64 0] 28)
      revert bl B0
      generalize (w.alloc (.cells #[.string ⟨#[]⟩, .int .i64 0, .int .i64 0, .int .i64 0, .int .i64 0, .int .i64 0] 28)) = w1
      intro bl B0
      refine (F.out w1).mono ?_
      rintro e w2 ⟨v, rfl, o2, b2⟩
      have bl2 := Lib.hid (bl.below b2 bl.lt)
      have B2 := Lib.hid (B0.trans (b2.mono B0.size))
      obtain ⟨g1, c1, rfl, hb1, hg1⟩ := o2.form (by omega)
      have r0 : w2.cell? ⟨g1, 0, none⟩ = some (.string ⟨a.toArray⟩) := (o2.cellAt 0 (by omega)).trans rfl
      have r1 : w2.cell? ⟨g1, 1, none⟩ = some (.string ⟨b.toArray⟩) := (o2.cellAt 1 (by omega)).trans rfl
      have R0 := Lib.hid (And.intro r0 hg1)
      clear o2 b2 bl B0 hb1 hg1
      go_wp2_with fail
      refine (G.out w2).mono ?_
      intro e w3 hp
      obtain ⟨A, c, rfl, o3, b3⟩ := read_uni hp
      have bl3 := Lib.hid (bl2.out.below b3 bl2.out.lt)
      have B3 := Lib.hid (B2.out.trans (b3.mono B2.out.size))
      have R3 := Lib.hid ((b3.cell (p := ⟨g1, 0, none⟩) R0.out.2).trans R0.out.1)
      clear b3 hp r0 r1
      rw [hg]
      obtain ⟨g, c2, hv, hbg, hgl⟩ := o3.form (by omega)
      rw [h5] at hv o3 ⊢
      obtain ⟨rfl, rfl⟩ : A = some ⟨g, 0, none⟩ ∧ c = c2 := by simpa using hv
      rw [five h5] at o3
      have r0 : w3.cell? ⟨g, 0, none⟩ = some (.int .i64 ((ys b).getD 0 0)) := o3.cellAt 0 (by omega)
      have r1 : w3.cell? ⟨g, 1, none⟩ = some (.int .i64 ((ys b).getD 1 0)) := o3.cellAt 1 (by omega)
      have r2 : w3.cell? ⟨g, 2, none⟩ = some (.int .i64 ((ys b).getD 2 0)) := o3.cellAt 2 (by omega)
      have r3 : w3.cell? ⟨g, 3, none⟩ = some (.int .i64 ((ys b).getD 3 0)) := o3.cellAt 3 (by omega)
      have r4 : w3.cell? ⟨g, 4, none⟩ = some (.int .i64 ((ys b).getD 4 0)) := o3.cellAt 4 (by omega)
      have ra : w3.cell? ⟨g1, 0, none⟩ = some (.string ⟨a.toArray⟩) := R3.out
      obtain ⟨x0, hx0⟩ : ∃ x0, (ys b).getD 0 0 = x0 := ⟨_, rfl⟩
      obtain ⟨x1, hx1⟩ : ∃ x1, (ys b).getD 1 0 = x1 := ⟨_, rfl⟩
      obtain ⟨x2, hx2⟩ : ∃ x2, (ys b).getD 2 0 = x2 := ⟨_, rfl⟩
      obtain ⟨x3, hx3⟩ : ∃ x3, (ys b).getD 3 0 = x3 := ⟨_, rfl⟩
      obtain ⟨x4, hx4⟩ : ∃ x4, (ys b).getD 4 0 = x4 := ⟨_, rfl⟩
      rw [hx0] at r0
      rw [hx1] at r1
      rw [hx2] at r2
      rw [hx3] at r3
      rw [hx4] at r4
      have HP := Lib.hid (show plOf a (ys b) = ⟨⟨a.toArray⟩, x0, x1, x2, x3, x4⟩ by rw [plOf, hx0, hx1, hx2, hx3, hx4])
      have H5 := Lib.hid h5
      have HG := Lib.hid hg
      clear o3 hv hx0 hx1 hx2 hx3 hx4 h5 hg hbg hgl R0 R3
      go_wp2_with fail
      go_region_held3 (fun W => W.cell? ⟨g1, 0, none⟩ = some (.string ⟨a.toArray⟩) ∧ W.cell? ⟨g, 0, none⟩ = some (.int .i64 x0) ∧ W.cell? ⟨g, 1, none⟩ = some (.int .i64 x1) ∧ W.cell? ⟨g, 2, none⟩ = some (.int .i64 x2) ∧ W.cell? ⟨g, 3, none⟩ = some (.int .i64 x3) ∧ W.cell? ⟨g, 4, none⟩ = some (.int .i64 x4)) (go_keep) (first | fail)
      all_goals
        obtain ⟨w4, hw4⟩ : ∃ w4, (w3.alloc (.cells #[.string ⟨a.toArray⟩, .int .i64 x0, .int .i64 x1, .int .i64 x2, .int .i64 x3, .int .i64 x4] 28)).drew = w4 := ⟨_, rfl⟩
        have at4 := (show At w4 w3.heap.size 0 ⟨⟨a.toArray⟩, x0, x1, x2, x3, x4⟩ by rw [← hw4]; obtain ⟨a0, a1, a2, a3, a4, a5, a6⟩ := at_new ⟨⟨a.toArray⟩, x0, x1, x2, x3, x4⟩ w3 28 (by show a.length ≤ maxLen; unfold maxLen; omega); exact ⟨a0, a1, a2, a3, a4, a5, a6⟩)
        have pb := (show Blk w4 w3.heap.size 28 #[.string ⟨a.toArray⟩, .int .i64 x0, .int .i64 x1, .int .i64 x2, .int .i64 x3, .int .i64 x4] by rw [← hw4]; exact (Blk.new w3 _ _).drew)
        have rb := Lib.hid (show Blk w4 w.heap.size 28 _ by rw [← hw4]; exact (bl3.out.alloc _).drew)
        have B4 := Lib.hid (show Below w.heap.size w w4 by rw [← hw4]; exact (B3.out.trans ((below_lit w3 _).mono B3.out.size)))
        rw [hw4]
        obtain ⟨g2, hg2⟩ : ∃ g2, w3.heap.size = g2 := ⟨_, rfl⟩
        rw [hg2] at pb at4 ⊢
        have V := l03One_any _ _ _ _ at4
        obtain ⟨vb, hvb⟩ : ∃ vb, validB ⟨⟨a.toArray⟩, x0, x1, x2, x3, x4⟩ = vb := ⟨_, rfl⟩
        rw [hvb] at V
        have V := Lib.hid V
        have HV := Lib.hid hvb
        clear r0 r1 r2 r3 r4 ra hw4 hg2 bl3 bl2 B2 B3 hvb at4
        have p0 := pb.cell 0
        have p1 := pb.cell 1
        have p2 := pb.cell 2
        have p3 := pb.cell 3
        have p4 := pb.cell 4
        have p5 := pb.cell 5
        simp at p0 p1 p2 p3 p4 p5
        clear pb
        have k0 : w4.cell? ⟨w.heap.size, 0, none⟩ = some (.string ⟨#[]⟩) := rb.out.cell 0
        have k1 : w4.cell? ⟨w.heap.size, 1, none⟩ = some (.int .i64 0) := rb.out.cell 1
        have k2 : w4.cell? ⟨w.heap.size, 2, none⟩ = some (.int .i64 0) := rb.out.cell 2
        have k3 : w4.cell? ⟨w.heap.size, 3, none⟩ = some (.int .i64 0) := rb.out.cell 3
        have k4 : w4.cell? ⟨w.heap.size, 4, none⟩ = some (.int .i64 0) := rb.out.cell 4
        have k5 : w4.cell? ⟨w.heap.size, 5, none⟩ = some (.int .i64 0) := rb.out.cell 5
        have z0 := rb.out.frozen 0
        have z1 := rb.out.frozen 1
        have z2 := rb.out.frozen 2
        have z3 := rb.out.frozen 3
        have z4 := rb.out.frozen 4
        have z5 := rb.out.frozen 5
        cases vb
        · go_wp2_with fail
          refine V.out.mono ?_
          rintro e w5 ⟨rfl, rfl⟩
          go_wp2
          have FB := ((((((rb.out.set_ 0 (.string ⟨#[]⟩)).set_ 1 (.int .i64 0)).set_ 2 (.int .i64 0)).set_ 3 (.int .i64 0)).set_ 4 (.int .i64 0)).set_ 5 (.int .i64 0))
          have BW := ((((((B4.out.setCell (p := ⟨w.heap.size, 0, none⟩) (by simp) (.string ⟨#[]⟩)).setCell (p := ⟨w.heap.size, 1, none⟩) (by simp) (.int .i64 0)).setCell (p := ⟨w.heap.size, 2, none⟩) (by simp) (.int .i64 0)).setCell (p := ⟨w.heap.size, 3, none⟩) (by simp) (.int .i64 0)).setCell (p := ⟨w.heap.size, 4, none⟩) (by simp) (.int .i64 0)).setCell (p := ⟨w.heap.size, 5, none⟩) (by simp) (.int .i64 0))
          clear k0 k1 k2 k3 k4 k5 z0 z1 z2 z3 z4 z5 p0 p1 p2 p3 p4 p5
          revert FB BW
          generalize (World.setCell (World.setCell (World.setCell (World.setCell (World.setCell (World.setCell w4 ⟨w.heap.size, 0, none⟩ (.string ⟨#[]⟩)) ⟨w.heap.size, 1, none⟩ (.int .i64 0)) ⟨w.heap.size, 2, none⟩ (.int .i64 0)) ⟨w.heap.size, 3, none⟩ (.int .i64 0)) ⟨w.heap.size, 4, none⟩ (.int .i64 0)) ⟨w.heap.size, 5, none⟩ (.int .i64 0)) = W9
          intro FB BW
          have k0 : W9.cell? ⟨w.heap.size, 0, none⟩ = some (.string ⟨#[]⟩) := FB.cell 0
          have k1 : W9.cell? ⟨w.heap.size, 1, none⟩ = some (.int .i64 0) := FB.cell 1
          have k2 : W9.cell? ⟨w.heap.size, 2, none⟩ = some (.int .i64 0) := FB.cell 2
          have k3 : W9.cell? ⟨w.heap.size, 3, none⟩ = some (.int .i64 0) := FB.cell 3
          have k4 : W9.cell? ⟨w.heap.size, 4, none⟩ = some (.int .i64 0) := FB.cell 4
          have k5 : W9.cell? ⟨w.heap.size, 5, none⟩ = some (.int .i64 0) := FB.cell 5
          refine bodyPost_ret (v := .tuple #[agg6 plNo, .bool false]) (by simp [results, Tryd.results11, go_sem, agg6, plNo, k0, k1, k2, k3, k4, k5]) rfl ?_
          exact ⟨plNo, false, RI.out _ _ (.inr ⟨rfl, rfl, fun ⟨a', b', e', _, _, h3⟩ => by
              simp only [List.cons.injEq, and_true] at e'
              obtain ⟨rfl, rfl⟩ := e'
              rw [HP.out, HV.out] at h3
              cases h3⟩), rfl, BW⟩
        · go_wp2_with fail
          refine V.out.mono ?_
          rintro e w5 ⟨rfl, rfl⟩
          go_wp2
          have FB := ((((((rb.out.set_ 0 (.string ⟨a.toArray⟩)).set_ 1 (.int .i64 x0)).set_ 2 (.int .i64 x1)).set_ 3 (.int .i64 x2)).set_ 4 (.int .i64 x3)).set_ 5 (.int .i64 x4))
          have BW := ((((((B4.out.setCell (p := ⟨w.heap.size, 0, none⟩) (by simp) (.string ⟨a.toArray⟩)).setCell (p := ⟨w.heap.size, 1, none⟩) (by simp) (.int .i64 x0)).setCell (p := ⟨w.heap.size, 2, none⟩) (by simp) (.int .i64 x1)).setCell (p := ⟨w.heap.size, 3, none⟩) (by simp) (.int .i64 x2)).setCell (p := ⟨w.heap.size, 4, none⟩) (by simp) (.int .i64 x3)).setCell (p := ⟨w.heap.size, 5, none⟩) (by simp) (.int .i64 x4))
          clear k0 k1 k2 k3 k4 k5 z0 z1 z2 z3 z4 z5 p0 p1 p2 p3 p4 p5
          revert FB BW
          generalize (World.setCell (World.setCell (World.setCell (World.setCell (World.setCell (World.setCell w4 ⟨w.heap.size, 0, none⟩ (.string ⟨a.toArray⟩)) ⟨w.heap.size, 1, none⟩ (.int .i64 x0)) ⟨w.heap.size, 2, none⟩ (.int .i64 x1)) ⟨w.heap.size, 3, none⟩ (.int .i64 x2)) ⟨w.heap.size, 4, none⟩ (.int .i64 x3)) ⟨w.heap.size, 5, none⟩ (.int .i64 x4)) = W9
          intro FB BW
          have k0 : W9.cell? ⟨w.heap.size, 0, none⟩ = some (.string ⟨a.toArray⟩) := FB.cell 0
          have k1 : W9.cell? ⟨w.heap.size, 1, none⟩ = some (.int .i64 x0) := FB.cell 1
          have k2 : W9.cell? ⟨w.heap.size, 2, none⟩ = some (.int .i64 x1) := FB.cell 2
          have k3 : W9.cell? ⟨w.heap.size, 3, none⟩ = some (.int .i64 x2) := FB.cell 3
          have k4 : W9.cell? ⟨w.heap.size, 4, none⟩ = some (.int .i64 x3) := FB.cell 4
          have k5 : W9.cell? ⟨w.heap.size, 5, none⟩ = some (.int .i64 x4) := FB.cell 5
          refine bodyPost_ret (v := .tuple #[agg6 ⟨⟨a.toArray⟩, x0, x1, x2, x3, x4⟩, .bool true]) (by simp [results, Tryd.results11, go_sem, agg6, k0, k1, k2, k3, k4, k5]) rfl ?_
          exact ⟨_, true, RI.out _ _ (.inl ⟨rfl, a, b, rfl, HG.out, H5.out, by rw [HP.out, HV.out], HP.out.symm⟩), rfl, BW⟩
    · have HN := Lib.hid (show RpIs s.data.toList plNo false from RI.out _ _ (.inr ⟨rfl, rfl, fun ⟨a', b', e', h1, h3, _⟩ => by
        simp only [List.cons.injEq, and_true] at e'
        obtain ⟨rfl, rfl⟩ := e'
        exact hgd ⟨h1, h3⟩⟩))
      obtain ⟨L, hL⟩ : ∃ L, (ys b).length = L := ⟨_, rfl⟩
      obtain ⟨gd, hgd2⟩ : ∃ gd, goodL b = gd := ⟨_, rfl⟩
      rw [hL, hgd2] at hgd
      have HLG := Lib.hid (And.intro hL hgd2)
      clear hL hgd2
      go_enter Tryd.func11, Tryd.ntmps11
      go_wp2_with fail
      have bl := Blk.new w 28 #[.string ⟨#[]⟩, .int .i64 0, .int .i64 0, .int .i64 0, .int .i64 0, .int .i64 0]
      have B0 := (Below.refl w.heap.size w).alloc (Nat.le_refl _) (.cells #[.string ⟨#[]⟩, .int .i64 0, .int .i64 0, .int .i64 0, .int .i64 0, .int .i64 0] 28)
      revert bl B0
      generalize (w.alloc (.cells #[.string ⟨#[]⟩, .int .i64 0, .int .i64 0, .int .i64 0, .int .i64 0, .int .i64 0] 28)) = w1
      intro bl B0
      refine (F.out w1).mono ?_
      rintro e w2 ⟨v, rfl, o2, b2⟩
      have bl2 := Lib.hid (bl.below b2 bl.lt)
      have B2 := Lib.hid (B0.trans (b2.mono B0.size))
      obtain ⟨g1, c1, rfl, hb1, hg1⟩ := o2.form (by omega)
      have r0 : w2.cell? ⟨g1, 0, none⟩ = some (.string ⟨a.toArray⟩) := (o2.cellAt 0 (by omega)).trans rfl
      have r1 : w2.cell? ⟨g1, 1, none⟩ = some (.string ⟨b.toArray⟩) := (o2.cellAt 1 (by omega)).trans rfl
      have R0 := Lib.hid (And.intro r0 hg1)
      clear o2 b2 bl B0 hb1 hg1
      go_wp2_with fail
      refine (G.out w2).mono ?_
      intro e w3 hp
      obtain ⟨A, c, rfl, o3, b3⟩ := read_uni hp
      have bl3 := Lib.hid (bl2.out.below b3 bl2.out.lt)
      have B3 := Lib.hid (B2.out.trans (b3.mono B2.out.size))
      have R3 := Lib.hid ((b3.cell (p := ⟨g1, 0, none⟩) R0.out.2).trans R0.out.1)
      clear b3 hp r0 r1
      rw [HLG.out.1, HLG.out.2]
      clear o3
      have k0 : w3.cell? ⟨w.heap.size, 0, none⟩ = some (.string ⟨#[]⟩) := bl3.out.cell 0
      have k1 : w3.cell? ⟨w.heap.size, 1, none⟩ = some (.int .i64 0) := bl3.out.cell 1
      have k2 : w3.cell? ⟨w.heap.size, 2, none⟩ = some (.int .i64 0) := bl3.out.cell 2
      have k3 : w3.cell? ⟨w.heap.size, 3, none⟩ = some (.int .i64 0) := bl3.out.cell 3
      have k4 : w3.cell? ⟨w.heap.size, 4, none⟩ = some (.int .i64 0) := bl3.out.cell 4
      have k5 : w3.cell? ⟨w.heap.size, 5, none⟩ = some (.int .i64 0) := bl3.out.cell 5
      have z0 := bl3.out.frozen 0
      have z1 := bl3.out.frozen 1
      have z2 := bl3.out.frozen 2
      have z3 := bl3.out.frozen 3
      have z4 := bl3.out.frozen 4
      have z5 := bl3.out.frozen 5
      cases gd
      · go_wp2
        have FB := ((((((bl3.out.set_ 0 (.string ⟨#[]⟩)).set_ 1 (.int .i64 0)).set_ 2 (.int .i64 0)).set_ 3 (.int .i64 0)).set_ 4 (.int .i64 0)).set_ 5 (.int .i64 0))
        have BW := ((((((B3.out.setCell (p := ⟨w.heap.size, 0, none⟩) (by simp) (.string ⟨#[]⟩)).setCell (p := ⟨w.heap.size, 1, none⟩) (by simp) (.int .i64 0)).setCell (p := ⟨w.heap.size, 2, none⟩) (by simp) (.int .i64 0)).setCell (p := ⟨w.heap.size, 3, none⟩) (by simp) (.int .i64 0)).setCell (p := ⟨w.heap.size, 4, none⟩) (by simp) (.int .i64 0)).setCell (p := ⟨w.heap.size, 5, none⟩) (by simp) (.int .i64 0))
        clear k0 k1 k2 k3 k4 k5 z0 z1 z2 z3 z4 z5
        revert FB BW
        generalize (World.setCell (World.setCell (World.setCell (World.setCell (World.setCell (World.setCell w3 ⟨w.heap.size, 0, none⟩ (.string ⟨#[]⟩)) ⟨w.heap.size, 1, none⟩ (.int .i64 0)) ⟨w.heap.size, 2, none⟩ (.int .i64 0)) ⟨w.heap.size, 3, none⟩ (.int .i64 0)) ⟨w.heap.size, 4, none⟩ (.int .i64 0)) ⟨w.heap.size, 5, none⟩ (.int .i64 0)) = W9
        intro FB BW
        have k0 : W9.cell? ⟨w.heap.size, 0, none⟩ = some (.string ⟨#[]⟩) := FB.cell 0
        have k1 : W9.cell? ⟨w.heap.size, 1, none⟩ = some (.int .i64 0) := FB.cell 1
        have k2 : W9.cell? ⟨w.heap.size, 2, none⟩ = some (.int .i64 0) := FB.cell 2
        have k3 : W9.cell? ⟨w.heap.size, 3, none⟩ = some (.int .i64 0) := FB.cell 3
        have k4 : W9.cell? ⟨w.heap.size, 4, none⟩ = some (.int .i64 0) := FB.cell 4
        have k5 : W9.cell? ⟨w.heap.size, 5, none⟩ = some (.int .i64 0) := FB.cell 5
        refine bodyPost_ret (v := .tuple #[agg6 plNo, .bool false]) (by simp [results, Tryd.results11, go_sem, agg6, plNo, k0, k1, k2, k3, k4, k5]) rfl ?_
        exact ⟨plNo, false, HN.out, rfl, BW⟩
      · have q5 : ((L : Int) == 5) = false := by rw [beq_eq_false_iff_ne]; intro e; exact hgd ⟨rfl, by omega⟩
        go_wp2
        have FB := ((((((bl3.out.set_ 0 (.string ⟨#[]⟩)).set_ 1 (.int .i64 0)).set_ 2 (.int .i64 0)).set_ 3 (.int .i64 0)).set_ 4 (.int .i64 0)).set_ 5 (.int .i64 0))
        have BW := ((((((B3.out.setCell (p := ⟨w.heap.size, 0, none⟩) (by simp) (.string ⟨#[]⟩)).setCell (p := ⟨w.heap.size, 1, none⟩) (by simp) (.int .i64 0)).setCell (p := ⟨w.heap.size, 2, none⟩) (by simp) (.int .i64 0)).setCell (p := ⟨w.heap.size, 3, none⟩) (by simp) (.int .i64 0)).setCell (p := ⟨w.heap.size, 4, none⟩) (by simp) (.int .i64 0)).setCell (p := ⟨w.heap.size, 5, none⟩) (by simp) (.int .i64 0))
        clear k0 k1 k2 k3 k4 k5 z0 z1 z2 z3 z4 z5
        revert FB BW
        generalize (World.setCell (World.setCell (World.setCell (World.setCell (World.setCell (World.setCell w3 ⟨w.heap.size, 0, none⟩ (.string ⟨#[]⟩)) ⟨w.heap.size, 1, none⟩ (.int .i64 0)) ⟨w.heap.size, 2, none⟩ (.int .i64 0)) ⟨w.heap.size, 3, none⟩ (.int .i64 0)) ⟨w.heap.size, 4, none⟩ (.int .i64 0)) ⟨w.heap.size, 5, none⟩ (.int .i64 0)) = W9
        intro FB BW
        have k0 : W9.cell? ⟨w.heap.size, 0, none⟩ = some (.string ⟨#[]⟩) := FB.cell 0
        have k1 : W9.cell? ⟨w.heap.size, 1, none⟩ = some (.int .i64 0) := FB.cell 1
        have k2 : W9.cell? ⟨w.heap.size, 2, none⟩ = some (.int .i64 0) := FB.cell 2
        have k3 : W9.cell? ⟨w.heap.size, 3, none⟩ = some (.int .i64 0) := FB.cell 3
        have k4 : W9.cell? ⟨w.heap.size, 4, none⟩ = some (.int .i64 0) := FB.cell 4
        have k5 : W9.cell? ⟨w.heap.size, 5, none⟩ = some (.int .i64 0) := FB.cell 5
        refine bodyPost_ret (v := .tuple #[agg6 plNo, .bool false]) (by simp [results, Tryd.results11, go_sem, agg6, plNo, k0, k1, k2, k3, k4, k5]) rfl ?_
        exact ⟨plNo, false, HN.out, rfl, BW⟩
  · have HN := Lib.hid (show RpIs s.data.toList plNo false from RI.out _ _ (.inr ⟨rfl, rfl, fun ⟨a', b', e', _⟩ => h2 (by rw [e']; rfl)⟩))
    have q0 : ((ps.length : Int) == 2) = false := by rw [beq_eq_false_iff_ne]; omega
    clear SM RI
    go_enter Tryd.func11, Tryd.ntmps11
    go_wp2_with fail
    have bl := Blk.new w 28 #[.string ⟨#[]⟩, .int .i64 0, .int .i64 0, .int .i64 0, .int .i64 0, .int .i64 0]
    have B0 := (Below.refl w.heap.size w).alloc (Nat.le_refl _) (.cells #[.string ⟨#[]⟩, .int .i64 0, .int .i64 0, .int .i64 0, .int .i64 0, .int .i64 0] 28)
    revert bl B0
    generalize (w.alloc (.cells #[.string ⟨#[]⟩, .int .i64 0, .int .i64 0, .int .i64 0, .int .i64 0, .int .i64 0] 28)) = w1
    intro bl B0
    refine (F.out w1).mono ?_
    rintro e w2 ⟨v, rfl, o2, b2⟩
    have bl2 := Lib.hid (bl.below b2 bl.lt)
    have B2 := Lib.hid (B0.trans (b2.mono B0.size))
    obtain ⟨A, c, rfl⟩ := own_form o2
    clear o2 b2 bl B0
    have k0 : w2.cell? ⟨w.heap.size, 0, none⟩ = some (.string ⟨#[]⟩) := bl2.out.cell 0
    have k1 : w2.cell? ⟨w.heap.size, 1, none⟩ = some (.int .i64 0) := bl2.out.cell 1
    have k2 : w2.cell? ⟨w.heap.size, 2, none⟩ = some (.int .i64 0) := bl2.out.cell 2
    have k3 : w2.cell? ⟨w.heap.size, 3, none⟩ = some (.int .i64 0) := bl2.out.cell 3
    have k4 : w2.cell? ⟨w.heap.size, 4, none⟩ = some (.int .i64 0) := bl2.out.cell 4
    have k5 : w2.cell? ⟨w.heap.size, 5, none⟩ = some (.int .i64 0) := bl2.out.cell 5
    have z0 := bl2.out.frozen 0
    have z1 := bl2.out.frozen 1
    have z2 := bl2.out.frozen 2
    have z3 := bl2.out.frozen 3
    have z4 := bl2.out.frozen 4
    have z5 := bl2.out.frozen 5
    go_wp2
    have FB := ((((((bl2.out.set_ 0 (.string ⟨#[]⟩)).set_ 1 (.int .i64 0)).set_ 2 (.int .i64 0)).set_ 3 (.int .i64 0)).set_ 4 (.int .i64 0)).set_ 5 (.int .i64 0))
    have BW := ((((((B2.out.setCell (p := ⟨w.heap.size, 0, none⟩) (by simp) (.string ⟨#[]⟩)).setCell (p := ⟨w.heap.size, 1, none⟩) (by simp) (.int .i64 0)).setCell (p := ⟨w.heap.size, 2, none⟩) (by simp) (.int .i64 0)).setCell (p := ⟨w.heap.size, 3, none⟩) (by simp) (.int .i64 0)).setCell (p := ⟨w.heap.size, 4, none⟩) (by simp) (.int .i64 0)).setCell (p := ⟨w.heap.size, 5, none⟩) (by simp) (.int .i64 0))
    clear k0 k1 k2 k3 k4 k5 z0 z1 z2 z3 z4 z5
    revert FB BW
    generalize (World.setCell (World.setCell (World.setCell (World.setCell (World.setCell (World.setCell w2 ⟨w.heap.size, 0, none⟩ (.string ⟨#[]⟩)) ⟨w.heap.size, 1, none⟩ (.int .i64 0)) ⟨w.heap.size, 2, none⟩ (.int .i64 0)) ⟨w.heap.size, 3, none⟩ (.int .i64 0)) ⟨w.heap.size, 4, none⟩ (.int .i64 0)) ⟨w.heap.size, 5, none⟩ (.int .i64 0)) = W9
    intro FB BW
    have k0 : W9.cell? ⟨w.heap.size, 0, none⟩ = some (.string ⟨#[]⟩) := FB.cell 0
    have k1 : W9.cell? ⟨w.heap.size, 1, none⟩ = some (.int .i64 0) := FB.cell 1
    have k2 : W9.cell? ⟨w.heap.size, 2, none⟩ = some (.int .i64 0) := FB.cell 2
    have k3 : W9.cell? ⟨w.heap.size, 3, none⟩ = some (.int .i64 0) := FB.cell 3
    have k4 : W9.cell? ⟨w.heap.size, 4, none⟩ = some (.int .i64 0) := FB.cell 4
    have k5 : W9.cell? ⟨w.heap.size, 5, none⟩ = some (.int .i64 0) := FB.cell 5
    refine bodyPost_ret (v := .tuple #[agg6 plNo, .bool false]) (by simp [results, Tryd.results11, go_sem, agg6, plNo, k0, k1, k2, k3, k4, k5]) rfl ?_
    exact ⟨plNo, false, HN.out, rfl, BW⟩
end Go.Proofs.YtcmnmmgmhnhkhaaDoor
