/- Lists of arcs (six numbers each): equality of equal lists, marking, asking the marks. -/
import Derived.Test.YtfnlnkfihldoeaaOG
namespace Go.Proofs.Ytfnlnkfihldoeaa
open Go.RowKit Go.Sort

theorem iv_get {l : List Int} {i : Nat} (h : i < l.length) : (iv l)[i]? = some (.int .i64 (l.getD i 0)) := by
  rw [iv, List.getElem?_map, List.getElem?_eq_getElem h, List.getD_eq_getElem?_getD, List.getElem?_eq_getElem h]; rfl
theorem grown_tr {a b c : World} {r : Option Nat} (h : a.grownBy b r) (k : b.grownBy c r) : a.grownBy c r :=
  ⟨k.os.trans h.os, k.tape.trans h.tape, k.output.trans h.output, Nat.le_trans h.size k.size, fun i hi hne => (k.block i (Nat.lt_of_lt_of_le hi h.size) hne).trans (h.block i hi hne)⟩

theorem eqPoint_any (x y : Int) (w : World) :
    Calls Try.prog 72 #[.agg #[.int .i64 x, .int .i64 y], .agg #[.int .i64 x, .int .i64 y]] w fun e w' => e = .returned (.bool true) ∧ Below w.heap.size w w' := by
  have h1 : (x != x) = false := by simp
  have h2 : (y != y) = false := by simp
  have b := Lib.hid (((Below.refl w.heap.size w).alloc (Nat.le_refl _) (.cells #[.int .i64 x, .int .i64 y] 46)).alloc (by simp) (.cells #[.int .i64 x, .int .i64 y] 46))
  go_enter Try.func72, Try.ntmps72
  go_wp2
  go_ret
  exact ⟨rfl, b.out⟩

set_option maxHeartbeats 1000000 in
theorem eqArc_any (x0 x1 x2 x3 x4 x5 : Int) (w : World) :
    Calls Try.prog 44 #[.agg #[.int .i64 x0, .int .i64 x1, .int .i64 x2, .int .i64 x3, .int .i64 x4, .int .i64 x5], .agg #[.int .i64 x0, .int .i64 x1, .int .i64 x2, .int .i64 x3, .int .i64 x4, .int .i64 x5]] w fun e w' => e = .returned (.bool true) ∧ Below w.heap.size w w' := by
  obtain ⟨W0, hW0⟩ : ∃ W0, (w.alloc (.cells #[.int .i64 x0, .int .i64 x1, .int .i64 x2, .int .i64 x3, .int .i64 x4, .int .i64 x5] 50)).alloc (.cells #[.int .i64 x0, .int .i64 x1, .int .i64 x2, .int .i64 x3, .int .i64 x4, .int .i64 x5] 50) = W0 := ⟨_, rfl⟩
  have BW := Lib.hid (show Below w.heap.size w W0 by rw [← hW0]; exact ((Below.refl _ _).alloc (Nat.le_refl _) _).alloc (by simp) _)
  have P1 := Lib.hid (show Blk W0 w.heap.size 50 #[.int .i64 x0, .int .i64 x1, .int .i64 x2, .int .i64 x3, .int .i64 x4, .int .i64 x5] by rw [← hW0]; exact (Blk.new _ _ _).alloc _)
  have P2 := Lib.hid (show Blk W0 (w.heap.size + 1) 50 #[.int .i64 x0, .int .i64 x1, .int .i64 x2, .int .i64 x3, .int .i64 x4, .int .i64 x5] by rw [← hW0]; simpa using Blk.new (w.alloc (.cells #[.int .i64 x0, .int .i64 x1, .int .i64 x2, .int .i64 x3, .int .i64 x4, .int .i64 x5] 50)) 50 #[.int .i64 x0, .int .i64 x1, .int .i64 x2, .int .i64 x3, .int .i64 x4, .int .i64 x5])
  have hs := Lib.hid (show W0.heap.size = w.heap.size + 2 by rw [← hW0]; simp)
  have HW := Lib.hid hW0
  clear hW0
  go_enter Try.func44, Try.ntmps44
  go_wp2_with fail
  rw [HW.out]
  refine (eqPoint_any x0 x1 W0).mono ?_
  rintro e w1 ⟨rfl, b1⟩
  have Q1 := Lib.hid (P1.out.below b1 (by have := hs.out; omega))
  have Q2 := Lib.hid (P2.out.below b1 (by have := hs.out; omega))
  have l2 := Lib.hid (show w.heap.size + 1 < w1.heap.size by have := hs.out; have := b1.size; omega)
  have B1 := Lib.hid (BW.out.trans (b1.mono BW.out.size))
  have c2 : w1.cell? ⟨w.heap.size, 2, none⟩ = some (.int .i64 x2) := Q1.out.cell 2
  have c3 : w1.cell? ⟨w.heap.size, 3, none⟩ = some (.int .i64 x3) := Q1.out.cell 3
  have d2 : w1.cell? ⟨w.heap.size + 1, 2, none⟩ = some (.int .i64 x2) := Q2.out.cell 2
  have d3 : w1.cell? ⟨w.heap.size + 1, 3, none⟩ = some (.int .i64 x3) := Q2.out.cell 3
  clear b1
  go_wp2_with fail
  refine (eqPoint_any x2 x3 w1).mono ?_
  rintro e w2 ⟨rfl, b2⟩
  have R1 := Lib.hid (Q1.out.below b2 (by have := l2.out; omega))
  have R2 := Lib.hid (Q2.out.below b2 l2.out)
  have B2 := Lib.hid (B1.out.trans (b2.mono B1.out.size))
  have c4 : w2.cell? ⟨w.heap.size, 4, none⟩ = some (.int .i64 x4) := R1.out.cell 4
  have c5 : w2.cell? ⟨w.heap.size, 5, none⟩ = some (.int .i64 x5) := R1.out.cell 5
  have d4 : w2.cell? ⟨w.heap.size + 1, 4, none⟩ = some (.int .i64 x4) := R2.out.cell 4
  have d5 : w2.cell? ⟨w.heap.size + 1, 5, none⟩ = some (.int .i64 x5) := R2.out.cell 5
  clear b2 c2 c3 d2 d3
  go_wp2_with fail
  refine (eqPoint_any x4 x5 w2).mono ?_
  rintro e w3 ⟨rfl, b3⟩
  have B3 := Lib.hid (B2.out.trans (b3.mono B2.out.size))
  clear b3
  go_wp2
  go_ret
  exact ⟨rfl, B3.out⟩

set_option maxHeartbeats 1000000 in
theorem eqArcS_any (B B' n : Nat) (v v' : Value) (xs : List Int) (w : World) (hx : w.ownsRow B 50 6 v n (iv xs)) (hy : w.ownsRow B' 50 6 v' n (iv xs)) (hn : n ≤ 1048576) :
    Calls Try.prog 15 #[v, v'] w fun e w' => e = .returned (.bool true) ∧ Below w.heap.size w w' := by
  obtain ⟨A, c, rfl⟩ := own_form hx
  obtain ⟨A', c', rfl⟩ := own_form hy
  have lx := Lib.hid (show xs.length = n * 6 by have := hx.1; rw [iv_len] at this; exact this)
  have HX := Lib.hid hx
  have HY := Lib.hid hy
  clear hx hy
  go_enter Try.func15, Try.ntmps15
  go_wp2_with fail
  go_loopw [5] (fun i wr => ∃ k : Nat, k ≤ n ∧ i = .int .i64 k ∧ Below w.heap.size w wr) (fun i _ => n - (intOf i).toNat)
  case atStart => exact ⟨0, Nat.zero_le _, rfl, Below.refl _ _⟩
  case round =>
    obtain ⟨k, hk, rfl, hb⟩ := hrel
    have HB := Lib.hid hb
    clear hb
    by_cases hlt : k < n
    · have ox := own_below HX.out HB.out
      have oy := own_below HY.out HB.out
      obtain ⟨g, cap, hv, _, _⟩ := ox.form (by omega)
      obtain ⟨rfl, rfl⟩ : A = some ⟨g, 0, none⟩ ∧ c = cap := by simpa using hv
      obtain ⟨g', cap', hv', _, _⟩ := oy.form (by omega)
      obtain ⟨rfl, rfl⟩ : A' = some ⟨g', 0, none⟩ ∧ c' = cap' := by simpa using hv'
      have LX := lx.out
      obtain ⟨x0, hx0⟩ : ∃ x, xs.getD (k * 6) 0 = x := ⟨_, rfl⟩
      have k0 : wr.cell? ⟨g, k * 6, none⟩ = some (.int .i64 x0) := by rw [ox.cellAt (k * 6) (by omega), iv_get (by omega), hx0]
      have m0 : wr.cell? ⟨g', k * 6, none⟩ = some (.int .i64 x0) := by rw [oy.cellAt (k * 6) (by omega), iv_get (by omega), hx0]
      obtain ⟨x1, hx1⟩ : ∃ x, xs.getD (k * 6 + 1) 0 = x := ⟨_, rfl⟩
      have k1 : wr.cell? ⟨g, k * 6 + 1, none⟩ = some (.int .i64 x1) := by rw [ox.cellAt (k * 6 + 1) (by omega), iv_get (by omega), hx1]
      have m1 : wr.cell? ⟨g', k * 6 + 1, none⟩ = some (.int .i64 x1) := by rw [oy.cellAt (k * 6 + 1) (by omega), iv_get (by omega), hx1]
      obtain ⟨x2, hx2⟩ : ∃ x, xs.getD (k * 6 + 2) 0 = x := ⟨_, rfl⟩
      have k2 : wr.cell? ⟨g, k * 6 + 2, none⟩ = some (.int .i64 x2) := by rw [ox.cellAt (k * 6 + 2) (by omega), iv_get (by omega), hx2]
      have m2 : wr.cell? ⟨g', k * 6 + 2, none⟩ = some (.int .i64 x2) := by rw [oy.cellAt (k * 6 + 2) (by omega), iv_get (by omega), hx2]
      obtain ⟨x3, hx3⟩ : ∃ x, xs.getD (k * 6 + 3) 0 = x := ⟨_, rfl⟩
      have k3 : wr.cell? ⟨g, k * 6 + 3, none⟩ = some (.int .i64 x3) := by rw [ox.cellAt (k * 6 + 3) (by omega), iv_get (by omega), hx3]
      have m3 : wr.cell? ⟨g', k * 6 + 3, none⟩ = some (.int .i64 x3) := by rw [oy.cellAt (k * 6 + 3) (by omega), iv_get (by omega), hx3]
      obtain ⟨x4, hx4⟩ : ∃ x, xs.getD (k * 6 + 4) 0 = x := ⟨_, rfl⟩
      have k4 : wr.cell? ⟨g, k * 6 + 4, none⟩ = some (.int .i64 x4) := by rw [ox.cellAt (k * 6 + 4) (by omega), iv_get (by omega), hx4]
      have m4 : wr.cell? ⟨g', k * 6 + 4, none⟩ = some (.int .i64 x4) := by rw [oy.cellAt (k * 6 + 4) (by omega), iv_get (by omega), hx4]
      obtain ⟨x5, hx5⟩ : ∃ x, xs.getD (k * 6 + 5) 0 = x := ⟨_, rfl⟩
      have k5 : wr.cell? ⟨g, k * 6 + 5, none⟩ = some (.int .i64 x5) := by rw [ox.cellAt (k * 6 + 5) (by omega), iv_get (by omega), hx5]
      have m5 : wr.cell? ⟨g', k * 6 + 5, none⟩ = some (.int .i64 x5) := by rw [oy.cellAt (k * 6 + 5) (by omega), iv_get (by omega), hx5]
      have K0 := cell_regrown k0
      have M0 := cell_regrown m0
      have K1 := cell_regrown k1
      have M1 := cell_regrown m1
      have K2 := cell_regrown k2
      have M2 := cell_regrown m2
      have K3 := cell_regrown k3
      have M3 := cell_regrown m3
      have K4 := cell_regrown k4
      have M4 := cell_regrown m4
      have K5 := cell_regrown k5
      have M5 := cell_regrown m5
      have g1 : (k : Int) < (n : Int) := by omega
      have g0 : (0 : Int) ≤ (k : Int) := by omega
      clear ox oy hv hv' LX hx0 k0 m0 hx1 k1 m1 hx2 k2 m2 hx3 k3 m3 hx4 k4 m4 hx5 k5 m5
      go_wp2_with fail
      refine wp_region_quiet_below (by kernel_rfl) (by kernel_rfl) ?_; (repeat (quiet_step ((go_at_call 44; exact Calls.regrown_of (eqArc_any _ _ _ _ _ _ _))))); refine wpQuiet_nil ?_; intro wq hwq; obtain ⟨⟨dq, osq⟩, hwq2⟩ := hwq; have bq := below_of hwq2; clear hwq2
      clear K0 M0 K1 M1 K2 M2 K3 M3 K4 M4 K5 M5
      have HB1 := Lib.hid (HB.out.trans (bq.mono HB.out.size))
      clear bq
      go_wp2
      go_roundw
      case rel => exact ⟨k + 1, by omega, by go_num, HB1.out⟩
      case measure => simp [intOf]; omega
    · obtain rfl : k = n := by omega
      go_wp2
      go_ret
      exact ⟨rfl, HB.out⟩

set_option maxHeartbeats 2000000 in
theorem markArcS_any (B n : Nat) (v : Value) (xs : List Value) (k : Int) (w : World) (hx : w.ownsRow B 50 6 v n xs) (hn : n ≤ 1048576) (k0 : 0 ≤ k) (k1 : k ≤ 1000000000) :
    Calls Try.prog 16 #[v, .int .i64 k] w fun e w' => e = .returned (.int .i64 (k + (n : Int) * 6)) ∧ w'.ownsRow B 50 6 v n (iv (marks k (n * 6))) ∧ w.grownBy w' v.ownBlock := by
  obtain ⟨A, c, rfl⟩ := own_form hx
  have lx := Lib.hid hx.1
  have HX := Lib.hid hx
  clear hx
  go_enter Try.func16, Try.ntmps16
  go_wp2_with fail
  go_loopw [1, 5] (fun m i wr => ∃ j : Nat, j ≤ n ∧ m = .int .i64 (k + (j : Int) * 6) ∧ i = .int .i64 j ∧ wr.ownsRow B 50 6 (.slice A n c) n (mixL k (j * 6) xs) ∧ w.grownBy wr (Value.slice A n c).ownBlock) (fun _ i _ => n - (intOf i).toNat)
  case atStart => exact ⟨0, Nat.zero_le _, by simp, rfl, by rw [Nat.zero_mul, mix_zero]; exact HX.out, World.grownBy.refl _ _⟩
  case round =>
    obtain ⟨i, hi, rfl, rfl, ho, hg⟩ := hrel
    have HG := Lib.hid hg
    by_cases hlt : i < n
    · obtain ⟨g, cap, hv, _, _⟩ := ho.form (by omega)
      obtain ⟨rfl, rfl⟩ : A = some ⟨g, 0, none⟩ ∧ c = cap := by simpa using hv
      have LX := lx.out
      have lm : (mixL k (i * 6) xs).length = n * 6 := by have := ho.1; exact this
      have c0 : wr.cell? ⟨g, i * 6, none⟩ = some ((mixL k (i * 6) xs)[i * 6]'(by omega)) := by rw [ho.cellAt (i * 6) (by omega), List.getElem?_eq_getElem]
      have f0 : wr.frozen? ⟨g, i * 6, none⟩ = false := ho.frozenAt _
      obtain ⟨u0, hu0⟩ : ∃ u, (mixL k (i * 6) xs)[i * 6]'(by omega) = u := ⟨_, rfl⟩
      rw [hu0] at c0
      have c1 : wr.cell? ⟨g, i * 6 + 1, none⟩ = some ((mixL k (i * 6) xs)[i * 6 + 1]'(by omega)) := by rw [ho.cellAt (i * 6 + 1) (by omega), List.getElem?_eq_getElem]
      have f1 : wr.frozen? ⟨g, i * 6 + 1, none⟩ = false := ho.frozenAt _
      obtain ⟨u1, hu1⟩ : ∃ u, (mixL k (i * 6) xs)[i * 6 + 1]'(by omega) = u := ⟨_, rfl⟩
      rw [hu1] at c1
      have c2 : wr.cell? ⟨g, i * 6 + 2, none⟩ = some ((mixL k (i * 6) xs)[i * 6 + 2]'(by omega)) := by rw [ho.cellAt (i * 6 + 2) (by omega), List.getElem?_eq_getElem]
      have f2 : wr.frozen? ⟨g, i * 6 + 2, none⟩ = false := ho.frozenAt _
      obtain ⟨u2, hu2⟩ : ∃ u, (mixL k (i * 6) xs)[i * 6 + 2]'(by omega) = u := ⟨_, rfl⟩
      rw [hu2] at c2
      have c3 : wr.cell? ⟨g, i * 6 + 2 + 1, none⟩ = some ((mixL k (i * 6) xs)[i * 6 + 2 + 1]'(by omega)) := by rw [ho.cellAt (i * 6 + 2 + 1) (by omega), List.getElem?_eq_getElem]
      have f3 : wr.frozen? ⟨g, i * 6 + 2 + 1, none⟩ = false := ho.frozenAt _
      obtain ⟨u3, hu3⟩ : ∃ u, (mixL k (i * 6) xs)[i * 6 + 2 + 1]'(by omega) = u := ⟨_, rfl⟩
      rw [hu3] at c3
      have c4 : wr.cell? ⟨g, i * 6 + 4, none⟩ = some ((mixL k (i * 6) xs)[i * 6 + 4]'(by omega)) := by rw [ho.cellAt (i * 6 + 4) (by omega), List.getElem?_eq_getElem]
      have f4 : wr.frozen? ⟨g, i * 6 + 4, none⟩ = false := ho.frozenAt _
      obtain ⟨u4, hu4⟩ : ∃ u, (mixL k (i * 6) xs)[i * 6 + 4]'(by omega) = u := ⟨_, rfl⟩
      rw [hu4] at c4
      have c5 : wr.cell? ⟨g, i * 6 + 4 + 1, none⟩ = some ((mixL k (i * 6) xs)[i * 6 + 4 + 1]'(by omega)) := by rw [ho.cellAt (i * 6 + 4 + 1) (by omega), List.getElem?_eq_getElem]
      have f5 : wr.frozen? ⟨g, i * 6 + 4 + 1, none⟩ = false := ho.frozenAt _
      obtain ⟨u5, hu5⟩ : ∃ u, (mixL k (i * 6) xs)[i * 6 + 4 + 1]'(by omega) = u := ⟨_, rfl⟩
      rw [hu5] at c5
      have s0 := ho.stored (i * 6) (.int .i64 (k + (i : Int) * 6))
      rw [show (Value.int .i64 (k + (i : Int) * 6)) = .int .i64 (k + ((i * 6 : Nat) : Int)) by congr 1 <;> omega, mix_set (by have := lx.out; omega)] at s0
      rw [show (Value.int .i64 (k + ((i * 6 : Nat) : Int))) = .int .i64 (k + (i : Int) * 6) by congr 1 <;> omega] at s0
      have s1 := s0.1.stored (i * 6 + 1) (.int .i64 (k + (i : Int) * 6 + 1))
      rw [show (Value.int .i64 (k + (i : Int) * 6 + 1)) = .int .i64 (k + ((i * 6 + 1 : Nat) : Int)) by congr 1 <;> omega, mix_set (by have := lx.out; omega)] at s1
      rw [show (Value.int .i64 (k + ((i * 6 + 1 : Nat) : Int))) = .int .i64 (k + (i : Int) * 6 + 1) by congr 1 <;> omega] at s1
      have s2 := s1.1.stored (i * 6 + 2) (.int .i64 (k + (i : Int) * 6 + 1 + 1))
      rw [show (Value.int .i64 (k + (i : Int) * 6 + 1 + 1)) = .int .i64 (k + ((i * 6 + 2 : Nat) : Int)) by congr 1 <;> omega, mix_set (by have := lx.out; omega)] at s2
      rw [show (Value.int .i64 (k + ((i * 6 + 2 : Nat) : Int))) = .int .i64 (k + (i : Int) * 6 + 1 + 1) by congr 1 <;> omega] at s2
      have s3 := s2.1.stored (i * 6 + 2 + 1) (.int .i64 (k + (i : Int) * 6 + 1 + 1 + 1))
      rw [show (Value.int .i64 (k + (i : Int) * 6 + 1 + 1 + 1)) = .int .i64 (k + ((i * 6 + 2 + 1 : Nat) : Int)) by congr 1 <;> omega, mix_set (by have := lx.out; omega)] at s3
      rw [show (Value.int .i64 (k + ((i * 6 + 2 + 1 : Nat) : Int))) = .int .i64 (k + (i : Int) * 6 + 1 + 1 + 1) by congr 1 <;> omega] at s3
      have s4 := s3.1.stored (i * 6 + 4) (.int .i64 (k + (i : Int) * 6 + 1 + 1 + 1 + 1))
      rw [show (Value.int .i64 (k + (i : Int) * 6 + 1 + 1 + 1 + 1)) = .int .i64 (k + ((i * 6 + 4 : Nat) : Int)) by congr 1 <;> omega, mix_set (by have := lx.out; omega)] at s4
      rw [show (Value.int .i64 (k + ((i * 6 + 4 : Nat) : Int))) = .int .i64 (k + (i : Int) * 6 + 1 + 1 + 1 + 1) by congr 1 <;> omega] at s4
      have s5 := s4.1.stored (i * 6 + 4 + 1) (.int .i64 (k + (i : Int) * 6 + 1 + 1 + 1 + 1 + 1))
      rw [show (Value.int .i64 (k + (i : Int) * 6 + 1 + 1 + 1 + 1 + 1)) = .int .i64 (k + ((i * 6 + 4 + 1 : Nat) : Int)) by congr 1 <;> omega, mix_set (by have := lx.out; omega)] at s5
      rw [show (Value.int .i64 (k + ((i * 6 + 4 + 1 : Nat) : Int))) = .int .i64 (k + (i : Int) * 6 + 1 + 1 + 1 + 1 + 1) by congr 1 <;> omega] at s5
      have e6 := s5.1
      rw [show i * 6 + 1 + 1 + 1 + 1 + 1 + 1 = (i + 1) * 6 by omega] at e6
      have ST := Lib.hid e6
      have SG := Lib.hid (grown_tr HG.out (grown_tr s0.2 (grown_tr s1.2 (grown_tr s2.2 (grown_tr s3.2 (grown_tr s4.2 s5.2))))))
      have W1 : IntKind.i64.wrap (k + (i : Int) * 6 + 1) = k + (i : Int) * 6 + 1 := by rw [IntKind.wrap_i64]; omega
      clear e6 ho hg hv LX lm hu0 s0 hu1 s1 hu2 s2 hu3 s3 hu4 s4 hu5 s5 W1
      go_wp2
      go_roundw
      case rel => exact ⟨i + 1, by omega, by congr 1 <;> omega, by go_num, ST.out, SG.out⟩
      case measure => simp [intOf]; omega
    · obtain rfl : i = n := by omega
      have me := Lib.hid (mix_end (k := k) lx.out)
      have HR := Lib.hid ho
      clear ho hg
      go_wp2
      go_ret
      exact ⟨rfl, by rw [← me.out]; exact HR.out, HG.out⟩

set_option maxHeartbeats 2000000 in
theorem heldArcS_any (B n : Nat) (v : Value) (k : Int) (w : World) (hx : w.ownsRow B 50 6 v n (iv (marks k (n * 6)))) (hn : n ≤ 1048576) (k0 : 0 ≤ k) (k1 : k ≤ 1000000000) :
    Calls Try.prog 17 #[v, .int .i64 k] w fun e w' => e = .returned (.int .i64 (k + (n : Int) * 6)) ∧ w = w' := by
  obtain ⟨A, c, rfl⟩ := own_form hx
  have HX := Lib.hid hx
  clear hx
  go_enter Try.func17, Try.ntmps17
  go_wp2_with fail
  go_loop [1, 5] (fun m i => ∃ j : Nat, j ≤ n ∧ m = .int .i64 (k + (j : Int) * 6) ∧ i = .int .i64 j) (fun _ i => n - (intOf i).toNat)
  case atStart => exact ⟨0, Nat.zero_le _, by simp, rfl⟩
  case round =>
    obtain ⟨i, hi, rfl, rfl⟩ := hrel
    by_cases hlt : i < n
    · obtain ⟨g, cap, hv, _, _⟩ := HX.out.form (by omega)
      obtain ⟨rfl, rfl⟩ : A = some ⟨g, 0, none⟩ ∧ c = cap := by simpa using hv
      have c0 : w.cell? ⟨g, i * 6, none⟩ = some (.int .i64 (k + (i : Int) * 6)) := by
        rw [HX.out.cellAt (i * 6) (by omega), iv_get (by rw [marks_len]; omega), marks_at (by omega)]
        congr 2 <;> omega
      have c1 : w.cell? ⟨g, i * 6 + 1, none⟩ = some (.int .i64 (k + (i : Int) * 6 + 1)) := by
        rw [HX.out.cellAt (i * 6 + 1) (by omega), iv_get (by rw [marks_len]; omega), marks_at (by omega)]
        congr 2 <;> omega
      have c2 : w.cell? ⟨g, i * 6 + 2, none⟩ = some (.int .i64 (k + (i : Int) * 6 + 2)) := by
        rw [HX.out.cellAt (i * 6 + 2) (by omega), iv_get (by rw [marks_len]; omega), marks_at (by omega)]
        congr 2 <;> omega
      have c3 : w.cell? ⟨g, i * 6 + 3, none⟩ = some (.int .i64 (k + (i : Int) * 6 + 3)) := by
        rw [HX.out.cellAt (i * 6 + 3) (by omega), iv_get (by rw [marks_len]; omega), marks_at (by omega)]
        congr 2 <;> omega
      have c4 : w.cell? ⟨g, i * 6 + 4, none⟩ = some (.int .i64 (k + (i : Int) * 6 + 4)) := by
        rw [HX.out.cellAt (i * 6 + 4) (by omega), iv_get (by rw [marks_len]; omega), marks_at (by omega)]
        congr 2 <;> omega
      have c5 : w.cell? ⟨g, i * 6 + 5, none⟩ = some (.int .i64 (k + (i : Int) * 6 + 5)) := by
        rw [HX.out.cellAt (i * 6 + 5) (by omega), iv_get (by rw [marks_len]; omega), marks_at (by omega)]
        congr 2 <;> omega
      clear hv
      go_wp2
      go_round
      case rel => exact ⟨i + 1, by omega, by congr 1 <;> omega, by go_num⟩
      case measure => simp [intOf]; omega
    · obtain rfl : i = n := by omega
      go_wp2
      go_ret
      exact ⟨rfl, rfl⟩
end Go.Proofs.Ytfnlnkfihldoeaa
