/- Does a place lie at the edge? Both texts. -/
import Derived.Test.YtfmbmgdemdbpaaaPlaces
namespace Go.Proofs.Ytfmbmgdemdbpaaa
open Go.RowKit Go.Sort

def edgeB (n m i k : Nat) : Bool := decide (i = 0 ∨ k = 0 ∨ i + 1 = n ∨ k + 1 = m)

set_option maxHeartbeats 2000000 in
theorem edge_any (ad : Addr) (n m c b i k : Nat) (Z : List (List Int)) (w : World) (hM : Mat w b ad n m Z) (hb0 : b ≤ w.heap.size) (hi : i < n) (hk : k < m) :
    Calls Try.prog 15 #[.agg #[.int .i64 i, .int .i64 k], .slice (some ad) n c] w fun e w' => e = .returned (.bool (edgeB n m i k)) ∧ Below w.heap.size w w' := by
  obtain ⟨ai, ci, r1, r2, r3⟩ := hM.rows 0 (by omega)
  have n2 := hM.n2
  have m2 := hM.m2
  have bl := Nat.lt_of_lt_of_le hM.blk hb0
  have c1 : (w.alloc (.cells #[.int .i64 (i : Int), .int .i64 (k : Int)] 34)).cell? ad = some (.slice (some ai) m ci) := (World.cell?_alloc_lt w _ _ bl).trans (by simpa [Addr.add] using r1)
  have q0 : (0 : Int) < (n : Int) := by omega
  have e1 : IntKind.i64.wrap ((n : Int) - 1) = (n : Int) - 1 := by rw [IntKind.wrap_i64]; omega
  have e2 : IntKind.i64.wrap ((m : Int) - 1) = (m : Int) - 1 := by rw [IntKind.wrap_i64]; omega
  clear r1 r3
  by_cases h1 : i = 0
  · have hr := Lib.hid (show edgeB n m i k = true by simp [edgeB, h1])
    have z1 : ((i : Int) == 0) = true := by rw [beq_iff_eq]; omega
    clear h1
    go_enter Try.func15, Try.ntmps15
    go_wp2_with fail
    go_quiet (fail)
    go_wp2
    go_ret
    exact ⟨ret_bool hr.out.symm, below_drewN ((Below.refl _ _).alloc (Nat.le_refl _) _) _⟩
  have z1 : ((i : Int) == 0) = false := by rw [beq_eq_false_iff_ne]; omega
  by_cases h2 : k = 0
  · have hr := Lib.hid (show edgeB n m i k = true by simp [edgeB, h2])
    have z2 : ((k : Int) == 0) = true := by rw [beq_iff_eq]; omega
    clear h1 h2
    go_enter Try.func15, Try.ntmps15
    go_wp2_with fail
    go_quiet (fail)
    go_wp2
    go_ret
    exact ⟨ret_bool hr.out.symm, below_drewN ((Below.refl _ _).alloc (Nat.le_refl _) _) _⟩
  have z2 : ((k : Int) == 0) = false := by rw [beq_eq_false_iff_ne]; omega
  by_cases h3 : i + 1 = n
  · have hr := Lib.hid (show edgeB n m i k = true by simp [edgeB, h3])
    have z3 : ((i : Int) == (n : Int) - 1) = true := by rw [beq_iff_eq]; omega
    clear h1 h2 h3
    go_enter Try.func15, Try.ntmps15
    go_wp2_with fail
    go_quiet (fail)
    go_wp2
    go_ret
    exact ⟨ret_bool hr.out.symm, below_drewN ((Below.refl _ _).alloc (Nat.le_refl _) _) _⟩
  have z3 : ((i : Int) == (n : Int) - 1) = false := by rw [beq_eq_false_iff_ne]; omega
  by_cases h4 : k + 1 = m
  · have hr := Lib.hid (show edgeB n m i k = true by simp [edgeB, h4])
    have z4 : ((k : Int) == (m : Int) - 1) = true := by rw [beq_iff_eq]; omega
    clear h1 h2 h3 h4
    go_enter Try.func15, Try.ntmps15
    go_wp2_with fail
    go_quiet (fail)
    go_wp2
    go_ret
    exact ⟨ret_bool hr.out.symm, below_drewN ((Below.refl _ _).alloc (Nat.le_refl _) _) _⟩
  · have hr := Lib.hid (show edgeB n m i k = false by simp [edgeB, h1, h2, h3, h4])
    have z4 : ((k : Int) == (m : Int) - 1) = false := by rw [beq_eq_false_iff_ne]; omega
    clear h1 h2 h3 h4
    go_enter Try.func15, Try.ntmps15
    go_wp2_with fail
    go_quiet (fail)
    go_wp2
    go_ret
    exact ⟨ret_bool hr.out.symm, below_drewN ((Below.refl _ _).alloc (Nat.le_refl _) _) _⟩

set_option maxHeartbeats 2000000 in
theorem l07Edge_any (ad : Addr) (n m c b i k : Nat) (Z : List (List Int)) (w : World) (hM : Mat w b ad n m Z) (hi : i < n) :
    Calls Try.prog 23 #[.slice (some ad) n c, .int .i64 i, .int .i64 k] w fun e w' => e = .returned (.bool (edgeB n m i k)) ∧ w = w' := by
  obtain ⟨ai, ci, r1, r2, r3⟩ := hM.rows i hi
  have n2 := hM.n2
  have m2 := hM.m2
  have q0 : (i : Int) < (n : Int) := by omega
  clear r3
  by_cases h1 : i = 0
  · have hr := Lib.hid (show edgeB n m i k = true by simp [edgeB, h1])
    have z1 : ((i : Int) == 0) = true := by rw [beq_iff_eq]; omega
    clear h1
    go_enter Try.func23, Try.ntmps23
    go_wp2
    go_ret
    exact ⟨ret_bool hr.out.symm, rfl⟩
  have z1 : ((i : Int) == 0) = false := by rw [beq_eq_false_iff_ne]; omega
  by_cases h2 : k = 0
  · have hr := Lib.hid (show edgeB n m i k = true by simp [edgeB, h2])
    have z2 : ((k : Int) == 0) = true := by rw [beq_iff_eq]; omega
    clear h1 h2
    go_enter Try.func23, Try.ntmps23
    go_wp2
    go_ret
    exact ⟨ret_bool hr.out.symm, rfl⟩
  have z2 : ((k : Int) == 0) = false := by rw [beq_eq_false_iff_ne]; omega
  by_cases h3 : i + 1 = n
  · have hr := Lib.hid (show edgeB n m i k = true by simp [edgeB, h3])
    have z3 : ((i : Int) == (n : Int) - 1) = true := by rw [beq_iff_eq]; omega
    clear h1 h2 h3
    go_enter Try.func23, Try.ntmps23
    go_wp2
    go_ret
    exact ⟨ret_bool hr.out.symm, rfl⟩
  have z3 : ((i : Int) == (n : Int) - 1) = false := by rw [beq_eq_false_iff_ne]; omega
  by_cases h4 : k + 1 = m
  · have hr := Lib.hid (show edgeB n m i k = true by simp [edgeB, h4])
    have z4 : ((k : Int) == (m : Int) - 1) = true := by rw [beq_iff_eq]; omega
    clear h1 h2 h3 h4
    go_enter Try.func23, Try.ntmps23
    go_wp2
    go_ret
    exact ⟨ret_bool hr.out.symm, rfl⟩
  · have hr := Lib.hid (show edgeB n m i k = false by simp [edgeB, h1, h2, h3, h4])
    have z4 : ((k : Int) == (m : Int) - 1) = false := by rw [beq_eq_false_iff_ne]; omega
    clear h1 h2 h3 h4
    go_enter Try.func23, Try.ntmps23
    go_wp2
    go_ret
    exact ⟨ret_bool hr.out.symm, rfl⟩
end Go.Proofs.Ytfmbmgdemdbpaaa
