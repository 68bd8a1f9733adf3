/- Planks: pieces and cuts, and the reference's gap. -/
import Derived.Test.YtfmbmgdemdbpaaaGreatDoorPlankB
namespace Go.Proofs.YtfmbmgdemdbpaaaGreatDoor
open Go.RowKit Go.Sort

def cutB (p : Pl) (a b c : Int) : Bool := decide (a ≤ p.l) && (decide (b ≤ p.wd) && decide (c ≤ p.t))

theorem cuts_any (p : Pl) (a b c : Int) (w : World) :
    Calls Tryz.prog 35 #[.agg #[.string p.id, .int .i64 p.l, .int .i64 p.wd, .int .i64 p.t, .int .i64 p.m, .int .i64 p.r], .int .i64 a, .int .i64 b, .int .i64 c] w
      fun e w' => e = .returned (.bool (cutB p a b c)) ∧ Below w.heap.size w w' := by
  by_cases h1 : a ≤ p.l <;> by_cases h2 : b ≤ p.wd <;> by_cases h3 : c ≤ p.t
  all_goals
    have hr := Lib.hid (show cutB p a b c = (decide (a ≤ p.l) && (decide (b ≤ p.wd) && decide (c ≤ p.t))) from rfl)
    go_enter Tryz.func35, Tryz.ntmps35
    go_wp2
    go_ret
    exact ⟨ret_bool (by rw [hr.out]; simp [*]), (Below.refl _ _).alloc (Nat.le_refl _) _⟩

theorem l03Piece_any (a b c : Int) (w : World) :
    Calls Tryz.prog 36 #[.int .i64 a, .int .i64 b, .int .i64 c] w fun e w' => e = .returned (.bool (pieceB a b c)) ∧ w = w' := by
  cases h1 : inB a 1 2000
  · go_enter Tryz.func36, Tryz.ntmps36
    go_wp2_with (go_at_call 49; refine (l03Size_any _ _).mono ?_; rintro e w' ⟨rfl, rfl⟩)
    go_ret
    exact ⟨ret_bool (by simp [pieceB, h1]), rfl⟩
  · cases h2 : inB b 1 2000 <;> cases h3 : inB c 1 2000
    all_goals
      go_enter Tryz.func36, Tryz.ntmps36
      go_wp2_with (go_at_call 49; refine (l03Size_any _ _).mono ?_; rintro e w' ⟨rfl, rfl⟩)
      go_ret
      exact ⟨ret_bool (by simp [pieceB, h1, h2, h3]), rfl⟩

theorem l03Fits_any (p : Pl) (a b c : Int) (g o : Nat) (w : World) (ha : At w g o p) :
    Calls Tryz.prog 37 #[.pointer (some ⟨g, o, none⟩), .int .i64 a, .int .i64 b, .int .i64 c] w fun e w' => e = .returned (.bool (cutB p a b c)) ∧ w = w' := by
  obtain ⟨c0, c1, c2, c3, c4, c5, hs⟩ := ha
  by_cases h1 : a ≤ p.l <;> by_cases h2 : b ≤ p.wd <;> by_cases h3 : c ≤ p.t
  all_goals
    have hr := Lib.hid (show cutB p a b c = (decide (a ≤ p.l) && (decide (b ≤ p.wd) && decide (c ≤ p.t))) from rfl)
    go_enter Tryz.func37, Tryz.ntmps37
    go_wp2
    go_ret
    exact ⟨ret_bool (by rw [hr.out]; simp [*]), rfl⟩
end Go.Proofs.YtfmbmgdemdbpaaaGreatDoor
