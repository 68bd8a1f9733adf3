/- Planks: what is valid, and the plain numbers of a plank; the contracts of the small functions on planks. -/
import Derived.Test.YtfmbmgdemdbpaaaGreatDoorDiv
import Derived.Test.YtfmbmgdemdbpaaaGreatDoorName
import Derived.Below
namespace Go.Proofs.YtfmbmgdemdbpaaaGreatDoor
open Go.RowKit

/-- a plank, as plain data -/
structure Pl where
  id : ByteArray
  l : Int
  wd : Int
  t : Int
  m : Int
  r : Int
def pieceB (l wd t : Int) : Bool := inB l 1 2000 && (inB wd 1 2000 && inB t 1 2000)
def validB (p : Pl) : Bool := nameB p.id.data.toList && (pieceB p.l p.wd p.t && (inB p.m 1 100000 && inB p.r 1 500))
/-- what a list of sizes leaves of a budget -/
def lessI (n k : Int) : Int := if n < k then -1 else n - k
/-- the plank's cells -/
structure At (w : World) (b o : Nat) (p : Pl) : Prop where
  c0 : w.cell? ⟨b, o, none⟩ = some (.string p.id)
  c1 : w.cell? ⟨b, o + 1, none⟩ = some (.int .i64 p.l)
  c2 : w.cell? ⟨b, o + 2, none⟩ = some (.int .i64 p.wd)
  c3 : w.cell? ⟨b, o + 3, none⟩ = some (.int .i64 p.t)
  c4 : w.cell? ⟨b, o + 4, none⟩ = some (.int .i64 p.m)
  c5 : w.cell? ⟨b, o + 5, none⟩ = some (.int .i64 p.r)
  sz : p.id.size ≤ maxLen
theorem At.below {w w' : World} {B b o : Nat} {p : Pl} (h : At w b o p) (hb : Below B w w') (hlt : b < B) : At w' b o p :=
  ⟨(hb.cell (p := ⟨b, _, none⟩) hlt).trans h.c0, (hb.cell (p := ⟨b, _, none⟩) hlt).trans h.c1, (hb.cell (p := ⟨b, _, none⟩) hlt).trans h.c2, (hb.cell (p := ⟨b, _, none⟩) hlt).trans h.c3,
    (hb.cell (p := ⟨b, _, none⟩) hlt).trans h.c4, (hb.cell (p := ⟨b, _, none⟩) hlt).trans h.c5, h.sz⟩

structure Fits (p : Pl) : Prop where
  l1 : 1 ≤ p.l
  l2 : p.l ≤ 2000
  w1 : 1 ≤ p.wd
  w2 : p.wd ≤ 2000
  t1 : 1 ≤ p.t
  t2 : p.t ≤ 2000
  m1 : 1 ≤ p.m
  m2 : p.m ≤ 100000
  r1 : 1 ≤ p.r
  r2 : p.r ≤ 500
theorem validB_fits {p : Pl} (h : validB p = true) : Fits p := by
  simp only [validB, pieceB, Bool.and_eq_true] at h
  obtain ⟨-, ⟨h1, h2, h3⟩, h4, h5⟩ := h
  have a := inB_t h1
  have b := inB_t h2
  have c := inB_t h3
  have d := inB_t h4
  have e := inB_t h5
  exact ⟨a.1, a.2, b.1, b.2, c.1, c.2, d.1, d.2, e.1, e.2⟩
theorem area_bd {a b : Int} (a1 : 1 ≤ a) (a2 : a ≤ 2000) (b1 : 1 ≤ b) (b2 : b ≤ 2000) : 1 ≤ a * b ∧ a * b ≤ 4000000 := by
  have h1 : 1 * 1 ≤ a * b := Int.mul_le_mul a1 b1 (by omega) (by omega)
  have h2 : a * b ≤ 2000 * 2000 := Int.mul_le_mul a2 b2 (by omega) (by omega)
  omega
theorem vol_bd {a b c : Int} (a1 : 1 ≤ a) (a2 : a ≤ 2000) (b1 : 1 ≤ b) (b2 : b ≤ 2000) (c1 : 1 ≤ c) (c2 : c ≤ 2000) : 1 ≤ a * b * c ∧ a * b * c ≤ 8000000000 := by
  have h := area_bd a1 a2 b1 b2
  have h1 : 1 * 1 ≤ a * b * c := Int.mul_le_mul h.1 c1 (by omega) (by omega)
  have h2 : a * b * c ≤ 4000000 * 2000 := Int.mul_le_mul h.2 c2 (by omega) (by omega)
  omega
/-- the density, the width of the rings -/
def dens (p : Pl) : Int := rnd (1000000 * p.m) (p.l * p.wd * p.t)
def ring (p : Pl) : Int := rnd (100 * p.wd) p.r
theorem dens_bd {p : Pl} (h : Fits p) : -100000000001 ≤ dens p ∧ dens p ≤ 100000000001 := by
  have v := vol_bd h.l1 h.l2 h.w1 h.w2 h.t1 h.t2
  have := h.m1
  have := h.m2
  have := rnd_bd (1000000 * p.m) (p.l * p.wd * p.t) 100000000000 (by omega) (by omega) (by omega)
  unfold dens; omega
theorem ring_bd {p : Pl} (h : Fits p) : -200001 ≤ ring p ∧ ring p ≤ 200001 := by
  have := h.w1
  have := h.w2
  have := h.r1
  have := rnd_bd (100 * p.wd) p.r 200000 (by omega) (by omega) (by omega)
  unfold ring; omega
def distI (a b : Int) : Int := if a < b then b - a else a - b
theorem distI_bd {a b m : Int} (a1 : -m ≤ a) (a2 : a ≤ m) (b1 : -m ≤ b) (b2 : b ≤ m) : 0 ≤ distI a b ∧ distI a b ≤ 2 * m := by unfold distI; split <;> omega
def gapI (p q : Pl) : Int := distI (dens p) (dens q) + distI (ring p) (ring q)

/-! ## The program's -/
theorem isPiece_any (a b c : Int) (w : World) :
    Calls Tryz.prog 34 #[.int .i64 a, .int .i64 b, .int .i64 c] w fun e w' => e = .returned (.bool (pieceB a b c)) ∧ w = w' := by
  cases h1 : inB a 1 2000
  · go_enter Tryz.func34, Tryz.ntmps34
    go_wp2_with (go_at_call 41; refine (within_any _ _ _ _).mono ?_; rintro e w' ⟨rfl, rfl⟩)
    go_ret
    exact ⟨ret_bool (by simp [pieceB, h1]), rfl⟩
  · cases h2 : inB b 1 2000 <;> cases h3 : inB c 1 2000
    all_goals
      go_enter Tryz.func34, Tryz.ntmps34
      go_wp2_with (go_at_call 41; refine (within_any _ _ _ _).mono ?_; rintro e w' ⟨rfl, rfl⟩)
      go_ret
      exact ⟨ret_bool (by simp [pieceB, h1, h2, h3]), rfl⟩

theorem is_of {P : Program} {f : FuncId} {args : Array Value} {w : World} {b c : Bool} (h : Calls P f args w fun e w' => e = .returned (.bool b) ∧ w = w') (hb : b = c) :
    Calls P f args w fun e w' => e = .returned (.bool c) ∧ w = w' := by rw [← hb]; exact h

theorem ValidPlank_any (p : Pl) (w : World) (hs : p.id.size ≤ maxLen) :
    Calls Tryz.prog 25 #[.agg #[.string p.id, .int .i64 p.l, .int .i64 p.wd, .int .i64 p.t, .int .i64 p.m, .int .i64 p.r]] w
      fun e w' => e = .returned (.bool (validB p)) ∧ Below w.heap.size w w' := by
  cases h1 : nameB p.id.data.toList
  · have hr := Lib.hid (show validB p = false by simp [validB, h1])
    go_enter Tryz.func25, Tryz.ntmps25
    go_wp2_with (go_at_call 40; refine (is_of (IsName_any _ _ hs) h1).mono ?_; rintro e w' ⟨rfl, rfl⟩)
    go_ret
    exact ⟨ret_bool hr.out.symm, (Below.refl _ _).alloc (Nat.le_refl _) _⟩
  · cases h2 : pieceB p.l p.wd p.t
    · have hr := Lib.hid (show validB p = false by simp [validB, h2])
      go_enter Tryz.func25, Tryz.ntmps25
      go_wp2_with (first | (go_at_call 40; refine (is_of (IsName_any _ _ hs) h1).mono ?_; rintro e w' ⟨rfl, rfl⟩) | (go_at_call 34; refine (is_of (isPiece_any _ _ _ _) h2).mono ?_; rintro e w' ⟨rfl, rfl⟩))
      go_ret
      exact ⟨ret_bool hr.out.symm, (Below.refl _ _).alloc (Nat.le_refl _) _⟩
    · cases h3 : inB p.m 1 100000 <;> cases h4 : inB p.r 1 500
      all_goals
        have hr := Lib.hid (show validB p = (inB p.m 1 100000 && inB p.r 1 500) by simp [validB, h1, h2])
        go_enter Tryz.func25, Tryz.ntmps25
        go_wp2_with (first | (go_at_call 40; refine (is_of (IsName_any _ _ hs) h1).mono ?_; rintro e w' ⟨rfl, rfl⟩) | (go_at_call 34; refine (is_of (isPiece_any _ _ _ _) h2).mono ?_; rintro e w' ⟨rfl, rfl⟩) | (go_at_call 41; refine (within_any _ _ _ _).mono ?_; rintro e w' ⟨rfl, rfl⟩))
        go_ret
        exact ⟨ret_bool (by rw [hr.out, h3, h4]; rfl), (Below.refl _ _).alloc (Nat.le_refl _) _⟩

/-! ## The reference's -/
theorem l03Size_any (n : Int) (w : World) :
    Calls Tryz.prog 49 #[.int .i64 n] w fun e w' => e = .returned (.bool (inB n 1 2000)) ∧ w = w' := by
  go_enter Tryz.func49, Tryz.ntmps49
  go_wp2_with (go_at_call 50; refine (in_any _ _ _ _).mono ?_; rintro e w' ⟨rfl, rfl⟩)
  go_ret
  exact ⟨rfl, rfl⟩

theorem l03One_any (p : Pl) (b o : Nat) (w : World) (ha : At w b o p) :
    Calls Tryz.prog 32 #[.pointer (some ⟨b, o, none⟩)] w fun e w' => e = .returned (.bool (validB p)) ∧ w = w' := by
  obtain ⟨c0, c1, c2, c3, c4, c5, hs⟩ := ha
  cases h1 : nameB p.id.data.toList
  · have hr := Lib.hid (show validB p = false by simp [validB, h1])
    go_enter Tryz.func32, Tryz.ntmps32
    go_wp2_with (go_at_call 48; refine (is_of (l01Name_any _ _ hs) h1).mono ?_; rintro e w' ⟨rfl, rfl⟩)
    go_ret
    exact ⟨ret_bool hr.out.symm, rfl⟩
  · cases h2 : inB p.l 1 2000
    · have hr := Lib.hid (show validB p = false by simp [validB, pieceB, h2])
      go_enter Tryz.func32, Tryz.ntmps32
      go_wp2_with (first | (go_at_call 48; refine (is_of (l01Name_any _ _ hs) h1).mono ?_; rintro e w' ⟨rfl, rfl⟩) | (go_at_call 49; refine (l03Size_any _ _).mono ?_; rintro e w' ⟨rfl, rfl⟩) | (go_at_call 50; refine (in_any _ _ _ _).mono ?_; rintro e w' ⟨rfl, rfl⟩))
      go_ret
      exact ⟨ret_bool hr.out.symm, rfl⟩
    · cases h3 : inB p.wd 1 2000
      · have hr := Lib.hid (show validB p = false by simp [validB, pieceB, h3])
        go_enter Tryz.func32, Tryz.ntmps32
        go_wp2_with (first | (go_at_call 48; refine (is_of (l01Name_any _ _ hs) h1).mono ?_; rintro e w' ⟨rfl, rfl⟩) | (go_at_call 49; refine (l03Size_any _ _).mono ?_; rintro e w' ⟨rfl, rfl⟩) | (go_at_call 50; refine (in_any _ _ _ _).mono ?_; rintro e w' ⟨rfl, rfl⟩))
        go_ret
        exact ⟨ret_bool hr.out.symm, rfl⟩
      · cases h4 : inB p.t 1 2000
        · have hr := Lib.hid (show validB p = false by simp [validB, pieceB, h4])
          go_enter Tryz.func32, Tryz.ntmps32
          go_wp2_with (first | (go_at_call 48; refine (is_of (l01Name_any _ _ hs) h1).mono ?_; rintro e w' ⟨rfl, rfl⟩) | (go_at_call 49; refine (l03Size_any _ _).mono ?_; rintro e w' ⟨rfl, rfl⟩) | (go_at_call 50; refine (in_any _ _ _ _).mono ?_; rintro e w' ⟨rfl, rfl⟩))
          go_ret
          exact ⟨ret_bool hr.out.symm, rfl⟩
        · cases h5 : inB p.m 1 100000 <;> cases h6 : inB p.r 1 500
          all_goals
            have hr := Lib.hid (show validB p = (inB p.m 1 100000 && inB p.r 1 500) by simp [validB, pieceB, h1, h2, h3, h4])
            go_enter Tryz.func32, Tryz.ntmps32
            go_wp2_with (first | (go_at_call 48; refine (is_of (l01Name_any _ _ hs) h1).mono ?_; rintro e w' ⟨rfl, rfl⟩) | (go_at_call 49; refine (l03Size_any _ _).mono ?_; rintro e w' ⟨rfl, rfl⟩) | (go_at_call 50; refine (in_any _ _ _ _).mono ?_; rintro e w' ⟨rfl, rfl⟩))
            go_ret
            exact ⟨ret_bool (by rw [hr.out, h5, h6]; rfl), rfl⟩

/-- the plank's box, just laid -/
theorem at_new (p : Pl) (w : World) (T : TypeId) (hs : p.id.size ≤ maxLen) : At (w.alloc (.cells #[.string p.id, .int .i64 p.l, .int .i64 p.wd, .int .i64 p.t, .int .i64 p.m, .int .i64 p.r] T)) w.heap.size 0 p := by
  refine ⟨?_, ?_, ?_, ?_, ?_, ?_, hs⟩ <;> exact (cell_of_row _ _ _ _ _ _ (heap_alloc_new w _))

/-- what a law knows of its boxed plank, call after call: nothing old has turned; the box reads as it did -/
structure Keeps (W : World) (b : Nat) (p : Pl) (w : World) : Prop where
  old : Below W.heap.size W w
  lt : b < w.heap.size
  at_ : At w b 0 p
theorem Keeps.start (W : World) (p : Pl) (T : TypeId) (hs : p.id.size ≤ maxLen) : Keeps W W.heap.size p (W.alloc (.cells #[.string p.id, .int .i64 p.l, .int .i64 p.wd, .int .i64 p.t, .int .i64 p.m, .int .i64 p.r] T)) :=
  ⟨(Below.refl _ _).alloc (Nat.le_refl _) _, by simp, at_new p W T hs⟩
theorem Keeps.step {W w w' : World} {b : Nat} {p : Pl} (h : Keeps W b p w) (hb : Below w.heap.size w w') : Keeps W b p w' :=
  ⟨h.old.trans (hb.mono h.old.size), Nat.lt_of_lt_of_le h.lt hb.size, h.at_.below hb h.lt⟩
theorem Keeps.cells {W w : World} {b : Nat} {p : Pl} (h : Keeps W b p w) : w.cell? ⟨b, 0, none⟩ = some (.string p.id) ∧ w.cell? ⟨b, 1, none⟩ = some (.int .i64 p.l) ∧ w.cell? ⟨b, 2, none⟩ = some (.int .i64 p.wd) ∧
    w.cell? ⟨b, 3, none⟩ = some (.int .i64 p.t) ∧ w.cell? ⟨b, 4, none⟩ = some (.int .i64 p.m) ∧ w.cell? ⟨b, 5, none⟩ = some (.int .i64 p.r) :=
  ⟨h.at_.c0, by simpa using h.at_.c1, by simpa using h.at_.c2, by simpa using h.at_.c3, by simpa using h.at_.c4, by simpa using h.at_.c5⟩


end Go.Proofs.YtfmbmgdemdbpaaaGreatDoor
