/- ClockText, LapText: what the program and the reference write. -/
import Derived.Test.YtemloifpcjphkaaDoorPadded
namespace Go.Proofs.YtemloifpcjphkaaDoor
open Go.RowKit Go.Sort

theorem pad2_any (n : Int) (w : World) (n0 : 0 ≤ n) (n1 : n ≤ 9223372036854775807) (tab : PowTab w) :
    Calls Tryd.prog 36 #[.int .i64 n, .int .i64 2] w fun e w' => e = .returned (.string ⟨(two n).toArray⟩) ∧ Below w.heap.size w w' := by
  have := padded_any n.toNat 2 w (by omega) (by omega) tab
  rw [show ((n.toNat : Nat) : Int) = n by omega] at this
  exact this
theorem str_size (l : List UInt8) : (⟨l.toArray⟩ : ByteArray).size = l.length := by simp [ByteArray.size]
theorem itoa_len20 {n : Int} (h0 : -9223372036854775808 ≤ n) (h1 : n ≤ 9223372036854775807) : (Lib.itoa n).length ≤ 21 := Lib.itoa_length_le n h0 h1
theorem two_len_le {n : Int} (h0 : 0 ≤ n) (h1 : n ≤ 9223372036854775807) : (two n).length ≤ 21 := by
  by_cases h : n < 10
  · rw [two_len (by omega)]; omega
  · rw [two_big (by omega)]; exact itoa_len20 (by omega) h1

theorem is_of {P : Program} {f : FuncId} {args : Array Value} {w : World} {b c : Bool} (h : Calls P f args w fun e w' => e = .returned (.bool b) ∧ w = w') (hb : b = c) : Calls P f args w fun e w' => e = .returned (.bool c) ∧ w = w' := by rwa [hb] at h
def clockX (m : Int) : List UInt8 := if inB m 0 1439 then clockT m else []
def lapX (m : Int) : List UInt8 := if inB m 0 1000000000 then lapT m else []

set_option maxHeartbeats 800000 in
theorem implClockText_any (m : Int) (w : World) (tab : PowTab w) :
    Calls Tryd.prog 14 #[.int .i64 m] w fun e w' => e = .returned (.string ⟨(clockX m).toArray⟩) ∧ Below w.heap.size w w' := by
  cases h : inB m 0 1439
  · have HR := Lib.hid (show clockX m = [] by rw [clockX, h]; rfl)
    go_enter Tryd.func14, Tryd.ntmps14
    go_wp2_with fail
    refine (is_of (within_any _ _ _ _) h).mono ?_
    rintro e w' ⟨rfl, rfl⟩
    go_wp2
    go_ret
    exact ⟨ret_str HR.out.symm, Below.refl _ _⟩
  · have b := inB_t h
    have HR := Lib.hid (show clockX m = clockT m by rw [clockX, h]; rfl)
    have TB := Lib.hid tab
    have F1 := Lib.hid (fun W ht => pad2_any (m / 60) W (by omega) (by omega) ht)
    have F2 := Lib.hid (fun W ht => pad2_any (m % 60) W (by omega) (by omega) ht)
    have s1 := (str_size (two (m / 60))).trans (two_len (by omega))
    have s2 := (str_size (two (m % 60))).trans (two_len (by omega))
    have e1 : (⟨(two (m / 60)).toArray⟩ : ByteArray) ++ ⟨#[58]⟩ ++ ⟨(two (m % 60)).toArray⟩ = ⟨(clockT m).toArray⟩ := by
      rw [show (⟨#[58]⟩ : ByteArray) = ⟨([58] : List UInt8).toArray⟩ from rfl, str_app, str_app, List.append_assoc]; rfl
    obtain ⟨x, hx⟩ : ∃ x, (⟨(two (m / 60)).toArray⟩ : ByteArray) = x := ⟨_, rfl⟩
    obtain ⟨y, hy⟩ : ∃ y, (⟨(two (m % 60)).toArray⟩ : ByteArray) = y := ⟨_, rfl⟩
    rw [hx] at F1 s1 e1
    rw [hy] at F2 s2 e1
    have c1 := fun W => run_string_add_sum (P := Tryd.prog) W x ⟨#[58]⟩ (by show x.size + 1 ≤ _; omega)
    obtain ⟨u, hu⟩ : ∃ u, x ++ (⟨#[58]⟩ : ByteArray) = u := ⟨_, rfl⟩
    have us : u.size ≤ 30 := by rw [← hu, ByteArray.size_append']; show x.size + 1 ≤ 30; omega
    rw [hu] at c1 e1
    have c2 := fun W => run_string_add_sum (P := Tryd.prog) W u y (by omega)
    obtain ⟨v, hv⟩ : ∃ v, u ++ y = v := ⟨_, rfl⟩
    rw [hv] at c2 e1
    have E1 := Lib.hid e1
    clear hx hy hu hv us s1 s2 e1
    clear tab
    go_enter Tryd.func14, Tryd.ntmps14
    go_wp2_with fail
    refine (is_of (within_any _ _ _ _) h).mono ?_
    rintro e w' ⟨rfl, rfl⟩
    go_wp2_with fail
    refine (F1.out w TB.out).mono ?_
    rintro e w1 ⟨rfl, b1⟩
    have B1 := Lib.hid b1
    clear b1
    go_wp2_with fail
    refine (F2.out w1 (tab_below TB.out B1.out)).mono ?_
    rintro e w2 ⟨rfl, b2⟩
    have B2 := Lib.hid (B1.out.trans (b2.mono B1.out.size))
    clear b2
    go_wp2
    go_ret
    exact ⟨by rw [HR.out, E1.out]; rfl, B2.out⟩

set_option maxHeartbeats 800000 in
theorem l02Clock_any (m : Int) (w : World) (b : 0 ≤ m ∧ m ≤ 1439) :
    Calls Tryd.prog 34 #[.int .i64 m] w fun e w' => e = .returned (.string ⟨(clockT m).toArray⟩) ∧ Below w.heap.size w w' := by
    have F1 := Lib.hid (fun W => two_any (m / 60) W (by omega) (by omega))
    have F2 := Lib.hid (fun W => two_any (m % 60) W (by omega) (by omega))
    have s1 := (str_size (two (m / 60))).trans (two_len (by omega))
    have s2 := (str_size (two (m % 60))).trans (two_len (by omega))
    have e1 : (⟨(two (m / 60)).toArray⟩ : ByteArray) ++ ⟨#[58]⟩ ++ ⟨(two (m % 60)).toArray⟩ = ⟨(clockT m).toArray⟩ := by
      rw [show (⟨#[58]⟩ : ByteArray) = ⟨([58] : List UInt8).toArray⟩ from rfl, str_app, str_app, List.append_assoc]; rfl
    obtain ⟨x, hx⟩ : ∃ x, (⟨(two (m / 60)).toArray⟩ : ByteArray) = x := ⟨_, rfl⟩
    obtain ⟨y, hy⟩ : ∃ y, (⟨(two (m % 60)).toArray⟩ : ByteArray) = y := ⟨_, rfl⟩
    rw [hx] at F1 s1 e1
    rw [hy] at F2 s2 e1
    have c1 := fun W => run_string_add_sum (P := Tryd.prog) W x ⟨#[58]⟩ (by show x.size + 1 ≤ _; omega)
    obtain ⟨u, hu⟩ : ∃ u, x ++ (⟨#[58]⟩ : ByteArray) = u := ⟨_, rfl⟩
    have us : u.size ≤ 30 := by rw [← hu, ByteArray.size_append']; show x.size + 1 ≤ 30; omega
    rw [hu] at c1 e1
    have c2 := fun W => run_string_add_sum (P := Tryd.prog) W u y (by omega)
    obtain ⟨v, hv⟩ : ∃ v, u ++ y = v := ⟨_, rfl⟩
    rw [hv] at c2 e1
    have E1 := Lib.hid e1
    clear hx hy hu hv us s1 s2 e1
    go_enter Tryd.func34, Tryd.ntmps34
    go_wp2_with fail
    refine (F1.out w).mono ?_
    rintro e w1 ⟨rfl, b1⟩
    have B1 := Lib.hid b1
    clear b1
    go_wp2_with fail
    refine (F2.out w1).mono ?_
    rintro e w2 ⟨rfl, b2⟩
    have B2 := Lib.hid (B1.out.trans (b2.mono B1.out.size))
    clear b2
    go_wp2
    go_ret
    exact ⟨by rw [E1.out]; rfl, B2.out⟩

theorem specClockText_any (m : Int) (w : World) :
    Calls Tryd.prog 13 #[.int .i64 m] w fun e w' => e = .returned (.string ⟨(clockX m).toArray⟩) ∧ Below w.heap.size w w' := by
  cases h : inB m 0 1439
  · have HR := Lib.hid (show clockX m = [] by rw [clockX, h]; rfl)
    go_enter Tryd.func13, Tryd.ntmps13
    go_wp2_with fail
    refine (is_of (in_any _ _ _ _) h).mono ?_
    rintro e w' ⟨rfl, rfl⟩
    go_wp2
    go_ret
    exact ⟨ret_str HR.out.symm, Below.refl _ _⟩
  · have b := inB_t h
    have HR := Lib.hid (show clockX m = clockT m by rw [clockX, h]; rfl)
    have F := Lib.hid (l02Clock_any m w b)
    clear b
    go_enter Tryd.func13, Tryd.ntmps13
    go_wp2_with fail
    refine (is_of (in_any _ _ _ _) h).mono ?_
    rintro e w' ⟨rfl, rfl⟩
    go_wp2_with fail
    refine F.out.mono ?_
    rintro e w1 ⟨rfl, b1⟩
    have B1 := Lib.hid b1
    clear b1
    go_wp2
    go_ret
    exact ⟨by rw [HR.out]; rfl, B1.out⟩
end Go.Proofs.YtemloifpcjphkaaDoor
