/- LapText: what the program and the reference write. -/
import Derived.Test.YtemloifpcjphkaaDoorClock
namespace Go.Proofs.YtemloifpcjphkaaDoor
open Go.RowKit Go.Sort

set_option maxHeartbeats 800000 in
theorem implLapText_any (m : Int) (w : World) (tab : PowTab w) :
    Calls Tryd.prog 16 #[.int .i64 m] w fun e w' => e = .returned (.string ⟨(lapX m).toArray⟩) ∧ Below w.heap.size w w' := by
  cases h : inB m 0 1000000000
  · have HR := Lib.hid (show lapX m = [] by rw [lapX, h]; rfl)
    go_enter Tryd.func16, Tryd.ntmps16
    go_wp2_with fail
    refine (is_of (within_any _ _ _ _) h).mono ?_
    rintro e w' ⟨rfl, rfl⟩
    go_wp2
    go_ret
    exact ⟨ret_str HR.out.symm, Below.refl _ _⟩
  · have b := inB_t h
    have HR := Lib.hid (show lapX m = lapT m by rw [lapX, h]; rfl)
    have TB := Lib.hid tab
    have F1 := Lib.hid (fun W ht => implDec_any (m / 60) W (by omega) ht)
    have F2 := Lib.hid (fun W ht => pad2_any (m % 60) W (by omega) (by omega) ht)
    have s1 := str_size (Lib.itoa (m / 60))
    have L1 := itoa_len20 (n := m / 60) (by omega) (by omega)
    have s2 := (str_size (two (m % 60))).trans (two_len (by omega))
    have e1 : (⟨(Lib.itoa (m / 60)).toArray⟩ : ByteArray) ++ ⟨#[58]⟩ ++ ⟨(two (m % 60)).toArray⟩ = ⟨(lapT m).toArray⟩ := by
      rw [show (⟨#[58]⟩ : ByteArray) = ⟨([58] : List UInt8).toArray⟩ from rfl, str_app, str_app, List.append_assoc]; rfl
    obtain ⟨x, hx⟩ : ∃ x, (⟨(Lib.itoa (m / 60)).toArray⟩ : ByteArray) = x := ⟨_, rfl⟩
    obtain ⟨y, hy⟩ : ∃ y, (⟨(two (m % 60)).toArray⟩ : ByteArray) = y := ⟨_, rfl⟩
    rw [hx] at F1 s1 e1
    rw [hy] at F2 s2 e1
    have c1 := fun W => run_string_add_sum (P := Tryd.prog) W x ⟨#[58]⟩ (by show x.size + 1 ≤ _; omega)
    obtain ⟨u, hu⟩ : ∃ u, x ++ (⟨#[58]⟩ : ByteArray) = u := ⟨_, rfl⟩
    have us : u.size ≤ 30 := by rw [← hu, ByteArray.size_append']; show x.size + 1 ≤ 30; omega
    rw [hu] at c1 e1
    have c2 := fun W => run_string_add_sum (P := Tryd.prog) W u y (by omega)
    obtain ⟨v, hv⟩ : ∃ v, u ++ y = v := ⟨_, rfl⟩
    rw [hv] at c2 e1
    have E1 := Lib.hid e1
    clear L1 hx hy hu hv us s1 s2 e1
    clear tab
    go_enter Tryd.func16, Tryd.ntmps16
    go_wp2_with fail
    refine (is_of (within_any _ _ _ _) h).mono ?_
    rintro e w' ⟨rfl, rfl⟩
    go_wp2_with fail
    refine (F1.out w TB.out).mono ?_
    rintro e w1 ⟨rfl, b1⟩
    have B1 := Lib.hid b1
    clear b1
    go_wp2_with fail
    refine (F2.out w1 (tab_below TB.out B1.out)).mono ?_
    rintro e w2 ⟨rfl, b2⟩
    have B2 := Lib.hid (B1.out.trans (b2.mono B1.out.size))
    clear b2
    go_wp2
    go_ret
    exact ⟨by rw [HR.out, E1.out]; rfl, B2.out⟩

theorem mass_any (n : Int) (w : World) : Calls Tryd.prog 37 #[.int .i64 n] w fun e w' => e = .returned (.bool (inB n 0 1000000000)) ∧ w = w' := by
  go_enter Tryd.func37, Tryd.ntmps37
  go_wp2_with fail
  refine (in_any _ _ _ _).mono ?_
  rintro e w' ⟨rfl, rfl⟩
  go_wp2
  go_ret
  exact ⟨rfl, rfl⟩

set_option maxHeartbeats 800000 in
theorem l02Lap_any (m : Int) (w : World) (b : 0 ≤ m ∧ m ≤ 1000000000) :
    Calls Tryd.prog 38 #[.int .i64 m] w fun e w' => e = .returned (.string ⟨(lapT m).toArray⟩) ∧ Below w.heap.size w w' := by
  by_cases hs : m % 60 < 10
  · have F0 := Lib.hid (fun W => l01Dec_any (m % 60) W (by omega) (by omega))
    have F1 := Lib.hid (fun W => l01Dec_any (m / 60) W (by omega) (by omega))
    have z0 : (⟨(Lib.itoa (m % 60)).toArray⟩ : ByteArray).size = 1 := by
      rw [str_size]
      have := congrArg List.length (two_small (n := m % 60) (by omega) hs)
      rw [two_len (by omega)] at this
      simp at this; omega
    have f0 : (⟨#[48]⟩ : ByteArray) ++ ⟨(Lib.itoa (m % 60)).toArray⟩ = ⟨(two (m % 60)).toArray⟩ := by rw [two_small (by omega) hs]; exact str_app [48] _
    obtain ⟨r, hr⟩ : ∃ r, (⟨(Lib.itoa (m % 60)).toArray⟩ : ByteArray) = r := ⟨_, rfl⟩
    rw [hr] at F0 z0 f0
    have c0 := fun W => run_string_add_sum (P := Tryd.prog) W ⟨#[48]⟩ r (by show 1 + r.size ≤ _; omega)
    rw [f0] at c0
    have F2 := c0
    clear c0
    clear hr f0
    have s1 := str_size (Lib.itoa (m / 60))
    have L1 := itoa_len20 (n := m / 60) (by omega) (by omega)
    have s2 := (str_size (two (m % 60))).trans (two_len (by omega))
    have e1 : (⟨(Lib.itoa (m / 60)).toArray⟩ : ByteArray) ++ ⟨#[58]⟩ ++ ⟨(two (m % 60)).toArray⟩ = ⟨(lapT m).toArray⟩ := by
      rw [show (⟨#[58]⟩ : ByteArray) = ⟨([58] : List UInt8).toArray⟩ from rfl, str_app, str_app, List.append_assoc]; rfl
    obtain ⟨x, hx⟩ : ∃ x, (⟨(Lib.itoa (m / 60)).toArray⟩ : ByteArray) = x := ⟨_, rfl⟩
    obtain ⟨y, hy⟩ : ∃ y, (⟨(two (m % 60)).toArray⟩ : ByteArray) = y := ⟨_, rfl⟩
    rw [hx] at F1 s1 e1
    rw [hy] at F2 s2 e1
    have c1 := fun W => run_string_add_sum (P := Tryd.prog) W x ⟨#[58]⟩ (by show x.size + 1 ≤ _; omega)
    obtain ⟨u, hu⟩ : ∃ u, x ++ (⟨#[58]⟩ : ByteArray) = u := ⟨_, rfl⟩
    have us : u.size ≤ 30 := by rw [← hu, ByteArray.size_append']; show x.size + 1 ≤ 30; omega
    rw [hu] at c1 e1
    have c2 := fun W => run_string_add_sum (P := Tryd.prog) W u y (by omega)
    obtain ⟨v, hv⟩ : ∃ v, u ++ y = v := ⟨_, rfl⟩
    rw [hv] at c2 e1
    have E1 := Lib.hid e1
    clear hx hy hu hv us s1 e1 L1
    go_enter Tryd.func38, Tryd.ntmps38
    go_wp2_with fail
    refine (F0.out w).mono ?_
    rintro e w1 ⟨rfl, b1⟩
    have B1 := Lib.hid b1
    clear b1
    go_wp2_with fail
    refine (F1.out w1).mono ?_
    rintro e w2 ⟨rfl, b2⟩
    have B2 := Lib.hid (B1.out.trans (b2.mono B1.out.size))
    clear b2
    go_wp2
    go_ret
    exact ⟨by rw [E1.out]; rfl, B2.out⟩
  · have F0 := Lib.hid (fun W => l01Dec_any (m % 60) W (by omega) (by omega))
    have F1 := Lib.hid (fun W => l01Dec_any (m / 60) W (by omega) (by omega))
    have F2 := F0
    rw [← two_big (n := m % 60) (by omega)] at F2
    clear F0
    have s1 := str_size (Lib.itoa (m / 60))
    have L1 := itoa_len20 (n := m / 60) (by omega) (by omega)
    have s2 := (str_size (two (m % 60))).trans (two_len (by omega))
    have e1 : (⟨(Lib.itoa (m / 60)).toArray⟩ : ByteArray) ++ ⟨#[58]⟩ ++ ⟨(two (m % 60)).toArray⟩ = ⟨(lapT m).toArray⟩ := by
      rw [show (⟨#[58]⟩ : ByteArray) = ⟨([58] : List UInt8).toArray⟩ from rfl, str_app, str_app, List.append_assoc]; rfl
    obtain ⟨x, hx⟩ : ∃ x, (⟨(Lib.itoa (m / 60)).toArray⟩ : ByteArray) = x := ⟨_, rfl⟩
    obtain ⟨y, hy⟩ : ∃ y, (⟨(two (m % 60)).toArray⟩ : ByteArray) = y := ⟨_, rfl⟩
    rw [hx] at F1 s1 e1
    rw [hy] at F2 s2 e1
    have c1 := fun W => run_string_add_sum (P := Tryd.prog) W x ⟨#[58]⟩ (by show x.size + 1 ≤ _; omega)
    obtain ⟨u, hu⟩ : ∃ u, x ++ (⟨#[58]⟩ : ByteArray) = u := ⟨_, rfl⟩
    have us : u.size ≤ 30 := by rw [← hu, ByteArray.size_append']; show x.size + 1 ≤ 30; omega
    rw [hu] at c1 e1
    have c2 := fun W => run_string_add_sum (P := Tryd.prog) W u y (by omega)
    obtain ⟨v, hv⟩ : ∃ v, u ++ y = v := ⟨_, rfl⟩
    rw [hv] at c2 e1
    have E1 := Lib.hid e1
    clear hx hy hu hv us s1 e1 L1
    go_enter Tryd.func38, Tryd.ntmps38
    go_wp2_with fail
    refine (F2.out w).mono ?_
    rintro e w1 ⟨rfl, b1⟩
    have B1 := Lib.hid b1
    clear b1
    go_wp2_with fail
    refine (F1.out w1).mono ?_
    rintro e w2 ⟨rfl, b2⟩
    have B2 := Lib.hid (B1.out.trans (b2.mono B1.out.size))
    clear b2
    go_wp2
    go_ret
    exact ⟨by rw [E1.out]; rfl, B2.out⟩

theorem specLapText_any (m : Int) (w : World) :
    Calls Tryd.prog 15 #[.int .i64 m] w fun e w' => e = .returned (.string ⟨(lapX m).toArray⟩) ∧ Below w.heap.size w w' := by
  cases h : inB m 0 1000000000
  · have HR := Lib.hid (show lapX m = [] by rw [lapX, h]; rfl)
    go_enter Tryd.func15, Tryd.ntmps15
    go_wp2_with fail
    refine (is_of (mass_any _ _) h).mono ?_
    rintro e w' ⟨rfl, rfl⟩
    go_wp2
    go_ret
    exact ⟨ret_str HR.out.symm, Below.refl _ _⟩
  · have b := inB_t h
    have HR := Lib.hid (show lapX m = lapT m by rw [lapX, h]; rfl)
    have F := Lib.hid (l02Lap_any m w b)
    clear b
    go_enter Tryd.func15, Tryd.ntmps15
    go_wp2_with fail
    refine (is_of (mass_any _ _) h).mono ?_
    rintro e w' ⟨rfl, rfl⟩
    go_wp2_with fail
    refine F.out.mono ?_
    rintro e w1 ⟨rfl, b1⟩
    have B1 := Lib.hid b1
    clear b1
    go_wp2
    go_ret
    exact ⟨by rw [HR.out]; rfl, B1.out⟩
end Go.Proofs.YtemloifpcjphkaaDoor
