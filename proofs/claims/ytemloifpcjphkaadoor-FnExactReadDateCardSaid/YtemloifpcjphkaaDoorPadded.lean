/- padded (the program's) and l02Two (the reference's): numerals with leading zeros. Conditions: the number is not negative. -/
import Derived.Test.YtemloifpcjphkaaDoorPad
import Derived.Test.YtemloifpcjphkaaDoorDec
import Derived.Test.YtemloifpcjphkaaDoorTab
import Derived.Test.YtemloifpcjphkaaDoorShelfA
import Derived.Test.YtemloifpcjphkaaDoorShelfR
import Derived.Laws.Concat
namespace Go.Proofs.YtemloifpcjphkaaDoor
open Go.RowKit Go.Sort

theorem ret_str {a b : List UInt8} (h : a = b) : Ending.returned (.string ⟨a.toArray⟩) = .returned (.string ⟨b.toArray⟩) := by rw [h]
theorem ret_sb {a b : ByteArray} (h : a = b) : Ending.returned (.string a) = .returned (.string b) := by rw [h]
theorem implDec_any (n : Int) (w : World) (n0 : -9223372036854775808 ≤ n ∧ n ≤ 9223372036854775807) (h : PowTab w) :
    Calls Tryd.prog 39 #[.int .i64 n] w fun e w' => e = .returned (.string ⟨(Lib.itoa n).toArray⟩) ∧ Below w.heap.size w w' := by
  have F := Lib.hid (Tryd.strconv_FormatInt_10 n n0.1 n0.2 w h)
  clear n0
  go_enter Tryd.func39, Tryd.ntmps39
  go_wp2_with fail
  refine F.out.mono ?_
  rintro e w1 ⟨rfl, k, os, hw1⟩
  have B := Lib.hid (show Below w.heap.size w w1 by rw [hw1]; exact ⟨rfl, rfl, rfl, by show w.heap.size ≤ (w.heap ++ os).size; rw [Array.size_append]; omega, fun j hj => by show (w.heap ++ os)[j]? = w.heap[j]?; rw [Array.getElem?_append_left hj]⟩)
  clear hw1
  go_wp2
  go_ret
  exact ⟨rfl, B.out⟩

theorem dec_size (a : Nat) (h : a ≤ 9223372036854775807) : 1 ≤ (Lib.decDigits a).length ∧ (Lib.decDigits a).length ≤ 20 := by
  have h1 := dec_len_pos a
  have h2 := Lib.nDigits_le20 a (by omega)
  rw [← Lib.decDigits_length] at h2
  exact ⟨h1, h2⟩
theorem str_app (a b : List UInt8) : (⟨a.toArray⟩ : ByteArray) ++ ⟨b.toArray⟩ = ⟨(a ++ b).toArray⟩ := by
  apply ByteArray.ext; simp
theorem rep_zero (c : Nat) : Lib.repeatL [48] c = List.replicate c 48 := by
  have := Lib.repeatL_replicate 48 1 c
  simpa using this

set_option maxHeartbeats 800000 in
theorem padded_any (a d : Nat) (w : World) (ha : a ≤ 9223372036854775807) (hd : d ≤ 20) (tab : PowTab w) :
    Calls Tryd.prog 36 #[.int .i64 (a : Int), .int .i64 (d : Int)] w fun e w' => e = .returned (.string ⟨(padL (Lib.decDigits a) d).toArray⟩) ∧ Below w.heap.size w w' := by
  have F := implDec_any a w (by omega) tab
  rw [itoa_nat] at F
  obtain ⟨n1, n2⟩ := dec_size a ha
  have hr := Lib.hid (show (⟨(Lib.repeatL [48] (d - (Lib.decDigits a).length)).toArray⟩ : ByteArray) ++ ⟨(Lib.decDigits a).toArray⟩ = ⟨(padL (Lib.decDigits a) d).toArray⟩ by rw [str_app, rep_zero]; rfl)
  have F := Lib.hid F
  have hz : (⟨(Lib.decDigits a).toArray⟩ : ByteArray).size = (Lib.decDigits a).length := by simp [ByteArray.size]
  obtain ⟨t, ht⟩ : ∃ t, (⟨(Lib.decDigits a).toArray⟩ : ByteArray) = t := ⟨_, rfl⟩
  rw [ht] at F hr hz
  obtain ⟨L, hL⟩ : ∃ L, (Lib.decDigits a).length = L := ⟨_, rfl⟩
  rw [hL] at n1 n2 hr hz
  have G := Lib.hid (fun W => Tryd.strings_Repeat ⟨#[48]⟩ (d - L) W (by omega) (by show 1 * (d - L) ≤ _; omega))
  obtain ⟨c, hc⟩ : ∃ c, d - L = c := ⟨_, rfl⟩
  have G2 := Lib.hid (fun W => by have := G.out W; rw [hc] at this; exact this)
  clear G
  have zs : (⟨(Lib.repeatL [48] c).toArray⟩ : ByteArray).size = c := by rw [rep_zero]; simp [ByteArray.size]
  rw [hc] at hr
  obtain ⟨z, hz2⟩ : ∃ z, (⟨(Lib.repeatL [48] c).toArray⟩ : ByteArray) = z := ⟨_, rfl⟩
  have G3 := Lib.hid (fun W => by have := G2.out W; rw [show (⟨#[48]⟩ : ByteArray).data.toList = [48] from rfl, hz2] at this; exact this)
  rw [hz2] at hr zs
  have hcat := fun W => run_string_add_sum (P := Tryd.prog) W z t (by omega)
  obtain ⟨r, hr2⟩ : ∃ r, z ++ t = r := ⟨_, rfl⟩
  rw [hr2] at hcat
  have HR := Lib.hid (hr2.symm.trans hr.out)
  clear G2 hr hr2 zs hz2 ht tab hL
  have hmx : max (0 : Int) ((d : Int) - (L : Int)) = (c : Int) := by omega
  go_enter Tryd.func36, Tryd.ntmps36
  go_wp2_with fail
  refine F.out.mono ?_
  rintro e w1 ⟨rfl, b1⟩
  have B1 := Lib.hid b1
  clear b1
  go_wp2_with fail
  refine (G3.out w1).mono ?_
  rintro e w2 ⟨rfl, b2⟩
  have B2 := Lib.hid (B1.out.trans (b2.mono B1.out.size))
  clear b2
  go_wp2
  go_ret
  exact ⟨ret_sb HR.out, B2.out⟩

theorem two_any (n : Int) (w : World) (n0 : 0 ≤ n) (n1 : n ≤ 9223372036854775807) :
    Calls Tryd.prog 60 #[.int .i64 n] w fun e w' => e = .returned (.string ⟨(two n).toArray⟩) ∧ Below w.heap.size w w' := by
  have F := Lib.hid (l01Dec_any n w (by omega) n1)
  by_cases h : n < 10
  · have hr := Lib.hid (show (⟨#[48]⟩ : ByteArray) ++ ⟨(Lib.itoa n).toArray⟩ = ⟨(two n).toArray⟩ by rw [two_small n0 h]; exact str_app [48] _)
    have hs := Lib.itoa_length_le n (by omega) n1
    have hz : (⟨(Lib.itoa n).toArray⟩ : ByteArray).size = (Lib.itoa n).length := by simp [ByteArray.size]
    obtain ⟨t, ht⟩ : ∃ t, (⟨(Lib.itoa n).toArray⟩ : ByteArray) = t := ⟨_, rfl⟩
    rw [ht] at hr hz F
    have hcat := fun W => run_string_add_sum (P := Tryd.prog) W ⟨#[48]⟩ t (by show 1 + t.size ≤ _; omega)
    obtain ⟨r, hr2⟩ : ∃ r, (⟨#[48]⟩ : ByteArray) ++ t = r := ⟨_, rfl⟩
    rw [hr2] at hcat
    have HR := Lib.hid (hr2.symm.trans hr.out)
    clear hr hr2 ht hs hz
    go_enter Tryd.func60, Tryd.ntmps60
    go_wp2_with fail
    refine F.out.mono ?_
    rintro e w1 ⟨rfl, b1⟩
    have B1 := Lib.hid b1
    clear b1
    go_wp2
    go_ret
    exact ⟨ret_sb HR.out, B1.out⟩
  · have HR := Lib.hid (two_big (n := n) (by omega))
    go_enter Tryd.func60, Tryd.ntmps60
    go_wp2_with fail
    refine F.out.mono ?_
    rintro e w1 ⟨rfl, b1⟩
    have B1 := Lib.hid b1
    clear b1
    go_wp2
    go_ret
    exact ⟨ret_str HR.out.symm, B1.out⟩
end Go.Proofs.YtemloifpcjphkaaDoor
