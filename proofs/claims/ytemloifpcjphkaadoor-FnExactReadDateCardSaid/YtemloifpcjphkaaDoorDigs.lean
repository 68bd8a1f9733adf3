/- Digits, read: the program's digitsOf and the reference's l02Digits. -/
import Derived.Test.YtemloifpcjphkaaDoorPadded
import Derived.Test.YtemloifpcjphkaaDoorNameD
import Derived.Lib.Strings
namespace Go.Proofs.YtemloifpcjphkaaDoor
open Go.RowKit
set_option linter.unusedVariables false

theorem digit_dgt (c : UInt8) : digitB c.toNat = dgt c := by
  unfold digitB dgt
  congr 1 <;> (apply decide_eq_decide.2; omega)
theorem ret_nb {a b : Int} {c d : Bool} (h : a = b) (h' : c = d) : Ending.returned (.tuple #[.int .i64 a, .bool c]) = .returned (.tuple #[.int .i64 b, .bool d]) := by rw [h, h']
theorem byte_at {s : ByteArray} {k : Nat} (h : k < s.size) : s.data.toList.getD k 0 = s[k] := by
  have h' : k < s.data.toList.length := by simpa using h
  rw [List.getD_eq_getElem?_getD, List.getElem?_eq_getElem h']; rfl
theorem takeb_snoc {l : List UInt8} {k : Nat} (h : k < l.length) : l.take (k + 1) = l.take k ++ [l.getD k 0] := by
  rw [List.take_add_one, List.getElem?_eq_getElem h, List.getD_eq_getElem?_getD, List.getElem?_eq_getElem h]; rfl
theorem val_step {l : List UInt8} {k V : Nat} {c : UInt8} (h : k < l.length) (hc : l.getD k 0 = c) (hV : valF 0 (l.take k) = V) (h48 : 48 ≤ c.toNat) : ((valF 0 (l.take (k + 1)) : Nat) : Int) = 10 * (V : Int) + ((c.toNat : Int) - 48) := by
  rw [takeb_snoc h, valF_snoc, hc, hV]; omega
theorem alld_step {l : List UInt8} {k : Nat} {c : UInt8} (h : k < l.length) (hc : l.getD k 0 = c) (ha : AllD (l.take k)) (hd : dgt c = true) : AllD (l.take (k + 1)) := by
  rw [takeb_snoc h, hc]
  intro x hx
  rcases List.mem_append.1 hx with hx | hx
  · exact ha x hx
  · obtain rfl : x = c := by simpa using hx
    exact hd
theorem alld_not {l : List UInt8} {k : Nat} {c : UInt8} (h : k < l.length) (hc : l.getD k 0 = c) (hd : dgt c = false) : ¬ AllD l := fun ha => by
  have := ha c (by rw [← hc, List.getD_eq_getElem?_getD, List.getElem?_eq_getElem h]; exact List.getElem_mem h)
  rw [hd] at this; cases this
theorem val17 {l : List UInt8} {k : Nat} (h : AllD (l.take k)) (hk : k ≤ 17) : valF 0 (l.take k) < 100000000000000000 := by
  have h1 := valF_bd (l.take k) 0 h
  have h2 : 10 ^ (l.take k).length ≤ 10 ^ 17 := Nat.pow_le_pow_right (by omega) (by rw [List.length_take]; omega)
  omega
theorem val18 {l : List UInt8} (h : AllD l) (hk : l.length ≤ 18) : valF 0 l < 1000000000000000000 := by
  have h1 := valF_bd l 0 h
  have h2 := pow18 hk
  omega
theorem u8_in (n : Int) (h : 0 ≤ n ∧ n ≤ 255) : IntKind.u8.wrap n = n := by rw [IntKind.wrap_u8]; omega

theorem emptyFacts {s : ByteArray} (h : s.size = 0) : s.toList = [] ∧ s.toList.isEmpty = true := by
  have : s.toList = [] := by rw [Lib.toList_data]; exact List.eq_nil_of_length_eq_zero (by simpa using h)
  exact ⟨this, by rw [this]; rfl⟩
theorem fullFacts {s : ByteArray} (h : 0 < s.size) : s.toList ≠ [] ∧ s.toList.isEmpty = false := by
  have : s.toList ≠ [] := by
    rw [Lib.toList_data]; intro e
    have h2 := congrArg List.length e
    rw [show s.data.toList.length = s.size by simp, List.length_nil] at h2
    omega
  exact ⟨this, by cases g : s.toList with | nil => exact absurd g this | cons => rfl⟩
/-- what the program's reader asks -/
def dok (l : List UInt8) : Prop := l ≠ [] ∧ l.length ≤ 18 ∧ AllD l
open Classical in
noncomputable def digR (l : List UInt8) : Int × Bool := if dok l then ((valF 0 l : Int), true) else (0, false)
theorem digR_ok {l : List UInt8} (h : dok l) : (digR l).1 = (valF 0 l : Int) ∧ (digR l).2 = true := by unfold digR; rw [if_pos h]; exact ⟨rfl, rfl⟩
theorem digR_no {l : List UInt8} (h : ¬ dok l) : (digR l).1 = 0 ∧ (digR l).2 = false := by unfold digR; rw [if_neg h]; exact ⟨rfl, rfl⟩
open Classical in
noncomputable def dgsR (l : List UInt8) : Int × Bool := if AllD l then ((valF 0 l : Int), true) else (0, false)
theorem dgsR_ok {l : List UInt8} (h : AllD l) : (dgsR l).1 = (valF 0 l : Int) ∧ (dgsR l).2 = true := by unfold dgsR; rw [if_pos h]; exact ⟨rfl, rfl⟩
theorem dgsR_no {l : List UInt8} (h : ¬ AllD l) : (dgsR l).1 = 0 ∧ (dgsR l).2 = false := by unfold dgsR; rw [if_neg h]; exact ⟨rfl, rfl⟩
theorem digR_bd (l : List UInt8) : 0 ≤ (digR l).1 ∧ (digR l).1 < 1000000000000000000 := by
  by_cases h : dok l
  · rw [(digR_ok h).1]; have := val18 h.2.2 h.2.1; omega
  · rw [(digR_no h).1]; omega

set_option maxRecDepth 100000 in
set_option maxHeartbeats 1600000 in
theorem l02Digits_any (s : ByteArray) (w : World) (h18 : s.size ≤ 18) :
    Calls Tryd.prog 46 #[.string s] w fun e w' => e = .returned (.tuple #[.int .i64 (dgsR s.data.toList).1, .bool (dgsR s.data.toList).2]) ∧ w = w' := by
  have DL := Lib.hid (show s.data.toList.length = s.size by simp)
  go_enter Tryd.func46, Tryd.ntmps46
  go_wp2_with fail
  go_loop [4, 5] (fun n i => ∃ k V : Nat, k ≤ s.size ∧ valF 0 (s.data.toList.take k) = V ∧ AllD (s.data.toList.take k) ∧ n = .int .i64 V ∧ i = .int .i64 ((k : Int))) (fun _ i => s.size - (intOf i).toNat)
  case atStart => exact ⟨0, 0, by omega, rfl, fun x hx => by simp at hx, rfl, rfl⟩
  case round =>
    obtain ⟨k, V, hk, hV, ha, rfl, rfl⟩ := hrel
    have HV := Lib.hid hV
    have HA := Lib.hid ha
    clear hV ha
    by_cases hlt : k < s.size
    · have hkl := Lib.hid (show k < s.data.toList.length by rw [DL.out]; omega)
      have VB : V < 100000000000000000 := by rw [← HV.out]; exact val17 HA.out (by omega)
      have hcl := Lib.hid (show s.data.toList.getD k 0 = s[k] by
        exact byte_at hlt)
      have gk : ((k : Int)) < (s.size : Int) := by omega
      have gk0 : (0 : Int) ≤ ((k : Int)) := by omega
      cases hd : dgt s[k]
      · have bad := Lib.hid (dgsR_no (l := s.data.toList) (fun h => alld_not hkl.out hcl.out hd h))
        have HD := Lib.hid (show digitB s[k].toNat = false by rw [digit_dgt]; exact hd)
        clear hd
        go_wp2_with fail
        refine (l01Digit_is HD.out _).mono ?_
        rintro e w1 ⟨rfl, rfl⟩
        go_wp2
        go_ret2
        exact ⟨ret_nb bad.out.1.symm bad.out.2.symm, rfl⟩
      · have b := dgt_t hd
        have HD := Lib.hid (show digitB s[k].toNat = true by rw [digit_dgt]; exact hd)
        have vs := Lib.hid (val_step hkl.out hcl.out HV.out b.1)
        have av := Lib.hid (alld_step hkl.out hcl.out HA.out hd)
        have u8 : IntKind.u8.wrap ((s[k].toNat : Int) - 48) = (s[k].toNat : Int) - 48 := u8_in _ (by omega)
        clear hd
        go_wp2_with fail
        refine (l01Digit_is HD.out _).mono ?_
        rintro e w1 ⟨rfl, rfl⟩
        go_wp2
        go_round
        case rel => exact ⟨k + 1, _, by omega, rfl, av.out, (by first | (rw [vs.out]; done) | (rw [vs.out]; go_num)), by go_num⟩
        case measure => simp [intOf]; omega
    · have hke : k = s.data.toList.length := by rw [DL.out]; omega
      have ht : s.data.toList.take k = s.data.toList := List.take_of_length_le (by omega)
      have HA' := HA.out
      have HV' := HV.out
      rw [ht] at HA' HV'
      have V18 : V < 1000000000000000000 := by rw [← HV']; exact val18 HA' (by rw [DL.out]; omega)
      have fin := Lib.hid (dgsR_ok (l := s.data.toList) HA')
      have FV := Lib.hid (show (valF 0 s.data.toList : Int) = (V : Int) by rw [HV'])
      clear HA' HV' ht
      go_wp2
      go_ret2
      exact ⟨ret_nb (by rw [fin.out.1, FV.out]) fin.out.2.symm, rfl⟩

set_option maxRecDepth 100000 in
set_option maxHeartbeats 1600000 in
theorem digitsOf_any (s : ByteArray) (w : World) (hs : s.size ≤ maxLen) :
    Calls Tryd.prog 54 #[.string s] w fun e w' => e = .returned (.tuple #[.int .i64 (digR s.data.toList).1, .bool (digR s.data.toList).2]) ∧ w = w' := by
  have DL := Lib.hid (show s.data.toList.length = s.size by simp)
  unfold maxLen at hs
  by_cases hp : s.size = 0
  · have bad := Lib.hid (digR_no (l := s.data.toList) (fun h => h.1 (List.length_eq_zero_iff.1 (by rw [DL.out]; exact hp))))
    have q0 := (emptyFacts hp).2
    go_enter Tryd.func54, Tryd.ntmps54
    go_wp2
    go_ret2
    exact ⟨ret_nb bad.out.1.symm bad.out.2.symm, rfl⟩
  have q0 := (fullFacts (s := s) (by omega)).2
  by_cases h18 : 18 < s.size
  · have bad := Lib.hid (digR_no (l := s.data.toList) (fun h => by have := h.2.1; rw [DL.out] at this; omega))
    have q1 : (18 : Int) < (s.size : Int) := by omega
    go_enter Tryd.func54, Tryd.ntmps54
    go_wp2
    go_ret2
    exact ⟨ret_nb bad.out.1.symm bad.out.2.symm, rfl⟩
  have q1 : ¬ (18 : Int) < (s.size : Int) := by omega
  go_enter Tryd.func54, Tryd.ntmps54
  go_wp2_with fail
  go_loop [4, 5] (fun n i => ∃ k V : Nat, k ≤ s.size ∧ valF 0 (s.data.toList.take k) = V ∧ AllD (s.data.toList.take k) ∧ n = .int .i64 V ∧ i = .int .i64 ((k : Int))) (fun _ i => s.size - (intOf i).toNat)
  case atStart => exact ⟨0, 0, by omega, rfl, fun x hx => by simp at hx, rfl, rfl⟩
  case round =>
    obtain ⟨k, V, hk, hV, ha, rfl, rfl⟩ := hrel
    have HV := Lib.hid hV
    have HA := Lib.hid ha
    clear hV ha
    by_cases hlt : k < s.size
    · have hkl := Lib.hid (show k < s.data.toList.length by rw [DL.out]; omega)
      have VB : V < 100000000000000000 := by rw [← HV.out]; exact val17 HA.out (by omega)
      have hcl := Lib.hid (show s.data.toList.getD k 0 = s[k] by
        exact byte_at hlt)
      have gk : ((k : Int)) < (s.size : Int) := by omega
      have gk0 : (0 : Int) ≤ ((k : Int)) := by omega
      cases hd : dgt s[k]
      · have bad := Lib.hid (digR_no (l := s.data.toList) (fun h => alld_not hkl.out hcl.out hd h.2.2))
        have HD := Lib.hid (show digitB s[k].toNat = false by rw [digit_dgt]; exact hd)
        clear hd
        go_wp2_with fail
        refine (isDigit_is HD.out _).mono ?_
        rintro e w1 ⟨rfl, rfl⟩
        go_wp2
        go_ret2
        exact ⟨ret_nb bad.out.1.symm bad.out.2.symm, rfl⟩
      · have b := dgt_t hd
        have HD := Lib.hid (show digitB s[k].toNat = true by rw [digit_dgt]; exact hd)
        have vs := Lib.hid (val_step hkl.out hcl.out HV.out b.1)
        have av := Lib.hid (alld_step hkl.out hcl.out HA.out hd)
        have u8 : IntKind.u8.wrap ((s[k].toNat : Int) - 48) = (s[k].toNat : Int) - 48 := u8_in _ (by omega)
        clear hd
        go_wp2_with fail
        refine (isDigit_is HD.out _).mono ?_
        rintro e w1 ⟨rfl, rfl⟩
        go_wp2
        go_round
        case rel => exact ⟨k + 1, _, by omega, rfl, av.out, (by first | (rw [vs.out]; done) | (rw [vs.out]; go_num)), by go_num⟩
        case measure => simp [intOf]; omega
    · have hke : k = s.data.toList.length := by rw [DL.out]; omega
      have ht : s.data.toList.take k = s.data.toList := List.take_of_length_le (by omega)
      have HA' := HA.out
      have HV' := HV.out
      rw [ht] at HA' HV'
      have V18 : V < 1000000000000000000 := by rw [← HV']; exact val18 HA' (by rw [DL.out]; omega)
      have fin := Lib.hid (digR_ok (l := s.data.toList) ⟨fun e => by rw [e] at hke; simp at hke; have := DL.out; rw [e] at this; simp at this; omega, by rw [DL.out]; omega, HA'⟩)
      have FV := Lib.hid (show (valF 0 s.data.toList : Int) = (V : Int) by rw [HV'])
      clear HA' HV' ht
      go_wp2
      go_ret2
      exact ⟨ret_nb (by rw [fin.out.1, FV.out]) fin.out.2.symm, rfl⟩
end Go.Proofs.YtemloifpcjphkaaDoor
