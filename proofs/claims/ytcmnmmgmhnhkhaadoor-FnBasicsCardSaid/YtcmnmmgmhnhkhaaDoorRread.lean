/- Decimal numerals, read back: the reference's reader whole, and the program's. -/
import Derived.Test.YtcmnmmgmhnhkhaaDoorRnum
import Derived.Test.YtcmnmmgmhnhkhaaDoorLtext
import Derived.Test.YtcmnmmgmhnhkhaaDoorShelfC
namespace Go.Proofs.YtcmnmmgmhnhkhaaDoor
open Go.RowKit
set_option linter.unusedVariables false

set_option maxRecDepth 100000 in
theorem l01Number_any (s : ByteArray) (w : World) (hs : s.size ≤ maxLen) :
    Calls Tryd.prog 45 #[.string s] w fun e w' => e = .returned (.tuple #[.int .i64 (numR s.data.toList).1, .bool (numR s.data.toList).2]) ∧ w = w' := by
  have hs0 := hs
  unfold maxLen at hs
  have hl := Lib.hid (len_data s)
  by_cases hp : 0 < s.size
  · by_cases h45 : s[0].toNat = 45
    · have hds := (digs_neg hp h45).1
      have q0 : (((s[0].toNat : Nat) : Int) == 45) = true := by rw [beq_iff_eq]; omega
      by_cases h1 : s.size = 1
      · have bad := Lib.hid (numR_no (l := s.data.toList) (fun h => h.1 (by rw [hds]; exact List.drop_of_length_le (by rw [hl.out]; omega))))
        have q1 : ((s.size : Int) == 1) = true := by rw [beq_iff_eq]; omega
        clear hds
        go_enter Tryd.func45, Tryd.ntmps45
        go_wp2
        go_ret2
        exact ⟨ret_nb bad.out.1.symm bad.out.2.symm, rfl⟩
      have q1 : ((s.size : Int) == 1) = false := by rw [beq_eq_false_iff_ne]; omega
      by_cases h19 : s.size ≤ 19
      · by_cases h48 : s[1].toNat = 48
        · have bad := Lib.hid (numR_no (l := s.data.toList) (fun h => by
            have h1' : 1 < s.data.toList.length := by rw [hl.out]; omega
            have e := h.2.2.1 (by rw [hds, List.head?_drop, List.getElem?_eq_getElem h1']; exact congrArg some (UInt8.toNat_inj.1 h48))
            rw [hl.out] at e; omega))
          have q2 : ¬ (18 : Int) < (s.size : Int) - 1 := by omega
          have q3 : (((s[1].toNat : Nat) : Int) == 48) = true := by rw [beq_iff_eq]; omega
          have q4 : (1 : Int) < (s.size : Int) := by omega
          clear hds
          go_enter Tryd.func45, Tryd.ntmps45
          go_wp2
          go_ret2
          exact ⟨ret_nb bad.out.1.symm bad.out.2.symm, rfl⟩
        · exact num_neg s w hs0 hp h45 (by omega) h19 h48
      · have bad := Lib.hid (numR_no (l := s.data.toList) (fun h => by have := h.2.1; rw [hds, List.length_drop, hl.out] at this; omega))
        have q2 : (18 : Int) < (s.size : Int) - 1 := by omega
        clear hds
        go_enter Tryd.func45, Tryd.ntmps45
        go_wp2
        go_ret2
        exact ⟨ret_nb bad.out.1.symm bad.out.2.symm, rfl⟩
    · have hds := (digs_pos hp h45).1
      have q0 : (((s[0].toNat : Nat) : Int) == 45) = false := by rw [beq_eq_false_iff_ne]; omega
      have q1 : ((s.size : Int) == 0) = false := by rw [beq_eq_false_iff_ne]; omega
      by_cases h18 : s.size ≤ 18
      · by_cases h48 : s[0].toNat = 48
        · by_cases h1 : s.size = 1
          · exact num_one s w hs0 hp h45 h1 h48
          · have bad := Lib.hid (numR_no (l := s.data.toList) (fun h => by
              have e := h.2.2.1 (by rw [hds, head_at hp]; exact congrArg some (UInt8.toNat_inj.1 h48))
              rw [hl.out] at e; omega))
            have q2 : ¬ (18 : Int) < (s.size : Int) := by omega
            have q3 : (((s[0].toNat : Nat) : Int) == 48) = true := by rw [beq_iff_eq]; omega
            have q4 : (1 : Int) < (s.size : Int) := by omega
            clear hds
            go_enter Tryd.func45, Tryd.ntmps45
            go_wp2
            go_ret2
            exact ⟨ret_nb bad.out.1.symm bad.out.2.symm, rfl⟩
        · exact num_pos s w hs0 hp h45 h18 h48
      · have bad := Lib.hid (numR_no (l := s.data.toList) (fun h => by have := h.2.1; rw [hds, hl.out] at this; omega))
        have q2 : (18 : Int) < (s.size : Int) := by omega
        clear hds
        go_enter Tryd.func45, Tryd.ntmps45
        go_wp2
        go_ret2
        exact ⟨ret_nb bad.out.1.symm bad.out.2.symm, rfl⟩
  · have h0 : s.size = 0 := by omega
    have bad := Lib.hid (numR_no (l := s.data.toList) (fun h => h.1 (by
      have : s.data.toList = [] := List.length_eq_zero_iff.1 (by rw [hl.out]; omega)
      rw [this]; rfl)))
    go_enter Tryd.func45, Tryd.ntmps45
    go_wp2
    go_ret2
    exact ⟨ret_nb bad.out.1.symm bad.out.2.symm, rfl⟩

end Go.Proofs.YtcmnmmgmhnhkhaaDoor
