/- Decimal numerals, read back: the reference's reader. -/
import Derived.Test.YtcmnmmgmhnhkhaaDoorName
import Derived.Test.YtcmnmmgmhnhkhaaDoorRdec
namespace Go.Proofs.YtcmnmmgmhnhkhaaDoor
open Go.RowKit
set_option linter.unusedVariables false

theorem digit_dgt (c : UInt8) : digitB c.toNat = dgt c := by
  unfold digitB dgt
  congr 1 <;> (apply decide_eq_decide.2; omega)
theorem ret_nb {a b : Int} {c d : Bool} (h : a = b) (h' : c = d) : Ending.returned (.tuple #[.int .i64 a, .bool c]) = .returned (.tuple #[.int .i64 b, .bool d]) := by rw [h, h']
open Classical in
noncomputable def numR (l : List UInt8) : Int × Bool := if okN l then (numV l, true) else (0, false)
theorem numR_ok {l : List UInt8} (h : okN l) : (numR l).1 = numV l ∧ (numR l).2 = true := by unfold numR; rw [if_pos h]; exact ⟨rfl, rfl⟩
theorem numR_no {l : List UInt8} (h : ¬ okN l) : (numR l).1 = 0 ∧ (numR l).2 = false := by unfold numR; rw [if_neg h]; exact ⟨rfl, rfl⟩
theorem len_data (s : ByteArray) : s.data.toList.length = s.size := by simp
theorem head_at {s : ByteArray} (h : 0 < s.size) : s.data.toList.head? = some s[0] := by
  have h' : 0 < s.data.toList.length := by simpa using h
  rw [List.head?_eq_getElem?, List.getElem?_eq_getElem h']; rfl
theorem digs_pos {s : ByteArray} (h : 0 < s.size) (h45 : s[0].toNat ≠ 45) : digs s.data.toList = s.data.toList ∧ numV s.data.toList = (valF 0 s.data.toList : Int) := by
  have e : s.data.toList.head? ≠ some 45 := by
    rw [head_at h]; intro e; injection e with e; exact h45 (by rw [e]; rfl)
  have hd : digs s.data.toList = s.data.toList := by rw [digs, if_neg e]
  exact ⟨hd, by rw [numV, if_neg e, hd]⟩
theorem digs_neg {s : ByteArray} (h : 0 < s.size) (h45 : s[0].toNat = 45) : digs s.data.toList = s.data.toList.drop 1 ∧ numV s.data.toList = -(valF 0 (s.data.toList.drop 1) : Int) := by
  have e : s.data.toList.head? = some 45 := by
    rw [head_at h, show s[0] = 45 from UInt8.toNat_inj.1 h45]
  have hd : digs s.data.toList = s.data.toList.drop 1 := by rw [digs, if_pos e, List.drop_one]
  exact ⟨hd, by rw [numV, if_pos e, hd]⟩
theorem takeb_snoc {l : List UInt8} {k : Nat} (h : k < l.length) : l.take (k + 1) = l.take k ++ [l.getD k 0] := by
  rw [List.take_add_one, List.getElem?_eq_getElem h, List.getD_eq_getElem?_getD, List.getElem?_eq_getElem h]; rfl
theorem val_step {l : List UInt8} {k V : Nat} {c : UInt8} (h : k < l.length) (hc : l.getD k 0 = c) (hV : valF 0 (l.take k) = V) (h48 : 48 ≤ c.toNat) : ((valF 0 (l.take (k + 1)) : Nat) : Int) = 10 * (V : Int) + ((c.toNat : Int) - 48) := by
  rw [takeb_snoc h, valF_snoc, hc, hV]; omega
theorem alld_step {l : List UInt8} {k : Nat} {c : UInt8} (h : k < l.length) (hc : l.getD k 0 = c) (ha : AllD (l.take k)) (hd : dgt c = true) : AllD (l.take (k + 1)) := by
  rw [takeb_snoc h, hc]
  intro x hx
  rcases List.mem_append.1 hx with hx | hx
  · exact ha x hx
  · obtain rfl : x = c := by simpa using hx
    exact hd
theorem alld_not {l : List UInt8} {k : Nat} {c : UInt8} (h : k < l.length) (hc : l.getD k 0 = c) (hd : dgt c = false) : ¬ AllD l := fun ha => by
  have := ha c (by rw [← hc, List.getD_eq_getElem?_getD, List.getElem?_eq_getElem h]; exact List.getElem_mem h)
  rw [hd] at this; cases this
theorem val17 {l : List UInt8} {k : Nat} (h : AllD (l.take k)) (hk : k ≤ 17) : valF 0 (l.take k) < 100000000000000000 := by
  have h1 := valF_bd (l.take k) 0 h
  have h2 : 10 ^ (l.take k).length ≤ 10 ^ 17 := Nat.pow_le_pow_right (by omega) (by rw [List.length_take]; omega)
  omega
theorem val18 {l : List UInt8} (h : AllD l) (hk : l.length ≤ 18) : valF 0 l < 1000000000000000000 := by
  have h1 := valF_bd l 0 h
  have h2 := pow18 hk
  omega
theorem u8_in (n : Int) (h : 0 ≤ n ∧ n ≤ 255) : IntKind.u8.wrap n = n := by rw [IntKind.wrap_u8]; omega

set_option maxRecDepth 100000 in
set_option maxHeartbeats 1600000 in
theorem num_neg (s : ByteArray) (w : World) (hs : s.size ≤ maxLen) (hp : 0 < s.size) (h45 : s[0].toNat = 45) (h1 : 1 < s.size) (h19 : s.size ≤ 19) (h48 : s[1].toNat ≠ 48) :
    Calls Tryd.prog 45 #[.string s] w fun e w' => e = .returned (.tuple #[.int .i64 (numR s.data.toList).1, .bool (numR s.data.toList).2]) ∧ w = w' := by
  unfold maxLen at hs
  have q0 : (((s[0].toNat : Nat) : Int) == 45) = true := by rw [beq_iff_eq]; omega
  have q1 : ((s.size : Int) == 1) = false := by rw [beq_eq_false_iff_ne]; omega
  have q2 : ¬ (18 : Int) < (s.size : Int) - 1 := by omega
  have q3 : (((s[1].toNat : Nat) : Int) == 48) = false := by rw [beq_eq_false_iff_ne]; omega
  have hds := digs_neg hp h45
  have HH := Lib.hid (show (s.data.toList.drop 1).head? = some 48 → s.data.toList.length ≤ 1 from fun e => by
    rw [List.head?_drop] at e
    have h' : 1 < s.data.toList.length := by simpa using h1
    rw [List.getElem?_eq_getElem h'] at e
    injection e with e
    have e2 : s[1] = 48 := e
    exact absurd (by rw [e2]; rfl) h48)
  clear h48
  have DL := Lib.hid (show (s.data.toList.drop 1).length = s.size - 1 by simp)
  have DG := Lib.hid (show digs s.data.toList = (s.data.toList.drop 1) from hds.1)
  have NV := Lib.hid hds.2
  clear hds
  go_enter Tryd.func45, Tryd.ntmps45
  go_wp2_with fail
  go_loop [5, 6] (fun n i => ∃ k V : Nat, k + 1 ≤ s.size ∧ valF 0 ((s.data.toList.drop 1).take k) = V ∧ AllD ((s.data.toList.drop 1).take k) ∧ n = .int .i64 V ∧ i = .int .i64 ((k + 1 : Nat) : Int)) (fun _ i => s.size - (intOf i).toNat)
  case atStart => exact ⟨0, 0, by omega, rfl, fun x hx => by simp at hx, rfl, rfl⟩
  case round =>
    obtain ⟨k, V, hk, hV, ha, rfl, rfl⟩ := hrel
    have HV := Lib.hid hV
    have HA := Lib.hid ha
    clear hV ha
    by_cases hlt : k + 1 < s.size
    · have hkl := Lib.hid (show k < (s.data.toList.drop 1).length by rw [DL.out]; omega)
      have VB : V < 100000000000000000 := by rw [← HV.out]; exact val17 HA.out (by omega)
      obtain ⟨c, hc⟩ : ∃ c, s[k + 1] = c := ⟨_, rfl⟩
      have hcl := Lib.hid (show (s.data.toList.drop 1).getD k 0 = c by
        rw [← hc]
        rw [← byte_at hlt, List.getD_eq_getElem?_getD, List.getD_eq_getElem?_getD, List.getElem?_drop, Nat.add_comm])
      skip
      have gk : ((k + 1 : Nat) : Int) < (s.size : Int) := by omega
      have gk0 : (0 : Int) ≤ ((k + 1 : Nat) : Int) := by omega
      cases hd : dgt c
      · have bad := Lib.hid (numR_no (l := s.data.toList) (fun h => alld_not hkl.out hcl.out hd (by rw [← DG.out]; exact h.2.2.2)))
        have HD := Lib.hid (show digitB c.toNat = false by rw [digit_dgt]; exact hd)
        clear hd
        go_wp2_with fail
        try rw [hc]
        refine (l01Digit_is HD.out _).mono ?_
        rintro e w1 ⟨rfl, rfl⟩
        go_wp2
        go_ret2
        exact ⟨ret_nb bad.out.1.symm bad.out.2.symm, rfl⟩
      · have b := dgt_t hd
        have HD := Lib.hid (show digitB c.toNat = true by rw [digit_dgt]; exact hd)
        have vs := Lib.hid (val_step hkl.out hcl.out HV.out b.1)
        have av := Lib.hid (alld_step hkl.out hcl.out HA.out hd)
        have u8 : IntKind.u8.wrap ((c.toNat : Int) - 48) = (c.toNat : Int) - 48 := u8_in _ (by omega)
        clear hd
        go_wp2_with fail
        try rw [hc]
        refine (l01Digit_is HD.out _).mono ?_
        rintro e w1 ⟨rfl, rfl⟩
        go_wp2
        go_round
        case rel => exact ⟨k + 1, _, by omega, rfl, av.out, (by first | (rw [vs.out]; done) | (rw [vs.out]; go_num)), by go_num⟩
        case measure => simp [intOf]; omega
    · have hke : k = (s.data.toList.drop 1).length := by rw [DL.out]; omega
      have ht : (s.data.toList.drop 1).take k = (s.data.toList.drop 1) := List.take_of_length_le (by omega)
      have HA' := HA.out
      have HV' := HV.out
      rw [ht] at HA' HV'
      have V18 : V < 1000000000000000000 := by rw [← HV']; exact val18 HA' (by rw [DL.out]; omega)
      have fin := Lib.hid (numR_ok (l := s.data.toList) (by rw [okN, DG.out]; exact ⟨fun e => by rw [e] at hke; simp at hke; have := DL.out; rw [e] at this; simp at this; omega, by rw [DL.out]; omega, HH.out, HA'⟩))
      have FV := Lib.hid (show numV s.data.toList = -(V : Int) by rw [NV.out, HV'])
      clear HA' HV' ht
      go_wp2
      go_ret2
      exact ⟨ret_nb (by rw [fin.out.1, FV.out]) fin.out.2.symm, rfl⟩

set_option maxRecDepth 100000 in
set_option maxHeartbeats 1600000 in
theorem num_one (s : ByteArray) (w : World) (hs : s.size ≤ maxLen) (hp : 0 < s.size) (h45 : s[0].toNat ≠ 45) (h1 : s.size = 1) (h48 : s[0].toNat = 48) :
    Calls Tryd.prog 45 #[.string s] w fun e w' => e = .returned (.tuple #[.int .i64 (numR s.data.toList).1, .bool (numR s.data.toList).2]) ∧ w = w' := by
  unfold maxLen at hs
  have q0 : (((s[0].toNat : Nat) : Int) == 45) = false := by rw [beq_eq_false_iff_ne]; omega
  have q1 : ((s.size : Int) == 0) = false := by rw [beq_eq_false_iff_ne]; omega
  have q2 : ¬ (18 : Int) < (s.size : Int) := by omega
  have q3 : (((s[0].toNat : Nat) : Int) == 48) = true := by rw [beq_iff_eq]; omega
  have q4 : ¬ (1 : Int) < (s.size : Int) := by omega
  have hds := digs_pos hp h45
  have HH := Lib.hid (show s.data.toList.head? = some 48 → s.data.toList.length ≤ 1 from fun _ => by rw [len_data]; omega)
  clear h48
  have DL := Lib.hid (show s.data.toList.length = s.size - 0 by simp)
  have DG := Lib.hid (show digs s.data.toList = s.data.toList from hds.1)
  have NV := Lib.hid hds.2
  clear hds
  go_enter Tryd.func45, Tryd.ntmps45
  go_wp2_with fail
  go_loop [5, 6] (fun n i => ∃ k V : Nat, k ≤ s.size ∧ valF 0 (s.data.toList.take k) = V ∧ AllD (s.data.toList.take k) ∧ n = .int .i64 V ∧ i = .int .i64 ((k : Int))) (fun _ i => s.size - (intOf i).toNat)
  case atStart => exact ⟨0, 0, by omega, rfl, fun x hx => by simp at hx, rfl, rfl⟩
  case round =>
    obtain ⟨k, V, hk, hV, ha, rfl, rfl⟩ := hrel
    have HV := Lib.hid hV
    have HA := Lib.hid ha
    clear hV ha
    by_cases hlt : k < s.size
    · have hkl := Lib.hid (show k < s.data.toList.length by rw [DL.out]; omega)
      have VB : V < 100000000000000000 := by rw [← HV.out]; exact val17 HA.out (by omega)
      have hcl := Lib.hid (show s.data.toList.getD k 0 = s[k] by
        exact byte_at hlt)
      skip
      have gk : ((k : Int)) < (s.size : Int) := by omega
      have gk0 : (0 : Int) ≤ ((k : Int)) := by omega
      cases hd : dgt s[k]
      · have bad := Lib.hid (numR_no (l := s.data.toList) (fun h => alld_not hkl.out hcl.out hd (by rw [← DG.out]; exact h.2.2.2)))
        have HD := Lib.hid (show digitB s[k].toNat = false by rw [digit_dgt]; exact hd)
        clear hd
        go_wp2_with fail
        refine (l01Digit_is HD.out _).mono ?_
        rintro e w1 ⟨rfl, rfl⟩
        go_wp2
        go_ret2
        exact ⟨ret_nb bad.out.1.symm bad.out.2.symm, rfl⟩
      · have b := dgt_t hd
        have HD := Lib.hid (show digitB s[k].toNat = true by rw [digit_dgt]; exact hd)
        have vs := Lib.hid (val_step hkl.out hcl.out HV.out b.1)
        have av := Lib.hid (alld_step hkl.out hcl.out HA.out hd)
        have u8 : IntKind.u8.wrap ((s[k].toNat : Int) - 48) = (s[k].toNat : Int) - 48 := u8_in _ (by omega)
        clear hd
        go_wp2_with fail
        refine (l01Digit_is HD.out _).mono ?_
        rintro e w1 ⟨rfl, rfl⟩
        go_wp2
        go_round
        case rel => exact ⟨k + 1, _, by omega, rfl, av.out, (by first | (rw [vs.out]; done) | (rw [vs.out]; go_num)), by go_num⟩
        case measure => simp [intOf]; omega
    · have hke : k = s.data.toList.length := by rw [DL.out]; omega
      have ht : s.data.toList.take k = s.data.toList := List.take_of_length_le (by omega)
      have HA' := HA.out
      have HV' := HV.out
      rw [ht] at HA' HV'
      have V18 : V < 1000000000000000000 := by rw [← HV']; exact val18 HA' (by rw [DL.out]; omega)
      have fin := Lib.hid (numR_ok (l := s.data.toList) (by rw [okN, DG.out]; exact ⟨fun e => by rw [e] at hke; simp at hke; have := DL.out; rw [e] at this; simp at this; omega, by rw [DL.out]; omega, HH.out, HA'⟩))
      have FV := Lib.hid (show numV s.data.toList = (V : Int) by rw [NV.out, HV'])
      clear HA' HV' ht
      go_wp2
      go_ret2
      exact ⟨ret_nb (by rw [fin.out.1, FV.out]) fin.out.2.symm, rfl⟩

set_option maxRecDepth 100000 in
set_option maxHeartbeats 1600000 in
theorem num_pos (s : ByteArray) (w : World) (hs : s.size ≤ maxLen) (hp : 0 < s.size) (h45 : s[0].toNat ≠ 45) (h18 : s.size ≤ 18) (h48 : s[0].toNat ≠ 48) :
    Calls Tryd.prog 45 #[.string s] w fun e w' => e = .returned (.tuple #[.int .i64 (numR s.data.toList).1, .bool (numR s.data.toList).2]) ∧ w = w' := by
  unfold maxLen at hs
  have q0 : (((s[0].toNat : Nat) : Int) == 45) = false := by rw [beq_eq_false_iff_ne]; omega
  have q1 : ((s.size : Int) == 0) = false := by rw [beq_eq_false_iff_ne]; omega
  have q2 : ¬ (18 : Int) < (s.size : Int) := by omega
  have q3 : (((s[0].toNat : Nat) : Int) == 48) = false := by rw [beq_eq_false_iff_ne]; omega
  have hds := digs_pos hp h45
  have HH := Lib.hid (show s.data.toList.head? = some 48 → s.data.toList.length ≤ 1 from fun e => by rw [head_at hp] at e; injection e with e; exact absurd (by rw [e]; rfl) h48)
  clear h48
  have DL := Lib.hid (show s.data.toList.length = s.size - 0 by simp)
  have DG := Lib.hid (show digs s.data.toList = s.data.toList from hds.1)
  have NV := Lib.hid hds.2
  clear hds
  go_enter Tryd.func45, Tryd.ntmps45
  go_wp2_with fail
  go_loop [5, 6] (fun n i => ∃ k V : Nat, k ≤ s.size ∧ valF 0 (s.data.toList.take k) = V ∧ AllD (s.data.toList.take k) ∧ n = .int .i64 V ∧ i = .int .i64 ((k : Int))) (fun _ i => s.size - (intOf i).toNat)
  case atStart => exact ⟨0, 0, by omega, rfl, fun x hx => by simp at hx, rfl, rfl⟩
  case round =>
    obtain ⟨k, V, hk, hV, ha, rfl, rfl⟩ := hrel
    have HV := Lib.hid hV
    have HA := Lib.hid ha
    clear hV ha
    by_cases hlt : k < s.size
    · have hkl := Lib.hid (show k < s.data.toList.length by rw [DL.out]; omega)
      have VB : V < 100000000000000000 := by rw [← HV.out]; exact val17 HA.out (by omega)
      have hcl := Lib.hid (show s.data.toList.getD k 0 = s[k] by
        exact byte_at hlt)
      skip
      have gk : ((k : Int)) < (s.size : Int) := by omega
      have gk0 : (0 : Int) ≤ ((k : Int)) := by omega
      cases hd : dgt s[k]
      · have bad := Lib.hid (numR_no (l := s.data.toList) (fun h => alld_not hkl.out hcl.out hd (by rw [← DG.out]; exact h.2.2.2)))
        have HD := Lib.hid (show digitB s[k].toNat = false by rw [digit_dgt]; exact hd)
        clear hd
        go_wp2_with fail
        refine (l01Digit_is HD.out _).mono ?_
        rintro e w1 ⟨rfl, rfl⟩
        go_wp2
        go_ret2
        exact ⟨ret_nb bad.out.1.symm bad.out.2.symm, rfl⟩
      · have b := dgt_t hd
        have HD := Lib.hid (show digitB s[k].toNat = true by rw [digit_dgt]; exact hd)
        have vs := Lib.hid (val_step hkl.out hcl.out HV.out b.1)
        have av := Lib.hid (alld_step hkl.out hcl.out HA.out hd)
        have u8 : IntKind.u8.wrap ((s[k].toNat : Int) - 48) = (s[k].toNat : Int) - 48 := u8_in _ (by omega)
        clear hd
        go_wp2_with fail
        refine (l01Digit_is HD.out _).mono ?_
        rintro e w1 ⟨rfl, rfl⟩
        go_wp2
        go_round
        case rel => exact ⟨k + 1, _, by omega, rfl, av.out, (by first | (rw [vs.out]; done) | (rw [vs.out]; go_num)), by go_num⟩
        case measure => simp [intOf]; omega
    · have hke : k = s.data.toList.length := by rw [DL.out]; omega
      have ht : s.data.toList.take k = s.data.toList := List.take_of_length_le (by omega)
      have HA' := HA.out
      have HV' := HV.out
      rw [ht] at HA' HV'
      have V18 : V < 1000000000000000000 := by rw [← HV']; exact val18 HA' (by rw [DL.out]; omega)
      have fin := Lib.hid (numR_ok (l := s.data.toList) (by rw [okN, DG.out]; exact ⟨fun e => by rw [e] at hke; simp at hke; have := DL.out; rw [e] at this; simp at this; omega, by rw [DL.out]; omega, HH.out, HA'⟩))
      have FV := Lib.hid (show numV s.data.toList = (V : Int) by rw [NV.out, HV'])
      clear HA' HV' ht
      go_wp2
      go_ret2
      exact ⟨ret_nb (by rw [fin.out.1, FV.out]) fin.out.2.symm, rfl⟩
end Go.Proofs.YtcmnmmgmhnhkhaaDoor
