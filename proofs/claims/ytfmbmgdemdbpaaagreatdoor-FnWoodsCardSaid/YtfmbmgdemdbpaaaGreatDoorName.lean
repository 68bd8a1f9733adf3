/- Names: both texts of the test say whether a text is a name. -/
import Derived.Test.YtfmbmgdemdbpaaaGreatDoorBasic
import Derived.Lib.Strings
namespace Go.Proofs.YtfmbmgdemdbpaaaGreatDoor
open Go.RowKit

def smallB (n : Int) : Bool := decide (97 ≤ n) && decide (n ≤ 122)
def digitB (n : Int) : Bool := decide (48 ≤ n) && decide (n ≤ 57)
/-- may a byte stand at place i of a name? -/
def okAt (i : Nat) (n : Int) : Bool := smallB n || (decide (i ≠ 0) && digitB n)
theorem smallB_t {n : Int} (h1 : 97 ≤ n) (h2 : n ≤ 122) : smallB n = true := by simp [smallB, h1, h2]
theorem smallB_f {n : Int} (h : n < 97 ∨ 122 < n) : smallB n = false := by
  unfold smallB
  rcases h with h | h
  · have : ¬ 97 ≤ n := by omega
    simp [this]
  · have : ¬ n ≤ 122 := by omega
    simp [this]
theorem okAt_small {i : Nat} {n : Int} (h : smallB n = true) : okAt i n = true := by simp [okAt, h]
theorem okAt_digit {i : Nat} {n : Int} (hi : i ≠ 0) (h : digitB n = true) : okAt i n = true := by simp [okAt, h, hi]
theorem okAt_zero {n : Int} (h : smallB n = false) : okAt 0 n = false := by simp [okAt, h]
theorem okAt_no {i : Nat} {n : Int} (h : smallB n = false) (h2 : digitB n = false) : okAt i n = false := by simp [okAt, h, h2]
/-- is a list of bytes a name? -/
def nameB (l : List UInt8) : Bool := decide (l ≠ [] ∧ l.length ≤ 10 ∧ ∀ j, j < l.length → okAt j (l.getD j 0).toNat = true)
def GoodTo (l : List UInt8) (k : Nat) : Prop := ∀ j, j < k → okAt j (l.getD j 0).toNat = true
theorem good_zero (l : List UInt8) : GoodTo l 0 := fun j h => by omega
theorem good_succ {l : List UInt8} {k : Nat} (h : GoodTo l k) (hk : okAt k (l.getD k 0).toNat = true) : GoodTo l (k + 1) := fun j hj => by
  by_cases e : j = k
  · subst e; exact hk
  · exact h j (by omega)
theorem nameB_bad {l : List UInt8} {k : Nat} (h : k < l.length) (hk : okAt k (l.getD k 0).toNat = false) : nameB l = false := by
  unfold nameB; rw [decide_eq_false_iff_not]
  intro ⟨_, _, g⟩
  rw [g k h] at hk; cases hk
theorem nameB_good {l : List UInt8} (h : GoodTo l l.length) : nameB l = (!l.isEmpty && decide (l.length ≤ 10)) := by
  unfold nameB
  cases l with
  | nil => simp
  | cons a t =>
    simp only [List.isEmpty_cons, Bool.not_false, Bool.true_and, decide_eq_decide]
    exact ⟨fun x => x.2.1, fun x => ⟨by simp, x, h⟩⟩
theorem nameB_long {l : List UInt8} (h : 10 < l.length) : nameB l = false := by
  unfold nameB; rw [decide_eq_false_iff_not]; intro ⟨_, g, _⟩; omega
theorem nameB_nil : nameB [] = false := by decide
theorem nameB_first {l : List UInt8} (h : smallB (l.getD 0 0).toNat = false) : nameB l = false := by
  cases l with
  | nil => exact nameB_nil
  | cons a t => exact nameB_bad (k := 0) (by simp) (by simp [okAt] at h ⊢; exact h)

theorem isDigit_any (n : Int) (w : World) :
    Calls Tryz.prog 54 #[.int .u8 n] w fun e w' => e = .returned (.bool (digitB n)) ∧ w = w' := by
  by_cases h1 : 48 ≤ n <;> by_cases h2 : n ≤ 57
  all_goals
    go_enter Tryz.func54, Tryz.ntmps54
    go_wp2
    go_ret
    exact ⟨ret_bool (by simp [digitB, *]), rfl⟩
theorem isDigit_is {n : Int} {b : Bool} (h : digitB n = b) (w : World) :
    Calls Tryz.prog 54 #[.int .u8 n] w fun e w' => e = .returned (.bool b) ∧ w = w' := by rw [← h]; exact isDigit_any n w

theorem l01Digit_any (n : Int) (w : World) :
    Calls Tryz.prog 61 #[.int .u8 n] w fun e w' => e = .returned (.bool (digitB n)) ∧ w = w' := by
  by_cases h1 : 48 ≤ n <;> by_cases h2 : n ≤ 57
  all_goals
    go_enter Tryz.func61, Tryz.ntmps61
    go_wp2
    go_ret
    exact ⟨ret_bool (by simp [digitB, *]), rfl⟩
theorem l01Digit_is {n : Int} {b : Bool} (h : digitB n = b) (w : World) :
    Calls Tryz.prog 61 #[.int .u8 n] w fun e w' => e = .returned (.bool b) ∧ w = w' := by rw [← h]; exact l01Digit_any n w

theorem l01Small_any (n : Int) (w : World) :
    Calls Tryz.prog 60 #[.int .u8 n] w fun e w' => e = .returned (.bool (smallB n)) ∧ w = w' := by
  by_cases h1 : 97 ≤ n <;> by_cases h2 : n ≤ 122
  all_goals
    go_enter Tryz.func60, Tryz.ntmps60
    go_wp2
    go_ret
    exact ⟨ret_bool (by simp [smallB, *]), rfl⟩
theorem l01Small_is {n : Int} {b : Bool} (h : smallB n = b) (w : World) :
    Calls Tryz.prog 60 #[.int .u8 n] w fun e w' => e = .returned (.bool b) ∧ w = w' := by rw [← h]; exact l01Small_any n w

theorem few_any (n m : Int) (w : World) :
    Calls Tryz.prog 46 #[.int .i64 n, .int .i64 m] w fun e w' => e = .returned (.bool (decide (n ≤ m))) ∧ w = w' := by
  go_enter Tryz.func46, Tryz.ntmps46
  go_wp2
  go_ret
  exact ⟨rfl, rfl⟩


theorem byte_at {s : ByteArray} {k : Nat} (h : k < s.size) : s.data.toList.getD k 0 = s[k] := by
  have h' : k < s.data.toList.length := by simpa using h
  rw [List.getD_eq_getElem?_getD, List.getElem?_eq_getElem h']; rfl

theorem emptyFacts {s : ByteArray} (h : s.size = 0) : s.toList = [] ∧ s.toList.isEmpty = true := by
  have : s.toList = [] := by rw [Lib.toList_data]; exact List.eq_nil_of_length_eq_zero (by simpa using h)
  exact ⟨this, by rw [this]; rfl⟩
theorem fullFacts {s : ByteArray} (h : 0 < s.size) : s.toList ≠ [] ∧ s.toList.isEmpty = false := by
  have : s.toList ≠ [] := by
    rw [Lib.toList_data]; intro e
    have h2 := congrArg List.length e
    rw [show s.data.toList.length = s.size by simp, List.length_nil] at h2
    omega
  exact ⟨this, by cases g : s.toList with | nil => exact absurd g this | cons => rfl⟩

set_option maxHeartbeats 800000 in
theorem IsName_any (s : ByteArray) (w : World) (hs : s.size ≤ maxLen) :
    Calls Tryz.prog 40 #[.string s] w fun e w' => e = .returned (.bool (nameB s.data.toList)) ∧ w = w' := by
  unfold maxLen at hs
  have hlen : Hid (s.data.toList.length = s.size) := by unfold Hid; simp
  go_enter Tryz.func40, Tryz.ntmps40
  go_wp2
  go_loop [3] (fun i => ∃ k : Nat, k ≤ s.size ∧ GoodTo s.data.toList k ∧ i = .int .i64 k) (fun i => s.size - (intOf i).toNat)
  case atStart => exact ⟨0, Nat.zero_le _, good_zero _, rfl⟩
  case round =>
    obtain ⟨k, hk, hg, rfl⟩ := hrel
    have HG := Lib.hid hg
    clear hg
    by_cases hlt : k < s.size
    · have hby := Lib.hid (byte_at hlt)
      have hkl := Lib.hid (show k < s.data.toList.length by rw [hlen.out]; exact hlt)
      by_cases c1 : (97 : Int) ≤ (s[k].toNat : Int) ∧ (s[k].toNat : Int) ≤ 122
      · obtain ⟨c1, c2⟩ := c1
        have ok := Lib.hid (good_succ HG.out (show okAt k (s.data.toList.getD k 0).toNat = true by rw [hby.out]; exact okAt_small (smallB_t c1 c2)))
        have f1 : decide ((97 : Int) ≤ (s[k].toNat : Int)) = true := decide_eq_true c1
        have f2 : decide ((s[k].toNat : Int) ≤ 122) = true := decide_eq_true c2
        go_wp2
        go_round
        case rel => exact ⟨k + 1, by omega, ok.out, by go_num⟩
        case measure => simp [intOf]; omega
      · have c3 : (s[k].toNat : Int) < 97 ∨ (122 : Int) < s[k].toNat := by omega
        have sm := Lib.hid (smallB_f c3)
        clear c1
        by_cases hk0 : k = 0
        · subst hk0
          have bad := Lib.hid (nameB_bad hkl.out (show okAt 0 (s.data.toList.getD 0 0).toNat = false by rw [hby.out]; exact okAt_zero sm.out))
          rcases c3 with c3 | c3
          case' inr => have f2 : decide ((s[0].toNat : Int) ≤ 122) = false := decide_eq_false (by omega); have f1 : (97 : Int) ≤ (s[0].toNat : Int) := (by omega); have f3 : (!decide ((s[0].toNat : Int) ≤ 122)) = true := (by rw [f2]; rfl)
          all_goals
            go_wp2
            all_goals (try (exfalso; rename_i hbad; simp at hbad; omega))
            go_ret
            exact ⟨ret_bool bad.out.symm, rfl⟩
        · have hk1 : ((k : Int) == 0) = false := by simp; omega
          cases hd : digitB s[k].toNat
          · have bad := Lib.hid (nameB_bad hkl.out (show okAt k (s.data.toList.getD k 0).toNat = false by rw [hby.out]; exact okAt_no sm.out hd))
            rcases c3 with c3 | c3
            case' inr => have f2 : decide ((s[k].toNat : Int) ≤ 122) = false := decide_eq_false (by omega); have f1 : (97 : Int) ≤ (s[k].toNat : Int) := (by omega); have f3 : (!decide ((s[k].toNat : Int) ≤ 122)) = true := (by rw [f2]; rfl)
            all_goals
              go_wp2_with (go_at_call 54; refine (isDigit_is hd _).mono ?_; rintro e w' ⟨rfl, rfl⟩)
              all_goals (try (exfalso; rename_i hbad; simp at hbad; omega))
              go_ret
              exact ⟨ret_bool bad.out.symm, rfl⟩
          · have ok := Lib.hid (good_succ HG.out (show okAt k (s.data.toList.getD k 0).toNat = true by rw [hby.out]; exact okAt_digit hk0 hd))
            rcases c3 with c3 | c3
            case' inr => have f2 : decide ((s[k].toNat : Int) ≤ 122) = false := decide_eq_false (by omega); have f1 : (97 : Int) ≤ (s[k].toNat : Int) := (by omega); have f3 : (!decide ((s[k].toNat : Int) ≤ 122)) = true := (by rw [f2]; rfl)
            all_goals
              go_wp2_with (go_at_call 54; refine (isDigit_is hd _).mono ?_; rintro e w' ⟨rfl, rfl⟩)
              go_round
              case rel => exact ⟨k + 1, by omega, ok.out, by go_num⟩
              case measure => simp [intOf]; omega
    · obtain rfl : k = s.size := by omega
      have fin := Lib.hid (nameB_good (l := s.data.toList) (by rw [hlen.out]; exact HG.out))
      by_cases h0 : s.size = 0
      · obtain ⟨e1, e2⟩ := emptyFacts h0
        have E2 : Hid (s.data.toList.isEmpty = true) := by unfold Hid; rw [← Lib.toList_data]; exact e2
        clear h0
        go_wp2
        go_ret
        exact ⟨ret_bool (by rw [fin.out, E2.out]; rfl), rfl⟩
      · obtain ⟨e1, e2⟩ := fullFacts (s := s) (by omega)
        have E2 : Hid (s.data.toList.isEmpty = false) := by unfold Hid; rw [← Lib.toList_data]; exact e2
        by_cases h10 : s.size ≤ 10
        · go_wp2_with (go_at_call 46; refine (few_any _ _ _).mono ?_; rintro e w' ⟨rfl, rfl⟩)
          go_ret
          exact ⟨ret_bool (by rw [fin.out, E2.out, hlen.out]; simp; omega), rfl⟩
        · go_wp2_with (go_at_call 46; refine (few_any _ _ _).mono ?_; rintro e w' ⟨rfl, rfl⟩)
          go_ret
          exact ⟨ret_bool (by rw [fin.out, E2.out, hlen.out]; simp; omega), rfl⟩

set_option maxHeartbeats 800000 in
theorem l01Name_any (s : ByteArray) (w : World) (hs : s.size ≤ maxLen) :
    Calls Tryz.prog 48 #[.string s] w fun e w' => e = .returned (.bool (nameB s.data.toList)) ∧ w = w' := by
  unfold maxLen at hs
  have hlen : Hid (s.data.toList.length = s.size) := by unfold Hid; simp
  by_cases h0 : s.size = 0
  · obtain ⟨e1, e2⟩ := emptyFacts h0
    have bad : Hid (nameB s.data.toList = false) := by unfold Hid; rw [← Lib.toList_data, e1]; exact nameB_nil
    clear h0
    go_enter Tryz.func48, Tryz.ntmps48
    go_wp2
    go_ret
    exact ⟨ret_bool bad.out.symm, rfl⟩
  · obtain ⟨e1, e2⟩ := fullFacts (s := s) (by omega)
    have E2 : Hid (s.data.toList.isEmpty = false) := by unfold Hid; rw [← Lib.toList_data]; exact e2
    by_cases h10 : s.size ≤ 10
    · have hp : 0 < s.size := by omega
      have hby := Lib.hid (byte_at hp)
      cases hsm : smallB s[0].toNat
      · have bad := Lib.hid (nameB_first (l := s.data.toList) (by rw [hby.out]; exact hsm))
        go_enter Tryz.func48, Tryz.ntmps48
        go_wp2_with (go_at_call 60; refine (l01Small_is hsm _).mono ?_; rintro e w' ⟨rfl, rfl⟩)
        go_ret
        exact ⟨ret_bool bad.out.symm, rfl⟩
      · have first := Lib.hid (show okAt 0 (s.data.toList.getD 0 0).toNat = true by rw [hby.out]; exact okAt_small hsm)
        go_enter Tryz.func48, Tryz.ntmps48
        go_wp2_with (go_at_call 60; refine (l01Small_is hsm _).mono ?_; rintro e w' ⟨rfl, rfl⟩)
        go_loop [3] (fun i => ∃ k : Nat, k ≤ s.size ∧ GoodTo s.data.toList k ∧ i = .int .i64 k) (fun i => s.size - (intOf i).toNat)
        case atStart => exact ⟨0, Nat.zero_le _, good_zero _, rfl⟩
        case round =>
          obtain ⟨k, hk, hg, rfl⟩ := hrel
          have HG := Lib.hid hg
          have HSM := Lib.hid hsm
          clear hg hsm
          by_cases hlt : k < s.size
          · have hbk := Lib.hid (byte_at hlt)
            have hkl := Lib.hid (show k < s.data.toList.length by rw [hlen.out]; exact hlt)
            cases d1 : smallB s[k].toNat
            · cases d2 : digitB s[k].toNat
              · have bad := Lib.hid (nameB_bad hkl.out (show okAt k (s.data.toList.getD k 0).toNat = false by rw [hbk.out]; exact okAt_no d1 d2))
                go_wp2_with (first | (go_at_call 60; refine (l01Small_is d1 _).mono ?_; rintro e w' ⟨rfl, rfl⟩) | (go_at_call 61; refine (l01Digit_is d2 _).mono ?_; rintro e w' ⟨rfl, rfl⟩))
                go_ret
                exact ⟨ret_bool bad.out.symm, rfl⟩
              · have ok := Lib.hid (good_succ HG.out (show okAt k (s.data.toList.getD k 0).toNat = true by
                  by_cases hk0 : k = 0
                  · subst hk0; exact first.out
                  · rw [hbk.out]; exact okAt_digit hk0 d2))
                go_wp2_with (first | (go_at_call 60; refine (l01Small_is d1 _).mono ?_; rintro e w' ⟨rfl, rfl⟩) | (go_at_call 61; refine (l01Digit_is d2 _).mono ?_; rintro e w' ⟨rfl, rfl⟩))
                go_round
                case rel => exact ⟨k + 1, by omega, ok.out, by go_num⟩
                case measure => simp [intOf]; omega
            · have ok := Lib.hid (good_succ HG.out (show okAt k (s.data.toList.getD k 0).toNat = true by rw [hbk.out]; exact okAt_small d1))
              go_wp2_with (go_at_call 60; refine (l01Small_is d1 _).mono ?_; rintro e w' ⟨rfl, rfl⟩)
              go_round
              case rel => exact ⟨k + 1, by omega, ok.out, by go_num⟩
              case measure => simp [intOf]; omega
          · obtain rfl : k = s.size := by omega
            have fin := Lib.hid (nameB_good (l := s.data.toList) (by rw [hlen.out]; exact HG.out))
            go_wp2
            go_ret
            exact ⟨ret_bool (by rw [fin.out, E2.out, hlen.out]; simp; omega), rfl⟩
    · have bad := Lib.hid (nameB_long (l := s.data.toList) (by rw [hlen.out]; omega))
      go_enter Tryz.func48, Tryz.ntmps48
      go_wp2
      go_ret
      exact ⟨ret_bool bad.out.symm, rfl⟩

end Go.Proofs.YtfmbmgdemdbpaaaGreatDoor
