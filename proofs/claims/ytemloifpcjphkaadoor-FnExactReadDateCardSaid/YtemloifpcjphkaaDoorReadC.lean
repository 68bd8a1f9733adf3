/- ReadClock: the reference's side. -/
import Derived.Test.YtemloifpcjphkaaDoorFix
import Derived.Test.YtemloifpcjphkaaDoorPair
namespace Go.Proofs.YtemloifpcjphkaaDoor
open Go.RowKit Go.Sort
set_option linter.unusedVariables false

theorem clock_parts {v : Int} (h1 : v ≤ 1439) {l : List UInt8} (h : l = clockT v) : l.length = 5 ∧ l.getD 2 0 = 58 ∧ l.take 2 = two (v / 60) ∧ l.drop 3 = two (v % 60) := by
  have hl := two_len (n := v / 60) (by omega)
  subst h
  refine ⟨clock_len h1, ?_, ?_, ?_⟩
  · rw [clockT, List.getD_eq_getElem?_getD, List.getElem?_append_right (by omega), hl]; rfl
  · rw [clockT, ← hl, List.take_left]
  · rw [clockT, show 3 = (two (v / 60)).length + 1 by omega, List.drop_append, List.drop_of_length_le (by omega), show (two (v / 60)).length + 1 - (two (v / 60)).length = 1 by omega]; rfl
theorem clock_of {l : List UInt8} (h5 : l.length = 5) (h58 : l.getD 2 0 = 58) (h1 : AllD (l.take 2)) (h2 : AllD (l.drop 3)) (x : valF 0 (l.take 2) ≤ 23) (y : valF 0 (l.drop 3) ≤ 59) :
    ReadClockR (60 * (valF 0 (l.take 2) : Int) + (valF 0 (l.drop 3) : Int)) ∧ l = clockT (60 * (valF 0 (l.take 2) : Int) + (valF 0 (l.drop 3) : Int)) := by
  have t1 := two_back h1 (by rw [List.length_take]; omega)
  have t2 := two_back h2 (by rw [List.length_drop]; omega)
  have e1 : (60 * (valF 0 (l.take 2) : Int) + (valF 0 (l.drop 3) : Int)) / 60 = (valF 0 (l.take 2) : Int) := by omega
  have e2 : (60 * (valF 0 (l.take 2) : Int) + (valF 0 (l.drop 3) : Int)) % 60 = (valF 0 (l.drop 3) : Int) := by omega
  refine ⟨⟨by omega, by omega⟩, ?_⟩
  rw [clockT, e1, e2, t1, t2]
  conv => lhs; rw [← List.take_append_drop 2 l]
  rw [List.drop_eq_getElem_cons (show 2 < l.length by omega)]
  rw [List.getD_eq_getElem?_getD, List.getElem?_eq_getElem (show 2 < l.length by omega)] at h58
  rw [show l[2] = 58 from h58]
theorem val2_bd {t : List UInt8} (h : AllD t) (hl : t.length = 2) : valF 0 t < 100 := by
  have := valF_bd t 0 h
  rw [hl] at this
  omega
theorem ext_data (s : ByteArray) (a b : Nat) : (s.extract a b).data.toList = (s.data.toList.drop a).take (b - a) := by
  have := Lib.extract_data s a b
  exact this

set_option maxHeartbeats 1600000 in
theorem specReadClock_any (s : ByteArray) (w : World) (hs : s.size ≤ 1048576) :
    Calls Tryd.prog 23 #[.string s] w fun e w' => RdPost clockT ReadClockR s.data.toList e ∧ Below w.heap.size w w' := by
  have hl := len_data s
  by_cases h5 : ¬ s.size = 5
  · have q0 : ((s.size : Int) == 5) = false := by rw [beq_eq_false_iff_ne]; omega
    have HN := Lib.hid (show ∀ v, ReadClockR v → s.data.toList ≠ clockT v from fun v hv e => by
      have := (clock_parts hv.2 e).1
      omega)
    clear hl
    go_enter Tryd.func23, Tryd.ntmps23
    go_wp2
    go_ret2
    exact ⟨.inr ⟨HN.out, rfl⟩, Below.refl _ _⟩
  have h5 : s.size = 5 := by omega
  have q0 : ((s.size : Int) == 5) = true := by rw [beq_iff_eq]; omega
  have g2 : 2 < s.size := by omega
  have hc := byte_at g2
  by_cases h58 : ¬ s[2].toNat = 58
  · have q1 : (((s[2].toNat : Nat) : Int) == 58) = false := by rw [beq_eq_false_iff_ne]; omega
    have HN := Lib.hid (show ∀ v, ReadClockR v → s.data.toList ≠ clockT v from fun v hv e => by
      have := (clock_parts hv.2 e).2.1
      rw [hc] at this
      exact h58 (by rw [this]; rfl))
    clear hl hc h58
    go_enter Tryd.func23, Tryd.ntmps23
    go_wp2
    go_ret2
    exact ⟨.inr ⟨HN.out, rfl⟩, Below.refl _ _⟩
  have h58 : s[2].toNat = 58 := by omega
  have q1 : (((s[2].toNat : Nat) : Int) == 58) = true := by rw [beq_iff_eq]; omega
  have H58 := Lib.hid (show s.data.toList.getD 2 0 = 58 by rw [hc]; exact UInt8.toNat_inj.1 h58)
  have da : (s.extract 0 2).data.toList = s.data.toList.take 2 := by rw [ext_data]; rfl
  have db : (s.extract 3 5).data.toList = s.data.toList.drop 3 := by rw [ext_data, List.take_of_length_le (by rw [List.length_drop]; omega)]
  have sa : (s.extract 0 2).size = 2 := by rw [ByteArray.size_extract]; omega
  have sb : (s.extract 3 5).size = 2 := by rw [ByteArray.size_extract]; omega
  obtain ⟨a, ha⟩ : ∃ a, s.extract 0 2 = a := ⟨_, rfl⟩
  obtain ⟨b, hb⟩ : ∃ b, s.extract 3 5 = b := ⟨_, rfl⟩
  have s1 : ∀ W, (Instr.slice 9 (.string s) none (some (.int .i64 2)) none).run Tryd.prog W = .ok (.string a) W := sl_to (L := 2) ha (by omega)
  have s2 : ∀ W, (Instr.slice 9 (.string s) (some (.int .i64 3)) none none).run Tryd.prog W = .ok (.string b) W := sl_from (L := 3) hb h5 (by omega)
  rw [ha] at da sa
  rw [hb] at db sb
  have G1 := fun W => l02Digits_any a W (by omega)
  have G2 := fun W => l02Digits_any b W (by omega)
  rw [da] at G1
  rw [db] at G2
  obtain ⟨t1, ht1⟩ : ∃ t, s.data.toList.take 2 = t := ⟨_, rfl⟩
  obtain ⟨t2, ht2⟩ : ∃ t, s.data.toList.drop 3 = t := ⟨_, rfl⟩
  rw [ht1] at G1
  rw [ht2] at G2
  have l1 : t1.length = 2 := by rw [← ht1, List.length_take]; omega
  have l2 : t2.length = 2 := by rw [← ht2, List.length_drop]; omega
  have NO := Lib.hid (show ∀ v, ReadClockR v → s.data.toList = clockT v → AllD t1 ∧ AllD t2 ∧ (valF 0 t1 : Int) = v / 60 ∧ (valF 0 t2 : Int) = v % 60 from fun v hv e => by
    obtain ⟨_, _, e1, e2⟩ := clock_parts hv.2 e
    rw [ht1] at e1
    rw [ht2] at e2
    rw [e1, e2, val_two (by have := hv.1; omega), val_two (by omega)]
    exact ⟨allD_two _, allD_two _, rfl, rfl⟩)
  have YES := Lib.hid (show AllD t1 → AllD t2 → valF 0 t1 ≤ 23 → valF 0 t2 ≤ 59 → ReadClockR (60 * (valF 0 t1 : Int) + (valF 0 t2 : Int)) ∧ s.data.toList = clockT (60 * (valF 0 t1 : Int) + (valF 0 t2 : Int)) from fun p1 p2 p3 p4 => by
    have := clock_of (l := s.data.toList) (by omega) H58.out (by rw [ht1]; exact p1) (by rw [ht2]; exact p2) (by rw [ht1]; exact p3) (by rw [ht2]; exact p4)
    rw [ht1, ht2] at this
    exact this)
  clear hl hc ha hb da db sa sb ht1 ht2
  by_cases p1 : AllD t1
  · have v1 := val2_bd p1 l1
    obtain ⟨e1, e1'⟩ := dgsR_ok p1
    rw [e1, e1'] at G1
    by_cases p2 : AllD t2
    · have v2 := val2_bd p2 l2
      obtain ⟨e2, e2'⟩ := dgsR_ok p2
      rw [e2, e2'] at G2
      obtain ⟨x, hx⟩ : ∃ x, valF 0 t1 = x := ⟨_, rfl⟩
      obtain ⟨y, hy⟩ : ∃ y, valF 0 t2 = y := ⟨_, rfl⟩
      rw [hx] at G1 v1
      rw [hy] at G2 v2
      have Y := YES.out p1 p2
      have N := NO.out
      rw [hx, hy] at Y
      have Y := Lib.hid Y
      have N := Lib.hid (fun v hv e => by have := (N v hv e).2.2; rw [hx, hy] at this; exact this : ∀ v, ReadClockR v → s.data.toList = clockT v → (x : Int) = v / 60 ∧ (y : Int) = v % 60)
      have G1 := Lib.hid G1
      have G2 := Lib.hid G2
      clear p1 p2 e1 e1' e2 e2' hx hy YES NO l1 l2 h58
      by_cases b1 : x ≤ 23
      · by_cases b2 : y ≤ 59
        · have Y := Lib.hid (Y.out b1 b2)
          have gx : ¬ (23 : Int) < (x : Int) := by omega
          have gy : ¬ (59 : Int) < (y : Int) := by omega
          go_enter Tryd.func23, Tryd.ntmps23
          go_wp2_with fail
          refine (G1.out _).mono ?_
          rintro e w1 ⟨rfl, rfl⟩
          go_wp2_with fail
          refine (G2.out _).mono ?_
          rintro e w1 ⟨rfl, rfl⟩
          go_wp2
          go_ret2
          exact ⟨.inl ⟨_, Y.out.1, Y.out.2, rfl⟩, Below.refl _ _⟩
        · have gx : ¬ (23 : Int) < (x : Int) := by omega
          have gy : (59 : Int) < (y : Int) := by omega
          have HN := Lib.hid (show ∀ v, ReadClockR v → s.data.toList ≠ clockT v from fun v hv e => by have := N.out v hv e; omega)
          go_enter Tryd.func23, Tryd.ntmps23
          go_wp2_with fail
          refine (G1.out _).mono ?_
          rintro e w1 ⟨rfl, rfl⟩
          go_wp2_with fail
          refine (G2.out _).mono ?_
          rintro e w1 ⟨rfl, rfl⟩
          go_wp2
          go_ret2
          exact ⟨.inr ⟨HN.out, rfl⟩, Below.refl _ _⟩
      · have gx : (23 : Int) < (x : Int) := by omega
        have HN := Lib.hid (show ∀ v, ReadClockR v → s.data.toList ≠ clockT v from fun v hv e => by have := N.out v hv e; have := hv.2; omega)
        go_enter Tryd.func23, Tryd.ntmps23
        go_wp2_with fail
        refine (G1.out _).mono ?_
        rintro e w1 ⟨rfl, rfl⟩
        go_wp2_with fail
        refine (G2.out _).mono ?_
        rintro e w1 ⟨rfl, rfl⟩
        go_wp2
        go_ret2
        exact ⟨.inr ⟨HN.out, rfl⟩, Below.refl _ _⟩
    · obtain ⟨e2, e2'⟩ := dgsR_no p2
      rw [e2, e2'] at G2
      have HN := Lib.hid (show ∀ v, ReadClockR v → s.data.toList ≠ clockT v from fun v hv e => p2 (NO.out v hv e).2.1)
      have G1 := Lib.hid G1
      have G2 := Lib.hid G2
      clear p1 p2 e1 e1' e2 e2' YES NO l1 l2 h58
      go_enter Tryd.func23, Tryd.ntmps23
      go_wp2_with fail
      refine (G1.out _).mono ?_
      rintro e w1 ⟨rfl, rfl⟩
      go_wp2_with fail
      refine (G2.out _).mono ?_
      rintro e w1 ⟨rfl, rfl⟩
      go_wp2
      go_ret2
      exact ⟨.inr ⟨HN.out, rfl⟩, Below.refl _ _⟩
  · obtain ⟨e1, e1'⟩ := dgsR_no p1
    rw [e1, e1'] at G1
    obtain ⟨x2, hx2⟩ : ∃ x, (dgsR t2).1 = x := ⟨_, rfl⟩
    obtain ⟨o2, ho2⟩ : ∃ x, (dgsR t2).2 = x := ⟨_, rfl⟩
    rw [hx2, ho2] at G2
    have HN := Lib.hid (show ∀ v, ReadClockR v → s.data.toList ≠ clockT v from fun v hv e => p1 (NO.out v hv e).1)
    have G1 := Lib.hid G1
    have G2 := Lib.hid G2
    clear p1 e1 e1' hx2 ho2 YES NO l1 l2 h58
    go_enter Tryd.func23, Tryd.ntmps23
    go_wp2_with fail
    refine (G1.out _).mono ?_
    rintro e w1 ⟨rfl, rfl⟩
    go_wp2_with fail
    refine (G2.out _).mono ?_
    rintro e w1 ⟨rfl, rfl⟩
    go_wp2
    go_ret2
    exact ⟨.inr ⟨HN.out, rfl⟩, Below.refl _ _⟩
end Go.Proofs.YtemloifpcjphkaaDoor
