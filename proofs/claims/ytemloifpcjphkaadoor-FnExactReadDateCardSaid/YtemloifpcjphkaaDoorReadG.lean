/- ReadFixed: the reference's side. Conditions: the text has at most 2^20 bytes. -/
import Derived.Test.YtemloifpcjphkaaDoorReadF
import Derived.Test.YtemloifpcjphkaaDoorReadC
namespace Go.Proofs.YtemloifpcjphkaaDoor
open Go.RowKit Go.Sort
set_option linter.unusedVariables false

theorem head_at {s : ByteArray} (h : 0 < s.size) : s.data.toList.head? = some s[0] := by
  have h' : 0 < s.data.toList.length := by simpa using h
  rw [List.head?_eq_getElem?, List.getElem?_eq_getElem h']; rfl
theorem sl_mid {t y : ByteArray} {i j : Nat} (h : t.extract i j = y) (hij : i ≤ j) (hj : j ≤ t.size) (W : World) : (Instr.slice 9 (.string t) (some (.int .i64 (i : Int))) (some (.int .i64 (j : Int))) none).run Tryd.prog W = .ok (.string y) W := by
  rw [run_slice_string W 9 t .i64 .i64 (i : Int) (j : Int) Tryd.underlying9 (by omega) (by omega) (by omega), Int.toNat_natCast, Int.toNat_natCast, h]
/-- what a text of a number shows at the places where the reference looks -/
def Look (s : ByteArray) (q sg At : Nat) : Prop := ∀ v, fixV (q : Int) v → s.data.toList = fixT v q → sg < At ∧ s.data.toList.getD At 0 = 46 ∧ (s.data.toList.drop sg).take (At - sg) = Lib.decDigits (v.natAbs / 10 ^ q) ∧ s.data.toList.drop (At + 1) = low q v.natAbs ∧ (-1000000000 ≤ v ∧ v ≤ 1000000000) ∧ (s.data.toList.head? = some 45 ↔ v < 0)
theorem look_mk {s : ByteArray} {q sg At : Nat} (hq : q ≤ 6) (hA : s.size = At + q + 1) (hs : (s.data.toList.head? = some 45 ∧ sg = 1) ∨ (s.data.toList.head? ≠ some 45 ∧ sg = 0)) : Look s q sg At := by
  intro v hv e
  obtain ⟨k1, k2⟩ := fixV_bd hv
  have hl := len_data s
  obtain ⟨a1, a2, a3, a4, a5, a6⟩ := fix_look e k1 hq hs
  rw [show s.data.toList.length - q - 1 = At by omega] at a3 a4 a5 a6
  have hc := (fix_core v q).2
  rw [← e] at hc
  exact ⟨a3, a4, a5, a6, k1, hc⟩

set_option maxRecDepth 100000 in
set_option maxHeartbeats 3200000 in
theorem specFix_neg (s : ByteArray) (q At : Nat) (w : World) (hq1 : 1 ≤ q) (hq6 : q ≤ 6) (hA : s.size = At + q + 1) (hA1 : 1 ≤ At) (h20 : s.size ≤ 20) (h0 : 0 < s.size) (h45 : s[0].toNat = 45) :
    Calls Tryd.prog 27 #[.string s, .int .i64 (q : Int)] w fun e w' => RdPost (fun v => fixT v q) (fixV (q : Int)) s.data.toList e ∧ Below w.heap.size w w' := by
  have hp := inB_mk (n := (q : Int)) (lo := 1) (hi := 6) (by omega) (by omega)
  have q0 : (((s[0].toNat : Nat) : Int) == 45) = true := by rw [beq_iff_eq]; omega
  have LK := look_mk (sg := 1) hq6 hA (by
    left
    refine ⟨?_, rfl⟩
    rw [head_at h0]
    exact congrArg some (UInt8.toNat_inj.1 h45))
  have hd : s.data.toList.head? = some 45 := by
    rw [head_at h0]
    exact congrArg some (UInt8.toNat_inj.1 h45)
  have LK := Lib.hid LK
  have q1 : ¬ (20 : Int) < (s.size : Int) := by omega
  have q2 : ¬ (s.size : Int) < (q : Int) + 2 := by omega
  have q3 : (s.size : Int) - (q : Int) - 1 = (At : Int) := by omega
  have gA : At < s.size := by omega
  have gA1 : (At : Int) < (s.size : Int) := by omega
  have gA0 : (0 : Int) ≤ (At : Int) := by omega
  have hbA := byte_at gA
  have HA := Lib.hid hA
  clear h45 hA
  by_cases h46 : ¬ s[At].toNat = 46
  · have q4 : (((s[At].toNat : Nat) : Int) != 46) = true := by rw [bne_iff_ne]; omega
    have HN := Lib.hid (show ∀ v, fixV (q : Int) v → s.data.toList ≠ fixT v q from fun v hv e => by
      have := (LK.out v hv e).2.1
      rw [hbA] at this
      exact h46 (by rw [this]; rfl))
    clear LK hbA h46 hd
    go_enter Tryd.func27, Tryd.ntmps27
    go_wp2_with fail
    refine (is_of (places_any _ _) hp).mono ?_
    rintro e w' ⟨rfl, rfl⟩
    go_wp2
    go_ret2
    exact ⟨.inr ⟨HN.out, rfl⟩, Below.refl _ _⟩
  have q4 : (((s[At].toNat : Nat) : Int) != 46) = false := by rw [bne_eq_false_iff_eq]; omega
  by_cases hle : At ≤ 1
  · have q5 : (At : Int) ≤ 1 := by omega
    have HN := Lib.hid (show ∀ v, fixV (q : Int) v → s.data.toList ≠ fixT v q from fun v hv e => by
      have := (LK.out v hv e).1
      omega)
    clear LK hbA h46 hd hle
    go_enter Tryd.func27, Tryd.ntmps27
    go_wp2_with fail
    refine (is_of (places_any _ _) hp).mono ?_
    rintro e w' ⟨rfl, rfl⟩
    go_wp2
    go_ret2
    exact ⟨.inr ⟨HN.out, rfl⟩, Below.refl _ _⟩
  have q5 : ¬ (At : Int) ≤ 1 := by omega
  have hl := len_data s
  have hA := HA.out
  have da : (s.extract 1 At).data.toList = (s.data.toList.drop 1).take (At - 1) := ext_data _ _ _
  have db : (s.extract (At + 1) s.size).data.toList = s.data.toList.drop (At + 1) := by rw [ext_data, List.take_of_length_le (by rw [List.length_drop]; omega)]
  have sa : (s.extract 1 At).size = At - 1 := by rw [ByteArray.size_extract]; omega
  have sb : (s.extract (At + 1) s.size).size = q := by rw [ByteArray.size_extract]; omega
  obtain ⟨a, ha⟩ : ∃ a, s.extract 1 At = a := ⟨_, rfl⟩
  obtain ⟨b, hb⟩ : ∃ b, s.extract (At + 1) s.size = b := ⟨_, rfl⟩
  have s1 : ∀ W, (Instr.slice 9 (.string s) (some (.int .i64 1)) (some (.int .i64 (At : Int))) none).run Tryd.prog W = .ok (.string a) W := sl_mid (i := 1) (j := At) ha (by omega) (by omega)
  have s2 : ∀ W, (Instr.slice 9 (.string s) (some (.int .i64 ((At : Int) + 1))) none none).run Tryd.prog W = .ok (.string b) W := sl_from (L := At + 1) hb rfl (by omega)
  rw [ha] at da sa
  rw [hb] at db sb
  have G1 := fun W => l02Digits_any a W (by omega)
  have G2 := fun W => l02Digits_any b W (by omega)
  rw [da] at G1
  rw [db] at G2
  obtain ⟨t1, ht1⟩ : ∃ t, (s.data.toList.drop 1).take (At - 1) = t := ⟨_, rfl⟩
  obtain ⟨t2, ht2⟩ : ∃ t, s.data.toList.drop (At + 1) = t := ⟨_, rfl⟩
  rw [ht1] at G1 da
  rw [ht2] at G2 db
  have l1 : t1.length ≤ 18 := by rw [← da, len_data]; omega
  have l2 : t2.length = q := by rw [← db, len_data]; exact sb
  obtain ⟨by', hby⟩ : ∃ by', 10 ^ q = by' := ⟨_, rfl⟩
  have tq2 : by' ≤ 1000000 := by rw [← hby]; exact Nat.pow_le_pow_right (n := 10) (by omega) (show q ≤ 6 by omega)
  have T := Lib.hid (fun W => ten_any q by' W (by omega) hby.symm)
  have NO := Lib.hid (show ∀ v, fixV (q : Int) v → s.data.toList = fixT v q → AllD t1 ∧ AllD t2 ∧ valF 0 t1 * by' + valF 0 t2 = v.natAbs ∧ valF 0 t1 ≤ 1000000000 ∧ (-1000000000 ≤ v ∧ v ≤ 1000000000) ∧ v < 0 from fun v hv e => by
    obtain ⟨_, _, a3, a4, a5, a6⟩ := LK.out v hv e
    rw [ht1] at a3
    rw [ht2] at a4
    rw [a3, a4, (dec_canon _).2.2.2, val_low, hby]
    refine ⟨(dec_canon _).2.1, allD_low _ _, ?_, by have := Nat.div_le_self v.natAbs by'; omega, a5, a6.1 hd⟩
    rw [Nat.mul_comm]; exact Nat.div_add_mod _ _)
  clear LK hbA ha hb sa sb ht1 ht2 da db hl hd hA
  by_cases p1 : AllD t1
  · have v1 := val18 p1 l1
    obtain ⟨e1, e1'⟩ := dgsR_ok p1
    rw [e1, e1'] at G1
    by_cases p2 : AllD t2
    · have v2 : valF 0 t2 < 1000000 := by
        have h1 := valF_bd t2 0 p2
        have h2 : 10 ^ t2.length ≤ 10 ^ 6 := Nat.pow_le_pow_right (by omega) (by omega)
        omega
      obtain ⟨e2, e2'⟩ := dgsR_ok p2
      rw [e2, e2'] at G2
      obtain ⟨x, hx⟩ : ∃ x, valF 0 t1 = x := ⟨_, rfl⟩
      obtain ⟨y, hy⟩ : ∃ y, valF 0 t2 = y := ⟨_, rfl⟩
      rw [hx] at G1 v1
      rw [hy] at G2 v2
      have G1 := Lib.hid G1
      have G2 := Lib.hid G2
      have NO := Lib.hid (show ∀ v, fixV (q : Int) v → s.data.toList = fixT v q → x * by' + y = v.natAbs ∧ x ≤ 1000000000 ∧ (-1000000000 ≤ v ∧ v ≤ 1000000000) ∧ v < 0 from fun v hv e => by
        have := (NO.out v hv e).2.2
        rw [hx, hy] at this; exact this)
      clear e1 e1' e2 e2' hx hy p1 p2 l1 l2 hby
      by_cases hx9 : 1000000000 < x
      · have q6 : (1000000000 : Int) < (x : Int) := by omega
        have HN := Lib.hid (show ∀ v, fixV (q : Int) v → s.data.toList ≠ fixT v q from fun v hv e => by
          have := (NO.out v hv e).2.1
          omega)
        clear NO
        go_enter Tryd.func27, Tryd.ntmps27
        go_wp2_with fail
        refine (is_of (places_any _ _) hp).mono ?_
        rintro e w' ⟨rfl, rfl⟩
        go_wp2_with fail
        refine (G1.out _).mono ?_
        rintro e w' ⟨rfl, rfl⟩
        go_wp2_with fail
        refine (G2.out _).mono ?_
        rintro e w' ⟨rfl, rfl⟩
        go_wp2
        go_ret2
        exact ⟨.inr ⟨HN.out, rfl⟩, Below.refl _ _⟩
      have q6 : ¬ (1000000000 : Int) < (x : Int) := by omega
      have zb : x * by' ≤ 1000000000 * 1000000 := Nat.mul_le_mul (by omega) tq2
      obtain ⟨z, hz⟩ : ∃ z, x * by' = z := ⟨_, rfl⟩
      have hzi : (x : Int) * (by' : Int) = (z : Int) := by rw [← hz]; exact (Int.natCast_mul _ _).symm
      rw [hz] at zb
      have NO := Lib.hid (show ∀ v, fixV (q : Int) v → s.data.toList = fixT v q → v = (-((z : Int) + (y : Int))) from fun v hv e => by
        have := NO.out v hv e
        rw [hz] at this
        omega)
      clear hz hx9
      cases hw : inB (-((z : Int) + (y : Int))) (-1000000000) 1000000000
      · have HN := Lib.hid (show ∀ v, fixV (q : Int) v → s.data.toList ≠ fixT v q from fun v hv e => by
          have h1 := NO.out v hv e
          have h2 := (fixV_bd hv).1
          rw [h1] at h2
          rw [inB_mk h2.1 h2.2] at hw
          cases hw)
        clear NO
        go_enter Tryd.func27, Tryd.ntmps27
        go_wp2_with fail
        refine (is_of (places_any _ _) hp).mono ?_
        rintro e w' ⟨rfl, rfl⟩
        go_wp2_with fail
        refine (G1.out _).mono ?_
        rintro e w' ⟨rfl, rfl⟩
        go_wp2_with fail
        refine (G2.out _).mono ?_
        rintro e w' ⟨rfl, rfl⟩
        go_wp2_with fail
        refine (T.out _).mono ?_
        rintro e w' ⟨rfl, rfl⟩
        go_wp2_with fail
        refine (is_of (whole_any _ _) hw).mono ?_
        rintro e w' ⟨rfl, rfl⟩
        go_wp2
        go_ret2
        exact ⟨.inr ⟨HN.out, rfl⟩, Below.refl _ _⟩
      have wb := inB_t hw
      have X := l02Fixed_any (-((z : Int) + (y : Int))) (q : Int) w wb (by omega)
      rw [Int.toNat_natCast] at X
      have hu := (show (⟨(fixT (-((z : Int) + (y : Int))) q).toArray⟩ : ByteArray).toList = fixT (-((z : Int) + (y : Int))) q from Lib.toList_data _)
      obtain ⟨r, hr⟩ : ∃ r, (⟨(fixT (-((z : Int) + (y : Int))) q).toArray⟩ : ByteArray) = r := ⟨_, rfl⟩
      rw [hr] at X hu
      have X := Lib.hid X
      clear hr
      by_cases he : fixT (-((z : Int) + (y : Int))) q = s.data.toList
      · have qe : (r.toList == s.toList) = true := by rw [beq_iff_eq, hu, Lib.toList_data, he]
        have HR := Lib.hid (show fixV (q : Int) (-((z : Int) + (y : Int))) ∧ s.data.toList = fixT (-((z : Int) + (y : Int))) q from ⟨fixV_mk wb (by omega), he.symm⟩)
        clear NO he hu
        go_enter Tryd.func27, Tryd.ntmps27
        go_wp2_with fail
        refine (is_of (places_any _ _) hp).mono ?_
        rintro e w' ⟨rfl, rfl⟩
        go_wp2_with fail
        refine (G1.out _).mono ?_
        rintro e w' ⟨rfl, rfl⟩
        go_wp2_with fail
        refine (G2.out _).mono ?_
        rintro e w' ⟨rfl, rfl⟩
        go_wp2_with fail
        refine (T.out _).mono ?_
        rintro e w' ⟨rfl, rfl⟩
        go_wp2_with fail
        refine (is_of (whole_any _ _) hw).mono ?_
        rintro e w' ⟨rfl, rfl⟩
        go_wp2_with fail
        refine X.out.mono ?_
        rintro e w3 ⟨rfl, b3⟩
        have B3 := Lib.hid b3
        clear b3
        go_wp2
        go_ret2
        exact ⟨.inl ⟨_, HR.out.1, HR.out.2, rfl⟩, B3.out⟩
      · have qe : (r.toList == s.toList) = false := by rw [beq_eq_false_iff_ne, hu, Lib.toList_data]; exact he
        have HN := Lib.hid (show ∀ v, fixV (q : Int) v → s.data.toList ≠ fixT v q from fun v hv e => by
          have h1 := NO.out v hv e
          rw [h1] at e
          exact he e.symm)
        clear NO he hu
        go_enter Tryd.func27, Tryd.ntmps27
        go_wp2_with fail
        refine (is_of (places_any _ _) hp).mono ?_
        rintro e w' ⟨rfl, rfl⟩
        go_wp2_with fail
        refine (G1.out _).mono ?_
        rintro e w' ⟨rfl, rfl⟩
        go_wp2_with fail
        refine (G2.out _).mono ?_
        rintro e w' ⟨rfl, rfl⟩
        go_wp2_with fail
        refine (T.out _).mono ?_
        rintro e w' ⟨rfl, rfl⟩
        go_wp2_with fail
        refine (is_of (whole_any _ _) hw).mono ?_
        rintro e w' ⟨rfl, rfl⟩
        go_wp2_with fail
        refine X.out.mono ?_
        rintro e w3 ⟨rfl, b3⟩
        have B3 := Lib.hid b3
        clear b3
        go_wp2
        go_ret2
        exact ⟨.inr ⟨HN.out, rfl⟩, B3.out⟩
    · obtain ⟨e2, e2'⟩ := dgsR_no p2
      rw [e2, e2'] at G2
      have HN := Lib.hid (show ∀ v, fixV (q : Int) v → s.data.toList ≠ fixT v q from fun v hv e => p2 (NO.out v hv e).2.1)
      have G1 := Lib.hid G1
      have G2 := Lib.hid G2
      clear e1 e1' e2 e2' p1 p2 l1 l2 hby NO
      go_enter Tryd.func27, Tryd.ntmps27
      go_wp2_with fail
      refine (is_of (places_any _ _) hp).mono ?_
      rintro e w' ⟨rfl, rfl⟩
      go_wp2_with fail
      refine (G1.out _).mono ?_
      rintro e w' ⟨rfl, rfl⟩
      go_wp2_with fail
      refine (G2.out _).mono ?_
      rintro e w' ⟨rfl, rfl⟩
      go_wp2
      go_ret2
      exact ⟨.inr ⟨HN.out, rfl⟩, Below.refl _ _⟩
  · obtain ⟨e1, e1'⟩ := dgsR_no p1
    rw [e1, e1'] at G1
    obtain ⟨x2, hx2⟩ : ∃ x, (dgsR t2).1 = x := ⟨_, rfl⟩
    obtain ⟨o2, ho2⟩ : ∃ x, (dgsR t2).2 = x := ⟨_, rfl⟩
    rw [hx2, ho2] at G2
    have HN := Lib.hid (show ∀ v, fixV (q : Int) v → s.data.toList ≠ fixT v q from fun v hv e => p1 (NO.out v hv e).1)
    have G1 := Lib.hid G1
    have G2 := Lib.hid G2
    clear e1 e1' p1 l1 l2 hby hx2 ho2 NO
    go_enter Tryd.func27, Tryd.ntmps27
    go_wp2_with fail
    refine (is_of (places_any _ _) hp).mono ?_
    rintro e w' ⟨rfl, rfl⟩
    go_wp2_with fail
    refine (G1.out _).mono ?_
    rintro e w' ⟨rfl, rfl⟩
    go_wp2_with fail
    refine (G2.out _).mono ?_
    rintro e w' ⟨rfl, rfl⟩
    go_wp2
    go_ret2
    exact ⟨.inr ⟨HN.out, rfl⟩, Below.refl _ _⟩

set_option maxRecDepth 100000 in
set_option maxHeartbeats 3200000 in
theorem specFix_pos (s : ByteArray) (q At : Nat) (w : World) (hq1 : 1 ≤ q) (hq6 : q ≤ 6) (hA : s.size = At + q + 1) (hA1 : 1 ≤ At) (h20 : s.size ≤ 20) (h0 : 0 < s.size) (h45 : s[0].toNat ≠ 45) :
    Calls Tryd.prog 27 #[.string s, .int .i64 (q : Int)] w fun e w' => RdPost (fun v => fixT v q) (fixV (q : Int)) s.data.toList e ∧ Below w.heap.size w w' := by
  have hp := inB_mk (n := (q : Int)) (lo := 1) (hi := 6) (by omega) (by omega)
  have q0 : (((s[0].toNat : Nat) : Int) == 45) = false := by rw [beq_eq_false_iff_ne]; omega
  have LK := look_mk (sg := 0) hq6 hA (by
    right
    refine ⟨?_, rfl⟩
    rw [head_at h0]
    intro e; injection e with e; exact h45 (by rw [e]; rfl))
  have hd : s.data.toList.head? ≠ some 45 := by
    rw [head_at h0]
    intro e; injection e with e; exact h45 (by rw [e]; rfl)
  have LK := Lib.hid LK
  have q1 : ¬ (20 : Int) < (s.size : Int) := by omega
  have q2 : ¬ (s.size : Int) < (q : Int) + 2 := by omega
  have q3 : (s.size : Int) - (q : Int) - 1 = (At : Int) := by omega
  have gA : At < s.size := by omega
  have gA1 : (At : Int) < (s.size : Int) := by omega
  have gA0 : (0 : Int) ≤ (At : Int) := by omega
  have hbA := byte_at gA
  have HA := Lib.hid hA
  clear h45 hA
  by_cases h46 : ¬ s[At].toNat = 46
  · have q4 : (((s[At].toNat : Nat) : Int) != 46) = true := by rw [bne_iff_ne]; omega
    have HN := Lib.hid (show ∀ v, fixV (q : Int) v → s.data.toList ≠ fixT v q from fun v hv e => by
      have := (LK.out v hv e).2.1
      rw [hbA] at this
      exact h46 (by rw [this]; rfl))
    clear LK hbA h46 hd
    go_enter Tryd.func27, Tryd.ntmps27
    go_wp2_with fail
    refine (is_of (places_any _ _) hp).mono ?_
    rintro e w' ⟨rfl, rfl⟩
    go_wp2
    go_ret2
    exact ⟨.inr ⟨HN.out, rfl⟩, Below.refl _ _⟩
  have q4 : (((s[At].toNat : Nat) : Int) != 46) = false := by rw [bne_eq_false_iff_eq]; omega
  by_cases hle : At ≤ 0
  · exfalso; omega
  have q5 : ¬ (At : Int) ≤ 0 := by omega
  have hl := len_data s
  have hA := HA.out
  have da : (s.extract 0 At).data.toList = (s.data.toList.drop 0).take (At - 0) := ext_data _ _ _
  have db : (s.extract (At + 1) s.size).data.toList = s.data.toList.drop (At + 1) := by rw [ext_data, List.take_of_length_le (by rw [List.length_drop]; omega)]
  have sa : (s.extract 0 At).size = At - 0 := by rw [ByteArray.size_extract]; omega
  have sb : (s.extract (At + 1) s.size).size = q := by rw [ByteArray.size_extract]; omega
  obtain ⟨a, ha⟩ : ∃ a, s.extract 0 At = a := ⟨_, rfl⟩
  obtain ⟨b, hb⟩ : ∃ b, s.extract (At + 1) s.size = b := ⟨_, rfl⟩
  have s1 : ∀ W, (Instr.slice 9 (.string s) (some (.int .i64 0)) (some (.int .i64 (At : Int))) none).run Tryd.prog W = .ok (.string a) W := sl_mid (i := 0) (j := At) ha (by omega) (by omega)
  have s2 : ∀ W, (Instr.slice 9 (.string s) (some (.int .i64 ((At : Int) + 1))) none none).run Tryd.prog W = .ok (.string b) W := sl_from (L := At + 1) hb rfl (by omega)
  rw [ha] at da sa
  rw [hb] at db sb
  have G1 := fun W => l02Digits_any a W (by omega)
  have G2 := fun W => l02Digits_any b W (by omega)
  rw [da] at G1
  rw [db] at G2
  obtain ⟨t1, ht1⟩ : ∃ t, (s.data.toList.drop 0).take (At - 0) = t := ⟨_, rfl⟩
  obtain ⟨t2, ht2⟩ : ∃ t, s.data.toList.drop (At + 1) = t := ⟨_, rfl⟩
  rw [ht1] at G1 da
  rw [ht2] at G2 db
  have l1 : t1.length ≤ 18 := by rw [← da, len_data]; omega
  have l2 : t2.length = q := by rw [← db, len_data]; exact sb
  obtain ⟨by', hby⟩ : ∃ by', 10 ^ q = by' := ⟨_, rfl⟩
  have tq2 : by' ≤ 1000000 := by rw [← hby]; exact Nat.pow_le_pow_right (n := 10) (by omega) (show q ≤ 6 by omega)
  have T := Lib.hid (fun W => ten_any q by' W (by omega) hby.symm)
  have NO := Lib.hid (show ∀ v, fixV (q : Int) v → s.data.toList = fixT v q → AllD t1 ∧ AllD t2 ∧ valF 0 t1 * by' + valF 0 t2 = v.natAbs ∧ valF 0 t1 ≤ 1000000000 ∧ (-1000000000 ≤ v ∧ v ≤ 1000000000) ∧ ¬ v < 0 from fun v hv e => by
    obtain ⟨_, _, a3, a4, a5, a6⟩ := LK.out v hv e
    rw [ht1] at a3
    rw [ht2] at a4
    rw [a3, a4, (dec_canon _).2.2.2, val_low, hby]
    refine ⟨(dec_canon _).2.1, allD_low _ _, ?_, by have := Nat.div_le_self v.natAbs by'; omega, a5, fun g => hd (a6.2 g)⟩
    rw [Nat.mul_comm]; exact Nat.div_add_mod _ _)
  clear LK hbA ha hb sa sb ht1 ht2 da db hl hd hA
  by_cases p1 : AllD t1
  · have v1 := val18 p1 l1
    obtain ⟨e1, e1'⟩ := dgsR_ok p1
    rw [e1, e1'] at G1
    by_cases p2 : AllD t2
    · have v2 : valF 0 t2 < 1000000 := by
        have h1 := valF_bd t2 0 p2
        have h2 : 10 ^ t2.length ≤ 10 ^ 6 := Nat.pow_le_pow_right (by omega) (by omega)
        omega
      obtain ⟨e2, e2'⟩ := dgsR_ok p2
      rw [e2, e2'] at G2
      obtain ⟨x, hx⟩ : ∃ x, valF 0 t1 = x := ⟨_, rfl⟩
      obtain ⟨y, hy⟩ : ∃ y, valF 0 t2 = y := ⟨_, rfl⟩
      rw [hx] at G1 v1
      rw [hy] at G2 v2
      have G1 := Lib.hid G1
      have G2 := Lib.hid G2
      have NO := Lib.hid (show ∀ v, fixV (q : Int) v → s.data.toList = fixT v q → x * by' + y = v.natAbs ∧ x ≤ 1000000000 ∧ (-1000000000 ≤ v ∧ v ≤ 1000000000) ∧ ¬ v < 0 from fun v hv e => by
        have := (NO.out v hv e).2.2
        rw [hx, hy] at this; exact this)
      clear e1 e1' e2 e2' hx hy p1 p2 l1 l2 hby
      by_cases hx9 : 1000000000 < x
      · have q6 : (1000000000 : Int) < (x : Int) := by omega
        have HN := Lib.hid (show ∀ v, fixV (q : Int) v → s.data.toList ≠ fixT v q from fun v hv e => by
          have := (NO.out v hv e).2.1
          omega)
        clear NO
        go_enter Tryd.func27, Tryd.ntmps27
        go_wp2_with fail
        refine (is_of (places_any _ _) hp).mono ?_
        rintro e w' ⟨rfl, rfl⟩
        go_wp2_with fail
        refine (G1.out _).mono ?_
        rintro e w' ⟨rfl, rfl⟩
        go_wp2_with fail
        refine (G2.out _).mono ?_
        rintro e w' ⟨rfl, rfl⟩
        go_wp2
        go_ret2
        exact ⟨.inr ⟨HN.out, rfl⟩, Below.refl _ _⟩
      have q6 : ¬ (1000000000 : Int) < (x : Int) := by omega
      have zb : x * by' ≤ 1000000000 * 1000000 := Nat.mul_le_mul (by omega) tq2
      obtain ⟨z, hz⟩ : ∃ z, x * by' = z := ⟨_, rfl⟩
      have hzi : (x : Int) * (by' : Int) = (z : Int) := by rw [← hz]; exact (Int.natCast_mul _ _).symm
      rw [hz] at zb
      have NO := Lib.hid (show ∀ v, fixV (q : Int) v → s.data.toList = fixT v q → v = ((z : Int) + (y : Int)) from fun v hv e => by
        have := NO.out v hv e
        rw [hz] at this
        omega)
      clear hz hx9
      cases hw : inB ((z : Int) + (y : Int)) (-1000000000) 1000000000
      · have HN := Lib.hid (show ∀ v, fixV (q : Int) v → s.data.toList ≠ fixT v q from fun v hv e => by
          have h1 := NO.out v hv e
          have h2 := (fixV_bd hv).1
          rw [h1] at h2
          rw [inB_mk h2.1 h2.2] at hw
          cases hw)
        clear NO
        go_enter Tryd.func27, Tryd.ntmps27
        go_wp2_with fail
        refine (is_of (places_any _ _) hp).mono ?_
        rintro e w' ⟨rfl, rfl⟩
        go_wp2_with fail
        refine (G1.out _).mono ?_
        rintro e w' ⟨rfl, rfl⟩
        go_wp2_with fail
        refine (G2.out _).mono ?_
        rintro e w' ⟨rfl, rfl⟩
        go_wp2_with fail
        refine (T.out _).mono ?_
        rintro e w' ⟨rfl, rfl⟩
        go_wp2_with fail
        refine (is_of (whole_any _ _) hw).mono ?_
        rintro e w' ⟨rfl, rfl⟩
        go_wp2
        go_ret2
        exact ⟨.inr ⟨HN.out, rfl⟩, Below.refl _ _⟩
      have wb := inB_t hw
      have X := l02Fixed_any ((z : Int) + (y : Int)) (q : Int) w wb (by omega)
      rw [Int.toNat_natCast] at X
      have hu := (show (⟨(fixT ((z : Int) + (y : Int)) q).toArray⟩ : ByteArray).toList = fixT ((z : Int) + (y : Int)) q from Lib.toList_data _)
      obtain ⟨r, hr⟩ : ∃ r, (⟨(fixT ((z : Int) + (y : Int)) q).toArray⟩ : ByteArray) = r := ⟨_, rfl⟩
      rw [hr] at X hu
      have X := Lib.hid X
      clear hr
      by_cases he : fixT ((z : Int) + (y : Int)) q = s.data.toList
      · have qe : (r.toList == s.toList) = true := by rw [beq_iff_eq, hu, Lib.toList_data, he]
        have HR := Lib.hid (show fixV (q : Int) ((z : Int) + (y : Int)) ∧ s.data.toList = fixT ((z : Int) + (y : Int)) q from ⟨fixV_mk wb (by omega), he.symm⟩)
        clear NO he hu
        go_enter Tryd.func27, Tryd.ntmps27
        go_wp2_with fail
        refine (is_of (places_any _ _) hp).mono ?_
        rintro e w' ⟨rfl, rfl⟩
        go_wp2_with fail
        refine (G1.out _).mono ?_
        rintro e w' ⟨rfl, rfl⟩
        go_wp2_with fail
        refine (G2.out _).mono ?_
        rintro e w' ⟨rfl, rfl⟩
        go_wp2_with fail
        refine (T.out _).mono ?_
        rintro e w' ⟨rfl, rfl⟩
        go_wp2_with fail
        refine (is_of (whole_any _ _) hw).mono ?_
        rintro e w' ⟨rfl, rfl⟩
        go_wp2_with fail
        refine X.out.mono ?_
        rintro e w3 ⟨rfl, b3⟩
        have B3 := Lib.hid b3
        clear b3
        go_wp2
        go_ret2
        exact ⟨.inl ⟨_, HR.out.1, HR.out.2, rfl⟩, B3.out⟩
      · have qe : (r.toList == s.toList) = false := by rw [beq_eq_false_iff_ne, hu, Lib.toList_data]; exact he
        have HN := Lib.hid (show ∀ v, fixV (q : Int) v → s.data.toList ≠ fixT v q from fun v hv e => by
          have h1 := NO.out v hv e
          rw [h1] at e
          exact he e.symm)
        clear NO he hu
        go_enter Tryd.func27, Tryd.ntmps27
        go_wp2_with fail
        refine (is_of (places_any _ _) hp).mono ?_
        rintro e w' ⟨rfl, rfl⟩
        go_wp2_with fail
        refine (G1.out _).mono ?_
        rintro e w' ⟨rfl, rfl⟩
        go_wp2_with fail
        refine (G2.out _).mono ?_
        rintro e w' ⟨rfl, rfl⟩
        go_wp2_with fail
        refine (T.out _).mono ?_
        rintro e w' ⟨rfl, rfl⟩
        go_wp2_with fail
        refine (is_of (whole_any _ _) hw).mono ?_
        rintro e w' ⟨rfl, rfl⟩
        go_wp2_with fail
        refine X.out.mono ?_
        rintro e w3 ⟨rfl, b3⟩
        have B3 := Lib.hid b3
        clear b3
        go_wp2
        go_ret2
        exact ⟨.inr ⟨HN.out, rfl⟩, B3.out⟩
    · obtain ⟨e2, e2'⟩ := dgsR_no p2
      rw [e2, e2'] at G2
      have HN := Lib.hid (show ∀ v, fixV (q : Int) v → s.data.toList ≠ fixT v q from fun v hv e => p2 (NO.out v hv e).2.1)
      have G1 := Lib.hid G1
      have G2 := Lib.hid G2
      clear e1 e1' e2 e2' p1 p2 l1 l2 hby NO
      go_enter Tryd.func27, Tryd.ntmps27
      go_wp2_with fail
      refine (is_of (places_any _ _) hp).mono ?_
      rintro e w' ⟨rfl, rfl⟩
      go_wp2_with fail
      refine (G1.out _).mono ?_
      rintro e w' ⟨rfl, rfl⟩
      go_wp2_with fail
      refine (G2.out _).mono ?_
      rintro e w' ⟨rfl, rfl⟩
      go_wp2
      go_ret2
      exact ⟨.inr ⟨HN.out, rfl⟩, Below.refl _ _⟩
  · obtain ⟨e1, e1'⟩ := dgsR_no p1
    rw [e1, e1'] at G1
    obtain ⟨x2, hx2⟩ : ∃ x, (dgsR t2).1 = x := ⟨_, rfl⟩
    obtain ⟨o2, ho2⟩ : ∃ x, (dgsR t2).2 = x := ⟨_, rfl⟩
    rw [hx2, ho2] at G2
    have HN := Lib.hid (show ∀ v, fixV (q : Int) v → s.data.toList ≠ fixT v q from fun v hv e => p1 (NO.out v hv e).1)
    have G1 := Lib.hid G1
    have G2 := Lib.hid G2
    clear e1 e1' p1 l1 l2 hby hx2 ho2 NO
    go_enter Tryd.func27, Tryd.ntmps27
    go_wp2_with fail
    refine (is_of (places_any _ _) hp).mono ?_
    rintro e w' ⟨rfl, rfl⟩
    go_wp2_with fail
    refine (G1.out _).mono ?_
    rintro e w' ⟨rfl, rfl⟩
    go_wp2_with fail
    refine (G2.out _).mono ?_
    rintro e w' ⟨rfl, rfl⟩
    go_wp2
    go_ret2
    exact ⟨.inr ⟨HN.out, rfl⟩, Below.refl _ _⟩

theorem fix_len {v : Int} {q : Nat} (hv : -1000000000 ≤ v ∧ v ≤ 1000000000) (hq : q ≤ 6) : q + 2 ≤ (fixT v q).length ∧ (fixT v q).length ≤ 18 := by
  have h0 := dec_len_pos (v.natAbs / 10 ^ q)
  have h1 : (Lib.decDigits (v.natAbs / 10 ^ q)).length ≤ 10 := dec_le 9 _ (by have := Nat.div_le_self v.natAbs (10 ^ q); omega)
  have hl := fixD_len v.natAbs q
  by_cases h : v < 0
  · rw [fixT_neg h, List.length_cons]; omega
  · rw [fixT_pos h]; omega
set_option maxHeartbeats 800000 in
theorem specReadFixed_any (s : ByteArray) (p : Int) (w : World) (hs : s.size ≤ 1048576) (p0 : -9223372036854775808 ≤ p ∧ p ≤ 9223372036854775807) :
    Calls Tryd.prog 27 #[.string s, .int .i64 p] w fun e w' => RdPost (fun v => fixT v p.toNat) (fixV p) s.data.toList e ∧ Below w.heap.size w w' := by
  cases hp : inB p 1 6
  · have HN := Lib.hid (show ∀ v, fixV p v → s.data.toList ≠ fixT v p.toNat from fun v hv e => by
      have h := (fixV_bd hv).2
      rw [inB_mk h.1 h.2] at hp; cases hp)
    go_enter Tryd.func27, Tryd.ntmps27
    go_wp2_with fail
    refine (is_of (places_any _ _) hp).mono ?_
    rintro e w' ⟨rfl, rfl⟩
    go_wp2
    go_ret2
    exact ⟨.inr ⟨HN.out, rfl⟩, Below.refl _ _⟩
  have pb := inB_t hp
  obtain ⟨q, rfl⟩ := Int.eq_ofNat_of_zero_le (show 0 ≤ p by omega)
  rw [Int.toNat_natCast]
  have hl := len_data s
  by_cases h20 : 20 < s.size
  · have q1 : (20 : Int) < (s.size : Int) := by omega
    have HN := Lib.hid (show ∀ v, fixV (q : Int) v → s.data.toList ≠ fixT v q from fun v hv e => by
      have := (fix_len (fixV_bd hv).1 (q := q) (by omega)).2
      rw [← e] at this; omega)
    go_enter Tryd.func27, Tryd.ntmps27
    go_wp2_with fail
    refine (is_of (places_any _ _) hp).mono ?_
    rintro e w' ⟨rfl, rfl⟩
    go_wp2
    go_ret2
    exact ⟨.inr ⟨HN.out, rfl⟩, Below.refl _ _⟩
  by_cases hlo : s.size < q + 2
  · have q1 : ¬ (20 : Int) < (s.size : Int) := by omega
    have q2 : (s.size : Int) < (q : Int) + 2 := by omega
    have HN := Lib.hid (show ∀ v, fixV (q : Int) v → s.data.toList ≠ fixT v q from fun v hv e => by
      have := (fix_len (fixV_bd hv).1 (q := q) (by omega)).1
      rw [← e] at this; omega)
    go_enter Tryd.func27, Tryd.ntmps27
    go_wp2_with fail
    refine (is_of (places_any _ _) hp).mono ?_
    rintro e w' ⟨rfl, rfl⟩
    go_wp2
    go_ret2
    exact ⟨.inr ⟨HN.out, rfl⟩, Below.refl _ _⟩
  have h0 : 0 < s.size := by omega
  by_cases h45 : s[0].toNat = 45
  · exact specFix_neg s q (s.size - q - 1) w (by omega) (by omega) (by omega) (by omega) (by omega) h0 h45
  · exact specFix_pos s q (s.size - q - 1) w (by omega) (by omega) (by omega) (by omega) (by omega) h0 h45
end Go.Proofs.YtemloifpcjphkaaDoor
