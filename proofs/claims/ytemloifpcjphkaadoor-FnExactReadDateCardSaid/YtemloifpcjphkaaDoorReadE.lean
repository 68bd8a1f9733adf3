/- ReadDate: the reference's side. -/
import Derived.Test.YtemloifpcjphkaaDoorDateP
import Derived.Test.YtemloifpcjphkaaDoorReadG
namespace Go.Proofs.YtemloifpcjphkaaDoor
open Go.RowKit Go.Sort
set_option linter.unusedVariables false

set_option maxHeartbeats 1600000 in
theorem l02Read_any (s : ByteArray) (w : World) (hs : s.size ≤ 1048576) :
    Calls Tryd.prog 57 #[.string s] w fun e w' => RdPost dateX dateR s.data.toList e ∧ Below w.heap.size w w' := by
  have hl := len_data s
  have LK := Lib.hid (show ∀ v, dateR v → s.data.toList = dateX v → ∃ y m d, IsDate y m d ∧ dnum y m d = v ∧ s.data.toList.length = 10 ∧ s.data.toList.getD 4 0 = 45 ∧ s.data.toList.getD 7 0 = 45 ∧ s.data.toList.take 4 = Lib.itoa y ∧ (s.data.toList.drop 5).take 2 = two m ∧ s.data.toList.drop 8 = two d from fun v hv e => by
    obtain ⟨y, m, d, h, k, _, _, _, _, el⟩ := dateX_read hv e
    exact ⟨y, m, d, h, k, date_look h el⟩)
  by_cases h5 : ¬ s.size = 10
  · have q0 : ((s.size : Int) == 10) = false := by rw [beq_eq_false_iff_ne]; omega
    have HN := Lib.hid (show ∀ v, dateR v → s.data.toList ≠ dateX v from fun v hv e => by
      obtain ⟨_, _, _, _, _, k, _⟩ := LK.out v hv e
      omega)
    clear hl LK
    go_enter Tryd.func57, Tryd.ntmps57
    go_wp2
    go_ret2
    exact ⟨.inr ⟨HN.out, rfl⟩, Below.refl _ _⟩
  have h5 : s.size = 10 := by omega
  have q0 : ((s.size : Int) == 10) = true := by rw [beq_iff_eq]; omega
  have g4 : 4 < s.size := by omega
  have g7 : 7 < s.size := by omega
  have hc4 := byte_at g4
  have hc7 := byte_at g7
  by_cases h4 : ¬ s[4].toNat = 45
  · have q1 : (((s[4].toNat : Nat) : Int) == 45) = false := by rw [beq_eq_false_iff_ne]; omega
    have HN := Lib.hid (show ∀ v, dateR v → s.data.toList ≠ dateX v from fun v hv e => by
      obtain ⟨_, _, _, _, _, _, k, _⟩ := LK.out v hv e
      rw [hc4] at k
      exact h4 (by rw [k]; rfl))
    clear hl hc4 hc7 h4 LK
    go_enter Tryd.func57, Tryd.ntmps57
    go_wp2
    go_ret2
    exact ⟨.inr ⟨HN.out, rfl⟩, Below.refl _ _⟩
  have h4 : s[4].toNat = 45 := by omega
  have q1 : (((s[4].toNat : Nat) : Int) == 45) = true := by rw [beq_iff_eq]; omega
  by_cases h7 : ¬ s[7].toNat = 45
  · have q2 : (((s[7].toNat : Nat) : Int) == 45) = false := by rw [beq_eq_false_iff_ne]; omega
    have HN := Lib.hid (show ∀ v, dateR v → s.data.toList ≠ dateX v from fun v hv e => by
      obtain ⟨_, _, _, _, _, _, _, k, _⟩ := LK.out v hv e
      rw [hc7] at k
      exact h7 (by rw [k]; rfl))
    clear hl hc4 hc7 h4 h7 LK
    go_enter Tryd.func57, Tryd.ntmps57
    go_wp2
    go_ret2
    exact ⟨.inr ⟨HN.out, rfl⟩, Below.refl _ _⟩
  have h7 : s[7].toNat = 45 := by omega
  have q2 : (((s[7].toNat : Nat) : Int) == 45) = true := by rw [beq_iff_eq]; omega
  have H4 := Lib.hid (show s.data.toList.getD 4 0 = 45 by rw [hc4]; exact UInt8.toNat_inj.1 h4)
  have H7 := Lib.hid (show s.data.toList.getD 7 0 = 45 by rw [hc7]; exact UInt8.toNat_inj.1 h7)
  have da : (s.extract 0 4).data.toList = s.data.toList.take 4 := by rw [ext_data]; rfl
  have db : (s.extract 5 7).data.toList = (s.data.toList.drop 5).take 2 := by rw [ext_data]
  have dc : (s.extract 8 10).data.toList = s.data.toList.drop 8 := by rw [ext_data, List.take_of_length_le (by rw [List.length_drop]; omega)]
  have sa : (s.extract 0 4).size ≤ 18 := by rw [ByteArray.size_extract]; omega
  have sb : (s.extract 5 7).size ≤ 18 := by rw [ByteArray.size_extract]; omega
  have sc : (s.extract 8 10).size ≤ 18 := by rw [ByteArray.size_extract]; omega
  obtain ⟨a, ha⟩ : ∃ a, s.extract 0 4 = a := ⟨_, rfl⟩
  obtain ⟨b, hb⟩ : ∃ b, s.extract 5 7 = b := ⟨_, rfl⟩
  obtain ⟨c, hc⟩ : ∃ c, s.extract 8 10 = c := ⟨_, rfl⟩
  have s1 : ∀ W, (Instr.slice 9 (.string s) none (some (.int .i64 4)) none).run Tryd.prog W = .ok (.string a) W := sl_to (L := 4) ha (by omega)
  have s2 : ∀ W, (Instr.slice 9 (.string s) (some (.int .i64 5)) (some (.int .i64 7)) none).run Tryd.prog W = .ok (.string b) W := sl_mid (i := 5) (j := 7) hb (by omega) (by omega)
  have s3 : ∀ W, (Instr.slice 9 (.string s) (some (.int .i64 8)) none none).run Tryd.prog W = .ok (.string c) W := sl_from (L := 8) hc h5 (by omega)
  rw [ha] at da sa
  rw [hb] at db sb
  rw [hc] at dc sc
  have G1 := fun W => l02Digits_any a W sa
  have G2 := fun W => l02Digits_any b W sb
  have G3 := fun W => l02Digits_any c W sc
  rw [da] at G1
  rw [db] at G2
  rw [dc] at G3
  have OF := Lib.hid (fun p1 p2 p3 hb => date_of (l := s.data.toList) (by omega) H4.out H7.out p1 p2 p3 hb)
  have LK := Lib.hid (show ∀ v, dateR v → s.data.toList = dateX v → ∃ y m d, IsDate y m d ∧ dnum y m d = v ∧ s.data.toList.take 4 = Lib.itoa y ∧ (s.data.toList.drop 5).take 2 = two m ∧ s.data.toList.drop 8 = two d from fun v hv e => by
    obtain ⟨y, m, d, h, k, _, _, _, r⟩ := LK.out v hv e
    exact ⟨y, m, d, h, k, r⟩)
  obtain ⟨t1, ht1⟩ : ∃ t, s.data.toList.take 4 = t := ⟨_, rfl⟩
  obtain ⟨t2, ht2⟩ : ∃ t, (s.data.toList.drop 5).take 2 = t := ⟨_, rfl⟩
  obtain ⟨t3, ht3⟩ : ∃ t, s.data.toList.drop 8 = t := ⟨_, rfl⟩
  have LK := LK.out
  have OF := OF.out
  rw [ht1] at G1 LK OF
  rw [ht2] at G2 LK OF
  rw [ht3] at G3 LK OF
  have l1 : t1.length = 4 := by rw [← ht1, List.length_take]; omega
  have l2 : t2.length = 2 := by rw [← ht2, List.length_take, List.length_drop]; omega
  have l3 : t3.length = 2 := by rw [← ht3, List.length_drop]; omega
  have OF := Lib.hid OF
  have NO := Lib.hid (show ∀ v, dateR v → s.data.toList = dateX v → AllD t1 ∧ AllD t2 ∧ AllD t3 ∧ IsDate (valF 0 t1 : Int) (valF 0 t2 : Int) (valF 0 t3 : Int) from fun v hv e => by
    obtain ⟨y, m, d, h, _, e1, e2, e3⟩ := LK v hv e
    have h' := h
    obtain ⟨k1, k2, k3, k4, k5, k6⟩ := h'
    rw [e1, e2, e3, val_itoa (by omega), val_two (by omega), val_two (by omega)]
    exact ⟨allD_itoa (by omega), allD_two _, allD_two _, h⟩)
  clear LK hl hc4 hc7 h4 h7 ha hb hc da db dc sa sb sc ht1 ht2 ht3
  have K := Lib.hid (show AllD t1 ∧ AllD t2 ∧ AllD t3 ∨ ¬ (AllD t1 ∧ AllD t2 ∧ AllD t3) from Classical.em _)
  rcases K.out with ⟨p1, p2, p3⟩ | hn
  · obtain ⟨e1, e1'⟩ := dgsR_ok p1
    obtain ⟨e2, e2'⟩ := dgsR_ok p2
    obtain ⟨e3, e3'⟩ := dgsR_ok p3
    rw [e1, e1'] at G1
    rw [e2, e2'] at G2
    rw [e3, e3'] at G3
    have O := OF.out p1 p2 p3
    have N : ∀ v, dateR v → s.data.toList = dateX v → IsDate (valF 0 t1 : Int) (valF 0 t2 : Int) (valF 0 t3 : Int) := fun v hv e => (NO.out v hv e).2.2.2
    obtain ⟨y, hy⟩ : ∃ y, (valF 0 t1 : Int) = y := ⟨_, rfl⟩
    obtain ⟨m, hm⟩ : ∃ y, (valF 0 t2 : Int) = y := ⟨_, rfl⟩
    obtain ⟨d, hd⟩ : ∃ y, (valF 0 t3 : Int) = y := ⟨_, rfl⟩
    rw [hy] at G1 O N
    rw [hm] at G2 O N
    rw [hd] at G3 O N
    have G1 := Lib.hid G1
    have G2 := Lib.hid G2
    have G3 := Lib.hid G3
    have O := Lib.hid O
    have N := Lib.hid N
    have NUM := Lib.hid (l02Number_any y m d w)
    clear K OF NO e1 e1' e2 e2' e3 e3' p1 p2 p3 hy hm hd l1 l2 l3
    go_enter Tryd.func57, Tryd.ntmps57
    go_wp2_with fail
    refine (G1.out _).mono ?_
    rintro e w1 ⟨rfl, rfl⟩
    go_wp2_with fail
    refine (G2.out _).mono ?_
    rintro e w1 ⟨rfl, rfl⟩
    go_wp2_with fail
    refine (G3.out _).mono ?_
    rintro e w1 ⟨rfl, rfl⟩
    go_wp2_with fail
    refine NUM.out.mono ?_
    rintro e w1 ⟨rfl, b1⟩
    have B1 := Lib.hid b1
    clear b1
    go_wp2
    go_ret2
    refine ⟨?_, B1.out⟩
    cases hdb : dateB y m d with
    | true =>
      have hI := dateB_t hdb
      refine .inl ⟨dnum y m d, ⟨y, m, d, hI, rfl⟩, ?_, ?_⟩
      · rw [dateX_date hI]; exact O.out hI
      · exact ret_nb (show numOf y m d = dnum y m d by rw [numOf, hdb]; rfl) rfl
    | false =>
      refine .inr ⟨fun v hv e => ?_, ?_⟩
      · obtain ⟨k1, k2, k3, k4, k5, k6⟩ := N.out v hv e
        rw [dateB, inB_mk k1 k2, inB_mk k3 k4, inB_mk k5 k6] at hdb
        cases hdb
      · exact ret_nb (show numOf y m d = 0 by rw [numOf, hdb]; rfl) rfl
  · have HN := Lib.hid (show ∀ v, dateR v → s.data.toList ≠ dateX v from fun v hv e => hn ⟨(NO.out v hv e).1, (NO.out v hv e).2.1, (NO.out v hv e).2.2.1⟩)
    have hb : (dgsR t1).2 = false ∨ (dgsR t2).2 = false ∨ (dgsR t3).2 = false := by
      by_cases p1 : AllD t1
      · by_cases p2 : AllD t2
        · by_cases p3 : AllD t3
          · exact absurd ⟨p1, p2, p3⟩ hn
          · exact .inr (.inr (dgsR_no p3).2)
        · exact .inr (.inl (dgsR_no p2).2)
      · exact .inl (dgsR_no p1).2
    obtain ⟨x1, hx1⟩ : ∃ x, (dgsR t1).1 = x := ⟨_, rfl⟩
    obtain ⟨x2, hx2⟩ : ∃ x, (dgsR t2).1 = x := ⟨_, rfl⟩
    obtain ⟨x3, hx3⟩ : ∃ x, (dgsR t3).1 = x := ⟨_, rfl⟩
    obtain ⟨o1, ho1⟩ : ∃ x, (dgsR t1).2 = x := ⟨_, rfl⟩
    obtain ⟨o2, ho2⟩ : ∃ x, (dgsR t2).2 = x := ⟨_, rfl⟩
    obtain ⟨o3, ho3⟩ : ∃ x, (dgsR t3).2 = x := ⟨_, rfl⟩
    rw [hx1, ho1] at G1
    rw [hx2, ho2] at G2
    rw [hx3, ho3] at G3
    rw [ho1, ho2, ho3] at hb
    have G1 := Lib.hid G1
    have G2 := Lib.hid G2
    have G3 := Lib.hid G3
    clear K OF NO hn hx1 hx2 hx3 ho1 ho2 ho3 l1 l2 l3
    cases o1 <;> cases o2 <;> cases o3 <;> simp at hb <;> clear hb
    all_goals
      go_enter Tryd.func57, Tryd.ntmps57
      go_wp2_with fail
      refine (G1.out _).mono ?_
      rintro e w1 ⟨rfl, rfl⟩
      go_wp2_with fail
      refine (G2.out _).mono ?_
      rintro e w1 ⟨rfl, rfl⟩
      go_wp2_with fail
      refine (G3.out _).mono ?_
      rintro e w1 ⟨rfl, rfl⟩
      go_wp2
      go_ret2
      exact ⟨.inr ⟨HN.out, rfl⟩, Below.refl _ _⟩

theorem specReadDate_any (s : ByteArray) (w : World) (hs : s.size ≤ 1048576) :
    Calls Tryd.prog 31 #[.string s] w fun e w' => RdPost dateX dateR s.data.toList e ∧ Below w.heap.size w w' := by
  have F := Lib.hid (l02Read_any s w hs)
  go_enter Tryd.func31, Tryd.ntmps31
  go_wp2_with fail
  refine F.out.mono ?_
  rintro e w1 ⟨⟨v, hv, hl, rfl⟩ | ⟨hn, rfl⟩, b1⟩
  · have HV := Lib.hid (And.intro hv hl)
    have B1 := Lib.hid b1
    clear b1 hv hl
    go_wp2
    go_ret2
    exact ⟨.inl ⟨v, HV.out.1, HV.out.2, rfl⟩, B1.out⟩
  · have HN := Lib.hid hn
    have B1 := Lib.hid b1
    clear b1 hn
    go_wp2
    go_ret2
    exact ⟨.inr ⟨HN.out, rfl⟩, B1.out⟩
end Go.Proofs.YtemloifpcjphkaaDoor
