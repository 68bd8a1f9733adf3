/- DateText: what the program and the reference write. -/
import Derived.Test.YtemloifpcjphkaaDoorFix
import Derived.Test.YtemloifpcjphkaaDoorDateS
namespace Go.Proofs.YtemloifpcjphkaaDoor
open Go.RowKit Go.Sort

open Classical in
noncomputable def dateX (day : Int) : List UInt8 := if inB day 0 36524 then (if h : ∃ t : Int × Int × Int, IsDate t.1 t.2.1 t.2.2 ∧ dnum t.1 t.2.1 t.2.2 = day then dateT (Classical.choose h).1 (Classical.choose h).2.1 (Classical.choose h).2.2 else []) else []
theorem dateX_no {day : Int} (h : inB day 0 36524 = false) : dateX day = [] := by unfold dateX; rw [h]; rfl
theorem dateX_is {day y m d : Int} (h : inB day 0 36524 = true) (h1 : IsDate y m d) (h2 : dnum y m d = day) : dateX day = dateT y m d := by
  have hx : ∃ t : Int × Int × Int, IsDate t.1 t.2.1 t.2.2 ∧ dnum t.1 t.2.1 t.2.2 = day := ⟨(y, m, d), h1, h2⟩
  unfold dateX
  rw [h, if_pos rfl, dif_pos hx]
  obtain ⟨k1, k2⟩ := Classical.choose_spec hx
  obtain ⟨e1, e2, e3⟩ := date_one k1 h1 (k2.trans h2.symm)
  rw [e1, e2, e3]
theorem dash_app (a b c : List UInt8) : (⟨a.toArray⟩ : ByteArray) ++ ⟨#[45]⟩ ++ ⟨b.toArray⟩ ++ ⟨#[45]⟩ ++ ⟨c.toArray⟩ = ⟨(a ++ 45 :: (b ++ 45 :: c)).toArray⟩ := by
  rw [show (⟨#[45]⟩ : ByteArray) = ⟨([45] : List UInt8).toArray⟩ from rfl, str_app, str_app, str_app, str_app]
  simp

set_option maxHeartbeats 800000 in
theorem implDateText_any (day : Int) (w : World) (tab : PowTab w) :
    Calls Tryd.prog 22 #[.int .i64 day] w fun e w' => e = .returned (.string ⟨(dateX day).toArray⟩) ∧ Below w.heap.size w w' := by
  have F0 := Lib.hid (DateOf_any day w)
  have TB := Lib.hid tab
  cases h : inB day 0 36524
  · have HR := Lib.hid (dateX_no h)
    go_enter Tryd.func22, Tryd.ntmps22
    go_wp2_with fail
    refine F0.out.mono ?_
    rintro e w1 ⟨y, m, d, c, rfl, hd, b1⟩
    obtain ⟨rfl, rfl, rfl, rfl⟩ := hd.2 h
    have B1 := Lib.hid b1
    clear b1 hd
    go_wp2
    go_ret
    exact ⟨ret_str HR.out.symm, B1.out⟩
  · go_enter Tryd.func22, Tryd.ntmps22
    go_wp2_with fail
    refine F0.out.mono ?_
    rintro e w1 ⟨y, m, d, c, rfl, hd, b1⟩
    obtain ⟨k1, k2, rfl⟩ := hd.1 h
    have HR := Lib.hid (dateX_is h k1 k2)
    have B1 := Lib.hid b1
    have T1 := Lib.hid (tab_below TB.out b1)
    obtain ⟨g1, g2, g3, g4, g5, g6⟩ := k1
    have g7 := (mlen_bd y m).2
    clear b1 hd k2
    have F1 := fun W ht => implDec_any y W (by omega) ht
    have F2 := fun W ht => pad2_any m W (by omega) (by omega) ht
    have F3 := fun W ht => pad2_any d W (by omega) (by omega) ht
    have e1 : _ = (⟨(dateT y m d).toArray⟩ : ByteArray) := dash_app (Lib.itoa y) (two m) (two d)
    have s1 := str_size (Lib.itoa y)
    have s1' := itoa_len20 (n := y) (by omega) (by omega)
    have s2 := (str_size (two m)).trans (two_len (by omega))
    have s3 := (str_size (two d)).trans (two_len (by omega))
    obtain ⟨x, hx⟩ : ∃ x, (⟨(Lib.itoa y).toArray⟩ : ByteArray) = x := ⟨_, rfl⟩
    obtain ⟨ym, hym⟩ : ∃ ym, (⟨(two m).toArray⟩ : ByteArray) = ym := ⟨_, rfl⟩
    obtain ⟨z, hz⟩ : ∃ z, (⟨(two d).toArray⟩ : ByteArray) = z := ⟨_, rfl⟩
    rw [hx] at F1 e1 s1
    rw [hym] at F2 e1 s2
    rw [hz] at F3 e1 s3
    have c1 := fun W => run_string_add_sum (P := Tryd.prog) W x ⟨#[45]⟩ (by show x.size + 1 ≤ _; omega)
    obtain ⟨u1, hu1⟩ : ∃ u, x ++ (⟨#[45]⟩ : ByteArray) = u := ⟨_, rfl⟩
    have us1 : u1.size ≤ 22 := by rw [← hu1, ByteArray.size_append']; show x.size + 1 ≤ 22; omega
    rw [hu1] at c1 e1
    have c2 := fun W => run_string_add_sum (P := Tryd.prog) W u1 ym (by omega)
    obtain ⟨u2, hu2⟩ : ∃ u, u1 ++ ym = u := ⟨_, rfl⟩
    have us2 : u2.size ≤ 24 := by rw [← hu2, ByteArray.size_append']; omega
    rw [hu2] at c2 e1
    have c3 := fun W => run_string_add_sum (P := Tryd.prog) W u2 ⟨#[45]⟩ (by show u2.size + 1 ≤ _; omega)
    obtain ⟨u3, hu3⟩ : ∃ u, u2 ++ (⟨#[45]⟩ : ByteArray) = u := ⟨_, rfl⟩
    have us3 : u3.size ≤ 25 := by rw [← hu3, ByteArray.size_append']; show u2.size + 1 ≤ 25; omega
    rw [hu3] at c3 e1
    have c4 := fun W => run_string_add_sum (P := Tryd.prog) W u3 z (by omega)
    obtain ⟨u4, hu4⟩ : ∃ u, u3 ++ z = u := ⟨_, rfl⟩
    rw [hu4] at c4 e1
    have E1 := Lib.hid e1
    have F1 := Lib.hid F1
    have F2 := Lib.hid F2
    have F3 := Lib.hid F3
    clear e1 hx hym hz hu1 hu2 hu3 hu4 us1 us2 us3 s1 s1' s2 s3
    go_wp2_with fail
    refine (F1.out w1 T1.out).mono ?_
    rintro e w2 ⟨rfl, b2⟩
    have B2 := Lib.hid (B1.out.trans (b2.mono B1.out.size))
    clear b2
    go_wp2_with fail
    refine (F2.out w2 (tab_below TB.out B2.out)).mono ?_
    rintro e w3 ⟨rfl, b3⟩
    have B3 := Lib.hid (B2.out.trans (b3.mono B2.out.size))
    clear b3
    go_wp2_with fail
    refine (F3.out w3 (tab_below TB.out B3.out)).mono ?_
    rintro e w4 ⟨rfl, b4⟩
    have B4 := Lib.hid (B3.out.trans (b4.mono B3.out.size))
    clear b4
    go_wp2
    go_ret
    exact ⟨by rw [HR.out, E1.out]; rfl, B4.out⟩

set_option maxHeartbeats 800000 in
theorem l02Text_any (day : Int) (w : World) (b : 0 ≤ day ∧ day ≤ 36524) (h : inB day 0 36524 = true) :
    Calls Tryd.prog 44 #[.int .i64 day] w fun e w' => e = .returned (.string ⟨(dateX day).toArray⟩) ∧ Below w.heap.size w w' := by
    have F0 := Lib.hid (l02Date_any day w b.1 b.2)
    go_enter Tryd.func44, Tryd.ntmps44
    go_wp2_with fail
    refine F0.out.mono ?_
    rintro e w1 ⟨y, m, d, rfl, k1, k2, b1⟩
    have HR := Lib.hid (dateX_is h k1 k2)
    have B1 := Lib.hid b1
    obtain ⟨g1, g2, g3, g4, g5, g6⟩ := k1
    have g7 := (mlen_bd y m).2
    clear b1 k2
    have F1 := fun W => l01Dec_any y W (by omega) (by omega)
    have F2 := fun W => two_any m W (by omega) (by omega)
    have F3 := fun W => two_any d W (by omega) (by omega)
    have e1 : _ = (⟨(dateT y m d).toArray⟩ : ByteArray) := dash_app (Lib.itoa y) (two m) (two d)
    have s1 := str_size (Lib.itoa y)
    have s1' := itoa_len20 (n := y) (by omega) (by omega)
    have s2 := (str_size (two m)).trans (two_len (by omega))
    have s3 := (str_size (two d)).trans (two_len (by omega))
    obtain ⟨x, hx⟩ : ∃ x, (⟨(Lib.itoa y).toArray⟩ : ByteArray) = x := ⟨_, rfl⟩
    obtain ⟨ym, hym⟩ : ∃ ym, (⟨(two m).toArray⟩ : ByteArray) = ym := ⟨_, rfl⟩
    obtain ⟨z, hz⟩ : ∃ z, (⟨(two d).toArray⟩ : ByteArray) = z := ⟨_, rfl⟩
    rw [hx] at F1 e1 s1
    rw [hym] at F2 e1 s2
    rw [hz] at F3 e1 s3
    have c1 := fun W => run_string_add_sum (P := Tryd.prog) W x ⟨#[45]⟩ (by show x.size + 1 ≤ _; omega)
    obtain ⟨u1, hu1⟩ : ∃ u, x ++ (⟨#[45]⟩ : ByteArray) = u := ⟨_, rfl⟩
    have us1 : u1.size ≤ 22 := by rw [← hu1, ByteArray.size_append']; show x.size + 1 ≤ 22; omega
    rw [hu1] at c1 e1
    have c2 := fun W => run_string_add_sum (P := Tryd.prog) W u1 ym (by omega)
    obtain ⟨u2, hu2⟩ : ∃ u, u1 ++ ym = u := ⟨_, rfl⟩
    have us2 : u2.size ≤ 24 := by rw [← hu2, ByteArray.size_append']; omega
    rw [hu2] at c2 e1
    have c3 := fun W => run_string_add_sum (P := Tryd.prog) W u2 ⟨#[45]⟩ (by show u2.size + 1 ≤ _; omega)
    obtain ⟨u3, hu3⟩ : ∃ u, u2 ++ (⟨#[45]⟩ : ByteArray) = u := ⟨_, rfl⟩
    have us3 : u3.size ≤ 25 := by rw [← hu3, ByteArray.size_append']; show u2.size + 1 ≤ 25; omega
    rw [hu3] at c3 e1
    have c4 := fun W => run_string_add_sum (P := Tryd.prog) W u3 z (by omega)
    obtain ⟨u4, hu4⟩ : ∃ u, u3 ++ z = u := ⟨_, rfl⟩
    rw [hu4] at c4 e1
    have E1 := Lib.hid e1
    have F1 := Lib.hid F1
    have F2 := Lib.hid F2
    have F3 := Lib.hid F3
    clear e1 hx hym hz hu1 hu2 hu3 hu4 us1 us2 us3 s1 s1' s2 s3
    go_wp2_with fail
    refine (F1.out w1).mono ?_
    rintro e w2 ⟨rfl, b2⟩
    have B2 := Lib.hid (B1.out.trans (b2.mono B1.out.size))
    clear b2
    go_wp2_with fail
    refine (F2.out w2).mono ?_
    rintro e w3 ⟨rfl, b3⟩
    have B3 := Lib.hid (B2.out.trans (b3.mono B2.out.size))
    clear b3
    go_wp2_with fail
    refine (F3.out w3).mono ?_
    rintro e w4 ⟨rfl, b4⟩
    have B4 := Lib.hid (B3.out.trans (b4.mono B3.out.size))
    clear b4
    go_wp2
    go_ret
    exact ⟨by rw [HR.out, E1.out]; rfl, B4.out⟩

theorem specDateText_any (day : Int) (w : World) :
    Calls Tryd.prog 21 #[.int .i64 day] w fun e w' => e = .returned (.string ⟨(dateX day).toArray⟩) ∧ Below w.heap.size w w' := by
  cases h : inB day 0 36524
  · have HR := Lib.hid (dateX_no h)
    go_enter Tryd.func21, Tryd.ntmps21
    go_wp2_with fail
    refine (is_of (l02Day_any _ _) h).mono ?_
    rintro e w' ⟨rfl, rfl⟩
    go_wp2
    go_ret
    exact ⟨ret_str HR.out.symm, Below.refl _ _⟩
  · have F := Lib.hid (l02Text_any day w (inB_t h) h)
    go_enter Tryd.func21, Tryd.ntmps21
    go_wp2_with fail
    refine (is_of (l02Day_any _ _) h).mono ?_
    rintro e w' ⟨rfl, rfl⟩
    go_wp2_with fail
    refine F.out.mono ?_
    rintro e w1 ⟨rfl, b1⟩
    have B1 := Lib.hid b1
    clear b1
    go_wp2
    go_ret
    exact ⟨rfl, B1.out⟩
end Go.Proofs.YtemloifpcjphkaaDoor
