/- Texts of dates, read back: plain law. -/
import Derived.Test.YtemloifpcjphkaaDoorDateT
import Derived.Test.YtemloifpcjphkaaDoorReadC
import Derived.Test.YtemloifpcjphkaaDoorReadL
namespace Go.Proofs.YtemloifpcjphkaaDoor
open Go.RowKit Go.Sort
set_option linter.unusedVariables false

def dateR (v : Int) : Prop := ∃ y m d, IsDate y m d ∧ dnum y m d = v
theorem dateX_date {y m d : Int} (h : IsDate y m d) : dateX (dnum y m d) = dateT y m d := by
  have := dnum_bd h
  exact dateX_is (inB_mk this.1 this.2) h rfl
theorem mlen31 (y m : Int) : mlen y m ≤ 31 := (mlen_bd y m).2
theorem date_parts {y m d : Int} (h : IsDate y m d) : spl 45 (dateT y m d) = [Lib.itoa y, two m, two d] := by
  obtain ⟨h1, h2, h3, h4, h5, h6⟩ := h
  rw [dateT, spl_hit (allD_not (allD_itoa (by omega)) rfl), spl_of (allD_not (allD_two _) rfl) (allD_not (allD_two _) rfl)]
theorem dig_itoa {y : Int} (h : 0 ≤ y) (h2 : y ≤ 1000000000) : (digR (Lib.itoa y)).1 = y := by
  rw [(digR_ok (dok_itoa h h2)).1, val_itoa h]
theorem dig_two {y : Int} (h : 0 ≤ y) (h2 : y < 100) : (digR (two y)).1 = y := by
  rw [(digR_ok (dok_two h2)).1, val_two h]
theorem dateX_read {v : Int} (hv : dateR v) {l : List UInt8} (e : l = dateX v) : ∃ y m d, IsDate y m d ∧ dnum y m d = v ∧ spl 45 l = [Lib.itoa y, two m, two d] ∧ (digR (Lib.itoa y)).1 = y ∧ (digR (two m)).1 = m ∧ (digR (two d)).1 = d ∧ l = dateT y m d := by
  obtain ⟨y, m, d, h, rfl⟩ := hv
  rw [dateX_date h] at e
  have h' := h
  obtain ⟨h1, h2, h3, h4, h5, h6⟩ := h'
  have := mlen31 y m
  exact ⟨y, m, d, h, rfl, by rw [e]; exact date_parts h, dig_itoa (by omega) (by omega), dig_two (by omega) (by omega), dig_two (by omega) (by omega), e⟩
theorem dateX_inj (a b : Int) (ha : dateR a) (hb : dateR b) (h : dateX a = dateX b) : a = b := by
  obtain ⟨y, m, d, _, e1, e2, e3, e4, e5, _⟩ := dateX_read ha rfl
  obtain ⟨y', m', d', _, k1, k2, k3, k4, k5, _⟩ := dateX_read hb rfl
  rw [h, k2] at e2
  simp only [List.cons.injEq, and_true] at e2
  obtain ⟨q1, q2, q3⟩ := e2
  rw [q1, e3] at k3
  rw [q2, e4] at k4
  rw [q3, e5] at k5
  rw [← e1, ← k1, k3, k4, k5]
theorem year_len {y : Int} (h1 : 2000 ≤ y) (h2 : y ≤ 2099) : (Lib.itoa y).length = 4 := by
  obtain ⟨a, rfl⟩ := Int.eq_ofNat_of_zero_le (show 0 ≤ y by omega)
  rw [itoa_nat]
  have u := dec_le 3 a (by omega)
  have l := Lib.lt_pow_nDigits a
  rw [← Lib.decDigits_length] at l
  by_cases g : (Lib.decDigits a).length ≤ 3
  · have : 10 ^ (Lib.decDigits a).length ≤ 10 ^ 3 := Nat.pow_le_pow_right (by omega) g
    omega
  · omega
theorem year_back {t : List UInt8} (h : AllD t) (hl : t.length = 4) (hv : 2000 ≤ valF 0 t) (hv2 : valF 0 t ≤ 2099) : Lib.itoa (valF 0 t : Int) = t := by
  have := pad_back t (fun e => by rw [e] at hl; simp at hl) h
  rw [hl] at this
  have l4 := year_len (y := (valF 0 t : Int)) (by omega) (by omega)
  rw [itoa_nat] at l4 ⊢
  rw [padL, l4] at this
  exact this
theorem date_look {y m d : Int} (h : IsDate y m d) {l : List UInt8} (e : l = dateT y m d) : l.length = 10 ∧ l.getD 4 0 = 45 ∧ l.getD 7 0 = 45 ∧ l.take 4 = Lib.itoa y ∧ (l.drop 5).take 2 = two m ∧ l.drop 8 = two d := by
  obtain ⟨h1, h2, h3, h4, h5, h6⟩ := h
  have hm := mlen31 y m
  have ly := year_len h1 h2
  have lm := two_len (n := m) (by omega)
  have ld := two_len (n := d) (by omega)
  unfold dateT at e
  generalize Lib.itoa y = a at *
  generalize two m = b at *
  generalize two d = c at *
  match a, b, c, ly, lm, ld with
  | [a0, a1, a2, a3], [b0, b1], [c0, c1], _, _, _ =>
    subst e
    exact ⟨rfl, rfl, rfl, rfl, rfl, rfl⟩
theorem date_join {l : List UInt8} (hl : l.length = 10) (h4 : l.getD 4 0 = 45) (h7 : l.getD 7 0 = 45) : l = l.take 4 ++ 45 :: ((l.drop 5).take 2 ++ 45 :: l.drop 8) := by
  match l, hl with
  | [a0, a1, a2, a3, a4, a5, a6, a7, a8, a9], _ =>
    have e4 : a4 = 45 := h4
    have e7 : a7 = 45 := h7
    subst e4
    subst e7
    rfl
theorem date_of {l : List UInt8} (hl : l.length = 10) (h4 : l.getD 4 0 = 45) (h7 : l.getD 7 0 = 45) (d1 : AllD (l.take 4)) (d2 : AllD ((l.drop 5).take 2)) (d3 : AllD (l.drop 8))
    (hb : IsDate (valF 0 (l.take 4) : Int) (valF 0 ((l.drop 5).take 2) : Int) (valF 0 (l.drop 8) : Int)) : l = dateT (valF 0 (l.take 4) : Int) (valF 0 ((l.drop 5).take 2) : Int) (valF 0 (l.drop 8) : Int) := by
  have y1 := hb.1
  have y2 := hb.2.1
  have e1 := year_back d1 (by rw [List.length_take]; omega) (by omega) (by omega)
  have e2 := two_back d2 (by rw [List.length_take, List.length_drop]; omega)
  have e3 := two_back d3 (by rw [List.length_drop]; omega)
  rw [dateT, e1, e2, e3]
  exact date_join hl h4 h7
end Go.Proofs.YtemloifpcjphkaaDoor
