/- Plain arithmetic that the contracts of this seat speak of: ranges, nearest quotients, roots, days. No Go in sight. -/
import Derived.Below
namespace Go.Proofs.Ytfmbmgdemdbpaaa
set_option linter.unusedVariables false

/-! ## Ranges -/
def inB (n lo hi : Int) : Bool := decide (lo ≤ n) && decide (n ≤ hi)
theorem inB_mk {n lo hi : Int} (a : lo ≤ n) (b : n ≤ hi) : inB n lo hi = true := by simp [inB, a, b]
theorem inB_t {n lo hi : Int} (h : inB n lo hi = true) : lo ≤ n ∧ n ≤ hi := by simpa [inB] using h
theorem inB_f {n lo hi : Int} (h : inB n lo hi = false) : lo ≤ n → n ≤ hi → False := by
  intro a b; simp [inB, a, b] at h
theorem inB_no {n lo hi : Int} (h : n < lo ∨ hi < n) : inB n lo hi = false := by
  unfold inB; rcases h with h | h
  · have : ¬ lo ≤ n := by omega
    simp [this]
  · have : ¬ n ≤ hi := by omega
    simp [this]

/-! ## The nearest quotient -/
/-- the nearest quotient, halves away from 0 -/
def rnd (a b : Int) : Int := if b < 0 then (if -a < 0 then -((-b + 2 * a) / (2 * -b)) else (2 * -a + -b) / (2 * -b)) else (if a < 0 then -((b - 2 * a) / (2 * b)) else (2 * a + b) / (2 * b))

theorem near_core (A B : Int) (hA : 0 ≤ A) (hB : 0 < B) : (2 * A + B) / (2 * B) = if B - A % B ≤ A % B then A / B + 1 else A / B := by
  have h1 := Int.mul_ediv_add_emod A B
  have h2 := Int.emod_nonneg A (show B ≠ 0 by omega)
  have h3 := Int.emod_lt_of_pos A hB
  have e : 2 * A + B = (2 * (A % B) + B) + (2 * B) * (A / B) := by
    have : 2 * A = 2 * (B * (A / B) + A % B) := by rw [h1]
    rw [this, Int.mul_add, Int.mul_assoc]; omega
  rw [e, Int.add_mul_ediv_left _ _ (show 2 * B ≠ 0 by omega)]
  generalize A % B = r at *
  generalize A / B = q at *
  by_cases hc : B - r ≤ r
  · rw [if_pos hc]
    have : (2 * r + B) / (2 * B) = 1 := by
      have e2 : 2 * r + B = (2 * r - B) + (2 * B) * 1 := by omega
      rw [e2, Int.add_mul_ediv_left _ _ (show 2 * B ≠ 0 by omega), Int.ediv_eq_zero_of_lt (by omega) (by omega)]; rfl
    omega
  · rw [if_neg hc, Int.ediv_eq_zero_of_lt (by omega) (by omega)]; omega

/-- the absolute value, as the program says it -/
def absI (a : Int) : Int := if a < 0 then -a else a
theorem absI_nonneg (a : Int) : 0 ≤ absI a := by unfold absI; split <;> omega
theorem absI_le {a m : Int} (h1 : -m ≤ a) (h2 : a ≤ m) : absI a ≤ m := by unfold absI; split <;> omega
theorem absI_pos {a : Int} (h : a ≠ 0) : 0 < absI a := by unfold absI; split <;> omega

theorem rnd_pos (a b : Int) (hb : 0 < b) : rnd a b = if a < 0 then -((b - 2 * a) / (2 * b)) else (2 * a + b) / (2 * b) := by
  unfold rnd; rw [if_neg (by omega)]
theorem rnd_neg (a b : Int) (hb : b < 0) : rnd a b = if -a < 0 then -((-b + 2 * a) / (2 * -b)) else (2 * -a + -b) / (2 * -b) := by
  unfold rnd; rw [if_pos hb]

/-- the program's way: by the absolute values -/
theorem rnd_abs (a b : Int) (hb : b ≠ 0) :
    rnd a b = (if (decide (a < 0) != decide (b < 0)) = true then -(if absI b - absI a % absI b ≤ absI a % absI b then absI a / absI b + 1 else absI a / absI b)
      else (if absI b - absI a % absI b ≤ absI a % absI b then absI a / absI b + 1 else absI a / absI b)) := by
  have hp := absI_pos hb
  have ha := absI_nonneg a
  rw [← near_core (absI a) (absI b) ha hp]
  unfold rnd absI
  by_cases h1 : a < 0 <;> by_cases h2 : b < 0 <;> simp [h1, h2]
  · intro h3; omega
  · congr 2; omega
  · by_cases h3 : 0 < a
    · rw [if_pos h3]; congr 2; omega
    · have : a = 0 := by omega
      subst this
      rw [if_neg h3]
      rw [Int.ediv_eq_zero_of_lt (by omega) (by omega), Int.ediv_eq_zero_of_lt (by omega) (by omega)]; rfl

theorem ediv_le_of (x y m : Int) (hy : 0 < y) (hm : 0 ≤ m) (h : x ≤ m) : x / y ≤ m := by
  by_cases hx : 0 ≤ x
  · have := Int.ediv_le_self y hx; omega
  · have : x / y < 0 := Int.ediv_neg_of_neg_of_pos (by omega) hy; omega

/-- a nearest quotient is no greater than the number -/
theorem rnd_bd (a b m : Int) (hb : b ≠ 0) (h1 : -m ≤ a) (h2 : a ≤ m) : -m - 1 ≤ rnd a b ∧ rnd a b ≤ m + 1 := by
  rw [rnd_abs a b hb]
  have hp := absI_pos hb
  have ha := absI_nonneg a
  have hl := absI_le h1 h2
  have hq := Int.ediv_le_self (absI b) ha
  have hq0 := Int.ediv_nonneg ha (show 0 ≤ absI b by omega)
  generalize absI a / absI b = q at *
  generalize absI a % absI b = r at *
  split <;> split <;> omega

/-! ## Roots -/
def IsRoot (n r : Int) : Prop := 0 ≤ r ∧ r ≤ 3037000499 ∧ r * r ≤ n ∧ n < (r + 1) * (r + 1)
theorem root_le {n a b : Int} (ha : IsRoot n a) (hb : IsRoot n b) : a ≤ b := by
  obtain ⟨a0, _, a1, _⟩ := ha
  obtain ⟨b0, _, _, b2⟩ := hb
  by_cases h : a ≤ b
  · exact h
  · have : (b + 1) * (b + 1) ≤ a * a := Int.mul_le_mul (by omega) (by omega) (by omega) (by omega)
    omega
theorem root_one {n a b : Int} (ha : IsRoot n a) (hb : IsRoot n b) : a = b := by
  have := root_le ha hb
  have := root_le hb ha
  omega
/-- what a root is, negative numbers let in -/
def RootIs (n r : Int) : Prop := (n < 0 → r = 0) ∧ (0 ≤ n → IsRoot n r)
theorem rootIs_one {n a b : Int} (ha : RootIs n a) (hb : RootIs n b) : a = b := by
  by_cases h : n < 0
  · rw [ha.1 h, hb.1 h]
  · exact root_one (ha.2 (by omega)) (hb.2 (by omega))

/-! ## Days -/
/-- days of the years from 2000 to before year y -/
def dby (y : Int) : Int := 365 * (y - 2000) + (y - 2000 + 3) / 4
/-- is it a leap year? 1 | 0 -/
def lp (y : Int) : Int := if y % 4 = 0 then 1 else 0
/-- how many days month m of year y has -/
def mlen (y m : Int) : Int :=
  if m = 1 then 31 else if m = 2 then 28 + lp y else if m = 3 then 31 else if m = 4 then 30 else if m = 5 then 31 else if m = 6 then 30 else
  if m = 7 then 31 else if m = 8 then 31 else if m = 9 then 30 else if m = 10 then 31 else if m = 11 then 30 else 31
/-- days of year y ahead of month m -/
def cum (y m : Int) : Int :=
  if m = 1 then 0 else if m = 2 then 31 else if m = 3 then 59 + lp y else if m = 4 then 90 + lp y else if m = 5 then 120 + lp y else if m = 6 then 151 + lp y else
  if m = 7 then 181 + lp y else if m = 8 then 212 + lp y else if m = 9 then 243 + lp y else if m = 10 then 273 + lp y else if m = 11 then 304 + lp y else if m = 12 then 334 + lp y else 365 + lp y
theorem lp_01 (y : Int) : 0 ≤ lp y ∧ lp y ≤ 1 := by unfold lp; split <;> omega
theorem dby_succ (y : Int) : dby (y + 1) = dby y + 365 + lp y := by unfold dby lp; split <;> omega
theorem dby_mono (a b : Int) (h : a ≤ b) : dby a ≤ dby b := by unfold dby; omega
theorem mlen_bd (y m : Int) : 28 ≤ mlen y m ∧ mlen y m ≤ 31 := by
  have := lp_01 y
  unfold mlen; repeat' split
  all_goals omega
theorem months {m : Int} (h1 : 1 ≤ m) (h2 : m ≤ 12) : m = 1 ∨ m = 2 ∨ m = 3 ∨ m = 4 ∨ m = 5 ∨ m = 6 ∨ m = 7 ∨ m = 8 ∨ m = 9 ∨ m = 10 ∨ m = 11 ∨ m = 12 := by omega
theorem cum_succ (y m : Int) (h1 : 1 ≤ m) (h2 : m ≤ 12) : cum y (m + 1) = cum y m + mlen y m := by
  have := lp_01 y
  rcases months h1 h2 with rfl | rfl | rfl | rfl | rfl | rfl | rfl | rfl | rfl | rfl | rfl | rfl <;> simp [cum, mlen] <;> omega
theorem cum_bd (y m : Int) (h1 : 1 ≤ m) (h2 : m ≤ 12) : 0 ≤ cum y m ∧ cum y m ≤ 334 + lp y := by
  have := lp_01 y
  rcases months h1 h2 with rfl | rfl | rfl | rfl | rfl | rfl | rfl | rfl | rfl | rfl | rfl | rfl <;> simp [cum] <;> omega
theorem cum_mono (y a b : Int) (h1 : 1 ≤ a) (h2 : a < b) (h3 : b ≤ 12) : cum y a + mlen y a ≤ cum y b := by
  have := lp_01 y
  rcases months h1 (by omega) with rfl | rfl | rfl | rfl | rfl | rfl | rfl | rfl | rfl | rfl | rfl | rfl <;>
    rcases months (m := b) (by omega) h3 with rfl | rfl | rfl | rfl | rfl | rfl | rfl | rfl | rfl | rfl | rfl | rfl <;> first | omega | (simp [cum, mlen]; done) | (simp [cum, mlen]; omega)
theorem cum_end (y : Int) : cum y 12 + mlen y 12 = 365 + lp y := by simp only [cum, mlen]; simp; try omega
/-- the number of a day -/
def dnum (y m d : Int) : Int := dby y + cum y m + d - 1
/-- a date that there is -/
def IsDate (y m d : Int) : Prop := 2000 ≤ y ∧ y ≤ 2099 ∧ 1 ≤ m ∧ m ≤ 12 ∧ 1 ≤ d ∧ d ≤ mlen y m
theorem date_one {y m d y' m' d' : Int} (h : IsDate y m d) (h' : IsDate y' m' d') (e : dnum y m d = dnum y' m' d') : y = y' ∧ m = m' ∧ d = d' := by
  obtain ⟨a1, a2, a3, a4, a5, a6⟩ := h
  obtain ⟨b1, b2, b3, b4, b5, b6⟩ := h'
  unfold dnum at e
  have c1 := cum_bd y m a3 a4
  have c2 := cum_bd y' m' b3 b4
  have l1 := lp_01 y
  have l2 := lp_01 y'
  have m1 := mlen_bd y m
  have m2 := mlen_bd y' m'
  have t1 : cum y m + mlen y m ≤ 365 + lp y := by
    by_cases h12 : m = 12
    · subst h12; have := cum_end y; omega
    · have := cum_mono y m 12 a3 (by omega) (by omega); have := cum_end y; have := mlen_bd y 12; omega
  have t2 : cum y' m' + mlen y' m' ≤ 365 + lp y' := by
    by_cases h12 : m' = 12
    · subst h12; have := cum_end y'; omega
    · have := cum_mono y' m' 12 b3 (by omega) (by omega); have := cum_end y'; have := mlen_bd y' 12; omega
  have hy : y = y' := by
    rcases Int.lt_trichotomy y y' with g | g | g
    · have := dby_mono (y + 1) y' (by omega); have := dby_succ y; omega
    · exact g
    · have := dby_mono (y' + 1) y (by omega); have := dby_succ y'; omega
  subst hy
  have hm : m = m' := by
    rcases Int.lt_trichotomy m m' with g | g | g
    · have := cum_mono y m m' a3 g b4; omega
    · exact g
    · have := cum_mono y m' m b3 g a4; omega
  subst hm
  exact ⟨rfl, rfl, by omega⟩
theorem dby_2100 : dby 2100 = 36525 := by decide
theorem dby_2000 : dby 2000 = 0 := by decide
theorem dnum_bd {y m d : Int} (h : IsDate y m d) : 0 ≤ dnum y m d ∧ dnum y m d ≤ 36524 := by
  obtain ⟨a1, a2, a3, a4, a5, a6⟩ := h
  have c1 := cum_bd y m a3 a4
  have t1 : cum y m + mlen y m ≤ 365 + lp y := by
    by_cases h12 : m = 12
    · subst h12; have := cum_end y; omega
    · have := cum_mono y m 12 a3 (by omega) (by omega); have := cum_end y; have := mlen_bd y 12; omega
  have := dby_succ y
  have := dby_mono (y + 1) 2100 (by omega)
  have := dby_mono 2000 y a1
  have := dby_2100
  have := dby_2000
  unfold dnum
  omega

/-- how many of the days ahead of day a are no Saturdays and no Sundays -/
def wds (a : Int) : Int := 5 * (a / 7) + (if a % 7 < 2 then 0 else a % 7 - 2)
theorem wds_succ (a : Int) (h : 0 ≤ a) : wds (a + 1) = wds a + (if (a + 5) % 7 < 5 then 1 else 0) := by
  unfold wds; split <;> split <;> split <;> omega
theorem wds_weeks (a b : Int) (h0 : 0 ≤ a) (h : a ≤ b) : (b - a) / 7 * 5 = wds (b - (b - a) % 7) - wds a := by
  unfold wds
  have e : b - (b - a) % 7 = a + 7 * ((b - a) / 7) := by omega
  rw [e]
  generalize (b - a) / 7 = q
  have e1 : (a + 7 * q) / 7 = a / 7 + q := by omega
  have e2 : (a + 7 * q) % 7 = a % 7 := by omega
  rw [e1, e2]; split <;> omega

end Go.Proofs.Ytfmbmgdemdbpaaa
