/- Dates: both texts of the way from a day to a date; both give the one date that has the day's number. -/
import Derived.Test.YtemloifpcjphkaaDoorMonth
import Derived.Test.YtemloifpcjphkaaDoorDay
namespace Go.Proofs.YtemloifpcjphkaaDoor
open Go.RowKit

theorem results_tmp4 {fn : Func} {t u v x : Tmp} (h : fn.results = #[.tmp t, .tmp u, .tmp v, .tmp x]) (tmps : Array Value) (P : Program) (w : World) :
    (results fn tmps).run P w = .ok (.tuple #[tmps.getD t undef, tmps.getD u undef, tmps.getD v undef, tmps.getD x undef]) w := by simp [results, h]

/-- what DateOf comes to -/
def DateIs (day y m d c : Int) : Prop := (inB day 0 36524 = true → IsDate y m d ∧ dnum y m d = day ∧ c = 0) ∧ (inB day 0 36524 = false → y = 0 ∧ m = 0 ∧ d = 0 ∧ c = 2)
def DatePost (day : Int) (w : World) (e : Ending) (w' : World) : Prop :=
  ∃ y m d c : Int, e = .returned (.tuple #[.int .i64 y, .int .i64 m, .int .i64 d, .int .i64 c]) ∧ DateIs day y m d c ∧ Below w.heap.size w w'
theorem dateIs_one {day y m d c y' m' d' c' : Int} (h : DateIs day y m d c) (k : DateIs day y' m' d' c') : y' = y ∧ m' = m ∧ d' = d ∧ c' = c := by
  cases hb : inB day 0 36524
  · obtain ⟨rfl, rfl, rfl, rfl⟩ := h.2 hb; exact k.2 hb
  · obtain ⟨h1, h2, h3⟩ := h.1 hb
    obtain ⟨k1, k2, k3⟩ := k.1 hb
    obtain ⟨e1, e2, e3⟩ := date_one k1 h1 (k2.trans h2.symm)
    exact ⟨e1, e2, e3, by omega⟩

theorem year_le {y d day : Int} (h : dby y + d = day) (hd : 0 ≤ d) (hday : day ≤ 36524) : y ≤ 2099 := by
  by_cases g : y ≤ 2099
  · exact g
  · have := dby_mono 2100 y (by omega); have := dby_2100; omega

/-- what the walk over the months knows -/
def InYear (day y m d : Int) : Prop := 2000 ≤ y ∧ y ≤ 2099 ∧ 1 ≤ m ∧ m ≤ 12 ∧ 0 ≤ d ∧ dby y + cum y m + d = day
theorem inYear_start {day y d : Int} (h1 : 2000 ≤ y) (h2 : y ≤ 2099) (h3 : 0 ≤ d) (h4 : dby y + d = day) : InYear day y 1 d := ⟨h1, h2, by omega, by omega, h3, by simp [cum]; omega⟩
theorem inYear_end {day y m d : Int} (h : InYear day y m d) (hd : d < mlen y m) : IsDate y m (d + 1) ∧ dnum y m (d + 1) = day := by
  obtain ⟨h1, h2, h3, h4, h5, h6⟩ := h
  exact ⟨⟨h1, h2, h3, h4, by omega, by omega⟩, by unfold dnum; omega⟩
theorem inYear_month {day y m d : Int} (h : InYear day y m d) (hy : day < dby (y + 1)) (hd : mlen y m ≤ d) : InYear day y (m + 1) (d - mlen y m) := by
  obtain ⟨h1, h2, h3, h4, h5, h6⟩ := h
  have hs := cum_succ y m h3 h4
  have hm : m < 12 := by
    by_cases g : m = 12
    · subst g; have := cum_end y; have := dby_succ y; omega
    · omega
  exact ⟨h1, h2, by omega, by omega, by omega, by omega⟩
theorem inYear_next {day y d : Int} (h : InYear day y 12 d) (hday : day ≤ 36524) (hd : mlen y 12 ≤ d) : InYear day (y + 1) 1 (d - mlen y 12) := by
  obtain ⟨h1, h2, h3, h4, h5, h6⟩ := h
  have := cum_end y
  have hs := dby_succ y
  have e : dby (y + 1) + (d - mlen y 12) = day := by omega
  have := year_le e (by omega) hday
  exact ⟨by omega, by omega, by omega, by omega, by omega, by simp [cum]; omega⟩
theorem inYear_more {day y m d : Int} (h : InYear day y m d) (hd : mlen y m ≤ d) (hm : m < 12) : InYear day y (m + 1) (d - mlen y m) := by
  obtain ⟨h1, h2, h3, h4, h5, h6⟩ := h
  have hs := cum_succ y m h3 h4
  exact ⟨h1, h2, by omega, by omega, by omega, by omega⟩

set_option maxHeartbeats 800000 in
theorem DateOf_any (day : Int) (w : World) : Calls Tryd.prog 45 #[.int .i64 day] w (DatePost day w) := by
  cases h1 : inB day 0 36524
  · go_enter Tryd.func45, Tryd.ntmps45
    go_wp2_with (go_at_call 65; refine (isDay_any _ _).mono ?_; rintro e w' ⟨rfl, rfl⟩)
    refine bodyPost_ret (results_tmp4 rfl _ _ _) rfl ?_
    exact ⟨0, 0, 0, 2, rfl, ⟨(fun h => by rw [h1] at h; cases h), fun _ => ⟨rfl, rfl, rfl, rfl⟩⟩, Below.refl _ _⟩
  · have H1 := Lib.hid h1
    have b1 := inB_t h1
    have d0 := Lib.hid dby_2000
    go_enter Tryd.func45, Tryd.ntmps45
    go_wp2_with (go_at_call 65; refine (isDay_any _ _).mono ?_; rintro e w' ⟨rfl, rfl⟩)
    go_loop [0, 6] (fun x y => ∃ d yy : Int, 2000 ≤ yy ∧ yy ≤ 2099 ∧ 0 ≤ d ∧ dby yy + d = day ∧ x = .int .i64 d ∧ y = .int .i64 yy) (fun x _ => (intOf x).toNat)
    case atStart => exact ⟨day, 2000, by omega, by omega, b1.1, by rw [d0.out]; omega, rfl, rfl⟩
    case round =>
      obtain ⟨d, y, y1, y2, k1, k2, rfl, rfl⟩ := hrel
      have K2 := Lib.hid k2
      have dle : d ≤ day := by have := dby_mono 2000 y y1; rw [d0.out] at this; omega
      clear k2
      have l1 := lp_01 y
      have ds := Lib.hid (dby_succ y)
      by_cases hc : 365 + lp y ≤ d
      · have y3 : y + 1 ≤ 2099 := year_le (d := d - (365 + lp y)) (day := day) (by rw [ds.out, ← K2.out]; omega) (by omega) b1.2
        go_wp2_with (go_at_call 66; refine (yearDays_any _ _ (by omega) (by omega)).mono ?_; rintro e w' ⟨rfl, rfl⟩)
        go_round
        case rel => exact ⟨d - (365 + lp y), y + 1, by omega, by omega, by omega, by rw [ds.out, ← K2.out]; omega, rfl, rfl⟩
        case measure => simp [intOf]; omega
      · have hy := Lib.hid (show day < dby (y + 1) by rw [ds.out, ← K2.out]; omega)
        go_wp2_with (go_at_call 66; refine (yearDays_any _ _ (by omega) (by omega)).mono ?_; rintro e w' ⟨rfl, rfl⟩)
        go_loop [0, 7] (fun x z => ∃ d' m : Int, InYear day y m d' ∧ d' ≤ 36524 ∧ x = .int .i64 d' ∧ z = .int .i64 m) (fun x _ => (intOf x).toNat)
        case atStart => exact ⟨d, 1, inYear_start y1 y2 k1 K2.out, by omega, rfl, rfl⟩
        case round =>
          obtain ⟨d', m, hi, dl, rfl, rfl⟩ := hrel
          have HI := Lib.hid hi
          obtain ⟨-, -, m1, m2, d1, -⟩ := hi
          have mb := mlen_bd y m
          by_cases hm : mlen y m ≤ d'
          · have st := Lib.hid (inYear_month HI.out hy.out hm)
            go_wp2_with (go_at_call 67; refine (monthDays_any _ _ _ (by omega) (by omega) m1 m2).mono ?_; rintro e w' ⟨rfl, rfl⟩)
            go_round
            case rel => exact ⟨d' - mlen y m, m + 1, st.out, by omega, rfl, rfl⟩
            case measure => simp [intOf]; omega
          · have en := Lib.hid (inYear_end HI.out (by omega))
            go_wp2_with (go_at_call 67; refine (monthDays_any _ _ _ (by omega) (by omega) m1 m2).mono ?_; rintro e w' ⟨rfl, rfl⟩)
            refine bodyPost_ret (results_tmp4 rfl _ _ _) rfl ?_
            exact ⟨y, m, d' + 1, 0, rfl, ⟨fun _ => ⟨en.out.1, en.out.2, rfl⟩, (fun h => by rw [H1.out] at h; cases h)⟩, Below.refl _ _⟩

/-- what the reference's way to a date comes to -/
def SpecDate (day : Int) (w : World) (e : Ending) (w' : World) : Prop :=
  ∃ y m d : Int, e = .returned (.tuple #[.int .i64 y, .int .i64 m, .int .i64 d]) ∧ IsDate y m d ∧ dnum y m d = day ∧ Below w.heap.size w w'

set_option maxHeartbeats 800000 in
theorem l02Date_any (day : Int) (w : World) (b1 : 0 ≤ day) (b2 : day ≤ 36524) : Calls Tryd.prog 64 #[.int .i64 day] w (SpecDate day w) := by
  have d0 := Lib.hid dby_2000
  go_enter Tryd.func64, Tryd.ntmps64
  go_wp2
  go_loopw [0, 5, 6] (fun x y z wr => ∃ d yy m : Int, InYear day yy m d ∧ d ≤ 36524 ∧ x = .int .i64 d ∧ y = .int .i64 yy ∧ z = .int .i64 m ∧ Below w.heap.size w wr) (fun x _ _ _ => (intOf x).toNat)
  case atStart => exact ⟨day, 2000, 1, inYear_start (by omega) (by omega) b1 (by rw [d0.out]; omega), b2, rfl, rfl, rfl, Below.refl _ _⟩
  case round =>
    obtain ⟨d, y, m, hi, dl, rfl, rfl, rfl, hb⟩ := hrel
    have HI := Lib.hid hi
    have HB := Lib.hid hb
    obtain ⟨y1, y2, m1, m2, d1, -⟩ := hi
    clear hb
    have mb := mlen_bd y m
    by_cases hm : mlen y m ≤ d
    · by_cases hm12 : m = 12
      · subst hm12
        have st := Lib.hid (inYear_next HI.out b2 hm)
        go_wp2_with (go_at_call 81; refine (l02Length_any _ _ _ (by omega) (by omega) m1 m2).mono ?_; rintro e w' ⟨rfl, hb⟩; have HB := Lib.hid (HB.out.trans (hb.mono HB.out.size)); clear hb)
        go_roundw
        case rel => exact ⟨d - mlen y 12, y + 1, 1, st.out, by omega, rfl, rfl, rfl, HB.out⟩
        case measure => simp [intOf]; omega
      · have st := Lib.hid (inYear_more HI.out hm (by omega))
        have hm11 : m ≤ 11 := by omega
        clear hm12
        go_wp2_with (go_at_call 81; refine (l02Length_any _ _ _ (by omega) (by omega) m1 m2).mono ?_; rintro e w' ⟨rfl, hb⟩; have HB := Lib.hid (HB.out.trans (hb.mono HB.out.size)); clear hb)
        go_roundw
        case rel => exact ⟨d - mlen y m, y, m + 1, st.out, by omega, rfl, rfl, rfl, HB.out⟩
        case measure => simp [intOf]; omega
    · have en := Lib.hid (inYear_end HI.out (by omega))
      go_wp2_with (go_at_call 81; refine (l02Length_any _ _ _ (by omega) (by omega) m1 m2).mono ?_; rintro e w' ⟨rfl, hb⟩; have HB := Lib.hid (HB.out.trans (hb.mono HB.out.size)); clear hb)
      go_ret3
      exact ⟨y, m, d + 1, rfl, en.out.1, en.out.2, HB.out⟩

/-- is there a date? -/
def dateB (y m d : Int) : Bool := inB y 2000 2099 && (inB m 1 12 && inB d 1 (mlen y m))
theorem dateB_t {y m d : Int} (h : dateB y m d = true) : IsDate y m d := by
  simp only [dateB, Bool.and_eq_true] at h
  obtain ⟨h1, h2, h3⟩ := h
  have := inB_t h1
  have := inB_t h2
  have := inB_t h3
  exact ⟨by omega, by omega, by omega, by omega, by omega, by omega⟩
def numOf (y m d : Int) : Int := if dateB y m d then dnum y m d else 0
def codOf (y m d : Int) : Int := if dateB y m d then 0 else 2

set_option maxHeartbeats 800000 in
theorem DayNumber_any (y m d : Int) (w : World) : Calls Tryd.prog 59 #[.int .i64 y, .int .i64 m, .int .i64 d] w
    fun e w' => e = .returned (.tuple #[.int .i64 (numOf y m d), .int .i64 (codOf y m d)]) ∧ w = w' := by
  cases h1 : inB y 2000 2099
  · go_enter Tryd.func59, Tryd.ntmps59
    go_wp2_with (go_at_call 35; refine (within_any _ _ _ _).mono ?_; rintro e w' ⟨rfl, rfl⟩)
    go_ret2
    exact ⟨ret_int2 (by simp [numOf, dateB, h1]) (by simp [codOf, dateB, h1]), rfl⟩
  · have b1 := inB_t h1
    cases h2 : inB m 1 12
    · go_enter Tryd.func59, Tryd.ntmps59
      go_wp2_with (go_at_call 35; refine (within_any _ _ _ _).mono ?_; rintro e w' ⟨rfl, rfl⟩)
      go_ret2
      exact ⟨ret_int2 (by simp [numOf, dateB, h1, h2]) (by simp [codOf, dateB, h1, h2]), rfl⟩
    · have b2 := inB_t h2
      cases h3 : inB d 1 (mlen y m)
      · go_enter Tryd.func59, Tryd.ntmps59
        go_wp2_with (first | (go_at_call 35; refine (within_any _ _ _ _).mono ?_; rintro e w' ⟨rfl, rfl⟩) | (go_at_call 67; refine (monthDays_any _ _ _ (by omega) (by omega) b2.1 b2.2).mono ?_; rintro e w' ⟨rfl, rfl⟩))
        go_ret2
        exact ⟨ret_int2 (by simp [numOf, dateB, h1, h2, h3]) (by simp [codOf, dateB, h1, h2, h3]), rfl⟩
      · have hok := Lib.hid (show dateB y m d = true by simp [dateB, h1, h2, h3])
        have b3 := inB_t h3
        have mb := mlen_bd y m
        have d0 := Lib.hid dby_2000
        have c1 := Lib.hid (show cum y 1 = 0 by simp [cum])
        go_enter Tryd.func59, Tryd.ntmps59
        go_wp2_with (first | (go_at_call 35; refine (within_any _ _ _ _).mono ?_; rintro e w' ⟨rfl, rfl⟩) | (go_at_call 67; refine (monthDays_any _ _ _ (by omega) (by omega) b2.1 b2.2).mono ?_; rintro e w' ⟨rfl, rfl⟩))
        go_loop [8, 9] (fun x z => ∃ k : Int, 2000 ≤ k ∧ k ≤ y ∧ x = .int .i64 (d - 1 + dby k) ∧ z = .int .i64 k) (fun _ z => (y - intOf z).toNat)
        case atStart => exact ⟨2000, by omega, b1.1, by rw [d0.out]; go_num, rfl⟩
        case round =>
          obtain ⟨k, k1, k2, rfl, rfl⟩ := hrel
          have l1 := lp_01 k
          have ds := Lib.hid (dby_succ k)
          have e1 : 0 ≤ dby k := by have := dby_mono 2000 k k1; rw [d0.out] at this; exact this
          have e2 : dby k ≤ 36525 := by have := dby_mono k 2100 (by omega); have := dby_2100; omega
          by_cases hk : k < y
          · go_wp2_with (go_at_call 66; refine (yearDays_any _ _ (by omega) (by omega)).mono ?_; rintro e w' ⟨rfl, rfl⟩)
            go_round
            case rel => exact ⟨k + 1, by omega, by omega, by rw [ds.out]; go_num, rfl⟩
            case measure => simp [intOf]; omega
          · obtain rfl : k = y := by omega
            go_wp2
            go_loop [8, 10] (fun x z => ∃ j : Int, 1 ≤ j ∧ j ≤ m ∧ x = .int .i64 (d - 1 + dby k + cum k j) ∧ z = .int .i64 j) (fun _ z => (m - intOf z).toNat)
            case atStart => exact ⟨1, by omega, b2.1, by rw [c1.out]; go_num, rfl⟩
            case round =>
              obtain ⟨j, j1, j2, rfl, rfl⟩ := hrel
              have cs := Lib.hid (cum_succ k j j1 (by omega))
              have cb := cum_bd k j j1 (by omega)
              have jb := mlen_bd k j
              by_cases hj : j < m
              · go_wp2_with (go_at_call 67; refine (monthDays_any _ _ _ (by omega) (by omega) (by omega) (by omega)).mono ?_; rintro e w' ⟨rfl, rfl⟩)
                go_round
                case rel => exact ⟨j + 1, by omega, by omega, by rw [cs.out]; go_num, rfl⟩
                case measure => simp [intOf]; omega
              · obtain rfl : j = m := by omega
                go_wp2
                go_ret2
                exact ⟨ret_int2 (by rw [numOf, hok.out, if_pos rfl]; unfold dnum; omega) (by rw [codOf, hok.out]; rfl), rfl⟩

set_option maxHeartbeats 800000 in
theorem l02Number_any (y m d : Int) (w : World) : Calls Tryd.prog 73 #[.int .i64 y, .int .i64 m, .int .i64 d] w
    fun e w' => e = .returned (.tuple #[.int .i64 (numOf y m d), .bool (dateB y m d)]) ∧ Below w.heap.size w w' := by
  cases h1 : inB y 2000 2099
  · go_enter Tryd.func73, Tryd.ntmps73
    go_wp2_with (go_at_call 33; refine (in_any _ _ _ _).mono ?_; rintro e w' ⟨rfl, rfl⟩)
    go_ret2
    exact ⟨ret_intb (by simp [numOf, dateB, h1]) (by simp [dateB, h1]), Below.refl _ _⟩
  · have b1 := inB_t h1
    cases h2 : inB m 1 12
    · go_enter Tryd.func73, Tryd.ntmps73
      go_wp2_with (go_at_call 33; refine (in_any _ _ _ _).mono ?_; rintro e w' ⟨rfl, rfl⟩)
      go_ret2
      exact ⟨ret_intb (by simp [numOf, dateB, h1, h2]) (by simp [dateB, h1, h2]), Below.refl _ _⟩
    · have b2 := inB_t h2
      cases h3 : inB d 1 (mlen y m)
      · go_enter Tryd.func73, Tryd.ntmps73
        go_wp2_with (first | (go_at_call 33; refine (in_any _ _ _ _).mono ?_; rintro e w' ⟨rfl, rfl⟩) | (go_at_call 81; refine (l02Length_any _ _ _ (by omega) (by omega) b2.1 b2.2).mono ?_; rintro e w' ⟨rfl, hb⟩; have HB := Lib.hid hb; clear hb))
        go_ret2
        exact ⟨ret_intb (by simp [numOf, dateB, h1, h2, h3]) (by simp [dateB, h1, h2, h3]), HB.out⟩
      · have hok := Lib.hid (show dateB y m d = true by simp [dateB, h1, h2, h3])
        have b3 := inB_t h3
        have mb := mlen_bd y m
        have d0 := Lib.hid dby_2000
        have c1 := Lib.hid (show cum y 1 = 0 by simp [cum])
        go_enter Tryd.func73, Tryd.ntmps73
        go_wp2_with (first | (go_at_call 33; refine (in_any _ _ _ _).mono ?_; rintro e w' ⟨rfl, rfl⟩) | (go_at_call 81; refine (l02Length_any _ _ _ (by omega) (by omega) b2.1 b2.2).mono ?_; rintro e w1 ⟨rfl, hb⟩; have HB := Lib.hid hb; clear hb))
        go_loop [8, 9] (fun x z => ∃ k : Int, 2000 ≤ k ∧ k ≤ y ∧ x = .int .i64 (d - 1 + dby k) ∧ z = .int .i64 k) (fun _ z => (y - intOf z).toNat)
        case atStart => exact ⟨2000, by omega, b1.1, by rw [d0.out]; go_num, rfl⟩
        case round =>
          obtain ⟨k, k1, k2, rfl, rfl⟩ := hrel
          have l1 := lp_01 k
          have ds := Lib.hid (dby_succ k)
          have e1 : 0 ≤ dby k := by have := dby_mono 2000 k k1; rw [d0.out] at this; exact this
          have e2 : dby k ≤ 36525 := by have := dby_mono k 2100 (by omega); have := dby_2100; omega
          by_cases hk : k < y
          · by_cases hl : k % 4 = 0
            · have hb : (k % 4 == 0) = true := by simpa using hl
              have hlp := Lib.hid (show lp k = 1 by simp [lp, hl])
              clear hl
              go_wp2
              go_round
              case rel => exact ⟨k + 1, by omega, by omega, by rw [ds.out, hlp.out]; go_num, rfl⟩
              case measure => simp [intOf]; omega
            · have hb : (k % 4 == 0) = false := by simpa using hl
              have hlp := Lib.hid (show lp k = 0 by simp [lp, hl])
              clear hl
              go_wp2
              go_round
              case rel => exact ⟨k + 1, by omega, by omega, by rw [ds.out, hlp.out]; go_num, rfl⟩
              case measure => simp [intOf]; omega
          · obtain rfl : k = y := by omega
            go_wp2
            go_loopw [8, 10] (fun x z wr => ∃ j : Int, 1 ≤ j ∧ j ≤ m ∧ x = .int .i64 (d - 1 + dby k + cum k j) ∧ z = .int .i64 j ∧ Below w.heap.size w wr) (fun _ z _ => (m - intOf z).toNat)
            case atStart => exact ⟨1, by omega, b2.1, by rw [c1.out]; go_num, rfl, HB.out⟩
            case round =>
              obtain ⟨j, j1, j2, rfl, rfl, hbw⟩ := hrel
              have HW := Lib.hid hbw
              clear hbw
              have cs := Lib.hid (cum_succ k j j1 (by omega))
              have cb := cum_bd k j j1 (by omega)
              have jb := mlen_bd k j
              by_cases hj : j < m
              · go_wp2_with (go_at_call 81; refine (l02Length_any _ _ _ (by omega) (by omega) (by omega) (by omega)).mono ?_; rintro e w' ⟨rfl, hb⟩; have HV := Lib.hid (HW.out.trans (hb.mono HW.out.size)); clear hb)
                go_roundw
                case rel => exact ⟨j + 1, by omega, by omega, by rw [cs.out]; go_num, rfl, HV.out⟩
                case measure => simp [intOf]; omega
              · obtain rfl : j = m := by omega
                go_wp2
                go_ret2
                exact ⟨ret_intb (by rw [numOf, hok.out, if_pos rfl]; unfold dnum; omega) hok.out.symm, HW.out⟩

end Go.Proofs.YtemloifpcjphkaaDoor
