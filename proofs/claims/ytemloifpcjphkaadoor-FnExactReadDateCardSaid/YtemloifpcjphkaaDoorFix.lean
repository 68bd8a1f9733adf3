/- FixedText, LengthText: what the program and the reference write. -/
import Derived.Test.YtemloifpcjphkaaDoorLap
import Derived.Test.YtemloifpcjphkaaDoorBack
import Derived.Lib.QuietBelow
import Derived.Deep.RegionWith
import Derived.BigQuiet
import Derived.Deep.RegionHeld3
namespace Go.Proofs.YtemloifpcjphkaaDoor
open Go.RowKit Go.Sort

theorem below_of {w w' : World} {d : Nat} {os : Array Obj} (h : w' = grow (redrawn w d) os) : Below w.heap.size w w' := by rw [h]; exact below_regrown w d os

theorem ten_any (p Q : Nat) (w : World) (hp : p ≤ 6) (hQ : Q = 10 ^ p) :
    Calls Tryd.prog 51 #[.int .i64 (p : Int)] w fun e w' => e = .returned (.int .i64 (Q : Int)) ∧ w = w' := by
  have QQ := Lib.hid hQ
  clear hQ
  go_enter Tryd.func51, Tryd.ntmps51
  go_wp2
  go_loop [3, 4] (fun x z => ∃ k q : Nat, k ≤ p ∧ q = 10 ^ k ∧ x = .int .i64 (q : Int) ∧ z = .int .i64 (k : Int)) (fun _ z => (p - (intOf z).toNat))
  case atStart => exact ⟨0, 1, by omega, rfl, rfl, rfl⟩
  case round =>
    obtain ⟨k, q, hk, hq, rfl, rfl⟩ := hrel
    have HQ := Lib.hid hq
    have qb : q ≤ 1000000 := by rw [hq]; exact Nat.pow_le_pow_right (n := 10) (by omega) (show k ≤ 6 by omega)
    clear hq
    by_cases hlt : k < p
    · have gk : (k : Int) < (p : Int) := by omega
      go_wp2
      go_round
      case rel => exact ⟨k + 1, q * 10, by omega, by rw [HQ.out, Nat.pow_succ], by go_num, by go_num⟩
      case measure => simp [intOf]; omega
    · obtain rfl : k = p := by omega
      go_wp2
      go_ret
      exact ⟨ret_int (by rw [HQ.out, QQ.out]), rfl⟩

def fixB (n p : Int) : Bool := inB n (-1000000000) 1000000000 && inB p 1 6
def fixX (n p : Int) : List UInt8 := if fixB n p then fixT n p.toNat else []
def lengthX (n : Int) : List UInt8 := if inB n 0 1000000000 then lengthT n else []
theorem ext_list (l : List UInt8) (a b : Nat) : (⟨l.toArray⟩ : ByteArray).extract a b = ⟨((l.drop a).take (b - a)).toArray⟩ := by
  apply ByteArray.ext; simp
theorem sl_to {t y : ByteArray} {L : Nat} (h : t.extract 0 L = y) (hl : L ≤ t.size) (W : World) : (Instr.slice 9 (.string t) none (some (.int .i64 (L : Int))) none).run Tryd.prog W = .ok (.string y) W := by
  rw [run_slice_string_h W 9 t Tryd.underlying9 .i64 (L : Int) (by omega) (by omega), Int.toNat_natCast, h]
theorem sl_from {t y : ByteArray} {L q : Nat} (h : t.extract L q = y) (hq : t.size = q) (hl : L ≤ q) (W : World) : (Instr.slice 9 (.string t) (some (.int .i64 (L : Int))) none none).run Tryd.prog W = .ok (.string y) W := by
  rw [run_slice_string_l W 9 t Tryd.underlying9 .i64 (L : Int) (by omega) (by omega), Int.toNat_natCast, hq, h]
theorem low_size (p a : Nat) : (⟨(49 :: low p a).toArray⟩ : ByteArray).size = p + 1 := by rw [str_size, List.length_cons, low_len]

set_option maxRecDepth 100000 in
set_option maxHeartbeats 1600000 in
theorem implFixedText_any (n p : Int) (w : World) (tab : PowTab w) :
    Calls Tryd.prog 18 #[.int .i64 n, .int .i64 p] w fun e w' => e = .returned (.string ⟨(fixX n p).toArray⟩) ∧ Below w.heap.size w w' := by
  cases h1 : inB n (-1000000000) 1000000000
  · have HR := Lib.hid (show fixX n p = [] by rw [fixX, fixB, h1]; rfl)
    go_enter Tryd.func18, Tryd.ntmps18
    go_wp2_with fail
    refine (is_of (within_any _ _ _ _) h1).mono ?_
    rintro e w' ⟨rfl, rfl⟩
    go_wp2
    go_ret
    exact ⟨ret_str HR.out.symm, Below.refl _ _⟩
  cases h2 : inB p 1 6
  · have HR := Lib.hid (show fixX n p = [] by rw [fixX, fixB, h1, h2]; rfl)
    go_enter Tryd.func18, Tryd.ntmps18
    go_wp2_with fail
    refine (is_of (within_any _ _ _ _) h1).mono ?_
    rintro e w' ⟨rfl, rfl⟩
    go_wp2_with fail
    refine (is_of (within_any _ _ _ _) h2).mono ?_
    rintro e w' ⟨rfl, rfl⟩
    go_wp2
    go_ret
    exact ⟨ret_str HR.out.symm, Below.refl _ _⟩
  have b1 := inB_t h1
  have b2 := inB_t h2
  have HR := Lib.hid (show fixX n p = fixT n p.toNat by rw [fixX, fixB, h1, h2]; rfl)
  obtain ⟨q, rfl⟩ := Int.eq_ofNat_of_zero_le (show 0 ≤ p by omega)
  obtain ⟨a, ha⟩ : ∃ a, n.natAbs = a := ⟨_, rfl⟩
  have hmx : max n (-n) = (a : Int) := by omega
  have F := padded_any a (q + 1) w (by omega) (by omega) tab
  rw [show ((q + 1 : Nat) : Int) = (q : Int) + 1 by omega, pad_low] at F
  have d1 := dec_len_pos (a / 10 ^ q)
  have d2 : (Lib.decDigits (a / 10 ^ q)).length ≤ 10 := dec_le 9 _ (by have := Nat.div_le_self a (10 ^ q); omega)
  have ts : (⟨(Lib.decDigits (a / 10 ^ q) ++ low q a).toArray⟩ : ByteArray).size = (Lib.decDigits (a / 10 ^ q)).length + q := by rw [str_size, List.length_append, low_len]
  have x1 : (⟨(Lib.decDigits (a / 10 ^ q) ++ low q a).toArray⟩ : ByteArray).extract 0 (Lib.decDigits (a / 10 ^ q)).length = ⟨(Lib.decDigits (a / 10 ^ q)).toArray⟩ := by
    rw [ext_list]; simp
  have x2 : (⟨(Lib.decDigits (a / 10 ^ q) ++ low q a).toArray⟩ : ByteArray).extract (Lib.decDigits (a / 10 ^ q)).length ((Lib.decDigits (a / 10 ^ q)).length + q) = ⟨(low q a).toArray⟩ := by
    rw [ext_list, List.drop_left, Nat.add_sub_cancel_left, List.take_of_length_le (by rw [low_len]; omega)]
  have e1 : (⟨(Lib.decDigits (a / 10 ^ q)).toArray⟩ : ByteArray) ++ ⟨#[46]⟩ ++ ⟨(low q a).toArray⟩ = ⟨(Lib.decDigits (a / 10 ^ q) ++ 46 :: low q a).toArray⟩ := by
    rw [show (⟨#[46]⟩ : ByteArray) = ⟨([46] : List UInt8).toArray⟩ from rfl, str_app, str_app, List.append_assoc]; rfl
  have ys := str_size (Lib.decDigits (a / 10 ^ q))
  have zs := (str_size (low q a)).trans (low_len q a)
  obtain ⟨L, hL⟩ : ∃ L, (Lib.decDigits (a / 10 ^ q)).length = L := ⟨_, rfl⟩
  obtain ⟨t, ht⟩ : ∃ t, (⟨(Lib.decDigits (a / 10 ^ q) ++ low q a).toArray⟩ : ByteArray) = t := ⟨_, rfl⟩
  obtain ⟨y, hy⟩ : ∃ y, (⟨(Lib.decDigits (a / 10 ^ q)).toArray⟩ : ByteArray) = y := ⟨_, rfl⟩
  obtain ⟨z, hz⟩ : ∃ z, (⟨(low q a).toArray⟩ : ByteArray) = z := ⟨_, rfl⟩
  rw [ht] at F ts x1 x2
  rw [hL] at ts x1 x2 d1 d2 ys
  rw [hy] at x1 e1 ys
  rw [hz] at x2 e1 zs
  have F := Lib.hid F
  have c1 := fun W => run_string_add_sum (P := Tryd.prog) W y ⟨#[46]⟩ (by show y.size + 1 ≤ _; omega)
  obtain ⟨u, hu⟩ : ∃ u, y ++ (⟨#[46]⟩ : ByteArray) = u := ⟨_, rfl⟩
  have us : u.size ≤ 20 := by rw [← hu, ByteArray.size_append']; show y.size + 1 ≤ 20; omega
  rw [hu] at c1 e1
  have c2 := fun W => run_string_add_sum (P := Tryd.prog) W u z (by omega)
  obtain ⟨v, hv⟩ : ∃ v, u ++ z = v := ⟨_, rfl⟩
  have vs : v.size ≤ 30 := by rw [← hv, ByteArray.size_append']; omega
  rw [hv] at c2 e1
  have c3 := fun W => run_string_add_sum (P := Tryd.prog) W ⟨#[45]⟩ v (by show 1 + v.size ≤ _; omega)
  obtain ⟨M, hM⟩ : ∃ M, L + q = M := ⟨_, rfl⟩
  rw [hM] at ts x2
  have hpt : (M : Int) - (q : Int) = (L : Int) := by omega
  have s1 := sl_to x1 (by omega)
  have s2 := sl_from (q := M) x2 ts (by omega)
  have E1 := Lib.hid e1
  clear x1 x2 e1 ht hy hz hu hv hL us ys zs d1 tab
  by_cases hn : n < 0
  · obtain ⟨r, hr⟩ : ∃ r, (⟨#[45]⟩ : ByteArray) ++ v = r := ⟨_, rfl⟩
    rw [hr] at c3
    have E2 := Lib.hid (show r = ⟨(fixT n q).toArray⟩ by rw [← hr, E1.out, fixT, ha, if_pos hn]; exact str_app [45] _)
    clear hr ha
    go_enter Tryd.func18, Tryd.ntmps18
    go_wp2_with fail
    refine (is_of (within_any _ _ _ _) h1).mono ?_
    rintro e w' ⟨rfl, rfl⟩
    go_wp2_with fail
    refine (is_of (within_any _ _ _ _) h2).mono ?_
    rintro e w' ⟨rfl, rfl⟩
    go_wp2_with fail
    refine F.out.mono ?_
    rintro e w1 ⟨rfl, b1⟩
    have B1 := Lib.hid b1
    clear b1
    go_wp2_with fail
    go_quiet (fail)
    go_wp2
    go_ret
    exact ⟨by rw [HR.out, Int.toNat_natCast, ← E2.out]; rfl, below_drewN B1.out _⟩
  · have E2 := Lib.hid (show v = ⟨(fixT n q).toArray⟩ by rw [E1.out, fixT, ha, if_neg hn]; rfl)
    clear c3 vs ha
    go_enter Tryd.func18, Tryd.ntmps18
    go_wp2_with fail
    refine (is_of (within_any _ _ _ _) h1).mono ?_
    rintro e w' ⟨rfl, rfl⟩
    go_wp2_with fail
    refine (is_of (within_any _ _ _ _) h2).mono ?_
    rintro e w' ⟨rfl, rfl⟩
    go_wp2_with fail
    refine F.out.mono ?_
    rintro e w1 ⟨rfl, b1⟩
    have B1 := Lib.hid b1
    clear b1
    go_wp2_with fail
    go_quiet (fail)
    go_wp2
    go_ret
    exact ⟨by rw [HR.out, Int.toNat_natCast, ← E2.out]; rfl, below_drewN B1.out _⟩

theorem wrap_i64 {n : Int} (h0 : -9223372036854775808 ≤ n) (h1 : n ≤ 9223372036854775807) : IntKind.i64.wrap n = n := by rw [IntKind.wrap_i64]; omega
theorem whole_any (n : Int) (w : World) : Calls Tryd.prog 40 #[.int .i64 n] w fun e w' => e = .returned (.bool (inB n (-1000000000) 1000000000)) ∧ w = w' := by
  go_enter Tryd.func40, Tryd.ntmps40
  go_wp2_with fail
  refine (in_any _ _ _ _).mono ?_
  rintro e w' ⟨rfl, rfl⟩
  go_wp2
  go_ret
  exact ⟨rfl, rfl⟩
theorem places_any (n : Int) (w : World) : Calls Tryd.prog 41 #[.int .i64 n] w fun e w' => e = .returned (.bool (inB n 1 6)) ∧ w = w' := by
  go_enter Tryd.func41, Tryd.ntmps41
  go_wp2_with fail
  refine (in_any _ _ _ _).mono ?_
  rintro e w' ⟨rfl, rfl⟩
  go_wp2
  go_ret
  exact ⟨rfl, rfl⟩

set_option maxRecDepth 100000 in
set_option maxHeartbeats 1600000 in
theorem l02Fixed_any (n p : Int) (w : World) (b1 : -1000000000 ≤ n ∧ n ≤ 1000000000) (b2 : 1 ≤ p ∧ p ≤ 6) :
    Calls Tryd.prog 42 #[.int .i64 n, .int .i64 p] w fun e w' => e = .returned (.string ⟨(fixT n p.toNat).toArray⟩) ∧ Below w.heap.size w w' := by
  obtain ⟨q, rfl⟩ := Int.eq_ofNat_of_zero_le (show 0 ≤ p by omega)
  rw [Int.toNat_natCast]
  obtain ⟨a, ha⟩ : ∃ a, n.natAbs = a := ⟨_, rfl⟩
  have tq1 : 10 ≤ 10 ^ q := Nat.pow_le_pow_right (n := 10) (by omega) (show 1 ≤ q by omega)
  have tq2 : 10 ^ q ≤ 1000000 := Nat.pow_le_pow_right (n := 10) (by omega) (show q ≤ 6 by omega)
  have LR := low_rest q a
  have d2 : (Lib.decDigits (a / 10 ^ q)).length ≤ 10 := dec_le 9 _ (by have := Nat.div_le_self a (10 ^ q); omega)
  have FT : fixT n q = (if n < 0 then [45] else []) ++ (Lib.decDigits (a / 10 ^ q) ++ 46 :: low q a) := by rw [fixT, ha]
  obtain ⟨by', hby⟩ : ∃ by', 10 ^ q = by' := ⟨_, rfl⟩
  have T := Lib.hid (fun W => ten_any q by' W (by omega) hby.symm)
  rw [hby] at LR d2 FT tq1 tq2
  have md := Nat.mod_lt a (show 0 < by' by omega)
  have dl := Nat.div_le_self a by'
  have ir : (a : Int) % (by' : Int) = ((a % by' : Nat) : Int) := (Int.natCast_emod _ _).symm
  have id' : (a : Int) / (by' : Int) = ((a / by' : Nat) : Int) := (Int.natCast_ediv _ _).symm
  obtain ⟨r, hr⟩ : ∃ r, a % by' = r := ⟨_, rfl⟩
  obtain ⟨D, hD⟩ : ∃ D, a / by' = D := ⟨_, rfl⟩
  rw [hr] at LR md ir
  rw [hD] at d2 FT dl id'
  have F1 := fun W => l01Dec_any ((r + by' : Nat) : Int) W (by omega) (by omega)
  rw [itoa_nat, LR, Int.natCast_add] at F1
  have F2 := fun W => l01Dec_any (D : Int) W (by omega) (by omega)
  rw [itoa_nat] at F2
  have ts := low_size q a
  have x2 : (⟨(49 :: low q a).toArray⟩ : ByteArray).extract 1 (q + 1) = ⟨(low q a).toArray⟩ := by
    rw [ext_list, List.drop_succ_cons, List.drop_zero, List.take_of_length_le (by rw [low_len]; omega)]
  have ys := str_size (Lib.decDigits D)
  have zs := (str_size (low q a)).trans (low_len q a)
  obtain ⟨t, ht⟩ : ∃ t, (⟨(49 :: low q a).toArray⟩ : ByteArray) = t := ⟨_, rfl⟩
  obtain ⟨y, hy⟩ : ∃ y, (⟨(Lib.decDigits D).toArray⟩ : ByteArray) = y := ⟨_, rfl⟩
  obtain ⟨z, hz⟩ : ∃ z, (⟨(low q a).toArray⟩ : ByteArray) = z := ⟨_, rfl⟩
  rw [ht] at F1 ts x2
  rw [hy] at F2 ys
  rw [hz] at x2 zs
  have F1 := Lib.hid F1
  have F2 := Lib.hid F2
  have s1 : ∀ W, (Instr.slice 9 (.string t) (some (.int .i64 1)) none none).run Tryd.prog W = .ok (.string z) W := sl_from (L := 1) x2 ts (by omega)
  have gn : (by' : Int) ≠ 0 := by omega
  have gz : ¬ by' = 0 := by omega
  have hq3 : IntKind.i64.wrap (D : Int) = (D : Int) := wrap_i64 (by omega) (by omega)
  have hq2 : (a : Int).tdiv (by' : Int) = (D : Int) := by rw [Int.tdiv_eq_ediv_of_nonneg (by omega), id']
  clear x2 hby LR hr hD ts
  by_cases hn : n < 0
  · have e1 : (⟨#[45]⟩ : ByteArray) ++ y ++ ⟨#[46]⟩ ++ z = ⟨(fixT n q).toArray⟩ := by
      rw [FT, if_pos hn, ← hy, ← hz, show (⟨#[46]⟩ : ByteArray) = ⟨([46] : List UInt8).toArray⟩ from rfl, show (⟨#[45]⟩ : ByteArray) = ⟨([45] : List UInt8).toArray⟩ from rfl, str_app, str_app, str_app]
      simp
    have c1 := fun W => run_string_add_sum (P := Tryd.prog) W ⟨#[45]⟩ y (by show 1 + y.size ≤ _; omega)
    obtain ⟨u, hu⟩ : ∃ u, (⟨#[45]⟩ : ByteArray) ++ y = u := ⟨_, rfl⟩
    have us : u.size ≤ 20 := by rw [← hu, ByteArray.size_append']; show 1 + y.size ≤ 20; omega
    rw [hu] at c1 e1
    have c2 := fun W => run_string_add_sum (P := Tryd.prog) W u ⟨#[46]⟩ (by show u.size + 1 ≤ _; omega)
    obtain ⟨u2, hu2⟩ : ∃ u2, u ++ (⟨#[46]⟩ : ByteArray) = u2 := ⟨_, rfl⟩
    have us2 : u2.size ≤ 21 := by rw [← hu2, ByteArray.size_append']; show u.size + 1 ≤ 21; omega
    rw [hu2] at c2 e1
    have c3 := fun W => run_string_add_sum (P := Tryd.prog) W u2 z (by omega)
    obtain ⟨v, hv⟩ : ∃ v, u2 ++ z = v := ⟨_, rfl⟩
    rw [hv] at c3 e1
    have E1 := Lib.hid e1
    have na : -n = (a : Int) := by omega
    clear e1 hu hu2 hv hy hz us us2 FT ha
    go_enter Tryd.func42, Tryd.ntmps42
    go_wp2_with fail
    refine (T.out _).mono ?_
    rintro e w' ⟨rfl, rfl⟩
    go_wp2_with fail
    refine (F1.out _).mono ?_
    rintro e w1 ⟨rfl, b1⟩
    have B1 := Lib.hid b1
    clear b1
    go_wp2_with fail
    go_region_held3 (fun _ => True) (trivial) (first | (go_at_call 62; refine (F2.out _).mono ?_; rintro e w2 ⟨rfl, b2⟩; have B2 := Lib.hid ((below_drewN (Below.refl _ w1) 1).trans b2); clear b2; have tr : True := trivial))
    all_goals
      go_wp2
      go_ret
      exact ⟨by rw [E1.out]; rfl, B1.out.trans (B2.out.mono B1.out.size)⟩
  · have e1 : (⟨#[]⟩ : ByteArray) ++ y ++ ⟨#[46]⟩ ++ z = ⟨(fixT n q).toArray⟩ := by
      rw [FT, if_neg hn, ← hy, ← hz, show (⟨#[46]⟩ : ByteArray) = ⟨([46] : List UInt8).toArray⟩ from rfl, show (⟨#[]⟩ : ByteArray) = ⟨([] : List UInt8).toArray⟩ from rfl, str_app, str_app, str_app]
      simp
    have c1 := fun W => run_string_add_sum (P := Tryd.prog) W ⟨#[]⟩ y (by show 0 + y.size ≤ _; omega)
    obtain ⟨u, hu⟩ : ∃ u, (⟨#[]⟩ : ByteArray) ++ y = u := ⟨_, rfl⟩
    have us : u.size ≤ 20 := by rw [← hu, ByteArray.size_append']; show 0 + y.size ≤ 20; omega
    rw [hu] at c1 e1
    have c2 := fun W => run_string_add_sum (P := Tryd.prog) W u ⟨#[46]⟩ (by show u.size + 1 ≤ _; omega)
    obtain ⟨u2, hu2⟩ : ∃ u2, u ++ (⟨#[46]⟩ : ByteArray) = u2 := ⟨_, rfl⟩
    have us2 : u2.size ≤ 21 := by rw [← hu2, ByteArray.size_append']; show u.size + 1 ≤ 21; omega
    rw [hu2] at c2 e1
    have c3 := fun W => run_string_add_sum (P := Tryd.prog) W u2 z (by omega)
    obtain ⟨v, hv⟩ : ∃ v, u2 ++ z = v := ⟨_, rfl⟩
    rw [hv] at c3 e1
    have E1 := Lib.hid e1
    obtain rfl : n = (a : Int) := by omega
    have hn' : ¬ (a : Int) < 0 := by omega
    clear e1 hu hu2 hv hy hz us us2 FT ha hn
    go_enter Tryd.func42, Tryd.ntmps42
    go_wp2_with fail
    refine (T.out _).mono ?_
    rintro e w' ⟨rfl, rfl⟩
    go_wp2_with fail
    refine (F1.out _).mono ?_
    rintro e w1 ⟨rfl, b1⟩
    have B1 := Lib.hid b1
    clear b1
    go_wp2_with fail
    go_region_held3 (fun _ => True) (trivial) (first | (go_at_call 62; refine (F2.out _).mono ?_; rintro e w2 ⟨rfl, b2⟩; have B2 := Lib.hid ((below_drewN (Below.refl _ w1) 1).trans b2); clear b2; have tr : True := trivial))
    all_goals
      go_wp2
      go_ret
      exact ⟨by rw [E1.out]; rfl, B1.out.trans (B2.out.mono B1.out.size)⟩

theorem specFixedText_any (n p : Int) (w : World) :
    Calls Tryd.prog 17 #[.int .i64 n, .int .i64 p] w fun e w' => e = .returned (.string ⟨(fixX n p).toArray⟩) ∧ Below w.heap.size w w' := by
  cases h1 : inB n (-1000000000) 1000000000
  · have HR := Lib.hid (show fixX n p = [] by rw [fixX, fixB, h1]; rfl)
    go_enter Tryd.func17, Tryd.ntmps17
    go_wp2_with fail
    refine (is_of (whole_any _ _) h1).mono ?_
    rintro e w' ⟨rfl, rfl⟩
    go_wp2
    go_ret
    exact ⟨ret_str HR.out.symm, Below.refl _ _⟩
  cases h2 : inB p 1 6
  · have HR := Lib.hid (show fixX n p = [] by rw [fixX, fixB, h1, h2]; rfl)
    go_enter Tryd.func17, Tryd.ntmps17
    go_wp2_with fail
    refine (is_of (whole_any _ _) h1).mono ?_
    rintro e w' ⟨rfl, rfl⟩
    go_wp2_with fail
    refine (is_of (places_any _ _) h2).mono ?_
    rintro e w' ⟨rfl, rfl⟩
    go_wp2
    go_ret
    exact ⟨ret_str HR.out.symm, Below.refl _ _⟩
  have HR := Lib.hid (show fixX n p = fixT n p.toNat by rw [fixX, fixB, h1, h2]; rfl)
  have F := Lib.hid (l02Fixed_any n p w (inB_t h1) (inB_t h2))
  go_enter Tryd.func17, Tryd.ntmps17
  go_wp2_with fail
  refine (is_of (whole_any _ _) h1).mono ?_
  rintro e w' ⟨rfl, rfl⟩
  go_wp2_with fail
  refine (is_of (places_any _ _) h2).mono ?_
  rintro e w' ⟨rfl, rfl⟩
  go_wp2_with fail
  refine F.out.mono ?_
  rintro e w1 ⟨rfl, b1⟩
  have B1 := Lib.hid b1
  clear b1
  go_wp2
  go_ret
  exact ⟨by rw [HR.out]; rfl, B1.out⟩

theorem length_len (n : Int) (h : 0 ≤ n ∧ n ≤ 1000000000) : (fixT n 1).length ≤ 12 := by
  have d2 : (Lib.decDigits (n.natAbs / 10 ^ 1)).length ≤ 10 := dec_le 9 _ (by have := Nat.div_le_self n.natAbs (10 ^ 1); omega)
  rw [fixT, if_neg (by omega), List.nil_append, List.length_append, List.length_cons, low_len]
  omega
theorem fixX_one {n : Int} (h : 0 ≤ n ∧ n ≤ 1000000000) : fixX n 1 = fixT n 1 := by
  rw [fixX, fixB, show inB n (-1000000000) 1000000000 = true from inB_mk (by omega) (by omega)]; rfl

theorem implLengthText_any (n : Int) (w : World) (tab : PowTab w) :
    Calls Tryd.prog 20 #[.int .i64 n] w fun e w' => e = .returned (.string ⟨(lengthX n).toArray⟩) ∧ Below w.heap.size w w' := by
  cases h : inB n 0 1000000000
  · have HR := Lib.hid (show lengthX n = [] by rw [lengthX, h]; rfl)
    go_enter Tryd.func20, Tryd.ntmps20
    go_wp2_with fail
    refine (is_of (within_any _ _ _ _) h).mono ?_
    rintro e w' ⟨rfl, rfl⟩
    go_wp2
    go_ret
    exact ⟨ret_str HR.out.symm, Below.refl _ _⟩
  · have b := inB_t h
    have HR := Lib.hid (show lengthX n = lengthT n by rw [lengthX, h]; rfl)
    have F := implFixedText_any n 1 w tab
    rw [fixX_one b] at F
    have xs := (str_size (fixT n 1))
    have xl := length_len n b
    have e1 : (⟨(fixT n 1).toArray⟩ : ByteArray) ++ ⟨#[32, 109, 109]⟩ = ⟨(lengthT n).toArray⟩ := by
      rw [show (⟨#[32, 109, 109]⟩ : ByteArray) = ⟨([32, 109, 109] : List UInt8).toArray⟩ from rfl, str_app]; rfl
    obtain ⟨x, hx⟩ : ∃ x, (⟨(fixT n 1).toArray⟩ : ByteArray) = x := ⟨_, rfl⟩
    rw [hx] at F xs e1
    have c1 := fun W => run_string_add_sum (P := Tryd.prog) W x ⟨#[32, 109, 109]⟩ (by show x.size + 3 ≤ _; omega)
    obtain ⟨v, hv⟩ : ∃ v, x ++ (⟨#[32, 109, 109]⟩ : ByteArray) = v := ⟨_, rfl⟩
    rw [hv] at c1 e1
    have E1 := Lib.hid e1
    have F := Lib.hid F
    clear e1 hv hx xs xl
    go_enter Tryd.func20, Tryd.ntmps20
    go_wp2_with fail
    refine (is_of (within_any _ _ _ _) h).mono ?_
    rintro e w' ⟨rfl, rfl⟩
    go_wp2_with fail
    refine F.out.mono ?_
    rintro e w1 ⟨rfl, b1⟩
    have B1 := Lib.hid b1
    clear b1
    go_wp2
    go_ret
    exact ⟨by rw [HR.out, E1.out]; rfl, B1.out⟩

theorem specLengthText_any (n : Int) (w : World) :
    Calls Tryd.prog 19 #[.int .i64 n] w fun e w' => e = .returned (.string ⟨(lengthX n).toArray⟩) ∧ Below w.heap.size w w' := by
  cases h : inB n 0 1000000000
  · have HR := Lib.hid (show lengthX n = [] by rw [lengthX, h]; rfl)
    go_enter Tryd.func19, Tryd.ntmps19
    go_wp2_with fail
    refine (is_of (mass_any _ _) h).mono ?_
    rintro e w' ⟨rfl, rfl⟩
    go_wp2
    go_ret
    exact ⟨ret_str HR.out.symm, Below.refl _ _⟩
  · have b := inB_t h
    have HR := Lib.hid (show lengthX n = lengthT n by rw [lengthX, h]; rfl)
    have F := l02Fixed_any n 1 w (by omega) (by omega)
    rw [show (1 : Int).toNat = 1 from rfl] at F
    have xs := (str_size (fixT n 1))
    have xl := length_len n b
    have e1 : (⟨(fixT n 1).toArray⟩ : ByteArray) ++ ⟨#[32, 109, 109]⟩ = ⟨(lengthT n).toArray⟩ := by
      rw [show (⟨#[32, 109, 109]⟩ : ByteArray) = ⟨([32, 109, 109] : List UInt8).toArray⟩ from rfl, str_app]; rfl
    obtain ⟨x, hx⟩ : ∃ x, (⟨(fixT n 1).toArray⟩ : ByteArray) = x := ⟨_, rfl⟩
    rw [hx] at F xs e1
    have c1 := fun W => run_string_add_sum (P := Tryd.prog) W x ⟨#[32, 109, 109]⟩ (by show x.size + 3 ≤ _; omega)
    obtain ⟨v, hv⟩ : ∃ v, x ++ (⟨#[32, 109, 109]⟩ : ByteArray) = v := ⟨_, rfl⟩
    rw [hv] at c1 e1
    have E1 := Lib.hid e1
    have F := Lib.hid F
    clear e1 hv hx xs xl
    go_enter Tryd.func19, Tryd.ntmps19
    go_wp2_with fail
    refine (is_of (mass_any _ _) h).mono ?_
    rintro e w' ⟨rfl, rfl⟩
    go_wp2_with fail
    refine F.out.mono ?_
    rintro e w1 ⟨rfl, b1⟩
    have B1 := Lib.hid b1
    clear b1
    go_wp2
    go_ret
    exact ⟨by rw [HR.out, E1.out]; rfl, B1.out⟩
end Go.Proofs.YtemloifpcjphkaaDoor
