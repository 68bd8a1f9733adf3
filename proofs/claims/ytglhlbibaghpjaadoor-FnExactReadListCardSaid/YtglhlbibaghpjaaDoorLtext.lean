/- The text of a list of numbers: what the program and the reference write. -/
import Derived.Test.YtglhlbibaghpjaaDoorDec
import Derived.Test.YtglhlbibaghpjaaDoorTab
import Derived.Test.YtglhlbibaghpjaaDoorInts
import Derived.Test.YtglhlbibaghpjaaDoorShelfA
import Derived.Test.YtglhlbibaghpjaaDoorShelfB
import Derived.Laws.Concat
import Derived.Lib.Join
import Derived.Lib.QuietBelow
import Derived.Deep.RegionWith
namespace Go.Proofs.YtglhlbibaghpjaaDoor
open Go.RowKit Go.Sort

theorem below_of {w w' : World} {d : Nat} {os : Array Obj} (h : w' = grow (redrawn w d) os) : Below w.heap.size w w' := by rw [h]; exact below_regrown w d os
theorem rg_same {P : Program} {f : FuncId} {args : Array Value} {w : World} {d : Nat} {os : Array Obj} {v : Value}
    (h : Calls P f args (grow (redrawn w d) os) fun e w' => e = .returned v ∧ grow (redrawn w d) os = w') : Calls P f args (grow (redrawn w d) os) fun e w'' => e = .returned v ∧ ∃ p : Regrown, w'' = grow (redrawn w p.d) p.os :=
  h.mono fun _ _ ⟨he, hw⟩ => ⟨he, ⟨d, os⟩, hw.symm⟩
theorem ret_str {a b : List UInt8} (h : a = b) : Ending.returned (.string ⟨a.toArray⟩) = .returned (.string ⟨b.toArray⟩) := by rw [h]
theorem is_ofv {P : Program} {f : FuncId} {args : Array Value} {w : World} {v v' : Bool} (h : Calls P f args w fun e w' => e = .returned (.bool v) ∧ w = w') (e : v = v') : Calls P f args w fun e w' => e = .returned (.bool v') ∧ w = w' := by rwa [e] at h

def okV (x : Int) : Bool := inB x (-1000000000000) 1000000000000
def okL (xs : List Int) : Bool := xs.all okV && decide (xs.length ≤ 64)
def jpre (xs : List Int) : List UInt8 := Lib.join (xs.map Lib.itoa) [44]
def ltxt (xs : List Int) : List UInt8 := if xs.length = 0 then [45] else jpre xs
def ltext (xs : List Int) : List UInt8 := if okL xs then ltxt xs else []
theorem okL_all {xs : List Int} (h : okL xs = true) : (∀ k, k < xs.length → okV (xs.getD k 0) = true) ∧ xs.length ≤ 64 := by
  unfold okL at h
  rw [Bool.and_eq_true] at h
  refine ⟨fun k hk => ?_, of_decide_eq_true h.2⟩
  have := List.all_eq_true.1 h.1 (xs[k]) (List.getElem_mem hk)
  rw [List.getD_eq_getElem?_getD, List.getElem?_eq_getElem hk]; exact this
theorem okL_mk {xs : List Int} (h : ∀ k, k < xs.length → okV (xs.getD k 0) = true) : okL xs = decide (xs.length ≤ 64) := by
  have : xs.all okV = true := List.all_eq_true.2 fun x hx => by
    obtain ⟨i, hi, rfl⟩ := List.getElem_of_mem hx
    have := h i hi
    rwa [List.getD_eq_getElem?_getD, List.getElem?_eq_getElem hi] at this
  rw [okL, this, Bool.true_and]
theorem okL_no {xs : List Int} {k : Nat} (hk : k < xs.length) (h : okV (xs.getD k 0) = false) : okL xs = false := by
  cases hh : okL xs with
  | false => rfl
  | true => have := (okL_all hh).1 k hk; rw [h] at this; cases this
theorem okL_long {xs : List Int} (h : 64 < xs.length) : okL xs = false := by
  cases hh : okL xs with
  | false => rfl
  | true => have := (okL_all hh).2; omega
theorem okV_bd {x : Int} (h : okV x = true) : -1000000000000 ≤ x ∧ x ≤ 1000000000000 := inB_t h
theorem jpre_one (x : Int) : jpre [x] = Lib.itoa x := Lib.join_one _ _
theorem jpre_snoc {xs : List Int} (h : 0 < xs.length) (x : Int) : jpre (xs ++ [x]) = jpre xs ++ [44] ++ Lib.itoa x := by
  cases xs with
  | nil => simp at h
  | cons y r => simp [jpre, Lib.join_cons, Lib.joinTail]
theorem jtail_len : ∀ (r : List Int), (∀ x ∈ r, (Lib.itoa x).length ≤ 21) → (Lib.joinTail [44] (r.map Lib.itoa)).length ≤ 22 * r.length
  | [], _ => by simp [Lib.joinTail]
  | x :: r, h => by
    have h1 := jtail_len r fun y hy => h y (List.mem_cons_of_mem _ hy)
    have h2 := h x (List.mem_cons_self ..)
    simp [Lib.joinTail] at h1 ⊢
    omega
theorem jpre_len : ∀ (xs : List Int), (∀ x ∈ xs, (Lib.itoa x).length ≤ 21) → (jpre xs).length ≤ 22 * xs.length
  | [], _ => by simp [jpre, Lib.join_nil]
  | x :: r, h => by
    have h1 := jtail_len r fun y hy => h y (List.mem_cons_of_mem _ hy)
    have h2 := h x (List.mem_cons_self ..)
    rw [jpre, List.map_cons, Lib.join_cons, List.length_append]
    simp
    omega
theorem itoa_short {x : Int} (h : okV x = true) : (Lib.itoa x).length ≤ 21 := by
  have := okV_bd h
  exact Lib.itoa_length_le x (by omega) (by omega)
theorem take_snoc {xs : List Int} {k : Nat} (h : k < xs.length) : xs.take (k + 1) = xs.take k ++ [xs.getD k 0] := by
  rw [List.take_add_one, List.getElem?_eq_getElem h, List.getD_eq_getElem?_getD, List.getElem?_eq_getElem h]; rfl
/-- the numbers' texts, as cells -/
def sv (xs : List Int) : List Value := xs.map fun x => Value.string ⟨(Lib.itoa x).toArray⟩
theorem sv_len (xs : List Int) : (sv xs).length = xs.length := by simp [sv]
theorem sv_append (a b : List Int) : sv (a ++ b) = sv a ++ sv b := by simp [sv]
theorem infoStr : (Tryd.prog.info? 9).map (fun i => (i.zero, i.size, i.bytes)) = some (some (.string ⟨#[]⟩), 1, 16) := by kernel_rfl

theorem implDec_any (n : Int) (w : World) (n0 : -9223372036854775808 ≤ n ∧ n ≤ 9223372036854775807) (h : PowTab w) :
    Calls Tryd.prog 12 #[.int .i64 n] w fun e w' => e = .returned (.string ⟨(Lib.itoa n).toArray⟩) ∧ Below w.heap.size w w' := by
  have F := Lib.hid (Tryd.strconv_FormatInt_10 n n0.1 n0.2 w h)
  clear n0
  go_enter Tryd.func12, Tryd.ntmps12
  go_wp2_with fail
  refine F.out.mono ?_
  rintro e w1 ⟨rfl, k, os, hw1⟩
  have B := Lib.hid (show Below w.heap.size w w1 by rw [hw1]; exact ⟨rfl, rfl, rfl, by show w.heap.size ≤ (w.heap ++ os).size; rw [Array.size_append]; omega, fun j hj => by show (w.heap ++ os)[j]? = w.heap[j]?; rw [Array.getElem?_append_left hj]⟩)
  clear hw1
  go_wp2
  go_ret
  exact ⟨rfl, B.out⟩

theorem few_any (n m : Int) (w : World) : Calls Tryd.prog 50 #[.int .i64 n, .int .i64 m] w fun e w' => e = .returned (.bool (decide (n ≤ m))) ∧ w = w' := by
  go_enter Tryd.func50, Tryd.ntmps50
  go_wp2
  go_ret
  exact ⟨rfl, rfl⟩

set_option maxHeartbeats 800000 in
theorem l01Fits_any (A : Option Addr) (n c b : Nat) (xs : List Int) (w : World) (hx : Reads w b 1 A n (iv xs)) (hb0 : b ≤ w.heap.size) (hn : n ≤ 1048576) :
    Calls Tryd.prog 48 #[.slice A n c] w fun e w' => e = .returned (.bool (okL xs)) ∧ Below w.heap.size w w' := by
  have lx := Lib.hid (show xs.length = n by have := hx.1; rw [iv_len] at this; omega)
  have HX := Lib.hid hx
  clear hx
  go_enter Tryd.func48, Tryd.ntmps48
  go_wp2_with fail
  go_loopw [3] (fun i wr => ∃ k : Nat, k ≤ n ∧ (∀ j, j < k → okV (xs.getD j 0) = true) ∧ i = .int .i64 k ∧ Below w.heap.size w wr) (fun i _ => n - (intOf i).toNat)
  case atStart => exact ⟨0, Nat.zero_le _, fun j h => by omega, rfl, Below.refl _ _⟩
  case round =>
    obtain ⟨k, hk, ha, rfl, hb⟩ := hrel
    have HA := Lib.hid ha
    have HB := Lib.hid hb
    clear ha hb
    by_cases hlt : k < n
    · obtain ⟨a1, u1, rfl, hbl1, hu1, hc1⟩ := ((HX.out.more hb0).below HB.out).at_ hlt
      obtain rfl := iv_at hu1
      clear hu1 hbl1
      have gk : (k : Int) < (n : Int) := by omega
      have gk0 : (0 : Int) ≤ (k : Int) := by omega
      obtain ⟨x, hx⟩ : ∃ x, xs.getD k 0 = x := ⟨_, rfl⟩
      rw [hx] at hc1
      cases hv : okV x with
      | true =>
        have HA2 := Lib.hid (show ∀ j, j < k + 1 → okV (xs.getD j 0) = true from fun j hj => by
          rcases Nat.lt_or_ge j k with h | h
          · exact HA.out j h
          · rw [show j = k by omega, hx]; exact hv)
        have HV := Lib.hid (fun W => is_ofv (in_any x (-1000000000000) 1000000000000 W) (show _ = true from hv))
        clear hv hx
        go_wp2_with fail
        refine (HV.out _).mono ?_
        rintro e w1 ⟨rfl, rfl⟩
        have BF := HB
        go_wp2
        go_roundw
        case rel => exact ⟨k + 1, by omega, HA2.out, by go_num, BF.out⟩
        case measure => simp [intOf]; omega
      | false =>
        have HR := Lib.hid (okL_no (xs := xs) (k := k) (by rw [lx.out]; exact hlt) (by rw [hx]; exact hv))
        have HV := Lib.hid (fun W => is_ofv (in_any x (-1000000000000) 1000000000000 W) (show _ = false from hv))
        clear hv hx
        go_wp2_with fail
        refine (HV.out _).mono ?_
        rintro e w1 ⟨rfl, rfl⟩
        have BF := HB
        go_wp2
        go_ret
        exact ⟨ret_bool HR.out.symm, BF.out⟩
    · obtain rfl : k = n := by omega
      have HR := Lib.hid (okL_mk (xs := xs) (by rw [lx.out]; exact HA.out))
      go_wp2
      go_ret
      exact ⟨ret_bool (by rw [HR.out, lx.out]; apply decide_eq_decide.2; omega), HB.out⟩

set_option maxHeartbeats 1600000 in
theorem l01List_any (A : Option Addr) (n c b : Nat) (xs : List Int) (w : World) (hx : Reads w b 1 A n (iv xs)) (hb0 : b ≤ w.heap.size) (hok : okL xs = true) :
    Calls Tryd.prog 49 #[.slice A n c] w fun e w' => e = .returned (.string ⟨(ltxt xs).toArray⟩) ∧ Below w.heap.size w w' := by
  have lx := Lib.hid (show xs.length = n by have := hx.1; rw [iv_len] at this; omega)
  obtain ⟨oa, ol⟩ := okL_all hok
  have OA := Lib.hid oa
  have hn : n ≤ 64 := by rw [← lx.out]; exact ol
  have HX := Lib.hid hx
  clear hx oa ol hok
  by_cases h0 : n = 0
  · subst h0
    have HR := Lib.hid (show ltxt xs = [45] by rw [ltxt, if_pos lx.out])
    go_enter Tryd.func49, Tryd.ntmps49
    go_wp2
    go_ret
    exact ⟨by rw [HR.out]; rfl, Below.refl _ _⟩
  have hn0 : ((n : Int) == 0) = false := by rw [beq_eq_false_iff_ne]; omega
  go_enter Tryd.func49, Tryd.ntmps49
  go_wp2_with fail
  go_loopw [3, 4] (fun s i wr => ∃ (k : Nat) (J : List UInt8), k ≤ n ∧ jpre (xs.take k) = J ∧ J.length ≤ 22 * k ∧ s = .string ⟨J.toArray⟩ ∧ i = .int .i64 k ∧ Below w.heap.size w wr) (fun _ i _ => n - (intOf i).toNat)
  case atStart => exact ⟨0, [], Nat.zero_le _, rfl, Nat.le_refl _, rfl, rfl, Below.refl _ _⟩
  case round =>
    obtain ⟨k, J, hk, hJ, hl, rfl, rfl, hb⟩ := hrel
    have HJ := Lib.hid hJ
    have HL := Lib.hid hl
    have HB := Lib.hid hb
    clear hJ hl hb
    by_cases hlt : k < n
    · obtain ⟨a1, u1, rfl, hbl1, hu1, hc1⟩ := ((HX.out.more hb0).below HB.out).at_ hlt
      obtain rfl := iv_at hu1
      clear hu1 hbl1
      have gk : (k : Int) < (n : Int) := by omega
      have gk0 : (0 : Int) ≤ (k : Int) := by omega
      have hv := OA.out k (by rw [lx.out]; exact hlt)
      have ts := Lib.hid (take_snoc (xs := xs) (k := k) (by rw [lx.out]; exact hlt))
      obtain ⟨x, hx⟩ : ∃ x, xs.getD k 0 = x := ⟨_, rfl⟩
      rw [hx] at hc1 hv ts
      have bd := okV_bd hv
      have D := Lib.hid (fun W => l01Dec_any x W (by omega) (by omega))
      obtain ⟨t, ht⟩ : ∃ t, Lib.itoa x = t := ⟨_, rfl⟩
      have HT := Lib.hid ht
      have TL := Lib.hid (show t.length ≤ 21 by rw [← ht]; exact itoa_short hv)
      rw [ht] at D
      clear hx bd hv ht
      by_cases k0 : k = 0
      · have hJ0 : J = [] := by rw [← HJ.out, k0]; rfl
        have kz : ¬ (0 : Int) < (k : Int) := by omega
        subst hJ0
        have e1 := Lib.hid (show jpre (xs.take (k + 1)) = t by rw [ts.out, k0]; exact (jpre_one x).trans HT.out)
        clear k0
        have hcat := fun W => run_string_add_lists (P := Tryd.prog) W [] t (by simp) (by have := TL.out; omega)
        rw [List.nil_append] at hcat
        go_wp2_with fail
        refine (D.out _).mono ?_
        rintro e w1 ⟨rfl, b1⟩
        have BF := Lib.hid (HB.out.trans (b1.mono HB.out.size))
        clear b1
        go_wp2
        go_roundw
        case rel => exact ⟨k + 1, t, by omega, e1.out, by have := TL.out; omega, rfl, by go_num, BF.out⟩
        case measure => simp [intOf]; omega
      · have kp : (0 : Int) < (k : Int) := by omega
        have e1 := Lib.hid (show jpre (xs.take (k + 1)) = J ++ 44 :: t by rw [ts.out, jpre_snoc (by rw [List.length_take, lx.out]; omega), HJ.out, HT.out]; simp)
        have hcat1 := fun W => run_string_add_lists (P := Tryd.prog) W J [44] (by have := HL.out; omega) (by simp)
        have hcat := fun W => run_string_add_lists (P := Tryd.prog) W (J ++ [44]) t (by have := HL.out; simp; omega) (by have := TL.out; omega)
        clear k0
        go_wp2_with fail
        refine (D.out _).mono ?_
        rintro e w1 ⟨rfl, b1⟩
        have BF := Lib.hid (HB.out.trans (b1.mono HB.out.size))
        clear b1
        go_wp2
        go_roundw
        case rel => exact ⟨k + 1, J ++ 44 :: t, by omega, e1.out, by have := TL.out; have := HL.out; simp; omega, rfl, by go_num, BF.out⟩
        case measure => simp [intOf]; omega
    · obtain rfl : k = n := by omega
      have HR := Lib.hid (show ltxt xs = J by rw [ltxt, if_neg (by rw [lx.out]; exact h0), ← HJ.out, List.take_of_length_le (by rw [lx.out]; exact Nat.le_refl _)])
      go_wp2
      go_ret
      exact ⟨ret_str HR.out.symm, HB.out⟩
end Go.Proofs.YtglhlbibaghpjaaDoor
