/- Slices of int64: equality, marking, asking the marks, copying; in words of 'Reads' and 'ownsRow'. -/
import Derived.Test.YtfmbmgdemdbpaaaWords
import Derived.Test.YtfmbmgdemdbpaaaBasic
namespace Go.Proofs.Ytfmbmgdemdbpaaa
open Go.RowKit

/-- a list of numbers as cells -/
def iv (l : List Int) : List Value := l.map (Value.int .i64)
theorem iv_len (l : List Int) : (iv l).length = l.length := by simp [iv]
theorem iv_at {l : List Int} {k : Nat} {u : Value} (h : (iv l)[k]? = some u) : u = .int .i64 (l.getD k 0) := by
  unfold iv at h
  rw [List.getElem?_map] at h
  cases g : l[k]? with
  | none => rw [g] at h; cases h
  | some x =>
    rw [g] at h
    simp only [Option.map_some, Option.some.injEq] at h
    rw [← h, List.getD_eq_getElem?_getD, g]; rfl
/-- do two lists agree up to k? -/
def AgreeTo (xs ys : List Int) (k : Nat) : Prop := ∀ j, j < k → xs.getD j 0 = ys.getD j 0
theorem agree_all {xs ys : List Int} (h : xs.length = ys.length) (ha : AgreeTo xs ys xs.length) : xs = ys := by
  apply List.ext_getElem h
  intro i h1 h2
  have := ha i h1
  rw [List.getD_eq_getElem?_getD, List.getD_eq_getElem?_getD, List.getElem?_eq_getElem h1, List.getElem?_eq_getElem h2] at this
  exact this
theorem agree_not {xs ys : List Int} {k : Nat} (h : xs.getD k 0 ≠ ys.getD k 0) : decide (xs = ys) = false := by
  rw [decide_eq_false_iff_not]; rintro rfl; exact h rfl
def sameL (xs ys : List Int) : Bool := decide (xs = ys)

set_option maxHeartbeats 800000 in
theorem eqInt64S_any (A B : Option Addr) (n m c d : Nat) (xs ys : List Int) (b1 b2 : Nat) (w : World) (hx : Reads w b1 1 A n (iv xs)) (hy : Reads w b2 1 B m (iv ys)) (hb1 : b1 ≤ w.heap.size) (hb2 : b2 ≤ w.heap.size)
    (hn : n ≤ maxLen) (hm : m ≤ maxLen) :
    Calls Try.prog 18 #[.slice A n c, .slice B m d] w fun e w' => e = .returned (.bool (sameL xs ys)) ∧ Below w.heap.size w w' := by
  unfold maxLen at hn hm
  have lx := Lib.hid (show xs.length = n by have := hx.1; rw [iv_len] at this; omega)
  have ly := Lib.hid (show ys.length = m by have := hy.1; rw [iv_len] at this; omega)
  have HX := Lib.hid hx
  have HY := Lib.hid hy
  clear hx hy
  by_cases hnm : n = m
  · subst hnm
    go_enter Try.func18, Try.ntmps18
    go_wp2_with fail
    go_loopw [5] (fun i wr => ∃ k : Nat, k ≤ n ∧ AgreeTo xs ys k ∧ i = .int .i64 k ∧ Below w.heap.size w wr) (fun i _ => n - (intOf i).toNat)
    case atStart => exact ⟨0, Nat.zero_le _, fun j h => by omega, rfl, Below.refl _ _⟩
    case round =>
      obtain ⟨k, hk, ha, rfl, hb⟩ := hrel
      have HA := Lib.hid ha
      have HB := Lib.hid hb
      clear ha hb
      by_cases hlt : k < n
      · obtain ⟨a1, u1, rfl, hbl1, hu1, hc1⟩ := ((HX.out.more hb1).below HB.out).at_ hlt
        obtain ⟨a2, u2, rfl, hbl2, hu2, hc2⟩ := ((HY.out.more hb2).below HB.out).at_ hlt
        obtain rfl := iv_at hu1
        obtain rfl := iv_at hu2
        clear hu1 hu2 hbl1 hbl2
        obtain ⟨x, hx⟩ : ∃ x, xs.getD k 0 = x := ⟨_, rfl⟩
        obtain ⟨y, hy⟩ : ∃ y, ys.getD k 0 = y := ⟨_, rfl⟩
        rw [hx] at hc1
        rw [hy] at hc2
        have HXX := Lib.hid hx
        have HYY := Lib.hid hy
        clear hx hy
        have g1 : (k : Int) < (n : Int) := by omega
        have g0 : (0 : Int) ≤ (k : Int) := by omega
        by_cases hxy : x = y
        · subst hxy
          have st : Hid (AgreeTo xs ys (k + 1)) := fun j hj => by
            by_cases e : j = k
            · subst e; exact HXX.out.trans HYY.out.symm
            · exact HA.out j (by omega)
          go_wp2_with fail
          go_quiet (fail)
          go_wp2
          go_roundw
          case rel => exact ⟨k + 1, by omega, st.out, by go_num, below_drewN HB.out _⟩
          case measure => simp [intOf]; omega
        · have hr := Lib.hid (show sameL xs ys = false from agree_not (k := k) (by rw [HXX.out, HYY.out]; exact hxy))
          have e1 : (x == y) = false := by simpa using hxy
          have e2 : (x != y) = true := by simp [hxy]
          clear hxy
          go_wp2_with fail
          go_quiet (fail)
          go_wp2
          go_ret
          exact ⟨ret_bool hr.out.symm, below_drewN HB.out _⟩
      · obtain rfl : k = n := by omega
        have hr := Lib.hid (show sameL xs ys = true by unfold sameL; rw [decide_eq_true_iff]; exact agree_all (lx.out.trans ly.out.symm) (by rw [lx.out]; exact HA.out))
        go_wp2
        go_ret
        exact ⟨ret_bool hr.out.symm, HB.out⟩
  · have hne : ((n : Int) == (m : Int)) = false := by simp; omega
    have hr := Lib.hid (show sameL xs ys = false by unfold sameL; rw [decide_eq_false_iff_not]; rintro rfl; exact hnm (lx.out.symm.trans ly.out))
    go_enter Try.func18, Try.ntmps18
    go_wp2
    go_ret
    exact ⟨ret_bool hr.out.symm, Below.refl _ _⟩

/-- the marks k, k + 1, .. -/
def marks (k : Int) (n : Nat) : List Int := (List.range n).map (fun j : Nat => k + (j : Int))
theorem marks_len (k : Int) (n : Nat) : (marks k n).length = n := by simp [marks]
theorem marks_at {k : Int} {n j : Nat} (h : j < n) : (marks k n).getD j 0 = k + (j : Int) := by
  rw [List.getD_eq_getElem?_getD, marks, List.getElem?_map, List.getElem?_range h]; rfl
theorem marks_succ (k : Int) (n : Nat) : marks k (n + 1) = marks k n ++ [k + (n : Int)] := by simp [marks, List.range_succ]
/-- j marks, then what was there -/
def mixL (k : Int) (j : Nat) (xs : List Value) : List Value := iv (marks k j) ++ xs.drop j
theorem mix_zero (k : Int) (xs : List Value) : mixL k 0 xs = xs := by simp [mixL, marks, iv]
theorem mix_end {k : Int} {n : Nat} {xs : List Value} (h : xs.length = n) : mixL k n xs = iv (marks k n) := by simp [mixL, h]
theorem mix_at {k : Int} {j : Nat} {xs : List Value} (h : j < xs.length) : ∃ u, (mixL k j xs)[j]? = some u := by
  refine ⟨xs[j], ?_⟩
  unfold mixL
  rw [List.getElem?_append_right (by simp [iv, marks_len])]
  simp [iv, marks_len, h]
theorem mix_set {k : Int} {j : Nat} {xs : List Value} (h : j < xs.length) : (mixL k j xs).set j (.int .i64 (k + (j : Int))) = mixL k (j + 1) xs := by
  unfold mixL
  rw [List.set_append_right _ _ (by simp [iv, marks_len])]
  rw [show j - (iv (marks k j)).length = 0 by simp [iv, marks_len]]
  rw [List.drop_eq_getElem_cons h, List.set_cons_zero, marks_succ]
  simp [iv]

end Go.Proofs.Ytfmbmgdemdbpaaa
