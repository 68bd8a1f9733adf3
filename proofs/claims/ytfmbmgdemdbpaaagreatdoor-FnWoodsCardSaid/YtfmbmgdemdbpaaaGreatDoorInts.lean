/- Slices of int64: equality, marking, asking the marks, copying; in words of 'Reads' and 'ownsRow'. -/
import Derived.Test.YtfmbmgdemdbpaaaGreatDoorWords
import Derived.Test.YtfmbmgdemdbpaaaGreatDoorBasic
namespace Go.Proofs.YtfmbmgdemdbpaaaGreatDoor
open Go.RowKit

/-- a list of numbers as cells -/
def iv (l : List Int) : List Value := l.map (Value.int .i64)
theorem iv_len (l : List Int) : (iv l).length = l.length := by simp [iv]
theorem iv_at {l : List Int} {k : Nat} {u : Value} (h : (iv l)[k]? = some u) : u = .int .i64 (l.getD k 0) := by
  unfold iv at h
  rw [List.getElem?_map] at h
  cases g : l[k]? with
  | none => rw [g] at h; cases h
  | some x =>
    rw [g] at h
    simp only [Option.map_some, Option.some.injEq] at h
    rw [← h, List.getD_eq_getElem?_getD, g]; rfl
/-- do two lists agree up to k? -/
def AgreeTo (xs ys : List Int) (k : Nat) : Prop := ∀ j, j < k → xs.getD j 0 = ys.getD j 0
theorem agree_all {xs ys : List Int} (h : xs.length = ys.length) (ha : AgreeTo xs ys xs.length) : xs = ys := by
  apply List.ext_getElem h
  intro i h1 h2
  have := ha i h1
  rw [List.getD_eq_getElem?_getD, List.getD_eq_getElem?_getD, List.getElem?_eq_getElem h1, List.getElem?_eq_getElem h2] at this
  exact this
theorem agree_not {xs ys : List Int} {k : Nat} (h : xs.getD k 0 ≠ ys.getD k 0) : decide (xs = ys) = false := by
  rw [decide_eq_false_iff_not]; rintro rfl; exact h rfl
def sameL (xs ys : List Int) : Bool := decide (xs = ys)

/-- the marks k, k + 1, .. -/
def marks (k : Int) (n : Nat) : List Int := (List.range n).map (fun j : Nat => k + (j : Int))
theorem marks_len (k : Int) (n : Nat) : (marks k n).length = n := by simp [marks]
theorem marks_at {k : Int} {n j : Nat} (h : j < n) : (marks k n).getD j 0 = k + (j : Int) := by
  rw [List.getD_eq_getElem?_getD, marks, List.getElem?_map, List.getElem?_range h]; rfl
theorem marks_succ (k : Int) (n : Nat) : marks k (n + 1) = marks k n ++ [k + (n : Int)] := by simp [marks, List.range_succ]
/-- j marks, then what was there -/
def mixL (k : Int) (j : Nat) (xs : List Value) : List Value := iv (marks k j) ++ xs.drop j
theorem mix_zero (k : Int) (xs : List Value) : mixL k 0 xs = xs := by simp [mixL, marks, iv]
theorem mix_end {k : Int} {n : Nat} {xs : List Value} (h : xs.length = n) : mixL k n xs = iv (marks k n) := by simp [mixL, h]
theorem mix_at {k : Int} {j : Nat} {xs : List Value} (h : j < xs.length) : ∃ u, (mixL k j xs)[j]? = some u := by
  refine ⟨xs[j], ?_⟩
  unfold mixL
  rw [List.getElem?_append_right (by simp [iv, marks_len])]
  simp [iv, marks_len, h]
theorem mix_set {k : Int} {j : Nat} {xs : List Value} (h : j < xs.length) : (mixL k j xs).set j (.int .i64 (k + (j : Int))) = mixL k (j + 1) xs := by
  unfold mixL
  rw [List.set_append_right _ _ (by simp [iv, marks_len])]
  rw [show j - (iv (marks k j)).length = 0 by simp [iv, marks_len]]
  rw [List.drop_eq_getElem_cons h, List.set_cons_zero, marks_succ]
  simp [iv]

end Go.Proofs.YtfmbmgdemdbpaaaGreatDoor
