/- An argument of type []int64, opened: it reads as a list. -/
import Derived.Test.YtglhlbibaghpjaaDoorInts
import Derived.OpenShut
import Derived.ProofKit
import Derived.ChangeSlices
import Derived.Deep.Slices
namespace Go.Proofs.YtglhlbibaghpjaaDoor
open Go.ChangeShapes Go.RowKit

section
variable {H : Type} {enc : TypeId × Value → H} {P : Program} {w : World} {base : Nat} {spare : Nat → Bool} {held : Bool}
theorem open_intsR {t e : TypeId} {A : Option Addr} {len cap : Nat} {d : DataW H} {p : List MemPlace} (ht : P.underlying t = some (.slice e)) (he : P.underlying e = some (.int .i64)) (hC : P.cellsOf e = 1)
    (h : DataW.Trod enc P w base spare held t (.slice A len cap) d p) : ∃ zs, Reads w w.heap.size 1 A len (iv zs) ∧ len ≤ 9223372036854775807 := by
  obtain ⟨fuel, hf⟩ := h
  rcases open_ints ht he hC hf with ⟨hcs, _⟩ | ⟨x, l, c, zs, hcs, _, hl, hm, hz, _, hcell, _⟩
  · simp [Value.cells] at hcs
    obtain ⟨rfl, rfl, rfl⟩ := hcs
    exact ⟨[], ⟨rfl, fun hn => absurd hn (by omega)⟩, by omega⟩
  · simp [Value.cells] at hcs
    obtain ⟨rfl, rfl, rfl⟩ := hcs
    have hzl : len ≤ zs.length := by rw [hz]; split <;> omega
    refine ⟨zs.take len, ⟨by rw [iv_len, List.length_take]; omega, fun hn => ⟨x, rfl, ?_, fun j u hu => ?_⟩⟩, by unfold maxLen at hm; omega⟩
    · have := block_lt_of_cell (hcell 0 (by omega))
      rw [block_of_add] at this
      exact this
    · have hj : j < len := by
        have := (List.getElem?_eq_some_iff.1 hu).1
        rw [iv_len, List.length_take] at this; omega
      rw [hcell j (by omega)]
      rw [iv_at hu]
      congr 2
      rw [List.getD_eq_getElem?_getD, List.getD_eq_getElem?_getD, List.getElem?_take_of_lt hj]
end
end Go.Proofs.YtglhlbibaghpjaaDoor
