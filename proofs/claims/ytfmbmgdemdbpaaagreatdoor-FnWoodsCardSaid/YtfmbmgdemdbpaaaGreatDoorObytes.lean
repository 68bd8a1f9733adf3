/- An argument of type []byte, opened: it reads as bytes. -/
import Derived.Test.YtfmbmgdemdbpaaaGreatDoorR8
import Derived.OpenShut
import Derived.ProofKit
import Derived.ChangeSlices
import Derived.Deep.Slices
namespace Go.Proofs.YtfmbmgdemdbpaaaGreatDoor
open Go.ChangeShapes Go.RowKit

section
variable {H : Type} {enc : TypeId × Value → H} {P : Program} {w : World} {base : Nat} {spare : Nat → Bool} {held : Bool}
theorem open_bytesR {t e : TypeId} {A : Option Addr} {len cap : Nat} {d : DataW H} {p : List MemPlace} (ht : P.underlying t = some (.slice e)) (he : P.underlying e = some (.int .u8)) (hC : P.cellsOf e = 1)
    (h : DataW.Trod enc P w base spare held t (.slice A len cap) d p) : Bytes w w.heap.size A len := by
  obtain ⟨fuel, hf⟩ := h
  rcases open_ints ht he hC hf with ⟨hcs, _⟩ | ⟨x, l, c, zs, hcs, _, hl, hm, hz, _, hcell, hwf⟩
  · simp [Value.cells] at hcs
    obtain ⟨rfl, rfl, rfl⟩ := hcs
    exact ⟨[], ⟨rfl, fun hn => absurd hn (by omega)⟩, fun z hz => by cases hz⟩
  · simp [Value.cells] at hcs
    obtain ⟨rfl, rfl, rfl⟩ := hcs
    have hzl : len ≤ zs.length := by rw [hz]; split <;> omega
    refine ⟨zs.take len, ⟨by rw [u8v, List.length_map, List.length_take]; omega, fun hn => ⟨x, rfl, ?_, fun j u hu => ?_⟩⟩, fun z hz => ?_⟩
    · have := block_lt_of_cell (hcell 0 (by omega))
      rw [block_of_add] at this
      exact this
    · unfold u8v at hu
      rw [List.getElem?_map] at hu
      have hj : j < len := by
        rcases Nat.lt_or_ge j len with h | h
        · exact h
        · rw [List.getElem?_eq_none (by rw [List.length_take]; omega)] at hu; cases hu
      rw [List.getElem?_take_of_lt hj, List.getElem?_eq_getElem (by omega)] at hu
      simp only [Option.map_some, Option.some.injEq] at hu
      rw [hcell j (by omega), ← hu, List.getD_eq_getElem?_getD, List.getElem?_eq_getElem (by omega)]; rfl
    · have hw := hwf z (List.mem_of_mem_take hz)
      unfold Lit.wf at hw
      rw [Bool.and_eq_true] at hw
      have h1 := of_decide_eq_true hw.1
      have h2 := of_decide_eq_true hw.2
      exact ⟨h1, h2⟩
end
end Go.Proofs.YtfmbmgdemdbpaaaGreatDoor
