/- Grids of bools of the call's own: what they are, a row appended, a place set. -/
import Derived.Test.YtfmbmgdemdbpaaaOG
import Derived.Test.YtfmbmgdemdbpaaaPlaces
import Derived.Test.YtfmbmgdemdbpaaaFallP
namespace Go.Proofs.Ytfmbmgdemdbpaaa
open Go.RowKit Go.Sort

theorem infoBl : (Try.prog.info? 4).map (fun i => (i.zero, i.size, i.bytes)) = some (some (.bool false), 1, 1) := by kernel_rfl
theorem infoBr : (Try.prog.info? 40).map (fun i => (i.zero, i.size, i.bytes)) = some (some (.slice none 0 0), 1, 24) := by kernel_rfl

/-- the first x cells of row i -/
def rowB (s : Nat → Bool) (m i x : Nat) : List Value := (List.range x).map fun k => .bool (s (i * m + k))
theorem rowB_len (s : Nat → Bool) (m i x : Nat) : (rowB s m i x).length = x := by simp [rowB]
theorem rowB_at {s : Nat → Bool} {m i x k : Nat} (h : k < x) : (rowB s m i x)[k]? = some (.bool (s (i * m + k))) := by
  rw [rowB, List.getElem?_map, List.getElem?_range h]; rfl
theorem rowB_succ (s : Nat → Bool) (m i x : Nat) : rowB s m i (x + 1) = rowB s m i x ++ [.bool (s (i * m + x))] := by simp [rowB, List.range_succ]
theorem rowB_up_same {s : Nat → Bool} {m i k : Nat} (hk : k < m) : rowB (up s (i * m + k) true) m i m = (rowB s m i m).set k (.bool true) := by
  apply List.ext_getElem?
  intro y
  by_cases hy : y < m
  · rw [rowB_at hy, List.getElem?_set]
    by_cases e : k = y
    · subst e
      rw [if_pos rfl, if_pos (by rw [rowB_len]; exact hk), up_true]
    · rw [if_neg e, rowB_at hy, up_other (by omega)]
  · rw [List.getElem?_eq_none (by rw [rowB_len]; omega), List.getElem?_eq_none (by simp [rowB_len]; omega)]
theorem rowB_up_other {s : Nat → Bool} {m i j k : Nat} (hk : k < m) (h : j ≠ i) : rowB (up s (i * m + k) true) m j m = rowB s m j m := by
  unfold rowB
  refine List.map_congr_left fun y hy => ?_
  have hy := List.mem_range.1 hy
  rw [up_other fun h3 => h (by rw [← div_row (i := j) hy, h3, div_row hk])]

/-- a grid of bools of the call's own: headers H, places s -/
structure OGB (B : Nat) (w : World) (v : Value) (n m : Nat) (s : Nat → Bool) (H : Nat → Value) : Prop where
  heads : w.ownsRow B 40 1 v n ((List.range n).map H)
  row : ∀ i, i < n → w.ownsRow B 4 1 (H i) m (rowB s m i m)
  apart : ∀ i j g, i < j → j < n → (H i).ownBlock = some g → (H j).ownBlock ≠ some g

theorem OGB.below {B : Nat} {w w' : World} {v : Value} {n m : Nat} {s : Nat → Bool} {H : Nat → Value} (h : OGB B w v n m s H) (hb : Below w.heap.size w w') : OGB B w' v n m s H :=
  ⟨own_below h.heads hb, fun i hi => own_below (h.row i hi) hb, h.apart⟩
theorem OGB.push {B : Nat} {w0 w1 w2 : World} {v v' line : Value} {k m : Nat} {s : Nat → Bool} {H : Nat → Value} {o : Obj} (h : OGB B w0 v k m s H) (hB : B ≤ w0.heap.size) (hb : Below w0.heap.size w0 w1)
    (hl : w1.ownsRow w0.heap.size 4 1 line m (rowB s m k m)) (ho : w2.ownsRow B 40 1 v' (k + 1) ((List.range k).map H ++ [line])) (hg : (w1.alloc o).grownBy w2 v.ownBlock) :
    OGB B w2 v' (k + 1) m s (fun i => if i = k then line else H i) := by
  have hv := (own_below h.heads hb).alloc o
  have kp : ∀ {n : Nat} {x : Value} {xs : List Value}, (w1.alloc o).ownsRow B 4 1 x n xs → w2.ownsRow B 4 1 x n xs := fun hx => by
    refine hx.kept hg ?_
    cases e : Value.ownBlock _ with
    | none => exact .inl rfl
    | some g => exact .inr (fun e2 => own_apart hx hv (by decide) g e e2.symm)
  have hrow : ∀ i, i < k + 1 → w2.ownsRow B 4 1 ((fun i => if i = k then line else H i) i) m (rowB s m i m) := fun i hi => by
    by_cases e : i = k
    · simp only [if_pos e]; rw [e]; exact kp ((own_base hl hB).alloc o)
    · simp only [if_neg e]; exact kp ((own_below (h.row i (by omega)) hb).alloc o)
  refine ⟨?_, hrow, fun i j g hij hj hgi => ?_⟩
  · rw [List.range_succ, List.map_append]
    have : (List.range k).map (fun i => if i = k then line else H i) = (List.range k).map H := List.map_congr_left fun i hi => by rw [if_neg (by have := List.mem_range.1 hi; omega)]
    rw [this]; simpa using ho
  · have e1 : i ≠ k := by omega
    simp only [if_neg e1] at hgi
    by_cases e2 : j = k
    · simp only [if_pos e2]
      intro e3
      have h1 := ((h.row i (by omega)).lt g hgi).2
      have h2 := (hl.lt g e3).1
      omega
    · simp only [if_neg e2]
      exact h.apart i j g hij (by omega) hgi
/-- a place is set -/
theorem OGB.store {B : Nat} {w : World} {v : Value} {n i x g m c : Nat} {s : Nat → Bool} {H : Nat → Value} (h : OGB B w v n m s H) (hi : i < n) (hx : x < m) (hH : H i = .slice (some ⟨g, 0, none⟩) m c) :
    OGB B (w.setCell ⟨g, x, none⟩ (.bool true)) v n m (up s (i * m + x) true) H := by
  have hr := h.row i hi
  have hr2 := hr
  rw [hH] at hr2
  have st := hr2.stored x (.bool true)
  have hg : w.grownBy (w.setCell ⟨g, x, none⟩ (.bool true)) (H i).ownBlock := by rw [hH]; exact st.2
  refine ⟨h.heads.kept hg ?_, fun j hj => ?_, h.apart⟩
  · cases e : v.ownBlock with
    | none => exact .inl rfl
    | some g => exact .inr (fun e2 => own_apart h.heads hr (by decide) g e e2.symm)
  · by_cases e : j = i
    · subst e
      rw [rowB_up_same hx, hH]; exact st.1
    · rw [rowB_up_other hx e]
      refine (h.row j hj).kept hg ?_
      cases e1 : (H j).ownBlock with
      | none => exact .inl rfl
      | some g =>
        refine .inr (fun e2 => ?_)
        rcases Nat.lt_or_ge j i with hl | hge
        · exact h.apart j i g hl hi e1 e2.symm
        · exact h.apart i j g (by omega) hj e2.symm e1
/-- the header of a row, and the row's cells -/
theorem OGB.cells {B : Nat} {w : World} {n i m g c : Nat} {s : Nat → Bool} {H : Nat → Value} (h : OGB B w (.slice (some ⟨g, 0, none⟩) n c) n m s H) (hi : i < n) (hm : 0 < m) :
    ∃ gi ci : Nat, H i = .slice (some ⟨gi, 0, none⟩) m ci ∧ B ≤ gi ∧ w.cell? ⟨g, i, none⟩ = some (.slice (some ⟨gi, 0, none⟩) m ci) ∧ ∀ x, x < m → w.cell? ⟨gi, x, none⟩ = some (.bool (s (i * m + x))) ∧ w.frozen? ⟨gi, x, none⟩ = false := by
  have hrow := h.row i hi
  obtain ⟨gi, ci, hH, _, _⟩ := hrow.form (by omega)
  rw [hH] at hrow
  refine ⟨gi, ci, hH, (hrow.lt gi rfl).1, ?_, fun x hx => ⟨?_, hrow.frozenAt x⟩⟩
  · have := h.heads.cellAt i (by omega)
    rw [this, List.getElem?_map, List.getElem?_range hi, ← hH]; rfl
  · rw [hrow.cellAt x (by omega), rowB_at hx]
end Go.Proofs.Ytfmbmgdemdbpaaa
