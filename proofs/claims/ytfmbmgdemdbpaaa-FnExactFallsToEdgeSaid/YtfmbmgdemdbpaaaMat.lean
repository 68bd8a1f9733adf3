/- Archings: a valid grid as a matrix in memory; folds over its places, row by row. -/
import Derived.Test.YtfmbmgdemdbpaaaArchB
import Derived.Test.YtfmbmgdemdbpaaaDist
namespace Go.Proofs.Ytfmbmgdemdbpaaa
open Go.RowKit Go.Sort

/-- the number at a place -/
def V (Z : List (List Int)) (i k : Nat) : Int := (rowZ Z i).getD k 0
/-- a valid grid of n rows and m columns, in memory below block b -/
structure Mat (w : World) (b : Nat) (ad : Addr) (n m : Nat) (Z : List (List Int)) : Prop where
  blk : ad.block < b
  rows : ∀ i, i < n → ∃ ai ci, w.cell? (ad.add i) = some (.slice (some ai) m ci) ∧ ai.block < b ∧ ∀ k, k < m → w.cell? (ai.add k) = some (.int .i64 (V Z i k))
  n1 : 1 ≤ n
  n2 : n ≤ 10
  m1 : 1 ≤ m
  m2 : m ≤ 10
  bd : ∀ i, i < n → ∀ k, k < m → 0 ≤ V Z i k ∧ V Z i k ≤ 1000
theorem Mat.keep {w w' : World} {b n m : Nat} {ad : Addr} {Z : List (List Int)} (h : Mat w b ad n m Z) (hk : ∀ p : Addr, p.block < b → w'.cell? p = w.cell? p) : Mat w' b ad n m Z := by
  refine ⟨h.blk, fun i hi => ?_, h.n1, h.n2, h.m1, h.m2, h.bd⟩
  obtain ⟨ai, ci, h1, h2, h3⟩ := h.rows i hi
  exact ⟨ai, ci, (hk _ (by rw [block_of_add]; exact h.blk)).trans h1, h2, fun k hk' => (hk _ (by rw [block_of_add]; exact h2)).trans (h3 k hk')⟩
theorem Mat.below {w w' : World} {b n m : Nat} {ad : Addr} {Z : List (List Int)} (h : Mat w b ad n m Z) (hb : Below b w w') : Mat w' b ad n m Z := h.keep fun _ hp => hb.cell hp
theorem Mat.of {w : World} {b n : Nat} {A : Option Addr} {Z : List (List Int)} (h : Grid w b A n Z) (ha : archB Z = true) : ∃ ad, A = some ad ∧ Mat w b ad n (rowZ Z 0).length Z := by
  obtain ⟨g1, g2, g3⟩ := arch_of ha
  rw [h.len] at g1 g2 g3
  obtain ⟨ad, rfl, hb⟩ := h.addr (by omega)
  have r0 := g3 0 (by omega)
  refine ⟨ad, rfl, hb, fun i hi => ?_, g1, g2, r0.2.1, r0.2.2.1, fun i hi k hk => ?_⟩
  · obtain ⟨Ai, ci, h1, h2, _⟩ := h.row ad rfl i hi
    have ri := g3 i hi
    have hl := ri.1
    rw [hl] at h1 h2
    obtain ⟨a, ha, hab, hc⟩ := h2.2 (by have := r0.2.1; omega)
    subst ha
    refine ⟨a, ci, h1, hab, fun k hk => hc k _ ?_⟩
    have hk' : k < (rowZ Z i).length := by omega
    unfold iv V
    rw [List.getElem?_map, List.getElem?_eq_getElem hk', List.getD_eq_getElem?_getD, List.getElem?_eq_getElem hk']; rfl
  · have ri := g3 i hi
    exact inB_t (ri.2.2.2 k (by rw [ri.1]; exact hk))

def foldN {α : Type} (f : Nat → α → α) (a : α) : Nat → α
  | 0 => a
  | t + 1 => f t (foldN f a t)
theorem div_row {i k m : Nat} (h : k < m) : (i * m + k) / m = i := by rw [Nat.mul_comm, Nat.mul_add_div (by omega), Nat.div_eq_of_lt h]; rfl
theorem mod_row {i k m : Nat} (h : k < m) : (i * m + k) % m = k := by rw [Nat.mul_comm, Nat.mul_add_mod, Nat.mod_eq_of_lt h]
theorem row_end (i m : Nat) : i * m + m = (i + 1) * m := by rw [Nat.add_mul]; omega
end Go.Proofs.Ytfmbmgdemdbpaaa
