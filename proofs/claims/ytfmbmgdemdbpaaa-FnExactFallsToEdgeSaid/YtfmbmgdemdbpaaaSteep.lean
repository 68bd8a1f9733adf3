/- The greatest step of an arching: both ways of reckoning are one. No program. -/
import Derived.Test.YtfmbmgdemdbpaaaNear
namespace Go.Proofs.Ytfmbmgdemdbpaaa

theorem foldN_le {F : Nat → Int → Int} {Pd : Nat → Prop} {B : Int} (h : ∀ t a, F t a ≤ B ↔ a ≤ B ∧ Pd t) (a : Int) : ∀ N, foldN F a N ≤ B ↔ a ≤ B ∧ ∀ t, t < N → Pd t
  | 0 => by simp [foldN]
  | N + 1 => by
    rw [foldN, h, foldN_le h a N]
    constructor
    · rintro ⟨⟨h1, h2⟩, h3⟩
      refine ⟨h1, fun t ht => ?_⟩
      by_cases e : t = N
      · subst e; exact h3
      · exact h2 t (by omega)
    · rintro ⟨h1, h2⟩
      exact ⟨⟨h1, fun t ht => h2 t (by omega)⟩, h2 N (by omega)⟩
theorem mxI_le (a b c : Int) : mxI a b ≤ c ↔ a ≤ c ∧ b ≤ c := by unfold mxI; split <;> omega
theorem distI_le (a b c : Int) : distI a b ≤ c ↔ a - b ≤ c ∧ b - a ≤ c := by unfold distI; split <;> omega

/-- one place, as the specification takes it -/
def stS (Z : List (List Int)) (m t : Nat) (a : Int) : Int :=
  let a1 := if 0 < t / m then mxI a (distI (V Z (t / m) (t % m)) (V Z (t / m - 1) (t % m))) else a
  if 0 < t % m then mxI a1 (distI (V Z (t / m) (t % m)) (V Z (t / m) (t % m - 1))) else a1
/-- one place, as the program takes it: all neighbours -/
def stN (Z : List (List Int)) (p : Int) : List (Nat × Nat) → Int → Int
  | [], a => a
  | q :: l, a => stN Z p l (mxI a (p - V Z q.1 q.2))
def stI (Z : List (List Int)) (n m t : Nat) (a : Int) : Int := stN Z (V Z (t / m) (t % m)) (nb n m (t / m) (t % m) 4) a

theorem stN_le (Z : List (List Int)) (p B : Int) : ∀ (l : List (Nat × Nat)) (a : Int), stN Z p l a ≤ B ↔ a ≤ B ∧ ∀ q ∈ l, p - V Z q.1 q.2 ≤ B
  | [], a => by simp [stN]
  | q :: l, a => by
    rw [stN, stN_le Z p B l, mxI_le]
    simp only [List.mem_cons, forall_eq_or_imp]
    constructor
    · rintro ⟨⟨h1, h2⟩, h3⟩; exact ⟨h1, h2, h3⟩
    · rintro ⟨h1, h2, h3⟩; exact ⟨⟨h1, h2⟩, h3⟩

def PS (Z : List (List Int)) (B : Int) (i k : Nat) : Prop := (0 < i → V Z i k - V Z (i - 1) k ≤ B ∧ V Z (i - 1) k - V Z i k ≤ B) ∧ (0 < k → V Z i k - V Z i (k - 1) ≤ B ∧ V Z i (k - 1) - V Z i k ≤ B)
def PI (Z : List (List Int)) (B : Int) (n m i k : Nat) : Prop := (0 < i → V Z i k - V Z (i - 1) k ≤ B) ∧ (0 < k → V Z i k - V Z i (k - 1) ≤ B) ∧ (k + 1 < m → V Z i k - V Z i (k + 1) ≤ B) ∧ (i + 1 < n → V Z i k - V Z (i + 1) k ≤ B)

theorem stS_le (Z : List (List Int)) (m t : Nat) (a B : Int) : stS Z m t a ≤ B ↔ a ≤ B ∧ PS Z B (t / m) (t % m) := by
  unfold stS PS
  generalize t / m = i
  generalize t % m = k
  by_cases h1 : 0 < i <;> by_cases h2 : 0 < k <;> simp [h1, h2, mxI_le, distI_le, and_assoc]
theorem nbAt_all {n m i k j : Nat} (Q : Nat × Nat → Prop) : (∀ q ∈ nbAt n m i k j, Q q) ↔ (match j with | 0 => 0 < i → Q (i - 1, k) | 1 => 0 < k → Q (i, k - 1) | 2 => k + 1 < m → Q (i, k + 1) | _ => i + 1 < n → Q (i + 1, k)) := by
  match j with
  | 0 => by_cases h : 0 < i <;> simp [nbAt, h]
  | 1 => by_cases h : 0 < k <;> simp [nbAt, h]
  | 2 => by_cases h : k + 1 < m <;> simp [nbAt, h]
  | _ + 3 => by_cases h : i + 1 < n <;> simp [nbAt, h]
theorem nb_all {n m i k : Nat} (Q : Nat × Nat → Prop) : (∀ q ∈ nb n m i k 4, Q q) ↔ (0 < i → Q (i - 1, k)) ∧ (0 < k → Q (i, k - 1)) ∧ (k + 1 < m → Q (i, k + 1)) ∧ (i + 1 < n → Q (i + 1, k)) := by
  have h0 := nbAt_all (n := n) (m := m) (i := i) (k := k) (j := 0) Q
  have h1 := nbAt_all (n := n) (m := m) (i := i) (k := k) (j := 1) Q
  have h2 := nbAt_all (n := n) (m := m) (i := i) (k := k) (j := 2) Q
  have h3 := nbAt_all (n := n) (m := m) (i := i) (k := k) (j := 3) Q
  simp only at h0 h1 h2 h3
  simp only [nb, List.nil_append, List.mem_append]
  constructor
  · intro h
    exact ⟨h0.mp fun q hq => h q (.inl (.inl (.inl hq))), h1.mp fun q hq => h q (.inl (.inl (.inr hq))), h2.mp fun q hq => h q (.inl (.inr hq)), h3.mp fun q hq => h q (.inr hq)⟩
  · rintro ⟨a, b, c, d⟩ q (((hq | hq) | hq) | hq)
    · exact h0.mpr a q hq
    · exact h1.mpr b q hq
    · exact h2.mpr c q hq
    · exact h3.mpr d q hq
theorem stI_le (Z : List (List Int)) (n m t : Nat) (a B : Int) : stI Z n m t a ≤ B ↔ a ≤ B ∧ PI Z B n m (t / m) (t % m) := by
  rw [stI, stN_le, nb_all]; rfl

theorem all_ik {n m : Nat} (m1 : 1 ≤ m) (Q : Nat → Nat → Prop) : (∀ t, t < n * m → Q (t / m) (t % m)) ↔ ∀ i k, i < n → k < m → Q i k := by
  constructor
  · intro h i k hi hk
    have := h (i * m + k) (by have h1 : i * m + m ≤ n * m := by { rw [row_end]; exact Nat.mul_le_mul_right m hi }; omega)
    rwa [div_row hk, mod_row hk] at this
  · intro h t ht
    exact h _ _ (Nat.div_lt_of_lt_mul (by rw [Nat.mul_comm]; exact ht)) (Nat.mod_lt _ m1)

theorem steep_eq (Z : List (List Int)) (n m : Nat) (m1 : 1 ≤ m) : foldN (stI Z n m) 0 (n * m) = foldN (stS Z m) 0 (n * m) := by
  have key : ∀ B, foldN (stI Z n m) 0 (n * m) ≤ B ↔ foldN (stS Z m) 0 (n * m) ≤ B := by
    intro B
    rw [foldN_le (fun t a => stI_le Z n m t a B), foldN_le (fun t a => stS_le Z m t a B), all_ik m1 (PI Z B n m), all_ik m1 (PS Z B)]
    refine and_congr_right fun _ => ?_
    constructor
    · intro h i k hi hk
      refine ⟨fun h0 => ⟨(h i k hi hk).1 h0, ?_⟩, fun h0 => ⟨(h i k hi hk).2.1 h0, ?_⟩⟩
      · have := (h (i - 1) k (by omega) hk).2.2.2 (by omega)
        rwa [show i - 1 + 1 = i by omega] at this
      · have := (h i (k - 1) hi (by omega)).2.2.1 (by omega)
        rwa [show k - 1 + 1 = k by omega] at this
    · intro h i k hi hk
      refine ⟨fun h0 => ((h i k hi hk).1 h0).1, fun h0 => ((h i k hi hk).2 h0).1, fun h0 => ?_, fun h0 => ?_⟩
      · exact ((h i (k + 1) hi h0).2 (by omega)).2
      · exact ((h (i + 1) k h0 hk).1 (by omega)).2
  exact Int.le_antisymm ((key _).mpr (Int.le_refl _)) ((key _).mp (Int.le_refl _))
end Go.Proofs.Ytfmbmgdemdbpaaa
