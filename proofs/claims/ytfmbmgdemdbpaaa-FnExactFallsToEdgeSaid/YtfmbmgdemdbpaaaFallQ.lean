/- One place's turn in the search for water that runs to the edge, as the reference takes it and as the program takes it: plain law. -/
import Derived.Test.YtfmbmgdemdbpaaaFallP
namespace Go.Proofs.Ytfmbmgdemdbpaaa
set_option linter.unusedVariables false

theorem nb_mem {n m i k : Nat} {q : Nat × Nat} : q ∈ nb n m i k 4 ↔ (0 < i ∧ q = (i - 1, k)) ∨ (0 < k ∧ q = (i, k - 1)) ∨ (k + 1 < m ∧ q = (i, k + 1)) ∨ (i + 1 < n ∧ q = (i + 1, k)) := by
  have e : nb n m i k 4 = nbAt n m i k 0 ++ nbAt n m i k 1 ++ nbAt n m i k 2 ++ nbAt n m i k 3 := by simp [nb]
  have h0 : q ∈ nbAt n m i k 0 ↔ 0 < i ∧ q = (i - 1, k) := by unfold nbAt; by_cases h : 0 < i <;> simp [h]
  have h1 : q ∈ nbAt n m i k 1 ↔ 0 < k ∧ q = (i, k - 1) := by unfold nbAt; by_cases h : 0 < k <;> simp [h]
  have h2 : q ∈ nbAt n m i k 2 ↔ k + 1 < m ∧ q = (i, k + 1) := by unfold nbAt; by_cases h : k + 1 < m <;> simp [h]
  have h3 : q ∈ nbAt n m i k 3 ↔ i + 1 < n ∧ q = (i + 1, k) := by unfold nbAt; by_cases h : i + 1 < n <;> simp [h]
  rw [e]
  simp only [List.mem_append, h0, h1, h2, h3, or_assoc]
theorem low_of {Z : List (List Int)} {n m i k q1 q2 : Nat} (hk : k < m) (hq : q2 < m) : LowP n m Z (i * m + k) (q1 * m + q2) ↔ (q1, q2) ∈ nb n m i k 4 ∧ V Z q1 q2 < V Z i k := by
  unfold LowP; rw [div_row hk, mod_row hk, div_row hq, mod_row hq]
theorem idx_lt {n m i k : Nat} (hi : i < n) (hk : k < m) : i * m + k < n * m := by
  have h1 : i * m + m ≤ n * m := by rw [row_end]; exact Nat.mul_le_mul_right m hi
  omega
theorem low_all {Z : List (List Int)} {n m i k q : Nat} (hi : i < n) (hk : k < m) (h : LowP n m Z (i * m + k) q) : ∃ q1 q2, q1 < n ∧ q2 < m ∧ q = q1 * m + q2 ∧ (q1, q2) ∈ nb n m i k 4 ∧ V Z q1 q2 < V Z i k := by
  unfold LowP at h
  rw [div_row hk, mod_row hk] at h
  obtain ⟨h1, h2⟩ := h
  have := nb_in hi hk 4 _ h1
  exact ⟨q / m, q % m, this.1, this.2, (Nat.div_add_mod' q m).symm, h1, h2⟩

/-! ### The reference -/
def vB (Z : List (List Int)) (n m : Nat) (s : Nat → Bool) (i k : Nat) : Bool :=
  (decide (0 < i) && (s ((i - 1) * m + k) && decide (V Z (i - 1) k < V Z i k))) || (decide (i + 1 < n) && (s ((i + 1) * m + k) && decide (V Z (i + 1) k < V Z i k)))
def hB (Z : List (List Int)) (m : Nat) (s : Nat → Bool) (i k : Nat) : Bool :=
  (decide (0 < k) && (s (i * m + (k - 1)) && decide (V Z i (k - 1) < V Z i k))) || (decide (k + 1 < m) && (s (i * m + (k + 1)) && decide (V Z i (k + 1) < V Z i k)))
theorem vB_t {Z : List (List Int)} {n m i k : Nat} {s : Nat → Bool} (hi : i < n) (hk : k < m) (h : vB Z n m s i k = true) : ∃ q, q < n * m ∧ LowP n m Z (i * m + k) q ∧ s q = true := by
  unfold vB at h
  simp only [Bool.or_eq_true, Bool.and_eq_true, decide_eq_true_eq] at h
  rcases h with ⟨h1, h2, h3⟩ | ⟨h1, h2, h3⟩
  · exact ⟨_, idx_lt (by omega) hk, (low_of hk hk).2 ⟨nb_mem.2 (.inl ⟨h1, rfl⟩), h3⟩, h2⟩
  · exact ⟨_, idx_lt h1 hk, (low_of hk hk).2 ⟨nb_mem.2 (.inr (.inr (.inr ⟨h1, rfl⟩))), h3⟩, h2⟩
theorem hB_t {Z : List (List Int)} {n m i k : Nat} {s : Nat → Bool} (hi : i < n) (hk : k < m) (h : hB Z m s i k = true) : ∃ q, q < n * m ∧ LowP n m Z (i * m + k) q ∧ s q = true := by
  unfold hB at h
  simp only [Bool.or_eq_true, Bool.and_eq_true, decide_eq_true_eq] at h
  rcases h with ⟨h1, h2, h3⟩ | ⟨h1, h2, h3⟩
  · exact ⟨_, idx_lt hi (by omega), (low_of hk (by omega)).2 ⟨nb_mem.2 (.inr (.inl ⟨h1, rfl⟩)), h3⟩, h2⟩
  · exact ⟨_, idx_lt hi h1, (low_of hk h1).2 ⟨nb_mem.2 (.inr (.inr (.inl ⟨h1, rfl⟩))), h3⟩, h2⟩
/-- one place's turn in the reference -/
theorem spec_step {Z : List (List Int)} {n m i k : Nat} {s0 s : Nat → Bool} (hi : i < n) (hk : k < m) (he : ∀ p, p < n * m → EdgeP n m p → s0 p = true) (h : Mid (n * m) (EdgeP n m) (LowP n m Z) (i * m + k) s0 s) :
    Mid (n * m) (EdgeP n m) (LowP n m Z) (i * m + (k + 1)) s0 (up (up s (i * m + k) (vB Z n m s i k)) (i * m + k) (hB Z m (up s (i * m + k) (vB Z n m s i k)) i k)) := by
  obtain ⟨b1, hb1⟩ : ∃ b, vB Z n m s i k = b := ⟨_, rfl⟩
  obtain ⟨b2, hb2⟩ : ∃ b, hB Z m (up s (i * m + k) (vB Z n m s i k)) i k = b := ⟨_, rfl⟩
  rw [hb2]
  rw [hb1] at hb2 ⊢
  refine mid_step h (fun x hx => up_le x (up_le x hx)) (sound_up (sound_up h.2.1 fun hb _ => .inr (vB_t hi hk (hb1.trans hb))) fun hb _ => .inr (hB_t hi hk (hb2.trans hb))) (fun hp => ⟨fun e => up_le _ (up_le _ (h.1 _ (he _ hp e))), fun q hq hl hs0 => ?_⟩)
  obtain ⟨q1, q2, hq1, hq2, rfl, hm, hlt⟩ := low_all hi hk hl
  have hs := h.1 _ hs0
  have hs1 : up s (i * m + k) b1 (q1 * m + q2) = true := up_le _ hs
  show up (up s (i * m + k) b1) (i * m + k) b2 (i * m + k) = true
  rw [up_self, up_self]
  rcases nb_mem.1 hm with ⟨g, e⟩ | ⟨g, e⟩ | ⟨g, e⟩ | ⟨g, e⟩
  · injection e with e1 e2
    subst e1 e2
    have : b1 = true := by rw [← hb1]; simp [vB, g, hs, hlt]
    simp [this]
  · injection e with e1 e2
    subst e1 e2
    have : b2 = true := by rw [← hb2]; simp [hB, g, hs1, hlt]
    simp [this]
  · injection e with e1 e2
    subst e1 e2
    have : b2 = true := by rw [← hb2]; simp [hB, g, hs1, hlt]
    simp [this]
  · injection e with e1 e2
    subst e1 e2
    have : b1 = true := by rw [← hb1]; simp [vB, g, hs, hlt]
    simp [this]

/-! ### The program -/
/-- behind the first j neighbours of the place -/
def NrM (Z : List (List Int)) (n m i k j : Nat) (s0 s : Nat → Bool) : Prop :=
  Mid (n * m) (EdgeP n m) (LowP n m Z) (i * m + k) s0 s ∧ (edgeB n m i k = true → s (i * m + k) = true) ∧
  ∀ x q, x < j → (nb n m i k 4)[x]? = some q → V Z q.1 q.2 < V Z i k → s0 (q.1 * m + q.2) = true → s (i * m + k) = true
theorem mid_more {N : Nat} {E : Nat → Prop} {A : Nat → Nat → Prop} {k : Nat} {s0 s s' : Nat → Bool} (h : Mid N E A k s0 s) (hle : ∀ p, s p = true → s' p = true) (hs : Sound N E A s') : Mid N E A k s0 s' :=
  ⟨fun p hp => hle p (h.1 p hp), hs, fun x hx hN => ⟨fun e => hle x ((h.2.2 x hx hN).1 e), fun q hq ha h0 => hle x ((h.2.2 x hx hN).2 q hq ha h0)⟩⟩
theorem impl_start {Z : List (List Int)} {n m i k : Nat} {s0 s : Nat → Bool} (hk : k < m) (h : Mid (n * m) (EdgeP n m) (LowP n m Z) (i * m + k) s0 s) : NrM Z n m i k 0 s0 (up s (i * m + k) (edgeB n m i k)) :=
  ⟨mid_more h up_le (sound_up h.2.1 fun hb _ => .inl (by unfold EdgeP; rw [div_row hk, mod_row hk]; exact hb)), fun e => by rw [up_self, e, Bool.or_true], fun x q hx => by omega⟩
theorem impl_next {Z : List (List Int)} {n m i k j q1 q2 : Nat} {s0 s : Nat → Bool} (hi : i < n) (hk : k < m) (hq : (nb n m i k 4)[j]? = some (q1, q2)) (h : NrM Z n m i k j s0 s) :
    NrM Z n m i k (j + 1) s0 (up s (i * m + k) (s (q1 * m + q2) && decide (V Z q1 q2 < V Z i k))) := by
  obtain ⟨h1, h2, h3⟩ := h
  have hm := List.mem_of_getElem? hq
  have hin := nb_in hi hk 4 _ hm
  refine ⟨mid_more h1 up_le (sound_up h1.2.1 fun hb _ => .inr ?_), fun e => up_le _ (h2 e), fun x q hx hq' hlt h0 => ?_⟩
  · rw [Bool.and_eq_true, decide_eq_true_eq] at hb
    exact ⟨_, idx_lt hin.1 hin.2, (low_of hk hin.2).2 ⟨hm, hb.2⟩, hb.1⟩
  · by_cases e : x = j
    · subst e
      rw [hq] at hq'
      obtain rfl : (q1, q2) = q := Option.some.inj hq'
      rw [up_self, h1.1 _ h0, decide_eq_true hlt]
      simp
    · exact up_le _ (h3 x q (by omega) hq' hlt h0)
theorem impl_end {Z : List (List Int)} {n m i k : Nat} {s0 s : Nat → Bool} (hi : i < n) (hk : k < m) (h : NrM Z n m i k (nb n m i k 4).length s0 s) : Mid (n * m) (EdgeP n m) (LowP n m Z) (i * m + k + 1) s0 s := by
  obtain ⟨h1, h2, h3⟩ := h
  refine mid_step h1 (fun _ h => h) h1.2.1 fun hp => ⟨fun e => h2 (by unfold EdgeP at e; rwa [div_row hk, mod_row hk] at e), fun q hq hl h0 => ?_⟩
  obtain ⟨q1, q2, hq1, hq2, rfl, hm, hlt⟩ := low_all hi hk hl
  obtain ⟨x, hx, hx2⟩ := List.getElem_of_mem hm
  exact h3 x _ hx (by rw [List.getElem?_eq_getElem hx, hx2]) hlt h0
theorem edge_sound (Z : List (List Int)) (n m : Nat) : Sound (n * m) (EdgeP n m) (LowP n m Z) (fun p => edgeB n m (p / m) (p % m)) := fun t ct p hp h => (ct p hp).1 h
theorem none_sound (Z : List (List Int)) (n m : Nat) : Sound (n * m) (EdgeP n m) (LowP n m Z) (fun _ => false) := fun t ct p hp h => by cases h
end Go.Proofs.Ytfmbmgdemdbpaaa
