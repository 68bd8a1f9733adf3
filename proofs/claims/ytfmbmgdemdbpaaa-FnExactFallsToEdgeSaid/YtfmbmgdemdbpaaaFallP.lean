/- Water that runs to the edge: whoever goes over the places often enough reaches the same ones. No program. -/
import Derived.Test.YtfmbmgdemdbpaaaSteep
namespace Go.Proofs.Ytfmbmgdemdbpaaa

/-- a set of places that has the edge, and each place from which water runs to a place of it -/
def Closed (N : Nat) (E : Nat → Prop) (A : Nat → Nat → Prop) (t : Nat → Bool) : Prop := ∀ p, p < N → (E p → t p = true) ∧ ∀ q, q < N → A p q → t q = true → t p = true
/-- a set that lies in all closed ones -/
def Sound (N : Nat) (E : Nat → Prop) (A : Nat → Nat → Prop) (s : Nat → Bool) : Prop := ∀ t, Closed N E A t → ∀ p, p < N → s p = true → t p = true
/-- the state behind t rounds -/
def Rnd (N : Nat) (E : Nat → Prop) (A : Nat → Nat → Prop) (cnt : (Nat → Bool) → Nat → Nat) (t : Nat) (s : Nat → Bool) : Prop := Sound N E A s ∧ (Closed N E A s ∨ t ≤ cnt s N)
/-- the state in a round that began with s0, behind its first k places -/
def Mid (N : Nat) (E : Nat → Prop) (A : Nat → Nat → Prop) (k : Nat) (s0 s : Nat → Bool) : Prop :=
  (∀ p, s0 p = true → s p = true) ∧ Sound N E A s ∧ ∀ x, x < k → x < N → (E x → s x = true) ∧ ∀ q, q < N → A x q → s0 q = true → s x = true
def up (s : Nat → Bool) (p : Nat) (b : Bool) : Nat → Bool := fun x => s x || (decide (x = p) && b)
def cnt (s : Nat → Bool) : Nat → Nat
  | 0 => 0
  | k + 1 => cnt s k + if s k then 1 else 0

variable {N : Nat} {E : Nat → Prop} {A : Nat → Nat → Prop} {s s' t s0 : Nat → Bool}

theorem sound_closed_eq (hs : Sound N E A s) (cs : Closed N E A s) (ht : Sound N E A t) (ct : Closed N E A t) : ∀ p, p < N → s p = t p := by
  intro p hp
  have h1 := hs t ct p hp
  have h2 := ht s cs p hp
  cases h : s p
  · cases h' : t p
    · rfl
    · rw [h2 h'] at h; cases h
  · exact (h1 h).symm
theorem up_le {p : Nat} {b : Bool} : ∀ x, s x = true → up s p b x = true := by intro x h; simp [up, h]
theorem up_self (s : Nat → Bool) (p : Nat) (b : Bool) : up s p b p = (s p || b) := by simp [up]
theorem up_other {p x : Nat} {b : Bool} (h : x ≠ p) : up s p b x = s x := by simp [up, h]
theorem up_true (s : Nat → Bool) (p : Nat) : up s p true p = true := by simp [up]
theorem up_false (s : Nat → Bool) (p : Nat) : up s p false = s := by funext x; simp [up]
theorem sound_up {p : Nat} {b : Bool} (hs : Sound N E A s) (hb : b = true → p < N → E p ∨ ∃ q, q < N ∧ A p q ∧ s q = true) : Sound N E A (up s p b) := by
  intro t ct x hx h
  unfold up at h
  rw [Bool.or_eq_true, Bool.and_eq_true, decide_eq_true_iff] at h
  rcases h with h | ⟨rfl, hb1⟩
  · exact hs t ct x hx h
  · rcases hb hb1 hx with h | ⟨q, hq, ha, hsq⟩
    · exact (ct x hx).1 h
    · exact (ct x hx).2 q hq ha (hs t ct q hq hsq)
theorem cnt_le (s : Nat → Bool) : ∀ k, cnt s k ≤ k
  | 0 => Nat.le_refl _
  | k + 1 => by have := cnt_le s k; rw [cnt]; split <;> omega
theorem cnt_mono (h : ∀ p, s p = true → t p = true) : ∀ k, cnt s k ≤ cnt t k
  | 0 => Nat.le_refl _
  | k + 1 => by
    have := cnt_mono h k
    rw [cnt, cnt]
    by_cases hs : s k = true
    · rw [if_pos hs, if_pos (h k hs)]; omega
    · rw [if_neg hs]; omega
theorem cnt_eq (h : ∀ p, s p = true → t p = true) : ∀ k, cnt t k ≤ cnt s k → ∀ p, p < k → s p = t p
  | 0, _, p, hp => by omega
  | k + 1, hc, p, hp => by
    have hm := cnt_mono h k
    rw [cnt, cnt] at hc
    have hk : s k = t k ∧ cnt t k ≤ cnt s k := by
      cases e : s k <;> cases e' : t k
      · rw [e, e'] at hc; simp at hc; exact ⟨rfl, hc⟩
      · rw [e, e'] at hc; simp at hc; omega
      · rw [h k e] at e'; cases e'
      · rw [e, e'] at hc; simp at hc; exact ⟨rfl, hc⟩
    by_cases g : p = k
    · subst g; exact hk.1
    · exact cnt_eq h k hk.2 p (by omega)
theorem cnt_full : ∀ k, k ≤ cnt s k → ∀ p, p < k → s p = true
  | 0, _, p, hp => by omega
  | k + 1, hc, p, hp => by
    have hm := cnt_le s k
    rw [cnt] at hc
    have hk : s k = true := by
      by_cases e : s k = true
      · exact e
      · rw [if_neg e] at hc; omega
    by_cases g : p = k
    · subst g; exact hk
    · rw [if_pos hk] at hc; exact cnt_full k (by omega) p (by omega)
theorem rnd_start (h : Sound N E A s) : Rnd N E A cnt 0 s := ⟨h, .inr (Nat.zero_le _)⟩
theorem mid_start (h : Sound N E A s) : Mid N E A 0 s s := ⟨fun _ h => h, h, fun x hx => by omega⟩
theorem mid_step {k : Nat} (h : Mid N E A k s0 s) (hle : ∀ p, s p = true → s' p = true) (hs : Sound N E A s') (hk : k < N → (E k → s' k = true) ∧ ∀ q, q < N → A k q → s0 q = true → s' k = true) : Mid N E A (k + 1) s0 s' := by
  obtain ⟨h1, h2, h3⟩ := h
  refine ⟨fun p hp => hle p (h1 p hp), hs, fun x hx hxN => ?_⟩
  by_cases g : x = k
  · subst g; exact hk hxN
  · exact ⟨fun e => hle x ((h3 x (by omega) hxN).1 e), fun q hq ha hs0 => hle x ((h3 x (by omega) hxN).2 q hq ha hs0)⟩
theorem mid_end {r : Nat} (h0 : Rnd N E A cnt r s0) (h : Mid N E A N s0 s) : Rnd N E A cnt (r + 1) s := by
  obtain ⟨h1, h2, h3⟩ := h
  refine ⟨h2, ?_⟩
  have hm := cnt_mono h1 N
  rcases h0.2 with hc | hc
  · left
    have e : ∀ p, p < N → s p = s0 p := fun p hp => by
      cases e : s p
      · cases e' : s0 p
        · rfl
        · rw [h1 p e'] at e; cases e
      · exact (h2 s0 hc p hp e).symm
    exact fun p hp => ⟨fun he => (h3 p hp hp).1 he, fun q hq ha hsq => (h3 p hp hp).2 q hq ha (by rw [← e q hq]; exact hsq)⟩
  · by_cases g : cnt s N ≤ cnt s0 N
    · left
      have e := cnt_eq h1 N g
      exact fun p hp => ⟨fun he => (h3 p hp hp).1 he, fun q hq ha hsq => (h3 p hp hp).2 q hq ha (by rw [e q hq]; exact hsq)⟩
    · right; omega
theorem rnd_end {r : Nat} (h : Rnd N E A cnt r s) (hr : N ≤ r) : Closed N E A s := by
  rcases h.2 with hc | hc
  · exact hc
  · have e := cnt_full N (by omega : N ≤ cnt s N)
    exact fun p hp => ⟨fun _ => e p hp, fun _ _ _ _ => e p hp⟩

/-- do all places run? -/
def allB (N : Nat) (s : Nat → Bool) : Bool := decide (∀ p, p < N → s p = true)
theorem allB_eq (h : ∀ p, p < N → s p = t p) : allB N s = allB N t := by
  unfold allB
  exact decide_eq_decide.2 ⟨fun k p hp => by rw [← h p hp]; exact k p hp, fun k p hp => by rw [h p hp]; exact k p hp⟩
theorem allB_end {r r' : Nat} (h : Rnd N E A cnt r s) (h' : Rnd N E A cnt r' t) (hr : N ≤ r) (hr' : N ≤ r') : allB N s = allB N t :=
  allB_eq (sound_closed_eq h.1 (rnd_end h hr) h'.1 (rnd_end h' hr'))

/-! ### places of an arching -/
/-- the place lies at the edge -/
def EdgeP (n m : Nat) (p : Nat) : Prop := edgeB n m (p / m) (p % m) = true
/-- place q is next to p and lower -/
def LowP (n m : Nat) (Z : List (List Int)) (p q : Nat) : Prop := (q / m, q % m) ∈ nb n m (p / m) (p % m) 4 ∧ V Z (q / m) (q % m) < V Z (p / m) (p % m)
end Go.Proofs.Ytfmbmgdemdbpaaa
