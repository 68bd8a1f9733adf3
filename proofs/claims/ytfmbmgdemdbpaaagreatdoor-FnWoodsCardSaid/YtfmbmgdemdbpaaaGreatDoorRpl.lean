/- A plank's text, parted at its first blank: plain Lean. -/
import Derived.Test.YtfmbmgdemdbpaaaGreatDoorRlist
namespace Go.Proofs.YtfmbmgdemdbpaaaGreatDoor

theorem spl_mem {c x : UInt8} : ∀ {l : List UInt8}, x ∈ l → x = c ∨ ∃ t ∈ spl c l, x ∈ t
  | [], h => by cases h
  | y :: r, h => by
    by_cases hy : y = c
    · rcases List.mem_cons.1 h with e | e
      · exact .inl (e.trans hy)
      · rcases spl_mem (c := c) e with e2 | ⟨t, ht, hx⟩
        · exact .inl e2
        · exact .inr ⟨t, by rw [spl, if_pos hy]; exact List.mem_cons_of_mem _ ht, hx⟩
    · obtain ⟨a, q, hq⟩ : ∃ a q, spl c r = a :: q := by
        rcases hq : spl c r with _ | ⟨a, q⟩
        · exact absurd hq (spl_ne c r)
        · exact ⟨a, q, rfl⟩
      have e0 : spl c (y :: r) = (y :: a) :: q := by rw [spl, if_neg hy, hq]
      rcases List.mem_cons.1 h with e | e
      · exact .inr ⟨y :: a, by rw [e0]; simp, by simp [e]⟩
      · rcases spl_mem (c := c) e with e2 | ⟨t, ht, hx⟩
        · exact .inl e2
        · rw [hq] at ht
          rcases List.mem_cons.1 ht with e3 | e3
          · subst e3; exact .inr ⟨y :: t, by rw [e0]; simp, by simp [hx]⟩
          · exact .inr ⟨t, by rw [e0]; simp [e3], hx⟩
theorem spl_two {c : UInt8} {l : List UInt8} (h : c ∈ l) : 2 ≤ (spl c l).length := by
  obtain ⟨p, r, rfl, hp⟩ := List.eq_append_cons_of_mem h
  rw [spl_hit hp]
  have := List.length_pos_iff.2 (spl_ne c r)
  simp; omega
theorem okN_bytes {t : List UInt8} (h : okN t) : ∀ x ∈ t, x = 45 ∨ dgt x = true := by
  obtain ⟨_, _, _, hd⟩ := h
  intro x hx
  unfold digs at hd
  cases t with
  | nil => cases hx
  | cons y r =>
    split at hd
    · rename_i hh
      rcases List.mem_cons.1 hx with e | e
      · left; rw [e]; simpa using hh
      · right; exact hd x e
    · right; exact hd x hx
theorem good_noblank {b : List UInt8} (h : goodL b = true) : (32 : UInt8) ∉ b := by
  intro hm
  by_cases hb : b = [45]
  · subst hb; simp at hm
  rw [goodL_not hb, goodP, Bool.and_eq_true] at h
  rcases spl_mem (c := 44) hm with e | ⟨t, ht, hx⟩
  · exact absurd e (by decide)
  · have hok := List.all_eq_true.1 h.2 t ht
    unfold okP at hok
    rw [Bool.and_eq_true] at hok
    have hN : okN t := by
      by_cases hN : okN t
      · exact hN
      · have := (numR_no hN).2
        rw [this] at hok
        exact absurd hok.1 (by decide)
    rcases okN_bytes hN 32 hx with e | e
    · exact absurd e (by decide)
    · exact absurd e (by decide)
end Go.Proofs.YtfmbmgdemdbpaaaGreatDoor
