/- A list of numbers, written and read back: plain law. -/
import Derived.Test.YtfmbmgdemdbpaaaGreatDoorRplB
import Derived.Test.YtfmbmgdemdbpaaaGreatDoorLtextB
import Derived.Test.YtfmbmgdemdbpaaaGreatDoorPad
namespace Go.Proofs.YtfmbmgdemdbpaaaGreatDoor
open Go.RowKit
set_option linter.unusedVariables false

theorem itoa_back {v : Int} (h0 : -100000000000000000 < v) (h1 : v < 100000000000000000) : okN (Lib.itoa v) ∧ numV (Lib.itoa v) = v := by
  have dl : ∀ k a : Nat, a < 10 ^ (k + 1) → (Lib.decDigits a).length ≤ k + 1 := by
    intro k
    induction k with
    | zero => intro a h; rw [Lib.decDigits_length, Lib.nDigits_small (by simpa using h)]; omega
    | succ k ih =>
      intro a h
      by_cases g : a < 10
      · rw [Lib.decDigits_length, Lib.nDigits_small g]; omega
      · have := ih (a / 10) (by rw [Nat.pow_succ] at h; omega)
        rw [Lib.decDigits_length] at this ⊢
        rw [Lib.nDigits_big g]; omega
  by_cases hv : v < 0
  · obtain ⟨n, rfl, hn⟩ : ∃ n : Nat, v = -(n : Int) ∧ 1 ≤ n := ⟨v.natAbs, by omega, by omega⟩
    have hd : digs (45 :: Lib.decDigits n) = Lib.decDigits n := by simp [digs]
    have hl := dl 17 n (by omega)
    refine ⟨itoa_ok (v := -(n : Int)) rfl (by rw [Lib.itoa_neg n hn, hd]; omega), ?_⟩
    rw [Lib.itoa_neg n hn, numV, if_pos (show (45 :: Lib.decDigits n).head? = some 45 from rfl), hd, (dec_canon n).2.2.2]
  · obtain ⟨n, rfl⟩ : ∃ n : Nat, v = (n : Int) := ⟨v.toNat, by omega⟩
    have hl := dl 17 n (by omega)
    have hh : (Lib.decDigits n).head? ≠ some 45 := by
      intro e
      have := (dec_canon n).2.1 45 (by
        cases hq : Lib.decDigits n with
        | nil => rw [hq] at e; simp at e
        | cons a r => rw [hq] at e; simp at e; rw [e]; simp)
      cases this
    have hd : digs (Lib.decDigits n) = Lib.decDigits n := by rw [digs, if_neg hh]
    refine ⟨itoa_ok (v := (n : Int)) rfl (by rw [Lib.itoa_nonneg n, hd]; omega), ?_⟩
    rw [Lib.itoa_nonneg n, numV, if_neg hh, hd, (dec_canon n).2.2.2]
theorem itoa_num {v : Int} (h0 : -100000000000000000 < v) (h1 : v < 100000000000000000) : (numR (Lib.itoa v)).1 = v ∧ (numR (Lib.itoa v)).2 = true := by
  obtain ⟨a, b⟩ := itoa_back h0 h1
  obtain ⟨c, d⟩ := numR_ok a
  exact ⟨c.trans b, d⟩
theorem itoa_comma {v : Int} (h0 : -100000000000000000 < v) (h1 : v < 100000000000000000) : (44 : UInt8) ∉ Lib.itoa v := fun m => by
  rcases okN_bytes (itoa_back h0 h1).1 44 m with h | h
  · cases h
  · cases h
theorem spl_join : ∀ (x : Int) (r : List Int), (∀ v ∈ x :: r, -100000000000000000 < v ∧ v < 100000000000000000) → spl 44 (Lib.itoa x ++ Lib.joinTail [44] (r.map Lib.itoa)) = (x :: r).map Lib.itoa
  | x, [], h => by
    have hx := h x (by simp)
    rw [List.map_nil, show Lib.joinTail [44] [] = [] from rfl, List.append_nil, spl_miss (itoa_comma hx.1 hx.2)]; rfl
  | x, y :: r, h => by
    have hx := h x (by simp)
    have e : Lib.itoa x ++ Lib.joinTail [44] ((y :: r).map Lib.itoa) = Lib.itoa x ++ 44 :: (Lib.itoa y ++ Lib.joinTail [44] (r.map Lib.itoa)) := by
      rw [List.map_cons, Lib.joinTail, List.map_cons, List.flatten_cons]; rfl
    rw [e, spl_hit (itoa_comma hx.1 hx.2), spl_join y r (fun v hv => h v (by simp only [List.mem_cons] at hv ⊢; exact .inr hv))]; rfl
theorem list_back {xs : List Int} (hok : okL xs = true) (h1 : 2 ≤ xs.length) : goodL (ltext xs) = true ∧ ys (ltext xs) = xs := by
  obtain ⟨x, r, rfl⟩ : ∃ x r, xs = x :: r := by
    cases xs with
    | nil => simp at h1
    | cons x r => exact ⟨x, r, rfl⟩
  have hall : ∀ v ∈ x :: r, okV v = true := by
    unfold okL at hok
    rw [Bool.and_eq_true] at hok
    exact fun v hv => List.all_eq_true.1 hok.1 v hv
  have hlen : (x :: r).length ≤ 64 := (okL_all hok).2
  have hb : ∀ v ∈ x :: r, -100000000000000000 < v ∧ v < 100000000000000000 := fun v hv => by
    have := okV_bd (hall v hv)
    omega
  have hs := spl_join x r hb
  have ht : ltext (x :: r) = Lib.itoa x ++ Lib.joinTail [44] (r.map Lib.itoa) := by
    rw [ltext, if_pos hok, ltxt, if_neg (by simp), jpre, List.map_cons, Lib.join_cons]
  rw [← ht] at hs
  have hne : ltext (x :: r) ≠ [45] := fun e => by
    rw [e] at hs
    have : (spl 44 [45]).length = 1 := rfl
    rw [hs, List.length_map] at this
    omega
  have hv : vals ((x :: r).map Lib.itoa) = x :: r := by
    rw [vals, List.map_map]
    conv => rhs; rw [← List.map_id (x :: r)]
    apply List.map_congr_left
    intro v hv
    exact (itoa_num (hb v hv).1 (hb v hv).2).1
  have hg : goodL (ltext (x :: r)) = true := by
    rw [goodL_not hne, hs, goodP, List.length_map, decide_eq_true hlen, Bool.true_and, List.all_eq_true]
    intro t ht
    obtain ⟨v, hv, rfl⟩ := List.mem_map.1 ht
    obtain ⟨e1, e2⟩ := itoa_num (hb v hv).1 (hb v hv).2
    rw [okP, e1, e2, Bool.true_and]
    exact hall v hv
  exact ⟨hg, by rw [ys, hg, if_pos rfl, xsL_not hne, hs, hv]⟩
end Go.Proofs.YtfmbmgdemdbpaaaGreatDoor
