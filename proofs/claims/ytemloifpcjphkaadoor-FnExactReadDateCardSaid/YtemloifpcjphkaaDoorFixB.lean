/- Texts of numbers with places, read back: plain law. -/
import Derived.Test.YtemloifpcjphkaaDoorFix
import Derived.Test.YtemloifpcjphkaaDoorPair
namespace Go.Proofs.YtemloifpcjphkaaDoor
open Go.RowKit
set_option linter.unusedVariables false

theorem trim_digs (l : List UInt8) : Lib.trimPrefix l [45] = digs l := by
  unfold Lib.trimPrefix Lib.hasPrefix digs
  cases l with
  | nil => rfl
  | cons a r =>
    by_cases h : a = 45
    · subst h; rfl
    · have h1 : List.isPrefixOf [45] (a :: r) = false := by
        show ((45 == a) && List.isPrefixOf [] r) = false
        rw [show ((45 : UInt8) == a) = false by rw [beq_eq_false_iff_ne]; exact fun e => h e.symm]; rfl
      rw [h1, if_neg (by simp), if_neg (by simpa using h)]
theorem pre_minus (l : List UInt8) : Lib.hasPrefix l [45] = decide (l.head? = some 45) := by
  unfold Lib.hasPrefix
  cases l with
  | nil => rfl
  | cons a r =>
    show ((45 == a) && List.isPrefixOf [] r) = decide (some a = some 45)
    rw [show List.isPrefixOf ([] : List UInt8) r = true by cases r <;> rfl, Bool.and_true]
    by_cases h : a = 45
    · subst h; rfl
    · rw [show ((45 : UInt8) == a) = false by rw [beq_eq_false_iff_ne]; exact fun e => h e.symm]; simp [h]
def fixD (a q : Nat) : List UInt8 := Lib.decDigits (a / 10 ^ q) ++ 46 :: low q a
theorem fixD_head (a q : Nat) : (fixD a q).head? ≠ some 45 := by
  have h1 := (dec_canon (a / 10 ^ q)).2.1
  have h0 := dec_len_pos (a / 10 ^ q)
  unfold fixD
  rcases hx : Lib.decDigits (a / 10 ^ q) with _ | ⟨c, r⟩
  · rw [hx] at h0; simp at h0
  · intro e
    rw [hx] at h1
    simp only [List.cons_append, List.head?_cons, Option.some.injEq] at e
    have := h1 c (by simp)
    rw [e] at this; cases this
theorem fixT_pos {v : Int} {q : Nat} (h : ¬ v < 0) : fixT v q = fixD v.natAbs q := by rw [fixT, if_neg h]; rfl
theorem fixT_neg {v : Int} {q : Nat} (h : v < 0) : fixT v q = 45 :: fixD v.natAbs q := by rw [fixT, if_pos h]; rfl
theorem fix_core (v : Int) (q : Nat) : digs (fixT v q) = fixD v.natAbs q ∧ ((fixT v q).head? = some 45 ↔ v < 0) := by
  by_cases h : v < 0
  · rw [fixT_neg h]
    exact ⟨by simp [digs], by simp [h]⟩
  · rw [fixT_pos h]
    exact ⟨by rw [digs, if_neg (fixD_head _ _)], ⟨fun e => absurd e (fixD_head _ _), fun e => absurd e h⟩⟩
theorem fix_cut (a q : Nat) : Lib.cut (fixD a q) [46] = (Lib.decDigits (a / 10 ^ q), low q a, true) := cut_hit (allD_not (dec_canon _).2.1 rfl)
theorem fix_dok {a q : Nat} (ha : a ≤ 1000000000) (hq : q ≤ 6) : dok (Lib.decDigits (a / 10 ^ q) ++ low q a) ∧ valF 0 (Lib.decDigits (a / 10 ^ q) ++ low q a) = a := by
  have hl : (Lib.decDigits a).length ≤ 10 := dec_le 9 _ (by omega)
  rw [← pad_low q a]
  refine ⟨⟨fun e => ?_, by rw [pad_len]; omega, allD_pad _ _⟩, val_pad _ _⟩
  have := congrArg List.length e
  rw [pad_len] at this
  simp at this
theorem fix_inj (q : Nat) (hq : q ≤ 6) (a b : Int) (ha : -1000000000 ≤ a ∧ a ≤ 1000000000) (hb : -1000000000 ≤ b ∧ b ≤ 1000000000) (h : fixT a q = fixT b q) : a = b := by
  obtain ⟨d1, s1⟩ := fix_core a q
  obtain ⟨d2, s2⟩ := fix_core b q
  rw [h, d2] at d1
  rw [h] at s1
  have hc := congrArg (fun t => Lib.cut t [46]) d1
  simp only [fix_cut, Prod.mk.injEq] at hc
  have e1 := (fix_dok (a := a.natAbs) (by omega) hq).2
  have e2 := (fix_dok (a := b.natAbs) (by omega) hq).2
  rw [hc.1, hc.2.1] at e2
  have : a < 0 ↔ b < 0 := s1.symm.trans s2
  omega
theorem fix_nonempty (v : Int) (q : Nat) : fixT v q ≠ [] := by
  intro e
  have := (fix_core v q).1
  rw [e] at this
  have h2 := congrArg List.length this
  rw [fixD, List.length_append, List.length_cons] at h2
  simp [digs] at h2
theorem fixD_len (a q : Nat) : (fixD a q).length = (Lib.decDigits (a / 10 ^ q)).length + 1 + q := by
  rw [fixD, List.length_append, List.length_cons, low_len]; omega
/-- where the reference looks: the sign's length is sg -/
theorem fix_look {v : Int} {q sg : Nat} {l : List UInt8} (h : l = fixT v q) (hv : -1000000000 ≤ v ∧ v ≤ 1000000000) (hq : q ≤ 6) (hs : (l.head? = some 45 ∧ sg = 1) ∨ (l.head? ≠ some 45 ∧ sg = 0)) :
    sg + 2 + q ≤ l.length ∧ l.length ≤ 18 ∧ sg < l.length - q - 1 ∧ l.getD (l.length - q - 1) 0 = 46 ∧ (l.drop sg).take (l.length - q - 1 - sg) = Lib.decDigits (v.natAbs / 10 ^ q) ∧ l.drop (l.length - q - 1 + 1) = low q v.natAbs := by
  have hd : Lib.decDigits (v.natAbs / 10 ^ q) ≠ [] := (dec_canon _).1
  have h0 := dec_len_pos (v.natAbs / 10 ^ q)
  have h1 : (Lib.decDigits (v.natAbs / 10 ^ q)).length ≤ 10 := dec_le 9 _ (by have := Nat.div_le_self v.natAbs (10 ^ q); omega)
  have hl := fixD_len v.natAbs q
  have hc := (fix_core v q).2
  rw [← h] at hc
  have key : ∃ pre : List UInt8, pre.length = sg ∧ l = pre ++ (Lib.decDigits (v.natAbs / 10 ^ q) ++ 46 :: low q v.natAbs) := by
    rcases hs with ⟨e, rfl⟩ | ⟨e, rfl⟩
    · exact ⟨[45], rfl, by rw [h, fixT_neg (hc.1 e)]; rfl⟩
    · exact ⟨[], rfl, by rw [h, fixT_pos (fun g => e (hc.2 g))]; rfl⟩
  obtain ⟨pre, hp, e⟩ := key
  have hs1 : sg ≤ 1 := by omega
  obtain ⟨x, hx⟩ : ∃ x, Lib.decDigits (v.natAbs / 10 ^ q) = x := ⟨_, rfl⟩
  rw [hx] at h0 h1 hl e ⊢
  have ll : l.length = sg + x.length + 1 + q := by rw [e, List.length_append, List.length_append, List.length_cons, low_len, hp]; omega
  have at' : l.length - q - 1 = sg + x.length := by omega
  rw [at', ll]
  refine ⟨by omega, by omega, by omega, ?_, ?_, ?_⟩
  · rw [e, ← List.append_assoc, List.getD_eq_getElem?_getD, List.getElem?_append_right (by rw [List.length_append]; omega), List.length_append, hp, Nat.sub_self]; rfl
  · rw [e, ← hp, List.drop_left, Nat.add_sub_cancel_left, List.take_left]
  · rw [e, ← List.append_assoc, show sg + x.length + 1 = (pre ++ x).length + 1 by rw [List.length_append, hp], List.drop_append, List.drop_of_length_le (by omega), Nat.add_sub_cancel_left]; rfl
end Go.Proofs.YtemloifpcjphkaaDoor
