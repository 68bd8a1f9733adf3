/- A plank's text, written and read back by the program. -/
import Derived.Test.YtfmbmgdemdbpaaaGreatDoorRplD
import Derived.Test.YtfmbmgdemdbpaaaGreatDoorPtext
import Derived.Test.YtfmbmgdemdbpaaaGreatDoorBasL
import Derived.Test.YtfmbmgdemdbpaaaGreatDoorDraw
namespace Go.Proofs.YtfmbmgdemdbpaaaGreatDoor
open Go.RowKit Go.Sort
set_option linter.unusedVariables false

def RpIs (l : List UInt8) (p : Pl) (f : Bool) : Prop :=
  (f = true ∧ ∃ a b, spl 32 l = [a, b] ∧ goodL b = true ∧ (ys b).length = 5 ∧ validB (plOf a (ys b)) = true ∧ p = plOf a (ys b)) ∨
  (f = false ∧ p = plNo ∧ ¬ ∃ a b, spl 32 l = [a, b] ∧ goodL b = true ∧ (ys b).length = 5 ∧ validB (plOf a (ys b)) = true)
theorem rp_one {l : List UInt8} {p q : Pl} {f g : Bool} (h : RpIs l p f) (k : RpIs l q g) : p = q ∧ f = g := by
  rcases h with ⟨rfl, a, b, e, h1, h2, h3, rfl⟩ | ⟨rfl, rfl, hn⟩
  · rcases k with ⟨rfl, a', b', e', _, _, _, rfl⟩ | ⟨_, _, hn⟩
    · rw [e] at e'
      simp only [List.cons.injEq, and_true] at e'
      obtain ⟨rfl, rfl⟩ := e'
      exact ⟨rfl, rfl⟩
    · exact absurd ⟨a, b, e, h1, h2, h3⟩ hn
  · rcases k with ⟨rfl, a', b', e', h1, h2, h3, _⟩ | ⟨rfl, rfl, _⟩
    · exact absurd ⟨a', b', e', h1, h2, h3⟩ hn
    · exact ⟨rfl, rfl⟩

theorem rp_impl {l a b : List UInt8} {f : Bool} (hc : Lib.cut l [32] = (a, b, f)) :
    RpIs l (if (f && (goodL b && decide ((ys b).length = 5))) = true then (if validB (plOf a (ys b)) = true then plOf a (ys b) else plNo) else plNo) ((f && (goodL b && decide ((ys b).length = 5))) && validB (plOf a (ys b))) := by
  rcases cut_cases 32 l with ⟨a', b', e, hn, h⟩ | ⟨hn, h⟩
  · rw [hc] at h
    simp only [Prod.mk.injEq] at h
    obtain ⟨rfl, rfl, rfl⟩ := h
    have hs := spl_hit (r := b) hn
    rw [← e] at hs
    by_cases h1 : goodL b = true ∧ (ys b).length = 5
    · obtain ⟨hg, h5⟩ := h1
      have hs2 : spl 32 l = [a, b] := by rw [hs, spl_miss (good_noblank hg)]
      rw [hg, decide_eq_true h5]
      cases hv : validB (plOf a (ys b)) with
      | true => exact .inl ⟨rfl, a, b, hs2, hg, h5, hv, by simp⟩
      | false =>
        refine .inr ⟨rfl, by simp, fun ⟨a', b', e', _, _, h3⟩ => ?_⟩
        rw [hs2] at e'
        simp only [List.cons.injEq, and_true] at e'
        obtain ⟨rfl, rfl⟩ := e'
        rw [hv] at h3; cases h3
    · have hb : (goodL b && decide ((ys b).length = 5)) = false := by
        cases hg : goodL b with
        | false => rfl
        | true => rw [Bool.true_and, decide_eq_false]; exact fun h5 => h1 ⟨hg, h5⟩
      rw [hb]
      refine .inr ⟨rfl, by simp, fun ⟨a', b', e', h2, h3, _⟩ => ?_⟩
      rw [hs] at e'
      simp only [List.cons.injEq] at e'
      have hlen := e'.2
      by_cases hm : (32 : UInt8) ∈ b
      · have := spl_two hm
        rw [hlen] at this; simp at this
      · rw [spl_miss hm] at hlen
        simp only [List.cons.injEq, and_true] at hlen
        rw [← hlen] at h2 h3
        exact h1 ⟨h2, h3⟩
  · rw [hc] at h
    simp only [Prod.mk.injEq] at h
    obtain ⟨rfl, rfl, rfl⟩ := h
    refine .inr ⟨rfl, by simp, fun ⟨a', b', e', _⟩ => ?_⟩
    rw [spl_miss hn] at e'
    simp at e'

theorem implRplank_any (s : ByteArray) (w : World) (hs : s.size ≤ 1048576) (tab : PowTab w) (er : ErrVars w) (mx : MaxL w) :
    Calls Tryz.prog 9 #[.string s] w fun e w' => ∃ p f, RpIs s.data.toList p f ∧ e = .returned (.tuple #[agg6 p, .bool f]) ∧ Below w.heap.size w w' := by
  obtain ⟨⟨a, b, f⟩, hc⟩ : ∃ t, Lib.cut s.data.toList [32] = t := ⟨_, rfl⟩
  have hl := len_data s
  have hab : a.length ≤ 1048576 ∧ b.length ≤ 1048576 := by
    rcases cut_cases 32 s.data.toList with ⟨a', b', e, _, h⟩ | ⟨_, h⟩
    · rw [hc] at h
      simp only [Prod.mk.injEq] at h
      obtain ⟨rfl, rfl, rfl⟩ := h
      have := congrArg List.length e
      rw [List.length_append, List.length_cons] at this
      omega
    · rw [hc] at h
      simp only [Prod.mk.injEq] at h
      obtain ⟨rfl, rfl, rfl⟩ := h
      rw [List.length_nil]; omega
  have R := rp_impl hc
  cases hy : (f && (goodL b && decide ((ys b).length = 5))) with
  | false =>
    rw [hy] at R
    refine (implRplank_no s w hs tab er mx a b f hc hab.2 hy).mono ?_
    rintro e w' ⟨rfl, bw⟩
    exact ⟨plNo, false, R, rfl, bw⟩
  | true =>
    rw [hy] at R
    refine (implRplank_yes s w hs tab er mx a b f hc hab.2 hab.1 hy).mono ?_
    rintro e w' ⟨rfl, bw⟩
    exact ⟨_, _, R, rfl, bw⟩


theorem name_noblank {p : Pl} (h : validB p = true) : (32 : UInt8) ∉ p.id.data.toList := fun hm => by
  unfold validB at h
  rw [Bool.and_eq_true] at h
  have h1 := (of_decide_eq_true h.1 : _ ∧ _ ∧ _).2.2
  obtain ⟨j, hj, e⟩ := List.getElem_of_mem hm
  have h2 := h1 j hj
  rw [List.getD_eq_getElem?_getD, List.getElem?_eq_getElem hj, e] at h2
  unfold okAt at h2
  rw [show smallB ((some (32 : UInt8)).getD 0).toNat = false from rfl, show digitB ((some (32 : UInt8)).getD 0).toNat = false from rfl] at h2
  simp at h2
theorem plank_back {p : Pl} (hv : validB p = true) : RpIs (ptxt p).data.toList p true := by
  have hok := nums_ok hv
  obtain ⟨hg, hys⟩ := list_back hok (by simp [nums])
  rw [ltext, if_pos hok] at hg hys
  have e : (ptxt p).data.toList = p.id.data.toList ++ 32 :: ltxt (nums p) := by
    unfold ptxt
    simp [ByteArray.data_append]
  refine .inl ⟨rfl, p.id.data.toList, ltxt (nums p), ?_, hg, by rw [hys]; rfl, ?_, ?_⟩
  · rw [e, spl_hit (name_noblank hv), spl_miss (good_noblank hg)]
  · rw [hys]; exact hv
  · rw [hys]; rfl
end Go.Proofs.YtfmbmgdemdbpaaaGreatDoor
