/- Texts parted at a byte: plain Lean. -/
import Derived.Lib.SplitLaws
import Derived.Lib.CountLaws
import Derived.Lib.IndexLaws
import Derived.Lib.IndexBytes
namespace Go.Proofs.YtfmbmgdemdbpaaaGreatDoor

/-- the parts of a text between the bytes c -/
def spl (c : UInt8) : List UInt8 → List (List UInt8)
  | [] => [[]]
  | x :: r => if x = c then [] :: spl c r else match spl c r with
    | [] => [[x]]
    | h :: t => (x :: h) :: t
theorem spl_miss {c : UInt8} : ∀ {p : List UInt8}, c ∉ p → spl c p = [p]
  | [], _ => rfl
  | x :: r, h => by
    have hx : x ≠ c := fun e => h (by simp [e])
    have hr : c ∉ r := fun e => h (by simp [e])
    rw [spl, if_neg hx, spl_miss hr]
theorem spl_hit {c : UInt8} : ∀ {p r : List UInt8}, c ∉ p → spl c (p ++ c :: r) = p :: spl c r
  | [], r, _ => by rw [List.nil_append, spl, if_pos rfl]
  | x :: q, r, h => by
    have hx : x ≠ c := fun e => h (by simp [e])
    have hr : c ∉ q := fun e => h (by simp [e])
    rw [List.cons_append, spl, if_neg hx, spl_hit hr]
theorem spl_ne (c : UInt8) (l : List UInt8) : spl c l ≠ [] := by
  cases l with
  | nil => simp [spl]
  | cons x r =>
    rw [spl]
    split
    · simp
    · split <;> simp
theorem spl_len (c : UInt8) : ∀ l : List UInt8, (spl c l).length ≤ l.length + 1
  | [] => by simp [spl]
  | x :: r => by
    have := spl_len c r
    rw [spl]
    split
    · simp; omega
    · split
      · simp
      · rename_i h; rw [h] at this; simp at this ⊢; omega
/-- the first byte c of a text -/
theorem first_at {l : List UInt8} {c : UInt8} {o : Nat} (h : l[o]? = some c) (hn : ∀ k, k < o → l[k]? ≠ some c) : l = l.take o ++ c :: l.drop (o + 1) ∧ c ∉ l.take o := by
  obtain ⟨ho, hc⟩ := List.getElem?_eq_some_iff.1 h
  refine ⟨?_, fun hm => ?_⟩
  · conv => lhs; rw [← List.take_append_drop o l]
    rw [List.drop_eq_getElem_cons ho, hc]
  · obtain ⟨k, hk, e⟩ := List.getElem_of_mem hm
    rw [List.length_take] at hk
    refine hn k (by omega) ?_
    rw [List.getElem?_eq_getElem (by omega)]
    rw [List.getElem_take] at e
    rw [e]
theorem split_spl (c : UInt8) (sep : ByteArray) (hsep : sep.data.toList = [c]) : ∀ (k : Nat) (s : ByteArray), Lib.countB s sep = k → (Lib.splitB sep 0 k s).map (·.data.toList) = spl c s.data.toList := fun k => by
  have hz : sep.size = 1 := by rw [Lib.size_eq, hsep]; rfl
  induction k with
  | zero =>
    intro s h
    rw [Lib.splitB_zero]
    show [s.data.toList] = _
    rcases Lib.indexB_cases s sep with e | ⟨i, e, _⟩
    · have e2 : Lib.indexByte s.data.toList c = -1 := by rw [← Lib.index_one, ← hsep]; exact e
      rw [spl_miss (fun hm => by
        obtain ⟨j, hj, ej⟩ := List.getElem_of_mem hm
        exact Lib.indexByte_none e2 j (by rw [List.getElem?_eq_getElem hj, ej]))]
    · have := Lib.countB_hit s sep i (by omega) e
      omega
  | succ k ih =>
    intro s h
    rcases Lib.indexB_cases s sep with e | ⟨i, e, _⟩
    · rw [Lib.countB_miss s sep e] at h; omega
    · have hc := Lib.countB_hit s sep i (by omega) e
      have e2 : Lib.indexByte s.data.toList c = i := by rw [← Lib.index_one, ← hsep]; exact e
      obtain ⟨h1, h2⟩ := Lib.indexByte_some e2
      obtain ⟨e3, hn⟩ := first_at h1 h2
      rw [Lib.splitB_hit sep 0 k s i e, List.map_cons, ih _ (by omega), Lib.extract_from_zero, Lib.extract_to_end, hz, Nat.add_zero]
      conv => rhs; rw [e3]
      rw [spl_hit hn]
end Go.Proofs.YtfmbmgdemdbpaaaGreatDoor
