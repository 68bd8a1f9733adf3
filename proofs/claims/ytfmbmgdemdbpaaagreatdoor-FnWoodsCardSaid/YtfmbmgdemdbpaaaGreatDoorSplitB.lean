/- Texts parted at a byte: the reference's parting. -/
import Derived.Test.YtfmbmgdemdbpaaaGreatDoorSplit
import Derived.Test.YtfmbmgdemdbpaaaGreatDoorDec
namespace Go.Proofs.YtfmbmgdemdbpaaaGreatDoor
open Go.RowKit Go.Sort
set_option linter.unusedVariables false

/-- texts, as cells -/
def tv (l : List (List UInt8)) : List Value := l.map fun t => Value.string ⟨t.toArray⟩
theorem tv_append (a b : List (List UInt8)) : tv (a ++ b) = tv a ++ tv b := by simp [tv]
theorem tv_len (l : List (List UInt8)) : (tv l).length = l.length := by simp [tv]
theorem infoStr2 : (Tryz.prog.info? 9).map (fun i => (i.zero, i.size, i.bytes)) = some (some (.string ⟨#[]⟩), 1, 16) := by kernel_rfl
theorem ext_bytes (s : ByteArray) (a b : Nat) : s.extract a b = ⟨((s.data.toList.drop a).take (b - a)).toArray⟩ := by
  have h := Lib.extract_data s a b
  cases hh : s.extract a b with
  | mk d => rw [hh] at h; simp at h; rw [← h]

theorem byte_of {s : ByteArray} {k : Nat} (h : k < s.size) : s.data.toList.getD k 0 = s[k] := by
  have h' : k < s.data.toList.length := by simpa using h
  rw [List.getD_eq_getElem?_getD, List.getElem?_eq_getElem h']; rfl
theorem drop_parts {l : List UInt8} {a k : Nat} (hak : a ≤ k) (hk : k < l.length) : l.drop a = (l.drop a).take (k - a) ++ l.getD k 0 :: l.drop (k + 1) := by
  conv => lhs; rw [← List.take_append_drop (k - a) (l.drop a)]
  rw [List.drop_drop, show a + (k - a) = k by omega, List.drop_eq_getElem_cons hk, List.getD_eq_getElem?_getD, List.getElem?_eq_getElem hk]; rfl
theorem split_step {l : List UInt8} {a k : Nat} {c : UInt8} (hak : a ≤ k) (hk : k < l.length) (hc : l.getD k 0 = c) (hn : c ∉ (l.drop a).take (k - a)) : spl c (l.drop a) = (l.drop a).take (k - a) :: spl c (l.drop (k + 1)) := by
  conv => lhs; rw [drop_parts hak hk, hc]
  rw [spl_hit hn]
theorem split_keep {l : List UInt8} {a k : Nat} {c : UInt8} (hak : a ≤ k) (hk : k < l.length) (hc : l.getD k 0 ≠ c) (hn : c ∉ (l.drop a).take (k - a)) : c ∉ (l.drop a).take (k + 1 - a) := by
  have hlt : k - a < (l.drop a).length := by rw [List.length_drop]; omega
  rw [show k + 1 - a = (k - a) + 1 by omega, List.take_add_one, List.getElem?_eq_getElem hlt]
  intro h
  rcases List.mem_append.1 h with h | h
  · exact hn h
  · have e : c = (l.drop a)[k - a] := by simpa using h
    rw [List.getElem_drop] at e
    apply hc
    rw [List.getD_eq_getElem?_getD, List.getElem?_eq_getElem hk, e]
    simp only [show a + (k - a) = k by omega]
    rfl

end Go.Proofs.YtfmbmgdemdbpaaaGreatDoor
