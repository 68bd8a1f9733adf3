/- Decimal numerals, read back: the reference's reader. -/
import Derived.Test.YtfmbmgdemdbpaaaGreatDoorName
import Derived.Test.YtfmbmgdemdbpaaaGreatDoorRdec
namespace Go.Proofs.YtfmbmgdemdbpaaaGreatDoor
open Go.RowKit
set_option linter.unusedVariables false

theorem digit_dgt (c : UInt8) : digitB c.toNat = dgt c := by
  unfold digitB dgt
  congr 1 <;> (apply decide_eq_decide.2; omega)
theorem ret_nb {a b : Int} {c d : Bool} (h : a = b) (h' : c = d) : Ending.returned (.tuple #[.int .i64 a, .bool c]) = .returned (.tuple #[.int .i64 b, .bool d]) := by rw [h, h']
open Classical in
noncomputable def numR (l : List UInt8) : Int × Bool := if okN l then (numV l, true) else (0, false)
theorem numR_ok {l : List UInt8} (h : okN l) : (numR l).1 = numV l ∧ (numR l).2 = true := by unfold numR; rw [if_pos h]; exact ⟨rfl, rfl⟩
theorem numR_no {l : List UInt8} (h : ¬ okN l) : (numR l).1 = 0 ∧ (numR l).2 = false := by unfold numR; rw [if_neg h]; exact ⟨rfl, rfl⟩
theorem len_data (s : ByteArray) : s.data.toList.length = s.size := by simp
theorem head_at {s : ByteArray} (h : 0 < s.size) : s.data.toList.head? = some s[0] := by
  have h' : 0 < s.data.toList.length := by simpa using h
  rw [List.head?_eq_getElem?, List.getElem?_eq_getElem h']; rfl
theorem digs_pos {s : ByteArray} (h : 0 < s.size) (h45 : s[0].toNat ≠ 45) : digs s.data.toList = s.data.toList ∧ numV s.data.toList = (valF 0 s.data.toList : Int) := by
  have e : s.data.toList.head? ≠ some 45 := by
    rw [head_at h]; intro e; injection e with e; exact h45 (by rw [e]; rfl)
  have hd : digs s.data.toList = s.data.toList := by rw [digs, if_neg e]
  exact ⟨hd, by rw [numV, if_neg e, hd]⟩
theorem digs_neg {s : ByteArray} (h : 0 < s.size) (h45 : s[0].toNat = 45) : digs s.data.toList = s.data.toList.drop 1 ∧ numV s.data.toList = -(valF 0 (s.data.toList.drop 1) : Int) := by
  have e : s.data.toList.head? = some 45 := by
    rw [head_at h, show s[0] = 45 from UInt8.toNat_inj.1 h45]
  have hd : digs s.data.toList = s.data.toList.drop 1 := by rw [digs, if_pos e, List.drop_one]
  exact ⟨hd, by rw [numV, if_pos e, hd]⟩
theorem takeb_snoc {l : List UInt8} {k : Nat} (h : k < l.length) : l.take (k + 1) = l.take k ++ [l.getD k 0] := by
  rw [List.take_add_one, List.getElem?_eq_getElem h, List.getD_eq_getElem?_getD, List.getElem?_eq_getElem h]; rfl
theorem val_step {l : List UInt8} {k V : Nat} {c : UInt8} (h : k < l.length) (hc : l.getD k 0 = c) (hV : valF 0 (l.take k) = V) (h48 : 48 ≤ c.toNat) : ((valF 0 (l.take (k + 1)) : Nat) : Int) = 10 * (V : Int) + ((c.toNat : Int) - 48) := by
  rw [takeb_snoc h, valF_snoc, hc, hV]; omega
theorem alld_step {l : List UInt8} {k : Nat} {c : UInt8} (h : k < l.length) (hc : l.getD k 0 = c) (ha : AllD (l.take k)) (hd : dgt c = true) : AllD (l.take (k + 1)) := by
  rw [takeb_snoc h, hc]
  intro x hx
  rcases List.mem_append.1 hx with hx | hx
  · exact ha x hx
  · obtain rfl : x = c := by simpa using hx
    exact hd
theorem alld_not {l : List UInt8} {k : Nat} {c : UInt8} (h : k < l.length) (hc : l.getD k 0 = c) (hd : dgt c = false) : ¬ AllD l := fun ha => by
  have := ha c (by rw [← hc, List.getD_eq_getElem?_getD, List.getElem?_eq_getElem h]; exact List.getElem_mem h)
  rw [hd] at this; cases this
theorem val17 {l : List UInt8} {k : Nat} (h : AllD (l.take k)) (hk : k ≤ 17) : valF 0 (l.take k) < 100000000000000000 := by
  have h1 := valF_bd (l.take k) 0 h
  have h2 : 10 ^ (l.take k).length ≤ 10 ^ 17 := Nat.pow_le_pow_right (by omega) (by rw [List.length_take]; omega)
  omega
theorem val18 {l : List UInt8} (h : AllD l) (hk : l.length ≤ 18) : valF 0 l < 1000000000000000000 := by
  have h1 := valF_bd l 0 h
  have h2 := pow18 hk
  omega
theorem u8_in (n : Int) (h : 0 ≤ n ∧ n ≤ 255) : IntKind.u8.wrap n = n := by rw [IntKind.wrap_u8]; omega

end Go.Proofs.YtfmbmgdemdbpaaaGreatDoor
