/- The check value of bytes, in plain words. -/
import Derived.Test.YtdglbppnhhhdmaaBasic
import Derived.Laws.BitsAllLaws
import Derived.Laws.BitsLemmas
namespace Go.Proofs.Ytdglbppnhhhdmaa
open Go.RowKit

theorem ofInt_i64 (a : Nat) (ha : a < 9223372036854775808) : (BitVec.ofInt 64 (a : Int)).toNat = a := by
  rw [BitVec.ofInt_natCast, BitVec.toNat_ofNat]; exact Nat.mod_eq_of_lt (by omega)
theorem i64_and_nat (a b : Nat) (ha : a < 9223372036854775808) (hb : b < 9223372036854775808) : bits .and .i64 (a : Int) (b : Int) = ((a &&& b : Nat) : Int) := by
  have hx : a &&& b < 2 ^ 63 := Nat.and_lt_two_pow _ (by omega)
  show IntKind.i64.wrap ((BitVec.ofInt 64 (a : Int) &&& BitVec.ofInt 64 (b : Int)).toNat : Int) = _
  rw [BitVec.toNat_and, ofInt_i64 a ha, ofInt_i64 b hb, IntKind.wrap_i64]
  omega
theorem i64_xor_nat (a b : Nat) (ha : a < 9223372036854775808) (hb : b < 9223372036854775808) : bits .xor .i64 (a : Int) (b : Int) = ((a ^^^ b : Nat) : Int) := by
  have hx : a ^^^ b < 2 ^ 63 := Nat.xor_lt_two_pow (by omega) (by omega)
  show IntKind.i64.wrap ((BitVec.ofInt 64 (a : Int) ^^^ BitVec.ofInt 64 (b : Int)).toNat : Int) = _
  rw [BitVec.toNat_xor, ofInt_i64 a ha, ofInt_i64 b hb, IntKind.wrap_i64]
  omega
theorem xor_bd (a b : Int) (h1 : 0 ≤ a) (h2 : a < 65536) (h3 : 0 ≤ b) (h4 : b < 65536) : 0 ≤ bits .xor .i64 a b ∧ bits .xor .i64 a b < 65536 := by
  obtain ⟨n, rfl⟩ := Int.eq_ofNat_of_zero_le h1
  obtain ⟨m, rfl⟩ := Int.eq_ofNat_of_zero_le h3
  rw [i64_xor_nat n m (by omega) (by omega)]
  have := Nat.xor_lt_two_pow (x := n) (y := m) (n := 16) (by omega) (by omega)
  omega
theorem and_bd (a : Int) (h1 : 0 ≤ a) (h2 : a < 131072) : 0 ≤ bits .and .i64 a 65535 ∧ bits .and .i64 a 65535 < 65536 := by
  obtain ⟨n, rfl⟩ := Int.eq_ofNat_of_zero_le h1
  have e := i64_and_nat n 65535 (by omega) (by omega)
  rw [show ((65535 : Nat) : Int) = 65535 from rfl] at e
  rw [e]
  have := Nat.and_lt_two_pow (x := n) (y := 65535) (n := 16) (by omega)
  omega

/-- one bit's step -/
def bitStep (x : Int) : Int := if 65535 < x * 2 then bits .xor .i64 (bits .and .i64 (x * 2) 65535) 4129 else x * 2
theorem bitStep_bd {x : Int} (h1 : 0 ≤ x) (h2 : x < 65536) : 0 ≤ bitStep x ∧ bitStep x < 65536 := by
  unfold bitStep
  split
  · have := and_bd (x * 2) (by omega) (by omega)
    exact xor_bd _ _ this.1 this.2 (by omega) (by omega)
  · omega
def bitSteps : Nat → Int → Int
  | 0, x => x
  | n + 1, x => bitStep (bitSteps n x)
theorem bitSteps_bd {x : Int} (h1 : 0 ≤ x) (h2 : x < 65536) (n : Nat) : 0 ≤ bitSteps n x ∧ bitSteps n x < 65536 := by
  induction n with
  | zero => exact ⟨h1, h2⟩
  | succ n ih => exact bitStep_bd ih.1 ih.2
/-- one byte's step -/
def byteStep (x : Int) (c : UInt8) : Int := bitSteps 8 (bits .xor .i64 x ((c.toNat : Int) * 256))
theorem mix_bd {x : Int} (h1 : 0 ≤ x) (h2 : x < 65536) (c : UInt8) : 0 ≤ bits .xor .i64 x ((c.toNat : Int) * 256) ∧ bits .xor .i64 x ((c.toNat : Int) * 256) < 65536 := by
  have : c.toNat < 256 := c.toNat_lt
  exact xor_bd _ _ h1 h2 (by omega) (by omega)
/-- the check value of the first k bytes -/
def crcTo (l : List UInt8) (x : Int) (k : Nat) : Int := (l.take k).foldl byteStep x
theorem crcTo_bd {x : Int} (h1 : 0 ≤ x) (h2 : x < 65536) (l : List UInt8) : 0 ≤ l.foldl byteStep x ∧ l.foldl byteStep x < 65536 := by
  induction l generalizing x with
  | nil => exact ⟨h1, h2⟩
  | cons c t ih =>
    have m := mix_bd h1 h2 c
    have := bitSteps_bd m.1 m.2 8
    exact ih this.1 this.2
theorem take_snoc (s : ByteArray) (k : Nat) (h : k < s.size) : s.data.toList.take (k + 1) = s.data.toList.take k ++ [s[k]] := by
  rw [List.take_succ_eq_append_getElem (by simpa using h)]; rfl
theorem crcTo_succ (s : ByteArray) (x : Int) (k : Nat) (h : k < s.size) : crcTo s.data.toList x (k + 1) = byteStep (crcTo s.data.toList x k) s[k] := by
  unfold crcTo; rw [take_snoc s k h, List.foldl_append]; rfl
/-- the check value of all bytes -/
def crcAll (l : List UInt8) (x : Int) : Int := crcTo l x l.length
theorem crcTo_all (s : ByteArray) (x : Int) : crcTo s.data.toList x s.size = crcAll s.data.toList x := by
  unfold crcAll; rw [show s.data.toList.length = s.size by simp]
end Go.Proofs.Ytdglbppnhhhdmaa
