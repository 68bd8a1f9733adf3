/- Numerals with leading zeros and with places: plain law. -/
import Derived.Test.YtfmbmgdemdbpaaaGreatDoorRdec
namespace Go.Proofs.YtfmbmgdemdbpaaaGreatDoor
open Go.RowKit

def padL (l : List UInt8) (d : Nat) : List UInt8 := List.replicate (d - l.length) 48 ++ l
/-- the last p digits of a -/
def low : Nat → Nat → List UInt8
  | 0, _ => []
  | p + 1, a => low p (a / 10) ++ [UInt8.ofNat (48 + a % 10)]
theorem low_len : ∀ p a, (low p a).length = p
  | 0, _ => rfl
  | p + 1, a => by rw [low, List.length_append, low_len p]; rfl
theorem dec_big {a : Nat} (h : ¬ a < 10) : Lib.decDigits a = Lib.decDigits (a / 10) ++ [UInt8.ofNat (48 + a % 10)] := by
  rw [Lib.decDigits, dif_neg h]
theorem dec_len_pos (a : Nat) : 1 ≤ (Lib.decDigits a).length := by rw [Lib.decDigits_length]; exact Lib.nDigits_pos a
theorem low_rest : ∀ p a, Lib.decDigits (a % 10 ^ p + 10 ^ p) = 49 :: low p a
  | 0, a => by
    rw [show a % 10 ^ 0 + 10 ^ 0 = 1 by simp [Nat.mod_one], Lib.decDigits_one (by omega)]; rfl
  | p + 1, a => by
    have hp : 0 < 10 ^ p := Nat.pow_pos (by omega)
    have e : 10 ^ (p + 1) = 10 * 10 ^ p := by rw [Nat.pow_succ]; omega
    have e1 : a % (10 * 10 ^ p) = a % 10 + 10 * (a / 10 % 10 ^ p) := Nat.mod_mul
    have b := Nat.mod_lt (a / 10) hp
    generalize hm : a / 10 % 10 ^ p = m at *
    generalize hq : 10 ^ p = q at *
    have h2 : ¬ a % (10 * q) + 10 * q < 10 := by omega
    rw [e, dec_big h2, low]
    have h3 : (a % (10 * q) + 10 * q) / 10 = a / 10 % 10 ^ p + 10 ^ p := by rw [hq, hm]; omega
    have h4 : (a % (10 * q) + 10 * q) % 10 = a % 10 := by omega
    rw [h3, h4, low_rest p (a / 10)]; rfl
theorem pad_low : ∀ p a, padL (Lib.decDigits a) (p + 1) = Lib.decDigits (a / 10 ^ p) ++ low p a
  | 0, a => by
    have := dec_len_pos a
    rw [padL, show 0 + 1 - (Lib.decDigits a).length = 0 by omega, Nat.pow_zero, Nat.div_one]
    simp [low]
  | p + 1, a => by
    have e : a / 10 ^ (p + 1) = a / 10 / 10 ^ p := by rw [Nat.div_div_eq_div_mul, Nat.pow_succ, Nat.mul_comm]
    by_cases h : a < 10
    · have ih := pad_low p 0
      rw [e, show a / 10 = 0 by omega, low, show a / 10 = 0 by omega, ← List.append_assoc, ← ih, Lib.decDigits_one h, padL, padL, Lib.decDigits_one (show 0 < 10 by omega)]
      simp only [List.length_cons, List.length_nil]
      rw [show p + 1 + 1 - (0 + 1) = p + 1 by omega, show p + 1 - (0 + 1) = p by omega, show a % 10 = a by omega, List.replicate_succ']
      rfl
    · rw [e, low, ← List.append_assoc, ← pad_low p (a / 10), padL, padL, dec_big h, List.length_append, List.append_assoc]
      congr 2
      simp
theorem pad_len (l : List UInt8) (d : Nat) : (padL l d).length = max d l.length := by simp [padL]; omega
theorem allD_low : ∀ p a, AllD (low p a)
  | 0, _ => by intro c hc; cases hc
  | p + 1, a => by
    intro c hc
    rw [low, List.mem_append] at hc
    rcases hc with hc | hc
    · exact allD_low p _ c hc
    · rw [List.mem_singleton] at hc
      subst hc
      have := byte_digit (show a % 10 < 10 by omega)
      exact dgt_mk (by omega) (by omega)
theorem allD_pad (a d : Nat) : AllD (padL (Lib.decDigits a) d) := by
  intro c hc
  rw [padL, List.mem_append] at hc
  rcases hc with hc | hc
  · rw [List.mem_replicate] at hc; rw [hc.2]; rfl
  · exact (dec_canon a).2.1 c hc
theorem val_app (l m : List UInt8) (acc : Nat) : valF acc (l ++ m) = valF (valF acc l) m := by simp [valF]
theorem val_zeros : ∀ k, valF 0 (List.replicate k 48) = 0
  | 0 => rfl
  | k + 1 => by rw [List.replicate_succ, valF_cons]; exact val_zeros k
theorem val_pad (a d : Nat) : valF 0 (padL (Lib.decDigits a) d) = a := by
  rw [padL, val_app, val_zeros]; exact (dec_canon a).2.2.2
theorem val_low : ∀ p a, valF 0 (low p a) = a % 10 ^ p
  | 0, a => by simp [low, valF_nil, Nat.mod_one]
  | p + 1, a => by
    rw [low, valF_snoc, val_low p, byte_digit (show a % 10 < 10 by omega), show 10 ^ (p + 1) = 10 * 10 ^ p by rw [Nat.pow_succ]; omega, Nat.mod_mul]
    omega
theorem dec_inj {a b : Nat} (h : Lib.decDigits a = Lib.decDigits b) : a = b := by
  rw [← (dec_canon a).2.2.2, ← (dec_canon b).2.2.2, h]
theorem itoa_nat (a : Nat) : Lib.itoa (a : Int) = Lib.decDigits a := by
  unfold Lib.itoa; rw [if_neg (by omega)]; rfl

/-- a number with two digits at least -/
def two (n : Int) : List UInt8 := padL (Lib.decDigits n.toNat) 2
theorem two_small {n : Int} (h0 : 0 ≤ n) (h : n < 10) : two n = 48 :: Lib.itoa n := by
  obtain ⟨a, rfl⟩ := Int.eq_ofNat_of_zero_le h0
  rw [itoa_nat, two, Int.toNat_natCast, padL, Lib.decDigits_one (by omega)]; rfl
theorem two_big {n : Int} (h0 : 10 ≤ n) : two n = Lib.itoa n := by
  obtain ⟨a, rfl⟩ := Int.eq_ofNat_of_zero_le (show 0 ≤ n by omega)
  rw [itoa_nat, two, Int.toNat_natCast, padL]
  have h1 : 2 ≤ (Lib.decDigits a).length := by
    rw [dec_big (by omega), List.length_append]; have := dec_len_pos (a / 10); simp; omega
  rw [show 2 - (Lib.decDigits a).length = 0 by omega]; rfl
theorem two_len {n : Int} (h : n < 100) : (two n).length = 2 := by
  have h1 : (Lib.decDigits n.toNat).length ≤ 2 := by
    rw [Lib.decDigits_length]
    by_cases g : n.toNat < 10
    · rw [Lib.nDigits_small g]; omega
    · rw [Lib.nDigits_big g, Lib.nDigits_small (by omega)]; omega
  rw [two, pad_len]; omega
theorem two_ge (n : Int) : 2 ≤ (two n).length := by rw [two, pad_len]; omega
theorem val_two {n : Int} (h : 0 ≤ n) : (valF 0 (two n) : Int) = n := by rw [two, val_pad]; omega
theorem allD_two (n : Int) : AllD (two n) := allD_pad _ _

def clockT (m : Int) : List UInt8 := two (m / 60) ++ 58 :: two (m % 60)
def lapT (m : Int) : List UInt8 := Lib.itoa (m / 60) ++ 58 :: two (m % 60)
def fixT (n : Int) (p : Nat) : List UInt8 := (if n < 0 then [45] else []) ++ (Lib.decDigits (n.natAbs / 10 ^ p) ++ 46 :: low p n.natAbs)
def lengthT (n : Int) : List UInt8 := fixT n 1 ++ [32, 109, 109]
def dateT (y m d : Int) : List UInt8 := Lib.itoa y ++ 45 :: (two m ++ 45 :: two d)
end Go.Proofs.YtfmbmgdemdbpaaaGreatDoor
