/- Decimal numerals, read back: plain Lean, no program in sight. -/
import Derived.Lib.ItoaMem
import Derived.Lib.ParseIntBTie
namespace Go.Proofs.YtfmbmgdemdbpaaaGreatDoor

def dgt (c : UInt8) : Bool := decide (48 ≤ c.toNat) && decide (c.toNat ≤ 57)
theorem dgt_t {c : UInt8} (h : dgt c = true) : 48 ≤ c.toNat ∧ c.toNat ≤ 57 := by simpa [dgt] using h
theorem dgt_mk {c : UInt8} (h1 : 48 ≤ c.toNat) (h2 : c.toNat ≤ 57) : dgt c = true := by simp [dgt, h1, h2]
def valF (acc : Nat) (l : List UInt8) : Nat := l.foldl (fun n c => 10 * n + (c.toNat - 48)) acc
theorem valF_nil (acc : Nat) : valF acc [] = acc := rfl
theorem valF_cons (acc : Nat) (c : UInt8) (l : List UInt8) : valF acc (c :: l) = valF (10 * acc + (c.toNat - 48)) l := by unfold valF; rw [List.foldl_cons]
theorem valF_snoc (acc : Nat) (l : List UInt8) (c : UInt8) : valF acc (l ++ [c]) = 10 * valF acc l + (c.toNat - 48) := by simp [valF]
def AllD (l : List UInt8) : Prop := ∀ c ∈ l, dgt c = true
def Canon (l : List UInt8) : Prop := l ≠ [] ∧ AllD l ∧ (l.head? = some 48 → l.length ≤ 1)
theorem ofNat_digit {c : UInt8} (h : dgt c = true) : UInt8.ofNat (48 + (c.toNat - 48)) = c := by
  have := dgt_t h
  rw [show 48 + (c.toNat - 48) = c.toNat by omega]
  exact UInt8.ofNat_toNat
theorem canon_back : ∀ (n : Nat) (ds : List UInt8), ds.length = n → Canon ds → Lib.decDigits (valF 0 ds) = ds := fun n => by
  induction n with
  | zero => intro ds h hc; exact absurd (List.length_eq_zero_iff.1 h) hc.1
  | succ n ih =>
    intro ds h hc
    obtain ⟨ds', c, rfl⟩ : ∃ a c, ds = a ++ [c] := by
      rcases List.eq_nil_or_concat ds with e | ⟨a, c, e⟩
      · subst e; simp at h
      · exact ⟨a, c, by rw [e, List.concat_eq_append]⟩
    have hl : ds'.length = n := by simpa using h
    have hd : dgt c = true := hc.2.1 c (by simp)
    have b := dgt_t hd
    rw [valF_snoc]
    by_cases h0 : ds' = []
    · subst h0
      rw [valF_nil, Nat.mul_zero, Nat.zero_add, Lib.decDigits_one (by omega), ofNat_digit hd]; rfl
    · have hh : ds'.head? ≠ some 48 := fun e => by
        have e2 : (ds' ++ [c]).head? = some 48 := by rw [List.head?_append, e]; rfl
        have x1 := hc.2.2 e2
        have x2 : ds'.length ≠ 0 := fun e => h0 (List.length_eq_zero_iff.1 e)
        rw [List.length_append, List.length_singleton] at x1
        omega
      have hc' : Canon ds' := ⟨h0, fun x hx => hc.2.1 x (by simp [hx]), fun e => absurd e hh⟩
      have hi := ih ds' hl hc'
      have hp : 0 < valF 0 ds' := by
        rcases Nat.eq_zero_or_pos (valF 0 ds') with e | e
        · rw [e, Lib.decDigits_one (by omega)] at hi
          rw [← hi] at hh
          exact absurd rfl hh
        · exact e
      rw [Lib.decDigits, dif_neg (by omega), show (10 * valF 0 ds' + (c.toNat - 48)) / 10 = valF 0 ds' by omega, show (10 * valF 0 ds' + (c.toNat - 48)) % 10 = c.toNat - 48 by omega, hi, ofNat_digit hd]
theorem byte_digit {k : Nat} (h : k < 10) : (UInt8.ofNat (48 + k)).toNat = 48 + k := by rw [UInt8.toNat_ofNat']; omega
theorem dec_canon : ∀ n : Nat, Lib.decDigits n ≠ [] ∧ AllD (Lib.decDigits n) ∧ ((Lib.decDigits n).head? = some 48 → n = 0) ∧ valF 0 (Lib.decDigits n) = n := fun n => by
  induction n using Nat.strongRecOn with
  | _ n ih =>
    by_cases h : n < 10
    · rw [Lib.decDigits_one h]
      refine ⟨by simp, fun c hc => ?_, fun e => ?_, ?_⟩
      · obtain rfl : c = UInt8.ofNat (48 + n) := by simpa using hc
        exact dgt_mk (by rw [byte_digit h]; omega) (by rw [byte_digit h]; omega)
      · have e2 : UInt8.ofNat (48 + n) = 48 := by simpa using e
        have := congrArg UInt8.toNat e2
        rw [byte_digit h] at this
        have h48 : (48 : UInt8).toNat = 48 := rfl
        omega
      · show 10 * 0 + ((UInt8.ofNat (48 + n)).toNat - 48) = n
        rw [byte_digit h]; omega
    · obtain ⟨i1, i2, i3, i4⟩ := ih (n / 10) (by omega)
      rw [Lib.decDigits, dif_neg h]
      have m : n % 10 < 10 := by omega
      refine ⟨by simp, fun c hc => ?_, fun e => ?_, ?_⟩
      · rcases List.mem_append.1 hc with hc | hc
        · exact i2 c hc
        · obtain rfl : c = UInt8.ofNat (48 + n % 10) := by simpa using hc
          exact dgt_mk (by rw [byte_digit m]; omega) (by rw [byte_digit m]; omega)
      · have e2 : (Lib.decDigits (n / 10)).head? = some 48 := by
          rcases hq : Lib.decDigits (n / 10) with _ | ⟨a, r⟩
          · exact absurd hq i1
          · rw [hq] at e; simpa using e
        have := i3 e2
        omega
      · rw [valF_snoc, i4, byte_digit m]; omega
theorem parseM_ok : ∀ (l : List UInt8) (acc : Nat), AllD l → (acc + 1) * 10 ^ l.length ≤ 1000000000000000000 → Lib.parseUintM (2 ^ 64 - 1) acc l = .ok (valF acc l)
  | [], acc, _, _ => by simp [Lib.parseUintM, valF]
  | c :: r, acc, hd, hb => by
    have b := dgt_t (hd c (by simp))
    have hb' : (acc + 1) * 10 * 10 ^ r.length ≤ 1000000000000000000 := by
      rw [List.length_cons, Nat.pow_succ, Nat.mul_comm (10 ^ r.length) 10, ← Nat.mul_assoc] at hb
      exact hb
    have p1 : 1 ≤ 10 ^ r.length := Nat.pos_of_ne_zero (by simp)
    have q1 : (acc + 1) * 10 ≤ (acc + 1) * 10 * 10 ^ r.length := Nat.le_mul_of_pos_right _ p1
    have e : acc * 10 + (c.toNat - 48) = 10 * acc + (c.toNat - 48) := by omega
    have q2 : (10 * acc + (c.toNat - 48) + 1) * 10 ^ r.length ≤ (acc + 1) * 10 * 10 ^ r.length := Nat.mul_le_mul_right _ (by omega)
    rw [Lib.parseUintM, if_pos b, if_neg (by omega), if_neg (by rw [e]; omega), e, valF_cons]
    exact parseM_ok r _ (fun x hx => hd x (by simp [hx])) (Nat.le_trans q2 hb')
theorem valF_bd : ∀ (l : List UInt8) (acc : Nat), AllD l → valF acc l < (acc + 1) * 10 ^ l.length
  | [], acc, _ => by rw [valF_nil]; simp
  | c :: r, acc, hd => by
    have b := dgt_t (hd c (by simp))
    have h1 := valF_bd r (10 * acc + (c.toNat - 48)) (fun x hx => hd x (by simp [hx]))
    have q2 : (10 * acc + (c.toNat - 48) + 1) * 10 ^ r.length ≤ (acc + 1) * 10 * 10 ^ r.length := Nat.mul_le_mul_right _ (by omega)
    rw [valF_cons, List.length_cons, Nat.pow_succ, Nat.mul_comm (10 ^ r.length) 10, ← Nat.mul_assoc]
    omega
theorem pow18 {k : Nat} (h : k ≤ 18) : 10 ^ k ≤ 1000000000000000000 := by
  have : 10 ^ k ≤ 10 ^ 18 := Nat.pow_le_pow_right (by omega) h
  omega

/-- the digits of a text, without its sign -/
def digs (l : List UInt8) : List UInt8 := if l.head? = some 45 then l.tail else l
def okN (l : List UInt8) : Prop := digs l ≠ [] ∧ (digs l).length ≤ 18 ∧ ((digs l).head? = some 48 → l.length ≤ 1) ∧ AllD (digs l)
def numV (l : List UInt8) : Int := if l.head? = some 45 then -(valF 0 (digs l) : Int) else (valF 0 (digs l) : Int)

theorem ok_itoa {l : List UInt8} (h : okN l) : Lib.itoa (numV l) = l ∧ Lib.parseIntB 64 l = .ok (numV l) := by
  obtain ⟨h1, h2, h3, h4⟩ := h
  cases l with
  | nil => exact absurd rfl h1
  | cons c r =>
    by_cases hc : c = 45
    · subst hc
      have hd : digs (45 :: r) = r := by simp [digs]
      rw [hd] at h1 h2 h3 h4
      have hr : r.head? ≠ some 48 := fun e => by
        have x1 := h3 e
        have x2 : r.length ≠ 0 := fun e => h1 (List.length_eq_zero_iff.1 e)
        rw [List.length_cons] at x1
        omega
      have hb := canon_back _ r rfl ⟨h1, h4, fun e => absurd e hr⟩
      have hv : numV (45 :: r) = -(valF 0 r : Int) := by simp [numV, hd]
      have hp : 1 ≤ valF 0 r := by
        rcases Nat.eq_zero_or_pos (valF 0 r) with e | e
        · rw [e, Lib.decDigits_one (by omega)] at hb
          rw [← hb] at hr
          exact absurd rfl hr
        · exact e
      have hbd := valF_bd r 0 h4
      have h10 := pow18 h2
      refine ⟨by rw [hv, Lib.itoa_neg _ hp, hb], ?_⟩
      have hu : Lib.parseUintB 64 r = .ok (valF 0 r) := by rw [Lib.parseUintB, if_neg h1]; exact parseM_ok r 0 h4 (by omega)
      have e45 : (45 : UInt8).toNat = 45 := rfl
      rw [hv, Lib.parseIntB]
      simp only [e45, or_true, if_true, hu]
      rw [if_neg (by simp), if_neg (by simp; omega)]
    · have hd : digs (c :: r) = c :: r := by simp [digs, hc]
      rw [hd] at h1 h2 h3 h4
      have hb := canon_back _ (c :: r) rfl ⟨h1, h4, h3⟩
      have hv : numV (c :: r) = (valF 0 (c :: r) : Int) := by simp [numV, hd, hc]
      have hbd := valF_bd (c :: r) 0 h4
      have h10 := pow18 h2
      have b := dgt_t (h4 c (by simp))
      refine ⟨by rw [hv, Lib.itoa_nonneg, hb], ?_⟩
      have hu : Lib.parseUintB 64 (c :: r) = .ok (valF 0 (c :: r)) := by rw [Lib.parseUintB, if_neg (by simp)]; exact parseM_ok (c :: r) 0 h4 (by omega)
      rw [hv, Lib.parseIntB]
      have n43 : ¬ (c.toNat = 43 ∨ c.toNat = 45) := by omega
      have n45 : ¬ c.toNat = 45 := by omega
      simp only [if_neg n43, hu]
      rw [if_neg (by omega), if_neg (by omega), if_neg n45]

theorem itoa_ok {l : List UInt8} {v : Int} (h : Lib.itoa v = l) (hl : (digs l).length ≤ 18) : okN l := by
  subst h
  by_cases hv : v < 0
  · obtain ⟨n, rfl, hn⟩ : ∃ n : Nat, v = -(n : Int) ∧ 1 ≤ n := ⟨v.natAbs, by omega, by omega⟩
    obtain ⟨i1, i2, i3, _⟩ := dec_canon n
    rw [Lib.itoa_neg n hn] at hl ⊢
    have hd : digs (45 :: Lib.decDigits n) = Lib.decDigits n := by simp [digs]
    rw [hd] at hl
    refine ⟨by rw [hd]; exact i1, by rw [hd]; exact hl, fun e => ?_, by rw [hd]; exact i2⟩
    rw [hd] at e
    have := i3 e
    omega
  · obtain ⟨n, rfl⟩ : ∃ n : Nat, v = (n : Int) := ⟨v.toNat, by omega⟩
    obtain ⟨i1, i2, i3, _⟩ := dec_canon n
    rw [Lib.itoa_nonneg n] at hl ⊢
    have hd : digs (Lib.decDigits n) = Lib.decDigits n := by
      unfold digs
      rw [if_neg]
      intro e
      obtain ⟨a, r, hq⟩ : ∃ a r, Lib.decDigits n = a :: r := by
        rcases hq : Lib.decDigits n with _ | ⟨a, r⟩
        · exact absurd hq i1
        · exact ⟨a, r, rfl⟩
      rw [hq] at e i2
      obtain rfl : a = 45 := by simpa using e
      have := dgt_t (i2 45 (by simp))
      have h45 : (45 : UInt8).toNat = 45 := rfl
      omega
    rw [hd] at hl
    refine ⟨by rw [hd]; exact i1, by rw [hd]; exact hl, fun e => ?_, by rw [hd]; exact i2⟩
    rw [hd] at e
    have := i3 e
    subst this
    rw [Lib.decDigits_one (by omega)]
    exact Nat.le_refl _
end Go.Proofs.YtfmbmgdemdbpaaaGreatDoor
