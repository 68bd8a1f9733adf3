/- Clock and lap texts, read back: plain law. -/
import Derived.Test.YtemloifpcjphkaaDoorDigs
import Derived.Test.YtemloifpcjphkaaDoorClock
import Derived.Test.YtemloifpcjphkaaDoorSplit
namespace Go.Proofs.YtemloifpcjphkaaDoor
open Go.RowKit

theorem mid_one {c : UInt8} : ∀ {a a' b b' : List UInt8}, c ∉ a → c ∉ a' → a ++ c :: b = a' ++ c :: b' → a = a' ∧ b = b'
  | [], [], _, _, _, _, h => by simpa using h
  | [], x :: q, _, _, _, h', h => by
    simp only [List.nil_append, List.cons_append, List.cons.injEq] at h
    exact absurd (by simp [h.1]) h'
  | x :: q, [], _, _, h', _, h => by
    simp only [List.nil_append, List.cons_append, List.cons.injEq] at h
    exact absurd (by simp [h.1]) h'
  | x :: q, y :: r, _, _, h1, h2, h => by
    simp only [List.cons_append, List.cons.injEq] at h
    obtain ⟨e1, e2⟩ := mid_one (fun m => h1 (by simp [m])) (fun m => h2 (by simp [m])) h.2
    exact ⟨by rw [h.1, e1], e2⟩
theorem cut_cases (c : UInt8) (l : List UInt8) : (∃ a b, l = a ++ c :: b ∧ c ∉ a ∧ Lib.cut l [c] = (a, b, true)) ∨ (c ∉ l ∧ Lib.cut l [c] = (l, [], false)) := by
  unfold Lib.cut
  rw [Lib.index_one]
  by_cases h : 0 ≤ Lib.indexByte l c
  · obtain ⟨o, ho⟩ : ∃ o : Nat, Lib.indexByte l c = o := ⟨(Lib.indexByte l c).toNat, by omega⟩
    obtain ⟨h1, h2⟩ := Lib.indexByte_some ho
    obtain ⟨e, hn⟩ := first_at h1 h2
    exact .inl ⟨_, _, e, hn, by rw [if_pos h, ho]; rfl⟩
  · have ho : Lib.indexByte l c = -1 := by have := Lib.indexByte_ge l c; omega
    refine .inr ⟨fun hm => ?_, by rw [if_neg h]⟩
    obtain ⟨j, hj, ej⟩ := List.getElem_of_mem hm
    exact Lib.indexByte_none ho j (by rw [List.getElem?_eq_getElem hj, ej])
theorem cut_hit {c : UInt8} {a b : List UInt8} (h : c ∉ a) : Lib.cut (a ++ c :: b) [c] = (a, b, true) := by
  rcases cut_cases c (a ++ c :: b) with ⟨a', b', e, hn, hc⟩ | ⟨hn, _⟩
  · obtain ⟨rfl, rfl⟩ := mid_one h hn e
    exact hc
  · exact absurd (by simp) hn
theorem allD_not {l : List UInt8} (h : AllD l) {c : UInt8} (hc : dgt c = false) : c ∉ l := fun m => by
  have := h c m
  rw [hc] at this; cases this
theorem pad_back : ∀ t : List UInt8, t ≠ [] → AllD t → padL (Lib.decDigits (valF 0 t)) t.length = t
  | [], h, _ => absurd rfl h
  | [c], _, hd => by
    have hc := hd c (by simp)
    have b := dgt_t hc
    have e : valF 0 [c] = c.toNat - 48 := by rw [valF_cons, valF_nil]; omega
    rw [e, Lib.decDigits_one (by omega), ofNat_digit hc]; rfl
  | c :: x :: r, _, hd => by
    have hc := hd c (by simp)
    have b := dgt_t hc
    have hr : AllD (x :: r) := fun y hy => hd y (by simp only [List.mem_cons] at hy ⊢; exact .inr hy)
    have ih := pad_back (x :: r) (by simp) hr
    by_cases h0 : c = 48
    · subst h0
      rw [valF_cons, show 10 * 0 + ((48 : UInt8).toNat - 48) = 0 from rfl]
      have hl := congrArg List.length ih
      rw [pad_len] at hl
      have h2 : padL (Lib.decDigits (valF 0 (x :: r))) (48 :: x :: r).length = 48 :: padL (Lib.decDigits (valF 0 (x :: r))) (x :: r).length := by
        rw [padL, padL, List.length_cons, show (x :: r).length + 1 - (Lib.decDigits (valF 0 (x :: r))).length = (x :: r).length - (Lib.decDigits (valF 0 (x :: r))).length + 1 by omega, List.replicate_succ]
        rfl
      rw [h2, ih]
    · have e := canon_back _ (c :: x :: r) rfl ⟨by simp, hd, fun h => by simp only [List.head?_cons, Option.some.injEq] at h; exact absurd h h0⟩
      rw [e, padL, Nat.sub_self]; rfl
theorem two_back {t : List UInt8} (h : AllD t) (hl : t.length = 2) : two (valF 0 t : Int) = t := by
  have := pad_back t (fun e => by rw [e] at hl; simp at hl) h
  rw [hl] at this
  rw [two, Int.toNat_natCast]; exact this
theorem dok_two {n : Int} (h : n < 100) : dok (two n) := ⟨fun e => by have := two_len h; rw [e] at this; simp at this, by rw [two_len h]; omega, allD_two n⟩
theorem allD_itoa {n : Int} (h : 0 ≤ n) : AllD (Lib.itoa n) := by
  obtain ⟨a, rfl⟩ := Int.eq_ofNat_of_zero_le h
  rw [itoa_nat]; exact (dec_canon a).2.1
theorem val_itoa {n : Int} (h : 0 ≤ n) : (valF 0 (Lib.itoa n) : Int) = n := by
  obtain ⟨a, rfl⟩ := Int.eq_ofNat_of_zero_le h
  rw [itoa_nat, (dec_canon a).2.2.2]
theorem dec_le : ∀ k a, a < 10 ^ (k + 1) → (Lib.decDigits a).length ≤ k + 1
  | 0, a, h => by rw [Lib.decDigits_length, Lib.nDigits_small (by simpa using h)]; omega
  | k + 1, a, h => by
    by_cases g : a < 10
    · rw [Lib.decDigits_length, Lib.nDigits_small g]; omega
    · have := dec_le k (a / 10) (by rw [Nat.pow_succ] at h; omega)
      rw [Lib.decDigits_length] at this ⊢
      rw [Lib.nDigits_big g]; omega
theorem itoa_le10 {n : Int} (h : 0 ≤ n) (h2 : n ≤ 1000000000) : 1 ≤ (Lib.itoa n).length ∧ (Lib.itoa n).length ≤ 10 := by
  obtain ⟨a, rfl⟩ := Int.eq_ofNat_of_zero_le h
  rw [itoa_nat]
  exact ⟨dec_len_pos a, dec_le 9 a (by omega)⟩
theorem dok_itoa {n : Int} (h : 0 ≤ n) (h2 : n ≤ 1000000000) : dok (Lib.itoa n) :=
  ⟨fun e => by have := itoa_le10 h h2; rw [e] at this; simp at this, by have := itoa_le10 h h2; omega, allD_itoa h⟩

/-- what a reader of the texts T of the numbers R gives -/
def RdPost (T : Int → List UInt8) (R : Int → Prop) (l : List UInt8) (e : Ending) : Prop :=
  (∃ v, R v ∧ l = T v ∧ e = .returned (.tuple #[.int .i64 v, .bool true])) ∨ ((∀ v, R v → l ≠ T v) ∧ e = .returned (.tuple #[.int .i64 0, .bool false]))
theorem rd_one {T : Int → List UInt8} {R : Int → Prop} (inj : ∀ a b, R a → R b → T a = T b → a = b) {l : List UInt8} {e e' : Ending} (h : RdPost T R l e) (h' : RdPost T R l e') :
    ∃ v b, e = .returned (.tuple #[.int .i64 v, .bool b]) ∧ e' = .returned (.tuple #[.int .i64 v, .bool b]) := by
  rcases h with ⟨v, hv, hl, rfl⟩ | ⟨hn, rfl⟩
  · rcases h' with ⟨v', hv', hl', rfl⟩ | ⟨hn', rfl⟩
    · obtain rfl := inj _ _ hv hv' (hl.symm.trans hl')
      exact ⟨v, true, rfl, rfl⟩
    · exact absurd hl (hn' v hv)
  · rcases h' with ⟨v', hv', hl', rfl⟩ | ⟨hn', rfl⟩
    · exact absurd hl' (hn v' hv')
    · exact ⟨0, false, rfl, rfl⟩

/-- what the program's reader of two numbers with a colon between them gives -/
noncomputable def pairR (l : List UInt8) : Int × Int × Bool :=
  ((digR (Lib.cut l [58]).1).1, (digR (Lib.cut l [58]).2.1).1, (Lib.cut l [58]).2.2 && ((digR (Lib.cut l [58]).1).2 && ((digR (Lib.cut l [58]).2.1).2 && (decide ((digR (Lib.cut l [58]).1).1 ≤ 1000000000) && decide ((digR (Lib.cut l [58]).2.1).1 ≤ 1000000000)))))
theorem pair_hit {a b : List UInt8} (ha : dok a) (hb : dok b) (h1 : valF 0 a ≤ 1000000000) (h2 : valF 0 b ≤ 1000000000) : pairR (a ++ 58 :: b) = ((valF 0 a : Int), (valF 0 b : Int), true) := by
  have n : (58 : UInt8) ∉ a := allD_not ha.2.2 rfl
  unfold pairR
  rw [cut_hit n]
  obtain ⟨e1, e2⟩ := digR_ok ha
  obtain ⟨e3, e4⟩ := digR_ok hb
  simp only [e1, e2, e3, e4, Bool.true_and]
  rw [decide_eq_true (by omega), decide_eq_true (by omega)]; rfl
theorem pair_colon {l : List UInt8} (h : (pairR l).2.2 = true) : (58 : UInt8) ∈ l := by
  rcases cut_cases 58 l with ⟨a, b, e, hn, hc⟩ | ⟨hn, hc⟩
  · rw [e]; simp
  · unfold pairR at h
    rw [hc] at h
    simp at h
theorem pair_bd {l : List UInt8} (h : (pairR l).2.2 = true) : 0 ≤ (pairR l).1 ∧ (pairR l).1 ≤ 1000000000 ∧ 0 ≤ (pairR l).2.1 ∧ (pairR l).2.1 ≤ 1000000000 := by
  have h1 := (digR_bd (Lib.cut l [58]).1).1
  have h2 := (digR_bd (Lib.cut l [58]).2.1).1
  simp only [pairR, Bool.and_eq_true, decide_eq_true_eq] at h ⊢
  exact ⟨h1, h.2.2.2.1, h2, h.2.2.2.2⟩
theorem pair_clock {v : Int} (h0 : 0 ≤ v) (h1 : v ≤ 1439) : pairR (clockT v) = (v / 60, v % 60, true) := by
  have e1 := val_two (n := v / 60) (by omega)
  have e2 := val_two (n := v % 60) (by omega)
  rw [clockT, pair_hit (dok_two (by omega)) (dok_two (by omega)) (by omega) (by omega), e1, e2]
theorem pair_lap {v : Int} (h0 : 0 ≤ v) (h1 : v ≤ 1000000000) : pairR (lapT v) = (v / 60, v % 60, true) := by
  have e1 := val_itoa (n := v / 60) (by omega)
  have e2 := val_two (n := v % 60) (by omega)
  rw [lapT, pair_hit (dok_itoa (by omega) (by omega)) (dok_two (by omega)) (by omega) (by omega), e1, e2]
theorem clock_inj (a b : Int) (ha : 0 ≤ a ∧ a ≤ 1439) (hb : 0 ≤ b ∧ b ≤ 1439) (h : clockT a = clockT b) : a = b := by
  have h1 := pair_clock ha.1 ha.2
  rw [h, pair_clock hb.1 hb.2, Prod.mk.injEq, Prod.mk.injEq] at h1
  omega
theorem lap_inj (a b : Int) (ha : 0 ≤ a ∧ a ≤ 1000000000) (hb : 0 ≤ b ∧ b ≤ 1000000000) (h : lapT a = lapT b) : a = b := by
  have h1 := pair_lap ha.1 ha.2
  rw [h, pair_lap hb.1 hb.2, Prod.mk.injEq, Prod.mk.injEq] at h1
  omega
theorem clock_len {v : Int} (h1 : v ≤ 1439) : (clockT v).length = 5 := by
  rw [clockT, List.length_append, List.length_cons, two_len (by omega), two_len (by omega)]
end Go.Proofs.YtemloifpcjphkaaDoor
