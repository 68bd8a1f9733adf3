/- ReadLength: both sides. Conditions: the text has at most 2^20 bytes. -/
import Derived.Test.YtemloifpcjphkaaDoorReadG
namespace Go.Proofs.YtemloifpcjphkaaDoor
open Go.RowKit Go.Sort
set_option linter.unusedVariables false

def mm : List UInt8 := [32, 109, 109]
theorem suf_cases (l : List UInt8) : (∃ t, l = t ++ mm ∧ Lib.hasSuffix l mm = true) ∨ ((∀ t, l ≠ t ++ mm) ∧ Lib.hasSuffix l mm = false) := by
  unfold Lib.hasSuffix
  cases h : mm.isSuffixOf l with
  | true =>
    obtain ⟨t, ht⟩ := List.isSuffixOf_iff_suffix.1 h
    exact .inl ⟨t, ht.symm, rfl⟩
  | false =>
    refine .inr ⟨fun t e => ?_, rfl⟩
    have : mm.isSuffixOf l = true := List.isSuffixOf_iff_suffix.2 ⟨t, e.symm⟩
    rw [h] at this; cases this
def ReadLengthR (m : Int) : Prop := 0 ≤ m ∧ m ≤ 1000000000
theorem len_fixV {v : Int} (h : ReadLengthR v) : fixV 1 v := fixV_mk ⟨by have := h.1; omega, h.2⟩ (by omega)
theorem fix1_inj (a b : Int) (ha : fixV 1 a) (hb : fixV 1 b) (h : fixT a 1 = fixT b 1) : a = b := fix_inj 1 (by omega) a b (fixV_bd ha).1 (fixV_bd hb).1 h
theorem length_inj (a b : Int) (ha : ReadLengthR a) (hb : ReadLengthR b) (h : lengthT a = lengthT b) : a = b :=
  fix1_inj a b (len_fixV ha) (len_fixV hb) (List.append_cancel_right h)

theorem cutLite_any (s : ByteArray) (w : World) (hs : s.size ≤ 1048576) :
    Calls Tryd.prog 72 #[.string s, .string ⟨#[32, 109, 109]⟩] w fun e w' =>
      ((∃ t, s.data.toList = t ++ mm ∧ e = .returned (.tuple #[.string ⟨t.toArray⟩, .bool true])) ∨ ((∀ t, s.data.toList ≠ t ++ mm) ∧ e = .returned (.tuple #[.string s, .bool false]))) ∧ w = w' := by
  have H := Tryd.stringslite_HasSuffix s ⟨#[32, 109, 109]⟩ w (by omega)
  rw [show (⟨#[32, 109, 109]⟩ : ByteArray).data.toList = mm from rfl] at H
  have hl := len_data s
  rcases suf_cases s.data.toList with ⟨t, ht, hb⟩ | ⟨hn, hb⟩
  · rw [hb] at H
    have H := Lib.hid H
    have lt : s.size = t.length + 3 := by rw [← hl, ht, List.length_append]; rfl
    have hx : s.extract 0 t.length = ⟨t.toArray⟩ := by
      rw [ByteArray.ext_iff]
      apply Array.toList_inj.1
      rw [ext_data, ht]; simp
    obtain ⟨n, hn⟩ : ∃ n, t.length = n := ⟨_, rfl⟩
    rw [hn] at hx lt
    have s1 := sl_to hx (by omega)
    have q : (s.size : Int) - 3 = (n : Int) := by omega
    have HT := Lib.hid ht
    clear hl hx hb ht lt
    go_enter Tryd.func72, Tryd.ntmps72
    go_wp2_with fail
    refine H.out.mono ?_
    rintro e w1 ⟨rfl, hww⟩
    obtain rfl := hww.symm
    go_wp2
    go_ret2
    exact ⟨.inl ⟨t, HT.out, rfl⟩, rfl⟩
  · rw [hb] at H
    have H := Lib.hid H
    have HN := Lib.hid hn
    clear hl hb hn
    go_enter Tryd.func72, Tryd.ntmps72
    go_wp2_with fail
    refine H.out.mono ?_
    rintro e w1 ⟨rfl, hww⟩
    obtain rfl := hww.symm
    go_wp2
    go_ret2
    exact ⟨.inr ⟨HN.out, rfl⟩, rfl⟩
theorem cutSuffix_any (s : ByteArray) (w : World) (hs : s.size ≤ 1048576) :
    Calls Tryd.prog 56 #[.string s, .string ⟨#[32, 109, 109]⟩] w fun e w' =>
      ((∃ t, s.data.toList = t ++ mm ∧ e = .returned (.tuple #[.string ⟨t.toArray⟩, .bool true])) ∨ ((∀ t, s.data.toList ≠ t ++ mm) ∧ e = .returned (.tuple #[.string s, .bool false]))) ∧ w = w' := by
  have H := Lib.hid (cutLite_any s w hs)
  go_enter Tryd.func56, Tryd.ntmps56
  go_wp2_with fail
  refine H.out.mono ?_
  rintro e w1 ⟨⟨t, ht, rfl⟩ | ⟨hn, rfl⟩, rfl⟩
  · have HT := Lib.hid ht
    clear ht
    go_wp2
    go_ret2
    exact ⟨.inl ⟨t, HT.out, rfl⟩, rfl⟩
  · have HN := Lib.hid hn
    clear hn
    go_wp2
    go_ret2
    exact ⟨.inr ⟨HN.out, rfl⟩, rfl⟩

set_option maxHeartbeats 1600000 in
theorem implReadLength_any (s : ByteArray) (w : World) (hs : s.size ≤ 1048576) (tab : PowTab w) (mx : MaxL w) :
    Calls Tryd.prog 30 #[.string s] w fun e w' => RdPost lengthT ReadLengthR s.data.toList e ∧ Below w.heap.size w w' := by
  have C := Lib.hid (cutSuffix_any s w hs)
  have G := Lib.hid (fun (t : ByteArray) ht => implReadFixed_any t 1 w ht tab mx)
  clear tab mx
  go_enter Tryd.func30, Tryd.ntmps30
  go_wp2_with fail
  refine C.out.mono ?_
  rintro e w1 ⟨⟨t, ht, rfl⟩ | ⟨hn, rfl⟩, rfl⟩
  · have HT := Lib.hid ht
    have tl : (⟨t.toArray⟩ : ByteArray).size ≤ 1048576 := by
      have := len_data s
      rw [ht, List.length_append] at this
      rw [str_size]; omega
    clear ht
    go_wp2_with fail
    refine (G.out _ tl).mono ?_
    rintro e w2 ⟨hp, b2⟩
    have B2 := Lib.hid b2
    rw [show (⟨t.toArray⟩ : ByteArray).data.toList = t from rfl] at hp
    clear b2 tl
    rcases hp with ⟨v, hv, hl, rfl⟩ | ⟨hn, rfl⟩
    · have HL := Lib.hid (show t = fixT v 1 from hl)
      have HV := Lib.hid hv
      clear hl
      have vb := (fixV_bd hv).1
      clear hv
      by_cases h0 : v < 0
      · have HN := Lib.hid (show ∀ x, ReadLengthR x → s.data.toList ≠ lengthT x from fun x hx e => by
          rw [HT.out, HL.out] at e
          have := fix1_inj v x HV.out (len_fixV hx) (List.append_cancel_right e)
          have := hx.1
          omega)
        go_wp2
        go_ret2
        exact ⟨.inr ⟨HN.out, rfl⟩, B2.out⟩
      · have HR := Lib.hid (show ReadLengthR v ∧ s.data.toList = lengthT v from ⟨⟨by omega, vb.2⟩, by rw [HT.out, HL.out]; rfl⟩)
        go_wp2
        go_ret2
        exact ⟨.inl ⟨v, HR.out.1, HR.out.2, rfl⟩, B2.out⟩
    · have HN := Lib.hid (show ∀ x, ReadLengthR x → s.data.toList ≠ lengthT x from fun x hx e => by
        rw [HT.out] at e
        exact hn x (len_fixV hx) (List.append_cancel_right e))
      clear hn
      go_wp2
      go_ret2
      exact ⟨.inr ⟨HN.out, rfl⟩, B2.out⟩
  · have HN := Lib.hid (show ∀ x, ReadLengthR x → s.data.toList ≠ lengthT x from fun x hx e => hn _ e)
    clear hn
    go_wp2_with fail
    refine (G.out _ hs).mono ?_
    rintro e w2 ⟨hp, b2⟩
    have B2 := Lib.hid b2
    clear b2
    rcases hp with ⟨v, hv, hl, rfl⟩ | ⟨hn, rfl⟩
    · clear hv hl
      go_wp2
      go_ret2
      exact ⟨.inr ⟨HN.out, rfl⟩, B2.out⟩
    · clear hn
      go_wp2
      go_ret2
      exact ⟨.inr ⟨HN.out, rfl⟩, B2.out⟩

set_option maxHeartbeats 1600000 in
theorem specReadLength_any (s : ByteArray) (w : World) (hs : s.size ≤ 1048576) :
    Calls Tryd.prog 29 #[.string s] w fun e w' => RdPost lengthT ReadLengthR s.data.toList e ∧ Below w.heap.size w w' := by
  have hl := len_data s
  by_cases h3 : s.size ≤ 3
  · have q : (s.size : Int) - 3 < 1 := by omega
    have HN := Lib.hid (show ∀ x, ReadLengthR x → s.data.toList ≠ lengthT x from fun x hx e => by
      have h1 := (fix_len (v := x) (q := 1) ⟨by have := hx.1; omega, hx.2⟩ (by omega)).1
      rw [e, lengthT, List.length_append, List.length_cons] at hl
      omega)
    clear hl
    go_enter Tryd.func29, Tryd.ntmps29
    go_wp2
    go_ret2
    exact ⟨.inr ⟨HN.out, rfl⟩, Below.refl _ _⟩
  obtain ⟨n, hn⟩ : ∃ n, s.size = n + 3 := ⟨s.size - 3, by omega⟩
  have q0 : (s.size : Int) - 3 = (n : Int) := by omega
  have q1 : ¬ (n : Int) < 1 := by omega
  have da : (s.extract 0 n).data.toList = s.data.toList.take n := by rw [ext_data]; simp
  have db : (s.extract n s.size).data.toList = s.data.toList.drop n := by rw [ext_data, List.take_of_length_le (by rw [List.length_drop]; omega)]
  have sa : (s.extract 0 n).size ≤ 1048576 := by rw [ByteArray.size_extract]; omega
  obtain ⟨a, ha⟩ : ∃ a, s.extract 0 n = a := ⟨_, rfl⟩
  obtain ⟨b, hb⟩ : ∃ b, s.extract n s.size = b := ⟨_, rfl⟩
  have s1 := sl_to ha (by omega)
  have s2 := sl_from (q := s.size) hb rfl (by omega)
  rw [ha] at da sa
  rw [hb] at db
  have hbl := Lib.toList_data b
  have H3 := Lib.hid hn
  clear hn ha hb
  by_cases hm : s.data.toList.drop n = mm
  · have q2 : (b.toList == [32, 109, 109]) = true := by rw [beq_iff_eq, hbl, db, hm]; rfl
    have HT := Lib.hid (show s.data.toList = s.data.toList.take n ++ mm by rw [← hm, List.take_append_drop])
    have G := specReadFixed_any a 1 w sa (by omega)
    rw [da] at G
    have G := Lib.hid G
    clear hm hl da db hbl sa
    go_enter Tryd.func29, Tryd.ntmps29
    go_wp2_with fail
    refine G.out.mono ?_
    rintro e w2 ⟨hp, b2⟩
    have B2 := Lib.hid b2
    clear b2
    rcases hp with ⟨v, hv, hl, rfl⟩ | ⟨hn, rfl⟩
    · have HL := Lib.hid (show s.data.toList.take n = fixT v 1 from hl)
      have HV := Lib.hid hv
      have vb := (fixV_bd hv).1
      clear hl hv
      cases hi : inB v 0 1000000000
      · have HN := Lib.hid (show ∀ x, ReadLengthR x → s.data.toList ≠ lengthT x from fun x hx e => by
          rw [HT.out, HL.out] at e
          have := fix1_inj v x HV.out (len_fixV hx) (List.append_cancel_right e)
          rw [this, inB_mk hx.1 hx.2] at hi
          cases hi)
        go_wp2_with fail
        refine (is_of (mass_any _ _) hi).mono ?_
        rintro e w' ⟨rfl, rfl⟩
        go_wp2
        go_ret2
        exact ⟨.inr ⟨HN.out, rfl⟩, B2.out⟩
      · have HR := Lib.hid (show ReadLengthR v ∧ s.data.toList = lengthT v from ⟨inB_t hi, by rw [HT.out, HL.out]; rfl⟩)
        go_wp2_with fail
        refine (is_of (mass_any _ _) hi).mono ?_
        rintro e w' ⟨rfl, rfl⟩
        go_wp2
        go_ret2
        exact ⟨.inl ⟨v, HR.out.1, HR.out.2, rfl⟩, B2.out⟩
    · have HN := Lib.hid (show ∀ x, ReadLengthR x → s.data.toList ≠ lengthT x from fun x hx e => by
        rw [HT.out] at e
        exact hn x (len_fixV hx) (List.append_cancel_right e))
      clear hn
      go_wp2
      go_ret2
      exact ⟨.inr ⟨HN.out, rfl⟩, B2.out⟩
  · have q2 : (b.toList == [32, 109, 109]) = false := by rw [beq_eq_false_iff_ne, hbl, db]; exact hm
    have HN := Lib.hid (show ∀ x, ReadLengthR x → s.data.toList ≠ lengthT x from fun x hx e => hm (by
      have hh := H3.out
      rw [e, lengthT, List.length_append, List.length_cons] at hl
      simp only [List.length_cons, List.length_nil] at hl
      rw [e, lengthT, show n = (fixT x 1).length by omega, List.drop_left]; rfl))
    clear hm hl da db hbl sa
    go_enter Tryd.func29, Tryd.ntmps29
    go_wp2
    go_ret2
    exact ⟨.inr ⟨HN.out, rfl⟩, Below.refl _ _⟩
end Go.Proofs.YtemloifpcjphkaaDoor
