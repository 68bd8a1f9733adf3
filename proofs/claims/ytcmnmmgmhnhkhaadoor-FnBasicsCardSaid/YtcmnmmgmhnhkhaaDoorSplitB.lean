/- Texts parted at a byte: the reference's parting. -/
import Derived.Test.YtcmnmmgmhnhkhaaDoorSplit
import Derived.Test.YtcmnmmgmhnhkhaaDoorDec
namespace Go.Proofs.YtcmnmmgmhnhkhaaDoor
open Go.RowKit Go.Sort
set_option linter.unusedVariables false

/-- texts, as cells -/
def tv (l : List (List UInt8)) : List Value := l.map fun t => Value.string ⟨t.toArray⟩
theorem tv_append (a b : List (List UInt8)) : tv (a ++ b) = tv a ++ tv b := by simp [tv]
theorem tv_len (l : List (List UInt8)) : (tv l).length = l.length := by simp [tv]
theorem infoStr2 : (Tryd.prog.info? 9).map (fun i => (i.zero, i.size, i.bytes)) = some (some (.string ⟨#[]⟩), 1, 16) := by kernel_rfl
theorem ext_bytes (s : ByteArray) (a b : Nat) : s.extract a b = ⟨((s.data.toList.drop a).take (b - a)).toArray⟩ := by
  have h := Lib.extract_data s a b
  cases hh : s.extract a b with
  | mk d => rw [hh] at h; simp at h; rw [← h]

theorem byte_of {s : ByteArray} {k : Nat} (h : k < s.size) : s.data.toList.getD k 0 = s[k] := by
  have h' : k < s.data.toList.length := by simpa using h
  rw [List.getD_eq_getElem?_getD, List.getElem?_eq_getElem h']; rfl
theorem drop_parts {l : List UInt8} {a k : Nat} (hak : a ≤ k) (hk : k < l.length) : l.drop a = (l.drop a).take (k - a) ++ l.getD k 0 :: l.drop (k + 1) := by
  conv => lhs; rw [← List.take_append_drop (k - a) (l.drop a)]
  rw [List.drop_drop, show a + (k - a) = k by omega, List.drop_eq_getElem_cons hk, List.getD_eq_getElem?_getD, List.getElem?_eq_getElem hk]; rfl
theorem split_step {l : List UInt8} {a k : Nat} {c : UInt8} (hak : a ≤ k) (hk : k < l.length) (hc : l.getD k 0 = c) (hn : c ∉ (l.drop a).take (k - a)) : spl c (l.drop a) = (l.drop a).take (k - a) :: spl c (l.drop (k + 1)) := by
  conv => lhs; rw [drop_parts hak hk, hc]
  rw [spl_hit hn]
theorem split_keep {l : List UInt8} {a k : Nat} {c : UInt8} (hak : a ≤ k) (hk : k < l.length) (hc : l.getD k 0 ≠ c) (hn : c ∉ (l.drop a).take (k - a)) : c ∉ (l.drop a).take (k + 1 - a) := by
  have hlt : k - a < (l.drop a).length := by rw [List.length_drop]; omega
  rw [show k + 1 - a = (k - a) + 1 by omega, List.take_add_one, List.getElem?_eq_getElem hlt]
  intro h
  rcases List.mem_append.1 h with h | h
  · exact hn h
  · have e : c = (l.drop a)[k - a] := by simpa using h
    rw [List.getElem_drop] at e
    apply hc
    rw [List.getD_eq_getElem?_getD, List.getElem?_eq_getElem hk, e]
    simp only [show a + (k - a) = k by omega]
    rfl

set_option maxRecDepth 100000 in
set_option maxHeartbeats 1600000 in
theorem l01Split_any (s : ByteArray) (c : UInt8) (w : World) (hs : s.size ≤ 1048576) :
    Calls Tryd.prog 26 #[.string s, .int .u8 (c.toNat : Int)] w fun e w' => ∃ v, e = .returned v ∧ w'.ownsRow w.heap.size 9 1 v (spl c s.data.toList).length (tv (spl c s.data.toList)) ∧ Below w.heap.size w w' := by
  obtain ⟨i0, hi, hz0, hz1', hz2⟩ := info_parts infoStr2
  have h0 := Lib.hid (World.ownsRow_lit (base := w.heap.size) (e := 9) (size := 1) w #[] 0 (Nat.le_refl _) (by simp [maxLen]) rfl)
  have hl := Lib.hid (show s.data.toList.length = s.size by simp)
  go_enter Tryd.func26, Tryd.ntmps26
  go_wp2_with fail
  go_loopw [5, 6, 7] (fun v f i wr => ∃ (a k : Nat) (ps : List (List UInt8)), a ≤ k ∧ k ≤ s.size ∧ ps ++ spl c (s.data.toList.drop a) = spl c s.data.toList ∧ c ∉ (s.data.toList.drop a).take (k - a) ∧ ps.length ≤ a ∧ f = .int .i64 a ∧ i = .int .i64 k ∧ wr.ownsRow w.heap.size 9 1 v ps.length (tv ps) ∧ Below w.heap.size w wr) (fun _ _ i _ => s.size - (intOf i).toNat)
  case atStart => exact ⟨0, 0, [], Nat.le_refl _, Nat.zero_le _, rfl, by simp, Nat.le_refl _, rfl, rfl, by simpa [tv] using h0.out, (Below.refl _ _).alloc (Nat.le_refl _) _⟩
  case round =>
    obtain ⟨a, k, ps, hak, hk, hp, hn, hpl, rfl, rfl, ho, hb⟩ := hrel
    have HP := Lib.hid hp
    have HN := Lib.hid hn
    have HPL := Lib.hid hpl
    have HO := Lib.hid ho
    have HB := Lib.hid hb
    clear hp hn hpl ho hb
    have ga : (0 : Int) ≤ (a : Int) := by omega
    have gak : (a : Int) ≤ (k : Int) := by omega
    have gks : (k : Int) ≤ (s.size : Int) := by omega
    have gas : (a : Int) ≤ (s.size : Int) := by omega
    by_cases hlt : k < s.size
    · have gk : (k : Int) < (s.size : Int) := by omega
      have hbk := Lib.hid (byte_of hlt)
      by_cases hc : s[k] = c
      · have q : (((s[k].toNat : Nat) : Int) == ((c.toNat : Nat) : Int)) = true := by rw [hc]; simp
        have st := Lib.hid (split_step (l := s.data.toList) (c := c) hak (by rw [hl.out]; exact hlt) (by rw [hbk.out, hc]) HN.out)
        have HP2 := Lib.hid (show (ps ++ [(s.data.toList.drop a).take (k - a)]) ++ spl c (s.data.toList.drop (k + 1)) = spl c s.data.toList by rw [← HP.out, st.out]; simp)
        clear hc
        go_wp2_with (at_builtin; refine wpList_append_own _ rfl _ _ 22 rfl w.heap.size 9 i0 (.string ⟨#[]⟩) 1 16 Tryd.underlying22 hi hz0 hz1' hz2 rfl (by decide) _ _ _ rfl (HO.out.alloc _) ⟨wr.heap.size, 0, none⟩ 1 1 [.string (s.extract a k)] rfl rfl ?c1 ?c2 ?c3 ?c4 ?c5 ?_)
        case c1 => exact cell_one_new _ _ _
        case c2 => intro u hu; simp at hu; subst hu; rfl
        case c3 => have := HPL.out; unfold maxLen; omega
        case c4 => have := HPL.out; omega
        case c5 => have := HB.out.size; simp; omega
        · intro v' W1 hown' hgrow _
          have HO1 := Lib.hid (show W1.ownsRow w.heap.size 9 1 v' (ps ++ [(s.data.toList.drop a).take (k - a)]).length (tv (ps ++ [(s.data.toList.drop a).take (k - a)])) by
            rw [List.length_append, tv_append]
            have e : tv [(s.data.toList.drop a).take (k - a)] = [.string (s.extract a k)] := by rw [ext_bytes]; rfl
            rw [e]; exact hown')
          have HB1 := Lib.hid (below_own HO.out HB.out hgrow HB.out.size)
          clear hown' hgrow
          go_wp2
          go_roundw
          case rel => exact ⟨k + 1, k + 1, _, Nat.le_refl _, by omega, HP2.out, by simp, by have := HPL.out; simp; omega, by go_num, by go_num, HO1.out, HB1.out⟩
          case measure => simp [intOf]; omega
      · have q : (((s[k].toNat : Nat) : Int) == ((c.toNat : Nat) : Int)) = false := by
          rw [beq_eq_false_iff_ne]; intro e
          exact hc (UInt8.toNat_inj.1 (by omega))
        have hn2 := Lib.hid (split_keep (l := s.data.toList) (c := c) hak (by rw [hl.out]; exact hlt) (by rw [hbk.out]; exact hc) HN.out)
        clear hc
        go_wp2
        go_roundw
        case rel => exact ⟨a, k + 1, ps, by omega, by omega, HP.out, hn2.out, HPL.out, rfl, by go_num, HO.out, HB.out⟩
        case measure => simp [intOf]; omega
    · obtain rfl : k = s.size := by omega
      have HP2 := Lib.hid (show ps ++ [s.data.toList.drop a] = spl c s.data.toList by
        have hn := HN.out
        rw [List.take_of_length_le (by rw [List.length_drop, hl.out]; exact Nat.le_refl _)] at hn
        rw [← HP.out, spl_miss hn])
      go_wp2_with (at_builtin; refine wpList_append_own _ rfl _ _ 22 rfl w.heap.size 9 i0 (.string ⟨#[]⟩) 1 16 Tryd.underlying22 hi hz0 hz1' hz2 rfl (by decide) _ _ _ rfl (HO.out.alloc _) ⟨wr.heap.size, 0, none⟩ 1 1 [.string (s.extract a s.size)] rfl rfl ?c1 ?c2 ?c3 ?c4 ?c5 ?_)
      case c1 => exact cell_one_new _ _ _
      case c2 => intro u hu; simp at hu; subst hu; rfl
      case c3 => have := HPL.out; unfold maxLen; omega
      case c4 => have := HPL.out; omega
      case c5 => have := HB.out.size; simp; omega
      · intro v' W1 hown' hgrow _
        have HO1 := Lib.hid (show W1.ownsRow w.heap.size 9 1 v' (spl c s.data.toList).length (tv (spl c s.data.toList)) by
          rw [← HP2.out, List.length_append, tv_append]
          have e : tv [s.data.toList.drop a] = [.string (s.extract a s.size)] := by
            rw [ext_bytes, List.take_of_length_le (by rw [List.length_drop, hl.out]; exact Nat.le_refl _)]; rfl
          rw [e]; exact hown')
        have HB1 := Lib.hid (below_own HO.out HB.out hgrow HB.out.size)
        clear hown' hgrow
        go_wp2
        go_ret
        exact ⟨_, rfl, HO1.out, HB1.out⟩
end Go.Proofs.YtcmnmmgmhnhkhaaDoor
