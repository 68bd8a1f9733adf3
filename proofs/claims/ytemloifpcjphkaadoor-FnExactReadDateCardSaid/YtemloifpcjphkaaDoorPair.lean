/- Two numbers with a colon between them, read: the program's pairOf, ReadClock and ReadLap. Conditions: the text has at most 2^20 bytes. -/
import Derived.Test.YtemloifpcjphkaaDoorBack
import Derived.Test.YtemloifpcjphkaaDoorLap
import Derived.Test.YtemloifpcjphkaaDoorShelfD
import Derived.Test.YtemloifpcjphkaaDoorShelfE
namespace Go.Proofs.YtemloifpcjphkaaDoor
open Go.RowKit Go.Sort
set_option linter.unusedVariables false

/-- the library's own length bound holds some number -/
def MaxL (w : World) : Prop := ∃ m, w.cell? ⟨0, 0, none⟩ = some (.int .i64 m)
theorem maxl_below {w w' : World} (h : MaxL w) (hb : Below w.heap.size w w') : MaxL w' := by
  obtain ⟨m, hm⟩ := h
  exact ⟨m, (hb.cell (p := ⟨0, 0, none⟩) (block_lt_of_cell hm)).trans hm⟩
theorem below_drewn (w : World) (n : Nat) : Below w.heap.size w (w.drewN n) := ⟨rfl, rfl, rfl, Nat.le_refl _, fun _ _ => rfl⟩
theorem len_data (s : ByteArray) : s.data.toList.length = s.size := by simp
theorem cut_len (c : UInt8) (l : List UInt8) : (Lib.cut l [c]).1.length ≤ l.length ∧ (Lib.cut l [c]).2.1.length ≤ l.length := by
  rcases cut_cases c l with ⟨a, b, e, _, h⟩ | ⟨_, h⟩
  · rw [h, e]; simp; omega
  · rw [h]; simp
theorem ret_3 {a b c d : Int} {x y : Bool} (h : a = b) (h' : c = d) (h2 : x = y) : Ending.returned (.tuple #[.int .i64 a, .int .i64 c, .bool x]) = .returned (.tuple #[.int .i64 b, .int .i64 d, .bool y]) := by rw [h, h', h2]

set_option maxHeartbeats 1600000 in
theorem pairOf_any (s : ByteArray) (w : World) (hs : s.size ≤ 1048576) (mx : MaxL w) :
    Calls Tryd.prog 47 #[.string s] w fun e w' => e = .returned (.tuple #[.int .i64 (pairR s.data.toList).1, .int .i64 (pairR s.data.toList).2.1, .bool (pairR s.data.toList).2.2]) ∧ Below w.heap.size w w' := by
  obtain ⟨m, hm⟩ := mx
  have F := Tryd.strings_Cut s ⟨#[58]⟩ m w (by omega) hm
  rw [show (⟨#[58]⟩ : ByteArray).data.toList = [58] from rfl] at F
  have hl := len_data s
  obtain ⟨l1, l2⟩ := cut_len 58 s.data.toList
  have PR : pairR s.data.toList = ((digR (Lib.cut s.data.toList [58]).1).1, (digR (Lib.cut s.data.toList [58]).2.1).1, (Lib.cut s.data.toList [58]).2.2 && ((digR (Lib.cut s.data.toList [58]).1).2 && ((digR (Lib.cut s.data.toList [58]).2.1).2 && (decide ((digR (Lib.cut s.data.toList [58]).1).1 ≤ 1000000000) && decide ((digR (Lib.cut s.data.toList [58]).2.1).1 ≤ 1000000000))))) := rfl
  obtain ⟨⟨a, b, f⟩, hc⟩ : ∃ t, Lib.cut s.data.toList [58] = t := ⟨_, rfl⟩
  rw [hc] at F l1 l2 PR
  simp only at F l1 l2 PR
  have F := Lib.hid F
  have G1 := fun W => digitsOf_any ⟨a.toArray⟩ W (by rw [str_size]; unfold maxLen; omega)
  have G2 := fun W => digitsOf_any ⟨b.toArray⟩ W (by rw [str_size]; unfold maxLen; omega)
  obtain ⟨x, hx⟩ : ∃ x, (digR a).1 = x := ⟨_, rfl⟩
  obtain ⟨one, h1⟩ : ∃ x, (digR a).2 = x := ⟨_, rfl⟩
  obtain ⟨y, hy⟩ : ∃ x, (digR b).1 = x := ⟨_, rfl⟩
  obtain ⟨two', h2⟩ : ∃ x, (digR b).2 = x := ⟨_, rfl⟩
  rw [show (⟨a.toArray⟩ : ByteArray).data.toList = a from rfl, hx, h1] at G1
  rw [show (⟨b.toArray⟩ : ByteArray).data.toList = b from rfl, hy, h2] at G2
  rw [hx, h1, hy, h2] at PR
  have G1 := Lib.hid G1
  have G2 := Lib.hid G2
  have P := Lib.hid PR
  clear PR hx h1 hy h2 hc l1 l2 hl hm
  by_cases hx9 : x ≤ 1000000000 <;> by_cases hy9 : y ≤ 1000000000 <;> cases f <;> cases one <;> cases two'
  all_goals
    go_enter Tryd.func47, Tryd.ntmps47
    go_wp2_with fail
    refine F.out.mono ?_
    rintro e w1 ⟨rfl, n, hw1⟩
    have B1 := Lib.hid (show Below w.heap.size w w1 by rw [hw1]; exact below_drewn _ _)
    clear hw1
    go_wp2_with fail
    refine (G1.out w1).mono ?_
    rintro e w2 ⟨rfl, rfl⟩
    go_wp2_with fail
    refine (G2.out w1).mono ?_
    rintro e w2 ⟨rfl, rfl⟩
    go_wp2
    go_ret3
    exact ⟨by rw [P.out]; exact ret_3 rfl rfl (by simp [hx9, hy9]), B1.out⟩

def ReadClockR (m : Int) : Prop := 0 ≤ m ∧ m ≤ 1439
set_option maxHeartbeats 1600000 in
theorem implReadClock_any (s : ByteArray) (w : World) (hs : s.size ≤ 1048576) (tab : PowTab w) (mx : MaxL w) :
    Calls Tryd.prog 24 #[.string s] w fun e w' => RdPost clockT ReadClockR s.data.toList e ∧ Below w.heap.size w w' := by
  have F := pairOf_any s w hs mx
  obtain ⟨⟨x, y, ok⟩, hp⟩ : ∃ t, pairR s.data.toList = t := ⟨_, rfl⟩
  have bd0 := digR_bd (Lib.cut s.data.toList [58]).1
  have bd1 := digR_bd (Lib.cut s.data.toList [58]).2.1
  have hx : (digR (Lib.cut s.data.toList [58]).1).1 = x := by rw [show x = (pairR s.data.toList).1 by rw [hp]]; rfl
  have hy : (digR (Lib.cut s.data.toList [58]).2.1).1 = y := by rw [show y = (pairR s.data.toList).2.1 by rw [hp]]; rfl
  rw [hx] at bd0
  rw [hy] at bd1
  rw [hp] at F
  simp only at F
  have F := Lib.hid F
  have TB := Lib.hid tab
  have PP := Lib.hid hp
  clear hp hx hy
  cases ok with
  | false =>
    have HN := Lib.hid (show ∀ v, ReadClockR v → s.data.toList ≠ clockT v from fun v hv e => by
      have h := pair_clock hv.1 hv.2
      rw [← e, PP.out] at h
      simp at h)
    obtain ⟨z1, hz1⟩ : ∃ z, IntKind.i64.wrap (60 * x) = z := ⟨_, rfl⟩
    obtain ⟨z2, hz2⟩ : ∃ z, IntKind.i64.wrap (z1 + y) = z := ⟨_, rfl⟩
    clear bd0 bd1
    go_enter Tryd.func24, Tryd.ntmps24
    go_wp2_with fail
    refine F.out.mono ?_
    rintro e w1 ⟨rfl, b1⟩
    have B1 := Lib.hid b1
    clear b1
    go_wp2
    go_ret2
    exact ⟨.inr ⟨HN.out, rfl⟩, B1.out⟩
  | true =>
    have hb := pair_bd (l := s.data.toList) (by rw [PP.out])
    rw [PP.out] at hb
    simp only at hb
    obtain ⟨x0, x1, y0, y1⟩ := hb
    have CO := Lib.hid (pair_colon (l := s.data.toList) (by rw [PP.out]))
    obtain ⟨n, hn⟩ : ∃ n, 60 * x + y = n := ⟨_, rfl⟩
    have G := fun W ht => implClockText_any n W ht
    have hl := Lib.toList_data s
    obtain ⟨u, hu⟩ : ∃ u, (⟨(clockX n).toArray⟩ : ByteArray) = u := ⟨_, rfl⟩
    have HU := Lib.hid (show u.toList = clockX n by rw [Lib.toList_data, ← hu])
    rw [hu] at G
    have G := Lib.hid G
    have HN := Lib.hid hn
    clear hu
    by_cases he : clockX n = s.data.toList
    · have q : (u.toList == s.toList) = true := by rw [beq_iff_eq, HU.out, Lib.toList_data, he]
      have HR := Lib.hid (show ReadClockR n ∧ s.data.toList = clockT n by
        cases hin : inB n 0 1439
        · rw [clockX, hin] at he
          have := CO.out
          rw [← he] at this
          cases this
        · rw [clockX, hin] at he
          exact ⟨inB_t hin, he.symm⟩)
      clear he hl
      go_enter Tryd.func24, Tryd.ntmps24
      go_wp2_with fail
      refine F.out.mono ?_
      rintro e w1 ⟨rfl, b1⟩
      have B1 := Lib.hid b1
      clear b1
      go_wp2_with fail
      refine (G.out w1 (tab_below TB.out B1.out)).mono ?_
      rintro e w2 ⟨rfl, b2⟩
      have B2 := Lib.hid (B1.out.trans (b2.mono B1.out.size))
      clear b2
      go_wp2
      go_ret2
      exact ⟨.inl ⟨n, HR.out.1, HR.out.2, rfl⟩, B2.out⟩
    · have q : (u.toList == s.toList) = false := by rw [beq_eq_false_iff_ne, HU.out, Lib.toList_data]; exact he
      have HNO := Lib.hid (show ∀ v, ReadClockR v → s.data.toList ≠ clockT v from fun v hv e => by
        have h := pair_clock hv.1 hv.2
        rw [← e, PP.out, Prod.mk.injEq, Prod.mk.injEq] at h
        have hnv : n = v := by have := HN.out; omega
        apply he
        rw [hnv, clockX, show inB v 0 1439 = true from inB_mk hv.1 hv.2]
        exact e.symm)
      clear he hl
      go_enter Tryd.func24, Tryd.ntmps24
      go_wp2_with fail
      refine F.out.mono ?_
      rintro e w1 ⟨rfl, b1⟩
      have B1 := Lib.hid b1
      clear b1
      go_wp2_with fail
      refine (G.out w1 (tab_below TB.out B1.out)).mono ?_
      rintro e w2 ⟨rfl, b2⟩
      have B2 := Lib.hid (B1.out.trans (b2.mono B1.out.size))
      clear b2
      go_wp2
      go_ret2
      exact ⟨.inr ⟨HNO.out, rfl⟩, B2.out⟩

def ReadLapR (m : Int) : Prop := 0 ≤ m ∧ m ≤ 1000000000
set_option maxHeartbeats 1600000 in
theorem implReadLap_any (s : ByteArray) (w : World) (hs : s.size ≤ 1048576) (tab : PowTab w) (mx : MaxL w) :
    Calls Tryd.prog 26 #[.string s] w fun e w' => RdPost lapT ReadLapR s.data.toList e ∧ Below w.heap.size w w' := by
  have F := pairOf_any s w hs mx
  obtain ⟨⟨x, y, ok⟩, hp⟩ : ∃ t, pairR s.data.toList = t := ⟨_, rfl⟩
  have bd0 := digR_bd (Lib.cut s.data.toList [58]).1
  have bd1 := digR_bd (Lib.cut s.data.toList [58]).2.1
  have hx : (digR (Lib.cut s.data.toList [58]).1).1 = x := by rw [show x = (pairR s.data.toList).1 by rw [hp]]; rfl
  have hy : (digR (Lib.cut s.data.toList [58]).2.1).1 = y := by rw [show y = (pairR s.data.toList).2.1 by rw [hp]]; rfl
  rw [hx] at bd0
  rw [hy] at bd1
  rw [hp] at F
  simp only at F
  have F := Lib.hid F
  have TB := Lib.hid tab
  have PP := Lib.hid hp
  clear hp hx hy
  cases ok with
  | false =>
    have HN := Lib.hid (show ∀ v, ReadLapR v → s.data.toList ≠ lapT v from fun v hv e => by
      have h := pair_lap hv.1 hv.2
      rw [← e, PP.out] at h
      simp at h)
    obtain ⟨z1, hz1⟩ : ∃ z, IntKind.i64.wrap (60 * x) = z := ⟨_, rfl⟩
    obtain ⟨z2, hz2⟩ : ∃ z, IntKind.i64.wrap (z1 + y) = z := ⟨_, rfl⟩
    clear bd0 bd1
    go_enter Tryd.func26, Tryd.ntmps26
    go_wp2_with fail
    refine F.out.mono ?_
    rintro e w1 ⟨rfl, b1⟩
    have B1 := Lib.hid b1
    clear b1
    go_wp2
    go_ret2
    exact ⟨.inr ⟨HN.out, rfl⟩, B1.out⟩
  | true =>
    have hb := pair_bd (l := s.data.toList) (by rw [PP.out])
    rw [PP.out] at hb
    simp only at hb
    obtain ⟨x0, x1, y0, y1⟩ := hb
    have CO := Lib.hid (pair_colon (l := s.data.toList) (by rw [PP.out]))
    obtain ⟨n, hn⟩ : ∃ n, 60 * x + y = n := ⟨_, rfl⟩
    have G := fun W ht => implLapText_any n W ht
    have hl := Lib.toList_data s
    obtain ⟨u, hu⟩ : ∃ u, (⟨(lapX n).toArray⟩ : ByteArray) = u := ⟨_, rfl⟩
    have HU := Lib.hid (show u.toList = lapX n by rw [Lib.toList_data, ← hu])
    rw [hu] at G
    have G := Lib.hid G
    have HN := Lib.hid hn
    clear hu
    by_cases he : lapX n = s.data.toList
    · have q : (u.toList == s.toList) = true := by rw [beq_iff_eq, HU.out, Lib.toList_data, he]
      have HR := Lib.hid (show ReadLapR n ∧ s.data.toList = lapT n by
        cases hin : inB n 0 1000000000
        · rw [lapX, hin] at he
          have := CO.out
          rw [← he] at this
          cases this
        · rw [lapX, hin] at he
          exact ⟨inB_t hin, he.symm⟩)
      clear he hl
      go_enter Tryd.func26, Tryd.ntmps26
      go_wp2_with fail
      refine F.out.mono ?_
      rintro e w1 ⟨rfl, b1⟩
      have B1 := Lib.hid b1
      clear b1
      go_wp2_with fail
      refine (G.out w1 (tab_below TB.out B1.out)).mono ?_
      rintro e w2 ⟨rfl, b2⟩
      have B2 := Lib.hid (B1.out.trans (b2.mono B1.out.size))
      clear b2
      go_wp2
      go_ret2
      exact ⟨.inl ⟨n, HR.out.1, HR.out.2, rfl⟩, B2.out⟩
    · have q : (u.toList == s.toList) = false := by rw [beq_eq_false_iff_ne, HU.out, Lib.toList_data]; exact he
      have HNO := Lib.hid (show ∀ v, ReadLapR v → s.data.toList ≠ lapT v from fun v hv e => by
        have h := pair_lap hv.1 hv.2
        rw [← e, PP.out, Prod.mk.injEq, Prod.mk.injEq] at h
        have hnv : n = v := by have := HN.out; omega
        apply he
        rw [hnv, lapX, show inB v 0 1000000000 = true from inB_mk hv.1 hv.2]
        exact e.symm)
      clear he hl
      go_enter Tryd.func26, Tryd.ntmps26
      go_wp2_with fail
      refine F.out.mono ?_
      rintro e w1 ⟨rfl, b1⟩
      have B1 := Lib.hid b1
      clear b1
      go_wp2_with fail
      refine (G.out w1 (tab_below TB.out B1.out)).mono ?_
      rintro e w2 ⟨rfl, b2⟩
      have B2 := Lib.hid (B1.out.trans (b2.mono B1.out.size))
      clear b2
      go_wp2
      go_ret2
      exact ⟨.inr ⟨HNO.out, rfl⟩, B2.out⟩
end Go.Proofs.YtemloifpcjphkaaDoor
