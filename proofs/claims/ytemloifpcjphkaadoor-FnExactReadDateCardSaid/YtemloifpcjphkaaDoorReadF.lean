/- ReadFixed: the program's side. Conditions: the text has at most 2^20 bytes. -/
import Derived.Test.YtemloifpcjphkaaDoorFixB
import Derived.Test.YtemloifpcjphkaaDoorShelfF
namespace Go.Proofs.YtemloifpcjphkaaDoor
open Go.RowKit Go.Sort
set_option linter.unusedVariables false

def fixV (p : Int) (v : Int) : Prop := fixB v p = true
theorem fixV_bd {p v : Int} (h : fixV p v) : (-1000000000 ≤ v ∧ v ≤ 1000000000) ∧ (1 ≤ p ∧ p ≤ 6) := by
  unfold fixV fixB at h
  rw [Bool.and_eq_true] at h
  exact ⟨inB_t h.1, inB_t h.2⟩
theorem fixV_mk {p v : Int} (h : -1000000000 ≤ v ∧ v ≤ 1000000000) (h2 : 1 ≤ p ∧ p ≤ 6) : fixV p v := by
  unfold fixV fixB
  rw [inB_mk h.1 h.2, inB_mk h2.1 h2.2]; rfl
theorem fixX_yes {p v : Int} (h : fixV p v) : fixX v p = fixT v p.toNat := by
  unfold fixX
  rw [show fixB v p = true from h]; rfl
theorem fixX_no {p v : Int} (h : ¬ fixV p v) : fixX v p = [] := by
  unfold fixX
  have hb : fixB v p = false := by
    cases hb : fixB v p with
    | false => rfl
    | true => exact absurd hb h
  rw [hb]; rfl

set_option maxRecDepth 100000 in
set_option maxHeartbeats 3200000 in
theorem implReadFixed_any (s : ByteArray) (p : Int) (w : World) (hs : s.size ≤ 1048576) (tab : PowTab w) (mx : MaxL w) :
    Calls Tryd.prog 28 #[.string s, .int .i64 p] w fun e w' => RdPost (fun v => fixT v p.toNat) (fixV p) s.data.toList e ∧ Below w.heap.size w w' := by
  obtain ⟨m, hm⟩ := mx
  have hl := len_data s
  have T0 := Lib.hid (fun W => by
    have := Tryd.strings_TrimPrefix s ⟨#[45]⟩ W
    rw [show (⟨#[45]⟩ : ByteArray).data.toList = [45] from rfl, trim_digs] at this
    exact this)
  have dl : (digs s.data.toList).length ≤ 1048576 := by
    unfold digs
    split
    · rw [List.length_tail]; omega
    · omega
  have dd : (⟨(digs s.data.toList).toArray⟩ : ByteArray).data.toList = digs s.data.toList := rfl
  have zs := str_size (digs s.data.toList)
  obtain ⟨td, htd⟩ : ∃ t, (⟨(digs s.data.toList).toArray⟩ : ByteArray) = t := ⟨_, rfl⟩
  rw [htd] at T0 dd zs
  have F := Tryd.strings_Cut td ⟨#[46]⟩ m w (by omega) hm
  rw [show (⟨#[46]⟩ : ByteArray).data.toList = [46] from rfl, dd] at F
  obtain ⟨l1, l2⟩ := cut_len 46 (digs s.data.toList)
  have CC := cut_cases 46 (digs s.data.toList)
  obtain ⟨⟨a, b, f⟩, hc⟩ : ∃ t, Lib.cut (digs s.data.toList) [46] = t := ⟨_, rfl⟩
  rw [hc] at F l1 l2
  simp only at F l1 l2
  have F := Lib.hid F
  have hab := str_app a b
  have za := str_size a
  have zb := str_size b
  obtain ⟨ta, hta⟩ : ∃ t, (⟨a.toArray⟩ : ByteArray) = t := ⟨_, rfl⟩
  obtain ⟨tb, htb⟩ : ∃ t, (⟨b.toArray⟩ : ByteArray) = t := ⟨_, rfl⟩
  rw [hta] at F hab za
  rw [htb] at F hab zb
  have cat := fun W => run_string_add_sum (P := Tryd.prog) W ta tb (by omega)
  have du : (⟨(a ++ b).toArray⟩ : ByteArray).data.toList = a ++ b := rfl
  have zu := str_size (a ++ b)
  rw [List.length_append] at zu
  obtain ⟨u, hu⟩ : ∃ t, (⟨(a ++ b).toArray⟩ : ByteArray) = t := ⟨_, rfl⟩
  rw [hu] at hab du zu
  rw [hab] at cat
  have G := fun W => digitsOf_any u W (by unfold maxLen; omega)
  rw [du] at G
  have H := Lib.hid (fun W => by
    have := Tryd.strings_HasPrefix s ⟨#[45]⟩ W
    rw [show (⟨#[45]⟩ : ByteArray).data.toList = [45] from rfl, pre_minus] at this
    exact this)
  have vb := digR_bd (a ++ b)
  -- what a text of a number gives
  have NO := Lib.hid (show ∀ v, fixV p v → s.data.toList = fixT v p.toNat → f = true ∧ dok (a ++ b) ∧ (valF 0 (a ++ b) : Int) = v.natAbs ∧ (s.data.toList.head? = some 45 ↔ v < 0) from fun v hv e => by
    obtain ⟨k1, k2⟩ := fixV_bd hv
    obtain ⟨e1, e2⟩ := fix_core v p.toNat
    rw [← e] at e1 e2
    rw [e1, fix_cut, Prod.mk.injEq, Prod.mk.injEq] at hc
    obtain ⟨d1, d2⟩ := fix_dok (a := v.natAbs) (q := p.toNat) (by omega) (by omega)
    rw [hc.1, hc.2.1] at d1 d2
    exact ⟨hc.2.2.symm, d1, by rw [d2], e2⟩)
  have NE := Lib.hid (show f = true → s.data.toList ≠ [] from fun hf e => by
    rw [e] at hc
    rw [hf] at hc
    have : (Lib.cut (digs []) [46]).2.2 = true := by rw [hc]
    rcases cut_cases 46 (digs []) with ⟨x, y, ex, _, _⟩ | ⟨_, ey⟩
    · have := congrArg List.length ex
      simp [digs] at this
    · rw [ey] at this; cases this)
  have TB := Lib.hid tab
  clear hc CC l1 l2 hta htb htd hab hu zu dd du dl zs za zb hm
  cases f with
  | false =>
    have HN := Lib.hid (show ∀ v, fixV p v → s.data.toList ≠ fixT v p.toNat from fun v hv e => by have := (NO.out v hv e).1; cases this)
    obtain ⟨x, hx⟩ : ∃ x, (digR (a ++ b)).1 = x := ⟨_, rfl⟩
    obtain ⟨ok, hok⟩ : ∃ x, (digR (a ++ b)).2 = x := ⟨_, rfl⟩
    rw [hx, hok] at G
    rw [hx] at vb
    have G := Lib.hid G
    clear hx hok NO NE
    by_cases hd : s.data.toList.head? = some 45
    · have H2 := Lib.hid (fun W => by have := H.out W; rw [decide_eq_true hd] at this; exact this)
      have H := H2
      clear H2 hd
      go_enter Tryd.func28, Tryd.ntmps28
      go_wp2_with fail
      refine (T0.out _).mono ?_
      rintro e w1 ⟨rfl, hww⟩
      obtain rfl := hww.symm
      go_wp2_with fail
      refine F.out.mono ?_
      rintro e w1 ⟨rfl, nn, hw1⟩
      have B1 := Lib.hid (show Below w.heap.size w w1 by rw [hw1]; exact below_drewn _ _)
      clear hw1
      go_wp2_with fail
      refine (G.out w1).mono ?_
      rintro e w2 ⟨rfl, rfl⟩
      go_wp2_with fail
      refine (H.out w1).mono ?_
      rintro e w2 ⟨rfl, hww⟩
      obtain rfl := hww.symm
      go_wp2
      go_ret2
      exact ⟨.inr ⟨HN.out, rfl⟩, B1.out⟩
    · have H2 := Lib.hid (fun W => by have := H.out W; rw [decide_eq_false hd] at this; exact this)
      have H := H2
      clear H2 hd
      go_enter Tryd.func28, Tryd.ntmps28
      go_wp2_with fail
      refine (T0.out _).mono ?_
      rintro e w1 ⟨rfl, hww⟩
      obtain rfl := hww.symm
      go_wp2_with fail
      refine F.out.mono ?_
      rintro e w1 ⟨rfl, nn, hw1⟩
      have B1 := Lib.hid (show Below w.heap.size w w1 by rw [hw1]; exact below_drewn _ _)
      clear hw1
      go_wp2_with fail
      refine (G.out w1).mono ?_
      rintro e w2 ⟨rfl, rfl⟩
      go_wp2_with fail
      refine (H.out w1).mono ?_
      rintro e w2 ⟨rfl, hww⟩
      obtain rfl := hww.symm
      go_wp2
      go_ret2
      exact ⟨.inr ⟨HN.out, rfl⟩, B1.out⟩
  | true =>
    by_cases hdk : dok (a ++ b)
    · obtain ⟨e1, e2⟩ := digR_ok hdk
      rw [e1, e2] at G
      rw [e1] at vb
      obtain ⟨x, hx⟩ : ∃ x, (valF 0 (a ++ b) : Int) = x := ⟨_, rfl⟩
      rw [hx] at G vb
      have G := Lib.hid G
      have NO := Lib.hid (show ∀ v, fixV p v → s.data.toList = fixT v p.toNat → x = v.natAbs ∧ (s.data.toList.head? = some 45 ↔ v < 0) from fun v hv e => by
        have := (NO.out v hv e).2.2
        rw [hx] at this; exact this)
      clear hx e1 e2 hdk
      by_cases hd : s.data.toList.head? = some 45
      · have H2 := Lib.hid (fun W => by have := H.out W; rw [decide_eq_true hd] at this; exact this)
        have H := H2
        have X := fun W ht => implFixedText_any (-x) p W ht
        have hu := (show (⟨(fixX (-x) p).toArray⟩ : ByteArray).toList = fixX (-x) p from Lib.toList_data _)
        have VV := Lib.hid (show ∀ v, fixV p v → s.data.toList = fixT v p.toNat → v = (-x) from fun v hv e => by
          obtain ⟨a1, a2⟩ := NO.out v hv e
          have a3 := a2.1
          have := a3 hd
          omega)
        clear H2 NO hd
        obtain ⟨y, hy⟩ : ∃ y, (⟨(fixX (-x) p).toArray⟩ : ByteArray) = y := ⟨_, rfl⟩
        rw [hy] at X hu
        have X := Lib.hid X
        clear hy
        by_cases he : fixX (-x) p = s.data.toList
        · have q : (y.toList == s.toList) = true := by rw [beq_iff_eq, hu, Lib.toList_data, he]
          have HR := Lib.hid (show fixV p (-x) ∧ s.data.toList = fixT (-x) p.toNat by
            by_cases hin : fixV p (-x)
            · exact ⟨hin, by rw [← he, fixX_yes hin]⟩
            · rw [fixX_no hin] at he
              exact absurd he.symm (NE.out rfl))
          clear he hu NE VV
          go_enter Tryd.func28, Tryd.ntmps28
          go_wp2_with fail
          refine (T0.out _).mono ?_
          rintro e w1 ⟨rfl, hww⟩
          obtain rfl := hww.symm
          go_wp2_with fail
          refine F.out.mono ?_
          rintro e w1 ⟨rfl, nn, hw1⟩
          have B1 := Lib.hid (show Below w.heap.size w w1 by rw [hw1]; exact below_drewn _ _)
          clear hw1
          go_wp2_with fail
          refine (G.out w1).mono ?_
          rintro e w2 ⟨rfl, rfl⟩
          go_wp2_with fail
          refine (H.out w1).mono ?_
          rintro e w2 ⟨rfl, hww⟩
          obtain rfl := hww.symm
          go_wp2_with fail
          refine (X.out w1 (tab_below TB.out B1.out)).mono ?_
          rintro e w3 ⟨rfl, b3⟩
          have B3 := Lib.hid (B1.out.trans (b3.mono B1.out.size))
          clear b3
          go_wp2
          go_ret2
          exact ⟨.inl ⟨_, HR.out.1, HR.out.2, rfl⟩, B3.out⟩
        · have q : (y.toList == s.toList) = false := by rw [beq_eq_false_iff_ne, hu, Lib.toList_data]; exact he
          have HN := Lib.hid (show ∀ v, fixV p v → s.data.toList ≠ fixT v p.toNat from fun v hv e => by
            have hv2 := VV.out v hv e
            subst hv2
            exact he (by rw [fixX_yes hv, ← e]))
          clear he hu NE VV
          go_enter Tryd.func28, Tryd.ntmps28
          go_wp2_with fail
          refine (T0.out _).mono ?_
          rintro e w1 ⟨rfl, hww⟩
          obtain rfl := hww.symm
          go_wp2_with fail
          refine F.out.mono ?_
          rintro e w1 ⟨rfl, nn, hw1⟩
          have B1 := Lib.hid (show Below w.heap.size w w1 by rw [hw1]; exact below_drewn _ _)
          clear hw1
          go_wp2_with fail
          refine (G.out w1).mono ?_
          rintro e w2 ⟨rfl, rfl⟩
          go_wp2_with fail
          refine (H.out w1).mono ?_
          rintro e w2 ⟨rfl, hww⟩
          obtain rfl := hww.symm
          go_wp2_with fail
          refine (X.out w1 (tab_below TB.out B1.out)).mono ?_
          rintro e w3 ⟨rfl, b3⟩
          have B3 := Lib.hid (B1.out.trans (b3.mono B1.out.size))
          clear b3
          go_wp2
          go_ret2
          exact ⟨.inr ⟨HN.out, rfl⟩, B3.out⟩
      · have H2 := Lib.hid (fun W => by have := H.out W; rw [decide_eq_false hd] at this; exact this)
        have H := H2
        have X := fun W ht => implFixedText_any x p W ht
        have hu := (show (⟨(fixX x p).toArray⟩ : ByteArray).toList = fixX x p from Lib.toList_data _)
        have VV := Lib.hid (show ∀ v, fixV p v → s.data.toList = fixT v p.toNat → v = x from fun v hv e => by
          obtain ⟨a1, a2⟩ := NO.out v hv e
          have a3 := a2.2
          have : ¬ v < 0 := fun g => hd (a3 g)
          omega)
        clear H2 NO hd
        obtain ⟨y, hy⟩ : ∃ y, (⟨(fixX x p).toArray⟩ : ByteArray) = y := ⟨_, rfl⟩
        rw [hy] at X hu
        have X := Lib.hid X
        clear hy
        by_cases he : fixX x p = s.data.toList
        · have q : (y.toList == s.toList) = true := by rw [beq_iff_eq, hu, Lib.toList_data, he]
          have HR := Lib.hid (show fixV p x ∧ s.data.toList = fixT x p.toNat by
            by_cases hin : fixV p x
            · exact ⟨hin, by rw [← he, fixX_yes hin]⟩
            · rw [fixX_no hin] at he
              exact absurd he.symm (NE.out rfl))
          clear he hu NE VV
          go_enter Tryd.func28, Tryd.ntmps28
          go_wp2_with fail
          refine (T0.out _).mono ?_
          rintro e w1 ⟨rfl, hww⟩
          obtain rfl := hww.symm
          go_wp2_with fail
          refine F.out.mono ?_
          rintro e w1 ⟨rfl, nn, hw1⟩
          have B1 := Lib.hid (show Below w.heap.size w w1 by rw [hw1]; exact below_drewn _ _)
          clear hw1
          go_wp2_with fail
          refine (G.out w1).mono ?_
          rintro e w2 ⟨rfl, rfl⟩
          go_wp2_with fail
          refine (H.out w1).mono ?_
          rintro e w2 ⟨rfl, hww⟩
          obtain rfl := hww.symm
          go_wp2_with fail
          refine (X.out w1 (tab_below TB.out B1.out)).mono ?_
          rintro e w3 ⟨rfl, b3⟩
          have B3 := Lib.hid (B1.out.trans (b3.mono B1.out.size))
          clear b3
          go_wp2
          go_ret2
          exact ⟨.inl ⟨_, HR.out.1, HR.out.2, rfl⟩, B3.out⟩
        · have q : (y.toList == s.toList) = false := by rw [beq_eq_false_iff_ne, hu, Lib.toList_data]; exact he
          have HN := Lib.hid (show ∀ v, fixV p v → s.data.toList ≠ fixT v p.toNat from fun v hv e => by
            have hv2 := VV.out v hv e
            subst hv2
            exact he (by rw [fixX_yes hv, ← e]))
          clear he hu NE VV
          go_enter Tryd.func28, Tryd.ntmps28
          go_wp2_with fail
          refine (T0.out _).mono ?_
          rintro e w1 ⟨rfl, hww⟩
          obtain rfl := hww.symm
          go_wp2_with fail
          refine F.out.mono ?_
          rintro e w1 ⟨rfl, nn, hw1⟩
          have B1 := Lib.hid (show Below w.heap.size w w1 by rw [hw1]; exact below_drewn _ _)
          clear hw1
          go_wp2_with fail
          refine (G.out w1).mono ?_
          rintro e w2 ⟨rfl, rfl⟩
          go_wp2_with fail
          refine (H.out w1).mono ?_
          rintro e w2 ⟨rfl, hww⟩
          obtain rfl := hww.symm
          go_wp2_with fail
          refine (X.out w1 (tab_below TB.out B1.out)).mono ?_
          rintro e w3 ⟨rfl, b3⟩
          have B3 := Lib.hid (B1.out.trans (b3.mono B1.out.size))
          clear b3
          go_wp2
          go_ret2
          exact ⟨.inr ⟨HN.out, rfl⟩, B3.out⟩
    · obtain ⟨e1, e2⟩ := digR_no hdk
      rw [e1, e2] at G
      have G := Lib.hid G
      have HN := Lib.hid (show ∀ v, fixV p v → s.data.toList ≠ fixT v p.toNat from fun v hv e => hdk (NO.out v hv e).2.1)
      clear e1 e2 hdk NO NE vb
      by_cases hd : s.data.toList.head? = some 45
      · have H2 := Lib.hid (fun W => by have := H.out W; rw [decide_eq_true hd] at this; exact this)
        have H := H2
        clear H2 hd
        go_enter Tryd.func28, Tryd.ntmps28
        go_wp2_with fail
        refine (T0.out _).mono ?_
        rintro e w1 ⟨rfl, hww⟩
        obtain rfl := hww.symm
        go_wp2_with fail
        refine F.out.mono ?_
        rintro e w1 ⟨rfl, nn, hw1⟩
        have B1 := Lib.hid (show Below w.heap.size w w1 by rw [hw1]; exact below_drewn _ _)
        clear hw1
        go_wp2_with fail
        refine (G.out w1).mono ?_
        rintro e w2 ⟨rfl, rfl⟩
        go_wp2_with fail
        refine (H.out w1).mono ?_
        rintro e w2 ⟨rfl, hww⟩
        obtain rfl := hww.symm
        go_wp2
        go_ret2
        exact ⟨.inr ⟨HN.out, rfl⟩, B1.out⟩
      · have H2 := Lib.hid (fun W => by have := H.out W; rw [decide_eq_false hd] at this; exact this)
        have H := H2
        clear H2 hd
        go_enter Tryd.func28, Tryd.ntmps28
        go_wp2_with fail
        refine (T0.out _).mono ?_
        rintro e w1 ⟨rfl, hww⟩
        obtain rfl := hww.symm
        go_wp2_with fail
        refine F.out.mono ?_
        rintro e w1 ⟨rfl, nn, hw1⟩
        have B1 := Lib.hid (show Below w.heap.size w w1 by rw [hw1]; exact below_drewn _ _)
        clear hw1
        go_wp2_with fail
        refine (G.out w1).mono ?_
        rintro e w2 ⟨rfl, rfl⟩
        go_wp2_with fail
        refine (H.out w1).mono ?_
        rintro e w2 ⟨rfl, hww⟩
        obtain rfl := hww.symm
        go_wp2
        go_ret2
        exact ⟨.inr ⟨HN.out, rfl⟩, B1.out⟩
end Go.Proofs.YtemloifpcjphkaaDoor
