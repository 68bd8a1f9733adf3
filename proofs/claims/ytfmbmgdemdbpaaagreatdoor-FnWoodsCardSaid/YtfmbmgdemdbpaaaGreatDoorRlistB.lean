/- Lists of numbers, read back: the program's reader. -/
import Derived.Test.YtfmbmgdemdbpaaaGreatDoorRlist
import Derived.Test.YtfmbmgdemdbpaaaGreatDoorRreadB
import Derived.Test.YtfmbmgdemdbpaaaGreatDoorShelfD
namespace Go.Proofs.YtfmbmgdemdbpaaaGreatDoor
open Go.RowKit Go.Sort
set_option linter.unusedVariables false

/-- the library's own length bound holds some number -/
def MaxL (w : World) : Prop := ∃ m, w.cell? ⟨0, 0, none⟩ = some (.int .i64 m)
theorem maxl_below {w w' : World} (h : MaxL w) (hb : Below w.heap.size w w') : MaxL w' := by
  obtain ⟨m, hm⟩ := h
  exact ⟨m, (hb.cell (p := ⟨0, 0, none⟩) (block_lt_of_cell hm)).trans hm⟩
theorem tv_of (X : List ByteArray) : X.map Value.string = tv (X.map (·.data.toList)) := by
  rw [tv, List.map_map]; rfl
theorem Split_any (s : ByteArray) (c : UInt8) (w : World) (hs : s.size ≤ 1048576) (hm : MaxL w) :
    Calls Tryz.prog 56 #[.string s, .string ⟨#[c]⟩] w fun e w' => ∃ v, e = .returned v ∧ w'.ownsRow w.heap.size 9 1 v (spl c s.data.toList).length (tv (spl c s.data.toList)) ∧ Below w.heap.size w w' := by
  obtain ⟨m, hm⟩ := hm
  have hX := split_spl c ⟨#[c]⟩ rfl _ s rfl
  have hlen := Lib.splitB_all ⟨#[c]⟩ (Nat.le_refl _) 0 _ s rfl
  have h20 := spl_len c s.data.toList
  refine (Tryz.strings_Split s ⟨#[c]⟩ m w (by omega) hm (Nat.le_refl _)).mono ?_
  rintro e w' ⟨rfl, rfl⟩
  have hl2 : Lib.countB s ⟨#[c]⟩ + 1 = (spl c s.data.toList).length := by rw [← hX, List.length_map, hlen]
  refine ⟨_, rfl, ?_, (Below.refl _ _).alloc (Nat.le_refl _) _⟩
  rw [hl2, tv_of, hX]
  have := World.ownsRow_lit (base := w.heap.size) (e := 9) (size := 1) w (tv (spl c s.data.toList)).toArray (spl c s.data.toList).length (Nat.le_refl _) (by rw [len_data] at h20; unfold maxLen; omega) (by simp [tv_len])
  simpa using this
theorem own_keep {w w' : World} {B B2 n m c g : Nat} {e1 e2 : TypeId} {s1 s2 : Nat} {v : Value} {xs ys : List Value} {o : Obj} (hp : w.ownsRow B e1 s1 (.slice (some ⟨g, 0, none⟩) n c) n xs) (hv : w.ownsRow B2 e2 s2 v m ys) (he : e1 ≠ e2)
    (hg : (w.alloc o).grownBy w' v.ownBlock) : w'.ownsRow B e1 s1 (.slice (some ⟨g, 0, none⟩) n c) n xs := by
  refine ⟨hp.1, ?_⟩
  rcases hp.2 with ⟨h0, _⟩ | ⟨g', cap, cur, hv', hb, hh, rest⟩
  · cases h0
  · have hlt : g' < w.heap.size := (Array.getElem?_eq_some_iff.1 hh).1
    refine .inr ⟨g', cap, cur, hv', hb, ?_, rest⟩
    refine (hg.block g' (by rw [World.size_alloc]; omega) ?_).trans ((((Below.refl w.heap.size w).alloc (Nat.le_refl _) o).block g' hlt).trans hh)
    intro hq
    rcases hv.2 with ⟨rfl, _⟩ | ⟨g2, cap2, cur2, rfl, _, hh2, _⟩
    · cases hq
    · have e : g' = g2 := by simpa [Value.ownBlock] using hq
      subst e
      rw [hh] at hh2
      simp at hh2
      exact he hh2.2

set_option maxRecDepth 100000 in
set_option maxHeartbeats 1600000 in
theorem implRlist_any (s : ByteArray) (w : World) (hs : s.size ≤ 1048576) (tab : PowTab w) (er : ErrVars w) (mx : MaxL w) :
    Calls Tryz.prog 44 #[.string s] w (ReadPost w.heap.size w s.data.toList) := by
  obtain ⟨i0, hi, hz0, hz1', hz2⟩ := info_parts infoI64
  by_cases hm : s.data.toList = [45]
  · have hsm : s = ⟨#[45]⟩ := by
      cases s with
      | mk d => exact congrArg ByteArray.mk (Array.ext' (by simpa using hm))
    subst hsm
    have hg := Lib.hid (show goodL [45] = true by simp [goodL])
    have hx := Lib.hid (show xsL [45] = [] by rw [xsL, if_pos rfl])
    go_enter Tryz.func44, Tryz.ntmps44
    go_wp2
    go_ret2
    exact ⟨.inl ⟨hg.out, _, rfl, by rw [hx.out]; exact ⟨rfl, .inl ⟨rfl, rfl⟩⟩⟩, Below.refl _ _⟩
  have hne := not_minus hm
  have HG := Lib.hid (goodL_not hm)
  have HX := Lib.hid (xsL_not hm)
  have TB := Lib.hid tab
  have ER := Lib.hid er
  have F := Lib.hid (fun W hW => Split_any s 44 W hs hW)
  have MX := Lib.hid mx
  have SH := Lib.hid (piece_short (c := 44) (l := s.data.toList))
  have hl := Lib.hid (show s.data.toList.length = s.size by simp)
  have LN := Lib.hid (show (spl 44 s.data.toList).length ≤ 1048577 by have := spl_len 44 s.data.toList; rw [hl.out] at this; omega)
  have NP := Lib.hid (show 0 < (spl 44 s.data.toList).length from List.length_pos_iff.2 (spl_ne 44 _))
  obtain ⟨ps, hps⟩ : ∃ ps, spl 44 s.data.toList = ps := ⟨_, rfl⟩
  rw [hps] at HG HX F SH LN NP
  have o0 := Lib.hid (World.ownsRow_lit (base := w.heap.size) (e := 2) (size := 1) w #[] 0 (Nat.le_refl _) (by simp [maxLen]) rfl)
  have b0 := Lib.hid ((Below.refl w.heap.size w).alloc (Nat.le_refl _) (.cells #[] 2))
  clear hm hps tab er mx
  go_enter Tryz.func44, Tryz.ntmps44
  go_wp2_with fail
  refine (F.out _ (maxl_below MX.out b0.out)).mono ?_
  rintro e w1 ⟨v, rfl, o1, b1⟩
  have OL := Lib.hid (own_below o0.out b1)
  have O1 := Lib.hid (own_lower o1 (B := w.heap.size) b0.out.size)
  have B1 := Lib.hid (b0.out.trans (b1.mono b0.out.size))
  clear o1 b1
  obtain ⟨g, c2, hv, _, hgl⟩ := O1.out.form NP.out
  subst hv
  obtain ⟨L, hL⟩ : ∃ L, ps.length = L := ⟨_, rfl⟩
  rw [hL] at O1 LN
  have HL := Lib.hid hL
  have L20 : L ≤ 1048577 := LN.out
  rw [hL]
  clear hL hgl
  go_wp2_with fail
  go_loopw [4, 15] (fun v i wr => ∃ k : Nat, k ≤ L ∧ k ≤ 64 ∧ (∀ j, j < k → okP (ps.getD j []) = true) ∧ i = .int .i64 k ∧ wr.ownsRow w.heap.size 2 1 v k (iv (vals (ps.take k))) ∧ wr.ownsRow w.heap.size 9 1 (.slice (some ⟨g, 0, none⟩) L c2) L (tv ps) ∧ Below w.heap.size w wr) (fun _ i _ => L - (intOf i).toNat)
  case atStart => exact ⟨0, Nat.zero_le _, Nat.zero_le _, fun j h => by omega, rfl, by simpa [iv, vals] using OL.out, O1.out, B1.out⟩
  case round =>
    obtain ⟨k, hk, hk64, ha, rfl, ho, hop, hb⟩ := hrel
    have HA := Lib.hid ha
    have HO := Lib.hid ho
    have HP := Lib.hid hop
    have HB := Lib.hid hb
    clear ha ho hop hb
    obtain ⟨A4, c4, hu4⟩ := own_form HO.out
    subst hu4
    by_cases hlt : k < L
    · have gk : (k : Int) < (L : Int) := by omega
      have gk0 : (0 : Int) ≤ (k : Int) := by omega
      have hkp := Lib.hid (show k < ps.length by rw [HL.out]; exact hlt)
      obtain ⟨t, ht⟩ : ∃ t, ps.getD k [] = t := ⟨_, rfl⟩
      have hc : wr.cell? ⟨g, k, none⟩ = some (.string ⟨t.toArray⟩) := (HP.out.cellAt k (by omega)).trans ((tv_at hkp.out).trans (by rw [ht]))
      have tl : t.length ≤ s.size := by
        rw [← hl.out, ← ht, List.getD_eq_getElem?_getD, List.getElem?_eq_getElem hkp.out]
        exact SH.out _ (List.getElem_mem hkp.out)
      have N := Lib.hid (fun W hW hW2 => by
        have := implRead_any ⟨t.toArray⟩ W (by show t.length ≤ 1048576; omega) hW hW2
        exact (show Calls Tryz.prog 57 #[.string ⟨t.toArray⟩] W fun e w' => e = .returned (.tuple #[.int .i64 (numR t).1, .bool (numR t).2]) ∧ Below W.heap.size W w' from this))
      have vt := Lib.hid (show vals (ps.take (k + 1)) = vals (ps.take k) ++ [(numR t).1] by rw [vals_take hkp.out, ht])
      have hko := Lib.hid (show okP (ps.getD k []) = ((numR t).2 && inB (numR t).1 (-1000000000000) 1000000000000) by rw [ht]; rfl)
      obtain ⟨x, hx⟩ : ∃ x, (numR t).1 = x := ⟨_, rfl⟩
      obtain ⟨b, hbb⟩ : ∃ b, (numR t).2 = b := ⟨_, rfl⟩
      rw [hx, hbb] at N hko
      rw [hx] at vt
      clear tl ht hx hbb
      cases b with
      | false =>
        have bad := Lib.hid (HG.out.trans (goodP_no hkp.out (by rw [hko.out]; rfl)))
        go_wp2_with fail
        refine (N.out _ (tab_below TB.out HB.out) (err_below ER.out HB.out)).mono ?_
        rintro e w2 ⟨rfl, b2⟩
        have B2 := Lib.hid (HB.out.trans (b2.mono HB.out.size))
        clear b2
        go_wp2
        go_ret2
        exact ⟨.inr ⟨bad.out, rfl⟩, B2.out⟩
      | true =>
        cases hv : inB x (-1000000000000) 1000000000000 with
        | false =>
          have bad := Lib.hid (HG.out.trans (goodP_no hkp.out (by rw [hko.out, hv]; rfl)))
          have HV := Lib.hid (fun W => is_ofv (within_any x (-1000000000000) 1000000000000 W) hv)
          clear hv
          go_wp2_with fail
          refine (N.out _ (tab_below TB.out HB.out) (err_below ER.out HB.out)).mono ?_
          rintro e w2 ⟨rfl, b2⟩
          have B2 := Lib.hid (HB.out.trans (b2.mono HB.out.size))
          clear b2
          go_wp2_with fail
          refine (HV.out _).mono ?_
          rintro e w3 ⟨rfl, rfl⟩
          go_wp2
          go_ret2
          exact ⟨.inr ⟨bad.out, rfl⟩, B2.out⟩
        | true =>
          have HA2 := Lib.hid (show ∀ j, j < k + 1 → okP (ps.getD j []) = true from fun j hj => by
            rcases Nat.lt_or_ge j k with h | h
            · exact HA.out j h
            · rw [show j = k by omega, hko.out, hv]; rfl)
          have HV := Lib.hid (fun W => is_ofv (within_any x (-1000000000000) 1000000000000 W) hv)
          clear hv
          by_cases hk6 : k = 64
          · have bad := Lib.hid (HG.out.trans (goodP_long (by rw [HL.out]; omega)))
            have q6 : ((k : Int) == 64) = true := by rw [beq_iff_eq]; omega
            clear hk6 hk64
            go_wp2_with fail
            refine (N.out _ (tab_below TB.out HB.out) (err_below ER.out HB.out)).mono ?_
            rintro e w2 ⟨rfl, b2⟩
            have B2 := Lib.hid (HB.out.trans (b2.mono HB.out.size))
            clear b2
            go_wp2_with fail
            refine (HV.out _).mono ?_
            rintro e w3 ⟨rfl, rfl⟩
            go_wp2
            go_ret2
            exact ⟨.inr ⟨bad.out, rfl⟩, B2.out⟩
          have q6 : ((k : Int) == 64) = false := by rw [beq_eq_false_iff_ne]; omega
          have k63 := Lib.hid (show k + 1 ≤ 64 by omega)
          clear hk6
          go_wp2_with fail
          refine (N.out _ (tab_below TB.out HB.out) (err_below ER.out HB.out)).mono ?_
          rintro e w2 ⟨rfl, b2⟩
          have HO1 := Lib.hid (own_below HO.out b2)
          have HP1 := Lib.hid (own_below HP.out b2)
          have B2 := Lib.hid (HB.out.trans (b2.mono HB.out.size))
          clear b2
          go_wp2_with fail
          refine (HV.out _).mono ?_
          rintro e w3 ⟨rfl, rfl⟩
          go_wp2_with (at_builtin; refine wpList_append_own _ rfl _ _ 48 rfl w.heap.size 2 i0 (.int .i64 0) 1 8 Tryz.underlying48 hi hz0 hz1' hz2 rfl (by decide) _ _ _ rfl (HO1.out.alloc _) ⟨w2.heap.size, 0, none⟩ 1 1 [.int .i64 x] rfl rfl ?c1 ?c2 ?c3 ?c4 ?c5 ?_)
          case c1 => exact cell_one_new _ _ _
          case c2 => intro u hu; simp at hu; subst hu; rfl
          case c3 => unfold maxLen; omega
          case c4 => omega
          case c5 => have := B2.out.size; simp; omega
          · intro v' W2 hown' hgrow _
            have HO2 := Lib.hid (show W2.ownsRow w.heap.size 2 1 v' (k + 1) (iv (vals (ps.take (k + 1)))) by rw [vt.out, iv, List.map_append]; exact hown')
            have HP2 := Lib.hid (own_keep HP1.out HO1.out (by decide) hgrow)
            have HB2 := Lib.hid (below_own HO1.out B2.out hgrow B2.out.size)
            clear hown' hgrow
            go_wp2
            go_roundw
            case rel => exact ⟨k + 1, by omega, k63.out, HA2.out, by go_num, HO2.out, HP2.out, HB2.out⟩
            case measure => simp [intOf]; omega
    · obtain rfl : k = L := by omega
      have good := Lib.hid (HG.out.trans (goodP_all (by rw [HL.out]; omega) (by rw [HL.out]; exact HA.out)))
      have ho := HO.out
      rw [List.take_of_length_le (by rw [HL.out]; exact Nat.le_refl _)] at ho
      have HO3 := Lib.hid (show wr.ownsRow w.heap.size 2 1 (.slice A4 k c4) (xsL s.data.toList).length (iv (xsL s.data.toList)) by rw [HX.out, vals_len, HL.out]; exact ho)
      clear ho
      go_wp2
      go_ret2
      exact ⟨.inl ⟨good.out, _, rfl, HO3.out⟩, HB.out⟩
end Go.Proofs.YtfmbmgdemdbpaaaGreatDoor
