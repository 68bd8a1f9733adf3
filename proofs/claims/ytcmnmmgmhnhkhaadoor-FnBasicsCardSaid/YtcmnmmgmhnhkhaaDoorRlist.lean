/- Lists of numbers, read back: the reference's reader. -/
import Derived.Test.YtcmnmmgmhnhkhaaDoorRread
import Derived.Test.YtcmnmmgmhnhkhaaDoorSplitB
import Derived.Test.YtcmnmmgmhnhkhaaDoorInts
namespace Go.Proofs.YtcmnmmgmhnhkhaaDoor
open Go.RowKit Go.Sort
set_option linter.unusedVariables false

noncomputable def okP (t : List UInt8) : Bool := (numR t).2 && inB (numR t).1 (-1000000000000) 1000000000000
noncomputable def vals (ps : List (List UInt8)) : List Int := ps.map fun t => (numR t).1
theorem vals_len (ps : List (List UInt8)) : (vals ps).length = ps.length := by simp [vals]
noncomputable def goodP (ps : List (List UInt8)) : Bool := decide (ps.length ≤ 64) && ps.all okP
noncomputable def goodL (l : List UInt8) : Bool := decide (l = [45]) || goodP (spl 44 l)
noncomputable def xsL (l : List UInt8) : List Int := if l = [45] then [] else vals (spl 44 l)
theorem goodP_all {ps : List (List UInt8)} (hl : ps.length ≤ 64) (h : ∀ k, k < ps.length → okP (ps.getD k []) = true) : goodP ps = true := by
  have : ps.all okP = true := List.all_eq_true.2 fun x hx => by
    obtain ⟨i, hi, rfl⟩ := List.getElem_of_mem hx
    have := h i hi
    rwa [List.getD_eq_getElem?_getD, List.getElem?_eq_getElem hi] at this
  rw [goodP, this, Bool.and_true]; simpa using hl
theorem goodP_no {ps : List (List UInt8)} {k : Nat} (hk : k < ps.length) (h : okP (ps.getD k []) = false) : goodP ps = false := by
  cases hh : goodP ps with
  | false => rfl
  | true =>
    unfold goodP at hh
    rw [Bool.and_eq_true] at hh
    have := List.all_eq_true.1 hh.2 _ (List.getElem_mem hk)
    rw [List.getD_eq_getElem?_getD, List.getElem?_eq_getElem hk] at h
    have h' : okP ps[k] = false := h
    rw [this] at h'; cases h'
theorem goodP_long {ps : List (List UInt8)} (h : 64 < ps.length) : goodP ps = false := by
  unfold goodP
  rw [show decide (ps.length ≤ 64) = false by rw [decide_eq_false_iff_not]; omega]; rfl
theorem goodL_not {l : List UInt8} (h : l ≠ [45]) : goodL l = goodP (spl 44 l) := by rw [goodL, show decide (l = [45]) = false by simpa using h, Bool.false_or]
theorem xsL_not {l : List UInt8} (h : l ≠ [45]) : xsL l = vals (spl 44 l) := by rw [xsL, if_neg h]
theorem own_lower {w : World} {B B' : Nat} {e : TypeId} {size n : Nat} {v : Value} {xs : List Value} (h : w.ownsRow B' e size v n xs) (hB : B ≤ B') : w.ownsRow B e size v n xs := by
  refine ⟨h.1, ?_⟩
  rcases h.2 with h0 | ⟨g, cap, cur, hv, hbg, rest⟩
  · exact .inl h0
  · exact .inr ⟨g, cap, cur, hv, Nat.le_trans hB hbg, rest⟩
/-- what the readers of lists give -/
def ReadPost (B : Nat) (w : World) (l : List UInt8) (e : Ending) (w' : World) : Prop :=
  ((goodL l = true ∧ ∃ v, e = .returned (.tuple #[v, .bool true]) ∧ w'.ownsRow B 2 1 v (xsL l).length (iv (xsL l))) ∨ (goodL l = false ∧ e = .returned (.tuple #[.slice none 0 0, .bool false]))) ∧ Below B w w'
theorem vals_take {ps : List (List UInt8)} {k : Nat} (h : k < ps.length) : vals (ps.take (k + 1)) = vals (ps.take k) ++ [(numR (ps.getD k [])).1] := by
  rw [List.take_add_one, List.getElem?_eq_getElem h, List.getD_eq_getElem?_getD, List.getElem?_eq_getElem h, vals, vals, List.map_append]; rfl
theorem tv_at {ps : List (List UInt8)} {k : Nat} (h : k < ps.length) : (tv ps)[k]? = some (.string ⟨(ps.getD k []).toArray⟩) := by
  rw [tv, List.getElem?_map, List.getElem?_eq_getElem h, List.getD_eq_getElem?_getD, List.getElem?_eq_getElem h]; rfl
theorem infoI64 : (Tryd.prog.info? 2).map (fun i => (i.zero, i.size, i.bytes)) = some (some (.int .i64 0), 1, 8) := by kernel_rfl
theorem piece_short {c : UInt8} {l : List UInt8} : ∀ t ∈ spl c l, t.length ≤ l.length := by
  induction l with
  | nil => intro t ht; simp [spl] at ht; subst ht; simp
  | cons x r ih =>
    intro t ht
    rw [spl] at ht
    split at ht
    · rcases List.mem_cons.1 ht with e | e
      · subst e; simp
      · have := ih t e; simp; omega
    · split at ht
      · rename_i hq; exact absurd hq (spl_ne c r)
      · rename_i h t' hq
        rcases List.mem_cons.1 ht with e | e
        · subst e
          have := ih h (by rw [hq]; simp)
          simp; omega
        · have := ih t (by rw [hq]; simp [e])
          simp; omega
theorem not_minus {s : ByteArray} (h : s.data.toList ≠ [45]) : (s.toList == [45]) = false := by
  rw [beq_eq_false_iff_ne, Lib.toList_data]; exact h

set_option maxRecDepth 100000 in
set_option maxHeartbeats 1600000 in
theorem specRlist_any (s : ByteArray) (w : World) (hs : s.size ≤ 1048576) :
    Calls Tryd.prog 29 #[.string s] w (ReadPost w.heap.size w s.data.toList) := by
  obtain ⟨i0, hi, hz0, hz1', hz2⟩ := info_parts infoI64
  by_cases hm : s.data.toList = [45]
  · have hsm : s = ⟨#[45]⟩ := by
      cases s with
      | mk d => exact congrArg ByteArray.mk (Array.ext' (by simpa using hm))
    subst hsm
    have hg := Lib.hid (show goodL [45] = true by simp [goodL])
    have hx := Lib.hid (show xsL [45] = [] by rw [xsL, if_pos rfl])
    have h0 := Lib.hid (World.ownsRow_lit (base := w.heap.size) (e := 2) (size := 1) w #[] 0 (Nat.le_refl _) (by simp [maxLen]) rfl)
    go_enter Tryd.func29, Tryd.ntmps29
    go_wp2
    go_ret2
    exact ⟨.inl ⟨hg.out, _, rfl, by rw [hx.out]; exact h0.out⟩, (Below.refl _ _).alloc (Nat.le_refl _) _⟩
  have hne := not_minus hm
  have HG := Lib.hid (goodL_not hm)
  have HX := Lib.hid (xsL_not hm)
  have F := Lib.hid (l01Split_any s 44 w hs)
  have SH := Lib.hid (piece_short (c := 44) (l := s.data.toList))
  have hl := Lib.hid (show s.data.toList.length = s.size by simp)
  have LN := Lib.hid (show (spl 44 s.data.toList).length ≤ 1048577 by have := spl_len 44 s.data.toList; rw [hl.out] at this; omega)
  have NP := Lib.hid (show 0 < (spl 44 s.data.toList).length from List.length_pos_iff.2 (spl_ne 44 _))
  obtain ⟨ps, hps⟩ : ∃ ps, spl 44 s.data.toList = ps := ⟨_, rfl⟩
  rw [hps] at HG HX F SH LN NP
  clear hm hps
  go_enter Tryd.func29, Tryd.ntmps29
  go_wp2_with fail
  refine F.out.mono ?_
  rintro e w1 ⟨v, rfl, o1, b1⟩
  have O1 := Lib.hid o1
  have B1 := Lib.hid b1
  clear o1 b1
  obtain ⟨g, c2, hv, _, hgl⟩ := O1.out.form NP.out
  subst hv
  obtain ⟨L, hL⟩ : ∃ L, ps.length = L := ⟨_, rfl⟩
  rw [hL] at O1 LN
  have HL := Lib.hid hL
  have GL := Lib.hid hgl
  have L20 : L ≤ 1048577 := LN.out
  rw [hL]
  clear hL hgl
  by_cases h64 : 64 < L
  · have bad := Lib.hid (HG.out.trans (goodP_long (by rw [HL.out]; exact h64)))
    have q : (64 : Int) < (L : Int) := by omega
    go_wp2
    go_ret2
    exact ⟨.inr ⟨bad.out, rfl⟩, B1.out⟩
  have q : ¬ (64 : Int) < (L : Int) := by omega
  have h2 := Lib.hid (World.ownsRow_lit (base := w1.heap.size) (e := 2) (size := 1) w1 #[] 0 (Nat.le_refl _) (by simp [maxLen]) rfl)
  go_wp2_with fail
  go_loopw [5, 6] (fun v i wr => ∃ k : Nat, k ≤ L ∧ (∀ j, j < k → okP (ps.getD j []) = true) ∧ i = .int .i64 k ∧ wr.ownsRow w1.heap.size 2 1 v k (iv (vals (ps.take k))) ∧ Below w1.heap.size w1 wr) (fun _ i _ => L - (intOf i).toNat)
  case atStart => exact ⟨0, Nat.zero_le _, fun j h => by omega, rfl, by simpa [iv, vals] using h2.out, (Below.refl _ _).alloc (Nat.le_refl _) _⟩
  case round =>
    obtain ⟨k, hk, ha, rfl, ho, hb⟩ := hrel
    have HA := Lib.hid ha
    have HO := Lib.hid ho
    have HB := Lib.hid hb
    clear ha ho hb
    by_cases hlt : k < L
    · have gk : (k : Int) < (L : Int) := by omega
      have gk0 : (0 : Int) ≤ (k : Int) := by omega
      have hkp := Lib.hid (show k < ps.length by rw [HL.out]; exact hlt)
      obtain ⟨t, ht⟩ : ∃ t, ps.getD k [] = t := ⟨_, rfl⟩
      have hc : wr.cell? ⟨g, k, none⟩ = some (.string ⟨t.toArray⟩) := (HB.out.cell (p := ⟨g, k, none⟩) GL.out).trans ((O1.out.cellAt k (by omega)).trans ((tv_at hkp.out).trans (by rw [ht])))
      have tl : t.length ≤ s.size := by
        rw [← hl.out, ← ht, List.getD_eq_getElem?_getD, List.getElem?_eq_getElem hkp.out]
        exact SH.out _ (List.getElem_mem hkp.out)
      have N := Lib.hid (fun W => by
        have := l01Number_any ⟨t.toArray⟩ W (by show t.length ≤ maxLen; unfold maxLen; omega)
        exact (show Calls Tryd.prog 45 #[.string ⟨t.toArray⟩] W fun e w' => e = .returned (.tuple #[.int .i64 (numR t).1, .bool (numR t).2]) ∧ W = w' from this))
      have vt := Lib.hid (show vals (ps.take (k + 1)) = vals (ps.take k) ++ [(numR t).1] by rw [vals_take hkp.out, ht])
      have hko := Lib.hid (show okP (ps.getD k []) = ((numR t).2 && inB (numR t).1 (-1000000000000) 1000000000000) by rw [ht]; rfl)
      obtain ⟨x, hx⟩ : ∃ x, (numR t).1 = x := ⟨_, rfl⟩
      obtain ⟨b, hbb⟩ : ∃ b, (numR t).2 = b := ⟨_, rfl⟩
      rw [hx, hbb] at N hko
      rw [hx] at vt
      clear tl ht hx hbb
      cases b with
      | false =>
        have bad := Lib.hid (HG.out.trans (goodP_no hkp.out (by rw [hko.out]; rfl)))
        go_wp2_with fail
        refine (N.out _).mono ?_
        rintro e w2 ⟨rfl, rfl⟩
        go_wp2
        go_ret2
        exact ⟨.inr ⟨bad.out, rfl⟩, B1.out.trans (HB.out.mono B1.out.size)⟩
      | true =>
        cases hv : inB x (-1000000000000) 1000000000000 with
        | false =>
          have bad := Lib.hid (HG.out.trans (goodP_no hkp.out (by rw [hko.out, hv]; rfl)))
          have HV := Lib.hid (fun W => is_ofv (in_any x (-1000000000000) 1000000000000 W) hv)
          clear hv
          go_wp2_with fail
          refine (N.out _).mono ?_
          rintro e w2 ⟨rfl, rfl⟩
          go_wp2_with fail
          refine (HV.out _).mono ?_
          rintro e w2 ⟨rfl, rfl⟩
          go_wp2
          go_ret2
          exact ⟨.inr ⟨bad.out, rfl⟩, B1.out.trans (HB.out.mono B1.out.size)⟩
        | true =>
          have HA2 := Lib.hid (show ∀ j, j < k + 1 → okP (ps.getD j []) = true from fun j hj => by
            rcases Nat.lt_or_ge j k with h | h
            · exact HA.out j h
            · rw [show j = k by omega, hko.out, hv]; rfl)
          have HV := Lib.hid (fun W => is_ofv (in_any x (-1000000000000) 1000000000000 W) hv)
          clear hv
          go_wp2_with fail
          refine (N.out _).mono ?_
          rintro e w2 ⟨rfl, rfl⟩
          go_wp2_with fail
          refine (HV.out _).mono ?_
          rintro e w2 ⟨rfl, rfl⟩
          go_wp2_with (at_builtin; refine wpList_append_own _ rfl _ _ 40 rfl w1.heap.size 2 i0 (.int .i64 0) 1 8 Tryd.underlying40 hi hz0 hz1' hz2 rfl (by decide) _ _ _ rfl (HO.out.alloc _) ⟨wr.heap.size, 0, none⟩ 1 1 [.int .i64 x] rfl rfl ?c1 ?c2 ?c3 ?c4 ?c5 ?_)
          case c1 => exact cell_one_new _ _ _
          case c2 => intro u hu; simp at hu; subst hu; rfl
          case c3 => unfold maxLen; omega
          case c4 => omega
          case c5 => have := HB.out.size; simp; omega
          · intro v' W2 hown' hgrow _
            have HO2 := Lib.hid (show W2.ownsRow w1.heap.size 2 1 v' (k + 1) (iv (vals (ps.take (k + 1)))) by rw [vt.out, iv, List.map_append]; exact hown')
            have HB2 := Lib.hid (below_own HO.out HB.out hgrow HB.out.size)
            clear hown' hgrow
            go_wp2
            go_roundw
            case rel => exact ⟨k + 1, by omega, HA2.out, by go_num, HO2.out, HB2.out⟩
            case measure => simp [intOf]; omega
    · obtain rfl : k = L := by omega
      have good := Lib.hid (HG.out.trans (goodP_all (by rw [HL.out]; omega) (by rw [HL.out]; exact HA.out)))
      have ho := HO.out
      rw [List.take_of_length_le (by rw [HL.out]; exact Nat.le_refl _)] at ho
      have HO3 := Lib.hid (show wr.ownsRow w.heap.size 2 1 u5 (xsL s.data.toList).length (iv (xsL s.data.toList)) by rw [HX.out, vals_len, HL.out]; exact own_lower ho B1.out.size)
      clear ho
      go_wp2
      go_ret2
      exact ⟨.inl ⟨good.out, _, rfl, HO3.out⟩, B1.out.trans (HB.out.mono B1.out.size)⟩
end Go.Proofs.YtcmnmmgmhnhkhaaDoor
