/- SplitWords: the parts that are not empty; both texts. Conditions: the text has at most 2^20 bytes. -/
import Derived.Test.YtcmnmmgmhnhkhaaDoorStrS
import Derived.Test.YtcmnmmgmhnhkhaaDoorRlistB
import Derived.Maps.AppendAt
namespace Go.Proofs.YtcmnmmgmhnhkhaaDoor
open Go.RowKit Go.Sort
set_option linter.unusedVariables false

def keepL (ps : List (List UInt8)) : List (List UInt8) := ps.filter (fun p => !p.isEmpty)
theorem keep_nil : keepL [] = [] := rfl
theorem keep_snoc_yes {ps : List (List UInt8)} {p : List UInt8} (h : p ≠ []) : keepL (ps ++ [p]) = keepL ps ++ [p] := by
  have : (!p.isEmpty) = true := by cases p with | nil => exact absurd rfl h | cons => rfl
  unfold keepL
  rw [List.filter_append, List.filter_cons, this]; rfl
theorem keep_snoc_no {ps : List (List UInt8)} : keepL (ps ++ [[]]) = keepL ps := by
  unfold keepL
  rw [List.filter_append]; simp
theorem keep_len (ps : List (List UInt8)) : (keepL ps).length ≤ ps.length := List.length_filter_le _ _
theorem take_snocP {ps : List (List UInt8)} {k : Nat} (h : k < ps.length) : ps.take (k + 1) = ps.take k ++ [ps.getD k []] := by
  rw [List.take_add_one, List.getElem?_eq_getElem h, List.getD_eq_getElem?_getD, List.getElem?_eq_getElem h]; rfl
theorem mk_empty {l : List UInt8} (h : l = []) : (⟨l.toArray⟩ : ByteArray).toList.isEmpty = true := by rw [Lib.toList_data, h]; rfl
theorem mk_full {l : List UInt8} (h : l ≠ []) : (⟨l.toArray⟩ : ByteArray).toList.isEmpty = false := by
  rw [Lib.toList_data]
  show l.isEmpty = false
  cases l with | nil => exact absurd rfl h | cons => rfl

set_option maxRecDepth 100000 in
set_option maxHeartbeats 1600000 in
theorem specSplitW_any (s : ByteArray) (w : World) (hs : s.size ≤ 1048576) :
    Calls Tryd.prog 6 #[.string s] w fun e w' => ∃ v, e = .returned v ∧ w'.ownsRow w.heap.size 9 1 v (keepL (spl 32 s.data.toList)).length (tv (keepL (spl 32 s.data.toList))) ∧ Below w.heap.size w w' := by
  obtain ⟨i0, hi, hz0, hz1', hz2⟩ := info_parts infoStr2
  have F := (fun W => l01Split_any s 32 W hs)
  have PL := spl_len 32 s.data.toList
  rw [len_data] at PL
  obtain ⟨ps, hps⟩ : ∃ ps, spl 32 s.data.toList = ps := ⟨_, rfl⟩
  rw [show (((32 : UInt8).toNat : Nat) : Int) = 32 from rfl, hps] at F
  rw [hps] at PL ⊢
  obtain ⟨n, hn⟩ : ∃ n, ps.length = n := ⟨_, rfl⟩
  rw [hn] at F PL
  have HNL := Lib.hid hn
  have F := Lib.hid F
  clear hps hn
  go_enter Tryd.func6, Tryd.ntmps6
  go_wp2_with fail
  refine (F.out w).mono ?_
  rintro e w1 ⟨v, rfl, o1, b1⟩
  obtain ⟨A, c, rfl⟩ := own_form o1
  have R1 := Lib.hid (Reads.of_own o1)
  have B1 := Lib.hid b1
  have h0 := Lib.hid (World.ownsRow_lit (base := w1.heap.size) (e := 9) (size := 1) w1 #[] 0 (Nat.le_refl _) (by simp [maxLen]) rfl)
  clear o1 b1
  go_wp2_with fail
  go_loopw [4, 5] (fun v i wr => ∃ k : Nat, k ≤ n ∧ i = .int .i64 k ∧ wr.ownsRow w1.heap.size 9 1 v (keepL (ps.take k)).length (tv (keepL (ps.take k))) ∧ Below w1.heap.size w1 wr) (fun _ i _ => n - (intOf i).toNat)
  case atStart => exact ⟨0, Nat.zero_le _, rfl, by simpa [tv, keepL] using h0.out, (Below.refl _ _).alloc (Nat.le_refl _) _⟩
  case round =>
    obtain ⟨k, hk, rfl, ho, hb⟩ := hrel
    have HO := Lib.hid ho
    have HB := Lib.hid hb
    clear ho hb
    by_cases hlt : k < n
    · obtain ⟨a1, u1, rfl, hbl1, hu1, hc1⟩ := (R1.out.below HB.out).at_ hlt
      obtain rfl := tv_at' hu1
      have ts := Lib.hid (take_snocP (ps := ps) (k := k) (by rw [HNL.out]; exact hlt))
      obtain ⟨p, hp⟩ : ∃ p, ps.getD k [] = p := ⟨_, rfl⟩
      have kl := Lib.hid (show (keepL (ps.take k)).length ≤ k by have := keep_len (ps.take k); rw [List.length_take] at this; omega)
      have g1 : (k : Int) < (n : Int) := by omega
      rw [hp] at hc1 ts
      clear hu1 hbl1 hp
      by_cases hpe : p = []
      · have q := mk_empty hpe
        have ks := Lib.hid (show keepL (ps.take (k + 1)) = keepL (ps.take k) by rw [ts.out, hpe]; exact keep_snoc_no)
        obtain ⟨t, ht⟩ : ∃ t, (⟨p.toArray⟩ : ByteArray) = t := ⟨_, rfl⟩
        rw [ht] at q hc1
        clear hpe ht
        go_wp2
        go_roundw
        case rel => exact ⟨k + 1, by omega, by go_num, by rw [ks.out]; exact HO.out, HB.out⟩
        case measure => simp [intOf]; omega
      · have q := mk_full hpe
        have ks := Lib.hid (show keepL (ps.take (k + 1)) = keepL (ps.take k) ++ [p] by rw [ts.out]; exact keep_snoc_yes hpe)
        have tp : tv [p] = [.string ⟨p.toArray⟩] := rfl
        obtain ⟨t, ht⟩ : ∃ t, (⟨p.toArray⟩ : ByteArray) = t := ⟨_, rfl⟩
        rw [ht] at q hc1 tp
        clear hpe ht
        go_wp2_with (at_builtin; refine wpList_append_own _ rfl _ _ 22 rfl w1.heap.size 9 i0 (.string ⟨#[]⟩) 1 16 Tryd.underlying22 hi hz0 hz1' hz2 rfl (by decide) _ _ _ rfl (HO.out.alloc _) ⟨wr.heap.size, 0, none⟩ 1 1 [.string t] rfl rfl ?c1 ?c2 ?c3 ?c4 ?c5 ?_)
        case c1 => exact cell_one_new _ _ _
        case c2 => intro u hu; simp at hu; subst hu; rfl
        case c3 => have := kl.out; unfold maxLen; omega
        case c4 => have := kl.out; omega
        case c5 => have := HB.out.size; simp; omega
        · intro v' W1 hown' hgrow _
          have HO1 := Lib.hid (show W1.ownsRow w1.heap.size 9 1 v' (keepL (ps.take (k + 1))).length (tv (keepL (ps.take (k + 1)))) by
            rw [ks.out, List.length_append, tv_append, tp]; exact hown')
          have HB1 := Lib.hid (below_own HO.out HB.out hgrow HB.out.size)
          clear hown' hgrow
          go_wp2
          go_roundw
          case rel => exact ⟨k + 1, by omega, by go_num, HO1.out, HB1.out⟩
          case measure => simp [intOf]; omega
    · obtain rfl : k = n := by omega
      have hf := HO.out
      rw [List.take_of_length_le (by rw [HNL.out]; exact Nat.le_refl _)] at hf
      have HF := Lib.hid hf
      clear hf
      go_wp2
      go_ret
      exact ⟨_, rfl, by
        refine ⟨HF.out.1, ?_⟩
        rcases HF.out.2 with h | ⟨g, cap, cur, h1, h2, h3⟩
        · exact .inl h
        · exact .inr ⟨g, cap, cur, h1, Nat.le_trans B1.out.size h2, h3⟩, B1.out.trans (HB.out.mono B1.out.size)⟩

set_option maxRecDepth 100000 in
set_option maxHeartbeats 1600000 in
theorem implSplitW_any (s : ByteArray) (w : World) (hs : s.size ≤ 1048576) (mx : MaxL w) :
    Calls Tryd.prog 7 #[.string s] w fun e w' => ∃ v, e = .returned v ∧ w'.ownsRow w.heap.size 9 1 v (keepL (spl 32 s.data.toList)).length (tv (keepL (spl 32 s.data.toList))) ∧ Below w.heap.size w w' := by
  obtain ⟨i0, hi, hz0, hz1', hz2⟩ := info_parts infoStr2
  have F := (fun W hW => Split_any s 32 W hs hW)
  have PL := spl_len 32 s.data.toList
  rw [len_data] at PL
  obtain ⟨ps, hps⟩ : ∃ ps, spl 32 s.data.toList = ps := ⟨_, rfl⟩
  rw [hps] at F PL ⊢
  obtain ⟨n, hn⟩ : ∃ n, ps.length = n := ⟨_, rfl⟩
  rw [hn] at F PL
  have n1 : 1 ≤ n := by
    rw [← hn, ← hps]
    rcases hq : spl 32 s.data.toList with _ | ⟨x, r⟩
    · exact absurd hq (spl_ne _ _)
    · simp
  have HNL := Lib.hid hn
  have F := Lib.hid F
  have MX := Lib.hid mx
  have h0 := World.ownsRow_lit (base := w.heap.size) (e := 9) (size := 1) w #[] 0 (Nat.le_refl _) (by simp [maxLen]) rfl
  have B0 := (Below.refl w.heap.size w).alloc (Nat.le_refl _) (.cells #[] 9)
  clear hps hn mx
  go_enter Tryd.func7, Tryd.ntmps7
  go_wp2_with fail
  have hsz : (w.alloc (.cells #[] 9)).heap.size = w.heap.size + 1 := by simp
  revert h0 B0 hsz
  generalize (w.alloc (.cells #[] 9)) = w1
  intro h0 B0 hsz
  refine (F.out w1 (maxl_below MX.out B0)).mono ?_
  rintro e w2 ⟨v, rfl, o2, b2⟩
  obtain ⟨g, c, rfl, hbg, hgl⟩ := o2.form (by omega)
  have O2 := Lib.hid o2
  have B2 := Lib.hid (B0.trans (b2.mono B0.size))
  have H2 := Lib.hid (own_below h0 b2)
  have GN := Lib.hid (show w.heap.size ≠ g by omega)
  have GL := Lib.hid hgl
  have GB := Lib.hid (show w.heap.size ≤ g by omega)
  clear o2 b2 h0 B0 hsz hbg hgl
  go_wp2_with fail
  go_loopw [3, 10] (fun v i wr => ∃ k : Nat, k ≤ n ∧ i = .int .i64 k ∧ wr.ownsRow w.heap.size 9 1 v (keepL (ps.take k)).length (tv (keepL (ps.take k))) ∧ Below w.heap.size w wr ∧ v.ownBlock ≠ some g ∧ wr.heap[g]? = w2.heap[g]? ∧ w2.heap.size ≤ wr.heap.size) (fun _ i _ => n - (intOf i).toNat)
  case atStart => exact ⟨0, Nat.zero_le _, rfl, by simpa [tv, keepL] using H2.out, B2.out, by simp [Value.ownBlock]; exact GN.out, rfl, Nat.le_refl _⟩
  case round =>
    obtain ⟨k, hk, rfl, ho, hb, hnb, hgb, hsz⟩ := hrel
    have HO := Lib.hid ho
    have HB := Lib.hid hb
    have HN := Lib.hid hnb
    have HG := Lib.hid hgb
    have HS := Lib.hid hsz
    clear ho hb hnb hgb hsz
    by_cases hlt : k < n
    · have cc : wr.cell? ⟨g, k, none⟩ = some (.string ⟨(ps.getD k []).toArray⟩) := (World.cell?_of_block HG.out).trans ((O2.out.cellAt k (by omega)).trans (tv_at (by rw [HNL.out]; exact hlt)))
      have ts := Lib.hid (take_snocP (ps := ps) (k := k) (by rw [HNL.out]; exact hlt))
      obtain ⟨p, hp⟩ : ∃ p, ps.getD k [] = p := ⟨_, rfl⟩
      have kl := Lib.hid (show (keepL (ps.take k)).length ≤ k by have := keep_len (ps.take k); rw [List.length_take] at this; omega)
      have g1 : (k : Int) < (n : Int) := by omega
      rw [hp] at cc ts
      clear hp
      by_cases hpe : p = []
      · have q := mk_empty hpe
        have ks := Lib.hid (show keepL (ps.take (k + 1)) = keepL (ps.take k) by rw [ts.out, hpe]; exact keep_snoc_no)
        obtain ⟨t, ht⟩ : ∃ t, (⟨p.toArray⟩ : ByteArray) = t := ⟨_, rfl⟩
        rw [ht] at q cc
        clear hpe ht
        go_wp2
        go_roundw
        case rel => exact ⟨k + 1, by omega, by go_num, by rw [ks.out]; exact HO.out, HB.out, HN.out, HG.out, HS.out⟩
        case measure => simp [intOf]; omega
      · have q := mk_full hpe
        have ks := Lib.hid (show keepL (ps.take (k + 1)) = keepL (ps.take k) ++ [p] by rw [ts.out]; exact keep_snoc_yes hpe)
        have tp : tv [p] = [.string ⟨p.toArray⟩] := rfl
        obtain ⟨t, ht⟩ : ∃ t, (⟨p.toArray⟩ : ByteArray) = t := ⟨_, rfl⟩
        rw [ht] at q cc tp
        clear hpe ht
        go_wp2_with (at_builtin; refine wpList_append_own_at _ rfl _ _ 22 rfl w.heap.size 9 i0 (.string ⟨#[]⟩) 1 16 Tryd.underlying22 hi hz0 hz1' hz2 rfl (by decide) _ _ _ rfl (HO.out.alloc _) ⟨wr.heap.size, 0, none⟩ 1 1 [.string t] rfl rfl ?c1 ?c2 ?c3 ?c4 ?c5 ?_)
        case c1 => exact cell_one_new _ _ _
        case c2 => intro u hu; simp at hu; subst hu; rfl
        case c3 => have := kl.out; unfold maxLen; omega
        case c4 => have := kl.out; omega
        case c5 => have := HB.out.size; simp; omega
        · intro v' W1 hown' hgrow _ hat
          have HO1 := Lib.hid (show W1.ownsRow w.heap.size 9 1 v' (keepL (ps.take (k + 1))).length (tv (keepL (ps.take (k + 1)))) by
            rw [ks.out, List.length_append, tv_append, tp]; exact hown')
          have HB1 := Lib.hid (below_own HO.out HB.out hgrow HB.out.size)
          have glt : g < wr.heap.size := Nat.lt_of_lt_of_le GL.out HS.out
          have HN1 := Lib.hid (show v'.ownBlock ≠ some g by
            rcases hat with h | h
            · rw [h]; exact HN.out
            · rw [h]; intro e; simp at e; omega)
          have HG1 := Lib.hid (show W1.heap[g]? = w2.heap[g]? from (hgrow.block g (by rw [World.size_alloc]; omega) (fun e => HN.out e.symm)).trans ((Below.heap_alloc wr _ g glt).trans HG.out))
          have HS1 := Lib.hid (show w2.heap.size ≤ W1.heap.size by have := hgrow.size; rw [World.size_alloc] at this; have := HS.out; omega)
          clear hown' hgrow hat
          go_wp2
          go_roundw
          case rel => exact ⟨k + 1, by omega, by go_num, HO1.out, HB1.out, HN1.out, HG1.out, HS1.out⟩
          case measure => simp [intOf]; omega
    · obtain rfl : k = n := by omega
      have hf := HO.out
      rw [List.take_of_length_le (by rw [HNL.out]; exact Nat.le_refl _)] at hf
      have HF := Lib.hid hf
      clear hf
      go_wp2
      go_ret
      exact ⟨_, rfl, HF.out, HB.out⟩
end Go.Proofs.YtcmnmmgmhnhkhaaDoor
