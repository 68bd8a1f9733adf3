/- The text of a list of numbers: the program's own, and both whole. -/
import Derived.Test.YtfmbmgdemdbpaaaGreatDoorLtext
namespace Go.Proofs.YtfmbmgdemdbpaaaGreatDoor
open Go.RowKit Go.Sort

theorem join_sv (xs : List Int) : Lib.join ((xs.map fun x => (⟨(Lib.itoa x).toArray⟩ : ByteArray)).map (·.data.toList)) [44] = jpre xs := by
  rw [List.map_map, jpre]
  congr 1

theorem own_cap {w : World} {B : Nat} {e : TypeId} {size n c : Nat} {a : Addr} {xs : List Value} (h : w.ownsRow B e size (.slice (some a) n c) n xs) : n ≤ c := by
  rcases h.2 with ⟨h0, _⟩ | ⟨g, cap, cur, hv, _, _, h1, _⟩
  · cases h0
  · injection hv with _ _ e; omega

set_option maxHeartbeats 1600000 in
theorem implList_any (A : Option Addr) (n c b : Nat) (xs : List Int) (w : World) (hx : Reads w b 1 A n (iv xs)) (hb0 : b ≤ w.heap.size) (hn : n ≤ 1048576) (tab : PowTab w) :
    Calls Tryz.prog 45 #[.slice A n c] w fun e w' => e = .returned (.string ⟨(ltext xs).toArray⟩) ∧ Below w.heap.size w w' := by
  have lx := Lib.hid (show xs.length = n by have := hx.1; rw [iv_len] at this; omega)
  have HX := Lib.hid hx
  have TB := Lib.hid tab
  clear hx tab
  by_cases h64 : 64 < n
  · have HR := Lib.hid (show ltext xs = [] by rw [ltext, okL_long (by rw [lx.out]; exact h64)]; rfl)
    have F := Lib.hid (fun W => is_ofv (few_any (n : Int) 64 W) (show _ = false by rw [decide_eq_false_iff_not]; omega))
    go_enter Tryz.func45, Tryz.ntmps45
    go_wp2_with fail
    refine (F.out _).mono ?_
    rintro e w1 ⟨rfl, rfl⟩
    go_wp2
    go_ret
    exact ⟨ret_str HR.out.symm, Below.refl _ _⟩
  have F := Lib.hid (fun W => is_ofv (few_any (n : Int) 64 W) (show _ = true by rw [decide_eq_true_iff]; omega))
  by_cases h0 : n = 0
  · subst h0
    have HR := Lib.hid (show ltext xs = [45] by
      obtain rfl := List.length_eq_zero_iff.1 lx.out
      rfl)
    go_enter Tryz.func45, Tryz.ntmps45
    go_wp2_with fail
    refine (F.out _).mono ?_
    rintro e w1 ⟨rfl, rfl⟩
    go_wp2
    go_ret
    exact ⟨ret_str HR.out.symm, Below.refl _ _⟩
  have n64 : n ≤ 64 := by omega
  have hn0 : ((n : Int) == 0) = false := by rw [beq_eq_false_iff_ne]; omega
  obtain ⟨i0, hi, hz0, hz1', hz2⟩ := info_parts infoStr
  have o0 := Lib.hid (World.ownsRow_lit (base := w.heap.size) (e := 9) (size := 1) w #[] 0 (Nat.le_refl _) (by simp [maxLen]) rfl)
  have np := Lib.hid (show 0 < n by omega)
  clear h64 hn
  go_enter Tryz.func45, Tryz.ntmps45
  go_wp2_with fail
  refine (F.out _).mono ?_
  rintro e w1 ⟨rfl, rfl⟩
  go_wp2_with fail
  go_loopw [3, 16] (fun v i wr => ∃ k : Nat, k ≤ n ∧ (∀ j, j < k → okV (xs.getD j 0) = true) ∧ i = .int .i64 k ∧ wr.ownsRow w.heap.size 9 1 v k (sv (xs.take k)) ∧ Below w.heap.size w wr) (fun _ i _ => n - (intOf i).toNat)
  case atStart => exact ⟨0, Nat.zero_le _, fun j h => by omega, rfl, by simpa [sv] using o0.out, (Below.refl _ _).alloc (Nat.le_refl _) _⟩
  case round =>
    obtain ⟨k, hk, ha, rfl, ho, hb⟩ := hrel
    have HA := Lib.hid ha
    have HO := Lib.hid ho
    have HB := Lib.hid hb
    clear ha ho hb
    by_cases hlt : k < n
    · obtain ⟨a1, u1, rfl, hbl1, hu1, hc1⟩ := ((HX.out.more hb0).below HB.out).at_ hlt
      obtain rfl := iv_at hu1
      clear hu1 hbl1
      have gk : (k : Int) < (n : Int) := by omega
      have gk0 : (0 : Int) ≤ (k : Int) := by omega
      have ts := Lib.hid (take_snoc (xs := xs) (k := k) (by rw [lx.out]; exact hlt))
      obtain ⟨x, hx⟩ : ∃ x, xs.getD k 0 = x := ⟨_, rfl⟩
      rw [hx] at hc1 ts
      cases hv : okV x with
      | true =>
        have HA2 := Lib.hid (show ∀ j, j < k + 1 → okV (xs.getD j 0) = true from fun j hj => by
          rcases Nat.lt_or_ge j k with h | h
          · exact HA.out j h
          · rw [show j = k by omega, hx]; exact hv)
        have HV := Lib.hid (fun W => is_ofv (within_any x (-1000000000000) 1000000000000 W) (show _ = true from hv))
        have bd := okV_bd hv
        have D := Lib.hid (fun W hW => implDec_any x W (by omega) hW)
        clear hv hx bd
        go_wp2_with fail
        refine (HV.out _).mono ?_
        rintro e w1 ⟨rfl, rfl⟩
        go_wp2_with fail
        refine (D.out _ (tab_below TB.out HB.out)).mono ?_
        rintro e w1 ⟨rfl, b1⟩
        have HO1 := Lib.hid (own_below HO.out b1)
        have B1 := Lib.hid (HB.out.trans (b1.mono HB.out.size))
        clear b1
        go_wp2_with (at_builtin; refine wpList_append_own _ rfl _ _ 63 rfl w.heap.size 9 i0 (.string ⟨#[]⟩) 1 16 Tryz.underlying63 hi hz0 hz1' hz2 rfl (by decide) _ _ _ rfl (HO1.out.alloc _) ⟨w1.heap.size, 0, none⟩ 1 1 [.string ⟨(Lib.itoa x).toArray⟩] rfl rfl ?c1 ?c2 ?c3 ?c4 ?c5 ?_)
        case c1 => exact cell_one_new _ _ _
        case c2 => intro u hu; simp at hu; subst hu; rfl
        case c3 => unfold maxLen; omega
        case c4 => omega
        case c5 => have := B1.out.size; simp; omega
        · intro v' W2 hown' hgrow _
          have HO2 := Lib.hid (show W2.ownsRow w.heap.size 9 1 v' (k + 1) (sv (xs.take (k + 1))) by rw [ts.out, sv_append]; exact hown')
          have HB2 := Lib.hid (below_own HO1.out B1.out hgrow B1.out.size)
          clear hown' hgrow
          go_wp2
          go_roundw
          case rel => exact ⟨k + 1, by omega, HA2.out, by go_num, HO2.out, HB2.out⟩
          case measure => simp [intOf]; omega
      | false =>
        have HR := Lib.hid (show ltext xs = [] by rw [ltext, okL_no (xs := xs) (k := k) (by rw [lx.out]; exact hlt) (by rw [hx]; exact hv)]; rfl)
        have HV := Lib.hid (fun W => is_ofv (within_any x (-1000000000000) 1000000000000 W) (show _ = false from hv))
        clear hv hx
        go_wp2_with fail
        refine (HV.out _).mono ?_
        rintro e w1 ⟨rfl, rfl⟩
        go_wp2
        go_ret
        exact ⟨ret_str HR.out.symm, HB.out⟩
    · obtain rfl : k = n := by omega
      have HK := Lib.hid (okL_mk (xs := xs) (by rw [lx.out]; exact HA.out))
      have HR := Lib.hid (show ltext xs = jpre xs by
        rw [ltext, if_pos (by rw [HK.out, lx.out]; simpa using n64), ltxt, if_neg (by rw [lx.out]; omega)])
      have ho := HO.out
      rw [List.take_of_length_le (by rw [lx.out]; exact Nat.le_refl _)] at ho
      obtain ⟨g, c2, hv, hcap, hgl⟩ := ho.form np.out
      subst hv
      have jl := jpre_len xs (fun x hx => by
        obtain ⟨i, hi', rfl⟩ := List.getElem_of_mem hx
        have := HA.out i (by rw [← lx.out]; exact hi')
        rw [List.getD_eq_getElem?_getD, List.getElem?_eq_getElem hi'] at this
        exact itoa_short this)
      have J := Tryz.strings_Join g 0 c2 (xs.map fun x => (⟨(Lib.itoa x).toArray⟩ : ByteArray)) ⟨#[44]⟩ wr (fun j y hy => by
        rw [Nat.zero_add]
        have hj : j < k := by
          have := (List.getElem?_eq_some_iff.1 hy).1
          rw [List.length_map, lx.out] at this
          exact this
        refine (ho.cellAt j (by omega)).trans ?_
        rw [sv, List.getElem?_map]
        rw [List.getElem?_map] at hy
        cases hq : xs[j]? with
        | none => rw [hq] at hy; cases hy
        | some q => rw [hq] at hy; simp only [Option.map_some, Option.some.injEq] at hy ⊢; rw [← hy]) hgl (by rw [List.length_map, lx.out]; omega) (by rw [List.length_map, lx.out]; exact own_cap ho) (by
        show (Lib.join _ [44]).length ≤ _
        rw [join_sv]; rw [lx.out] at jl; omega)
      have e2 : Lib.join ((xs.map fun x => (⟨(Lib.itoa x).toArray⟩ : ByteArray)).map (·.data.toList)) (⟨#[44]⟩ : ByteArray).data.toList = jpre xs := join_sv xs
      rw [e2, List.length_map, lx.out] at J
      have JJ := Lib.hid J
      clear J e2 jl ho hgl
      go_wp2_with fail
      refine JJ.out.mono ?_
      rintro e w1 ⟨rfl, b1⟩
      have B1 := Lib.hid (HB.out.trans (b1.mono HB.out.size))
      clear b1
      go_wp2
      go_ret
      exact ⟨ret_str HR.out.symm, B1.out⟩
end Go.Proofs.YtfmbmgdemdbpaaaGreatDoor
