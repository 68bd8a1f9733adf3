/- Decimal numerals: the reference's writer, and that it is the library's. -/
import Derived.Test.YtemloifpcjphkaaDoorBasic
import Derived.Test.YtemloifpcjphkaaDoorWords
import Derived.Lib.ItoaLen
import Derived.Laws.BytesArg
import Derived.Laws.AppendOwn
namespace Go.Proofs.YtemloifpcjphkaaDoor
open Go.RowKit Go.Sort

/-- the digits of a number, the last one first -/
def rdg (a : Nat) : List UInt8 := if h : a = 0 then [] else UInt8.ofNat (48 + a % 10) :: rdg (a / 10)
termination_by a
decreasing_by omega
theorem rdg_zero : rdg 0 = [] := by rw [rdg, dif_pos rfl]
theorem rdg_pos {a : Nat} (h : 0 < a) : rdg a = UInt8.ofNat (48 + a % 10) :: rdg (a / 10) := by rw [rdg, dif_neg (by omega)]
theorem dec_rdg : ∀ a : Nat, 0 < a → Lib.decDigits a = (rdg a).reverse := fun a => by
  induction a using Nat.strongRecOn with
  | _ a ih =>
    intro h
    rw [rdg_pos h, List.reverse_cons, Lib.decDigits]
    by_cases h2 : a < 10
    · rw [dif_pos h2, show a / 10 = 0 by omega, rdg_zero, show a % 10 = a by omega]; rfl
    · rw [dif_neg h2, ih (a / 10) (by omega) (by omega)]
theorem rdg_len {a : Nat} (h : a < 18446744073709551616) : (rdg a).length ≤ 20 := by
  by_cases h0 : a = 0
  · subst h0; rw [rdg_zero]; simp
  · have h1 := Lib.decDigits_length a
    rw [dec_rdg a (by omega), List.length_reverse] at h1
    have := Lib.nDigits_le20 a h
    omega
/-- bytes as cells -/
def bv (l : List UInt8) : List Value := l.map (fun b => Value.int .u8 (b.toNat : Int))
theorem bv_append (a b : List UInt8) : bv (a ++ b) = bv a ++ bv b := by simp [bv]
theorem bv_len (l : List UInt8) : (bv l).length = l.length := by simp [bv]
theorem bv_at {l : List UInt8} {j : Nat} (h : j < l.length) : (bv l)[j]? = some (.int .u8 ((l.getD j 0).toNat : Int)) := by
  rw [bv, List.getElem?_map, List.getElem?_eq_getElem h, List.getD_eq_getElem?_getD, List.getElem?_eq_getElem h]; rfl
theorem own_form {w : World} {b : Nat} {e : TypeId} {size n : Nat} {v : Value} {xs : List Value} (h : w.ownsRow b e size v n xs) : ∃ A c, v = .slice A n c := by
  rcases h.2 with ⟨rfl, rfl⟩ | ⟨g, cap, cur, rfl, _⟩
  · exact ⟨_, _, rfl⟩
  · exact ⟨_, _, rfl⟩
theorem below_own {w wr w1 : World} {B : Nat} {e : TypeId} {size n : Nat} {v : Value} {xs : List Value} {o : Obj} (ho : wr.ownsRow B e size v n xs) (hb : Below B w wr) (hg : (wr.alloc o).grownBy w1 v.ownBlock) (hB : B ≤ wr.heap.size) : Below B w w1 :=
  (hb.alloc hB o).grown hg (by simp; omega) (fun k hk => (ho.lt k hk).1)
theorem own_below {w w' : World} {B : Nat} {e : TypeId} {size n : Nat} {v : Value} {xs : List Value} (h : w.ownsRow B e size v n xs) (hb : Below w.heap.size w w') : w'.ownsRow B e size v n xs := by
  refine ⟨h.1, ?_⟩
  rcases h.2 with h0 | ⟨g, cap, cur, hv, hbg, hh, h1, h2, h3, h4⟩
  · exact .inl h0
  · have hlt : g < w.heap.size := (Array.getElem?_eq_some_iff.1 hh).1
    exact .inr ⟨g, cap, cur, hv, hbg, (hb.block g hlt).trans hh, h1, h2, h3, h4⟩
theorem str_nums (l : List UInt8) : strOfNums (l.map fun b => (b.toNat : Int)) = ⟨l.toArray⟩ := by
  unfold strOfNums
  rw [List.map_map]
  have e : ((fun n : Int => UInt8.ofNat n.toNat) ∘ fun b : UInt8 => (b.toNat : Int)) = id := by
    funext b; simp
  rw [e, List.map_id]
theorem nums_at {l : List UInt8} {i : Nat} (h : i < l.length) : (l.map fun b => (b.toNat : Int)).getD i 0 = ((l.getD i 0).toNat : Int) := by
  rw [List.getD_eq_getElem?_getD, List.getD_eq_getElem?_getD, List.getElem?_map, List.getElem?_eq_getElem h]; rfl
/-- own bytes, as a string -/
theorem conv_own {w : World} {B g n c : Nat} {l : List UInt8} (h : w.ownsRow B 5 1 (.slice (some ⟨g, 0, none⟩) n c) n (bv l)) : (convert 61 9 (.slice (some ⟨g, 0, none⟩) n c)).run Tryd.prog w = .ok (.string ⟨l.toArray⟩) w := by
  have hl : l.length = n := by have := h.1; rw [bv_len] at this; omega
  have hc : ∀ i, i < n → w.cell? ⟨g, 0 + i, none⟩ = some (.int .u8 ((l.map fun b => (b.toNat : Int)).getD i 0)) := fun i hi => by
    rw [Nat.zero_add, h.cellAt i (by omega), bv_at (by omega), nums_at (by omega)]
  exact (run_convert_bytes_arg (P := Tryd.prog) w 61 5 Tryd.underlying61 Tryd.underlying5 g 0 n c (l.map fun b => (b.toNat : Int)) (by rw [List.length_map]; exact hl) hc 9 Tryd.underlying9).trans (by rw [str_nums])
theorem infoB : (Tryd.prog.info? 5).map (fun i => (i.zero, i.size, i.bytes)) = some (some (.int .u8 0), 1, 1) := by kernel_rfl

set_option maxRecDepth 100000 in
set_option maxHeartbeats 400000 in
theorem l01Dec_any (n : Int) (w : World) (n0 : -9223372036854775808 ≤ n) (n1 : n ≤ 9223372036854775807) :
    Calls Tryd.prog 62 #[.int .i64 n] w fun e w' => e = .returned (.string ⟨(Lib.itoa n).toArray⟩) ∧ Below w.heap.size w w' := by
  by_cases hz : n = 0
  · subst hz
    have hr := Lib.hid (show Lib.itoa 0 = [48] by unfold Lib.itoa; rw [if_neg (by decide)]; exact Lib.decDigits_one (by decide))
    have hz1 : ((0 : Int) == 0) = true := rfl
    clear n0 n1
    go_enter Tryd.func62, Tryd.ntmps62
    go_wp2
    go_ret
    exact ⟨by rw [hr.out]; rfl, Below.refl _ _⟩
  have hz1 : (n == 0) = false := by simpa using hz
  obtain ⟨i0, hi, hz0, hz1', hz2⟩ := info_parts infoB
  have h0 := Lib.hid (World.ownsRow_lit (base := w.heap.size) (e := 5) (size := 1) w #[] 0 (Nat.le_refl _) (by simp [maxLen]) rfl)
  have NL := Lib.hid (rdg_len (a := n.natAbs) (by omega))
  have NB := Lib.hid (show n.natAbs ≤ 9223372036854775808 by omega)
  have N0 := Lib.hid n0
  have N1 := Lib.hid n1
  clear n0 n1
  go_enter Tryd.func62, Tryd.ntmps62
  go_wp2_with fail
  go_loopw [3, 4] (fun v m wr => ∃ (M : Int) (ds : List UInt8), ds ++ rdg M.natAbs = rdg n.natAbs ∧ (0 < n → 0 ≤ M) ∧ (n < 0 → M ≤ 0) ∧ M.natAbs ≤ n.natAbs ∧ m = .int .i64 M ∧ wr.ownsRow w.heap.size 5 1 v ds.length (bv ds) ∧ Below w.heap.size w wr) (fun _ m _ => (intOf m).natAbs)
  case atStart => exact ⟨n, [], rfl, by omega, by omega, Nat.le_refl _, rfl, by simpa [bv] using h0.out, (Below.refl _ _).alloc (Nat.le_refl _) _⟩
  case round =>
    obtain ⟨M, ds, hd, s1, s2, s3, rfl, ho, hb⟩ := hrel
    have HD := Lib.hid hd
    have HO := Lib.hid ho
    have HB := Lib.hid hb
    have SS := Lib.hid (And.intro s1 (And.intro s2 s3))
    clear hd ho hb s1 s2 s3
    by_cases hm : M = 0
    · subst hm
      have hds := Lib.hid (show ds = rdg n.natAbs by have := HD.out; rwa [show Int.natAbs 0 = 0 from rfl, rdg_zero, List.append_nil] at this)
      have hpos := Lib.hid (show 0 < ds.length by rw [hds.out, rdg_pos (by omega)]; simp)
      have hle := Lib.hid (show ds.length ≤ 20 by rw [hds.out]; exact NL.out)
      by_cases neg : n < 0
      · have hres := Lib.hid (show (ds ++ [45]).reverse = Lib.itoa n by unfold Lib.itoa; rw [if_pos neg, dec_rdg _ (by omega), hds.out]; simp)
        go_wp2_with (at_builtin; refine wpList_append_own _ rfl _ _ 61 rfl w.heap.size 5 i0 (.int .u8 0) 1 1 Tryd.underlying61 hi hz0 hz1' hz2 rfl (by decide) _ _ _ rfl (HO.out.alloc _) ⟨wr.heap.size, 0, none⟩ 1 1 [.int .u8 45] rfl rfl ?c1 ?c2 ?c3 ?c4 ?c5 ?_)
        case c1 => exact cell_one_new _ _ _
        case c2 => intro u hu; simp at hu; subst hu; rfl
        case c3 => have := hle.out; unfold maxLen; omega
        case c4 => have := hle.out; omega
        case c5 => have := HB.out.size; simp; omega
        · intro v' W1 hown' hgrow _
          have HO1 := Lib.hid (show W1.ownsRow w.heap.size 5 1 v' (ds ++ [45]).length (bv (ds ++ [45])) by rw [List.length_append, bv_append]; exact hown')
          have HBW := Lib.hid (below_own HO.out HB.out hgrow HB.out.size)
          have HLE := Lib.hid (show 1 ≤ (ds ++ [45]).length ∧ (ds ++ [45]).length ≤ 30 by have := hle.out; simp; omega)
          clear hown' hgrow
          obtain ⟨D, hD⟩ : ∃ D, ds ++ [45] = D := ⟨_, rfl⟩
          rw [hD] at HO1 HLE hres
          clear hD
          have dl := HO1.out.1
          rw [bv_len] at dl
          obtain ⟨g, c, hv, _, hgl⟩ := HO1.out.form (by have := HLE.out; omega)
          subst hv
          obtain ⟨L, hL⟩ : ∃ L, (D).length = L := ⟨_, rfl⟩
          have HL := Lib.hid hL
          have OD := Lib.hid (show W1.ownsRow w.heap.size 5 1 (.slice (some ⟨g, 0, none⟩) L c) L (bv (D)) by rw [← hL]; exact HO1.out)
          have L30 : L ≤ 30 := by have := HLE.out; omega
          have L1 : 1 ≤ L := by have := HLE.out; omega
          have GL := Lib.hid hgl
          rw [hL]
          have h2 := Lib.hid (World.ownsRow_lit (base := W1.heap.size) (e := 5) (size := 1) W1 #[] 0 (Nat.le_refl _) (by simp [maxLen]) rfl)
          clear dl hgl hL
          go_wp2_with fail
          go_loopw [6, 7] (fun v y wr => ∃ k : Nat, k ≤ L ∧ y = .int .i64 ((k : Int) - 1) ∧ wr.ownsRow W1.heap.size 5 1 v (L - k) (bv ((D).reverse.take (L - k))) ∧ Below W1.heap.size W1 wr) (fun _ y _ => (intOf y + 1).toNat)
          case atStart => exact ⟨L, Nat.le_refl _, rfl, by simpa [bv] using h2.out, (Below.refl _ _).alloc (Nat.le_refl _) _⟩
          case round =>
            obtain ⟨k, hk, rfl, ho, hb⟩ := hrel
            have HO2 := Lib.hid ho
            have HB2 := Lib.hid hb
            clear ho hb
            by_cases hk0 : k = 0
            · subst hk0
              have ho := HO2.out
              rw [Nat.sub_zero, List.take_of_length_le (by rw [List.length_reverse, HL.out]; exact Nat.le_refl _)] at ho
              obtain ⟨g2, c2, hv2, _, _⟩ := ho.form (by omega)
              subst hv2
              have hcv := conv_own ho
              have HR := Lib.hid hres.out
              have HB3 := Lib.hid (HBW.out.trans (HB2.out.mono HBW.out.size))
              clear ho
              go_wp2
              go_ret
              exact ⟨by rw [HR.out]; rfl, HB3.out⟩
            · obtain ⟨j, rfl⟩ : ∃ j, k = j + 1 := ⟨k - 1, by omega⟩
              rw [show ((j + 1 : Nat) : Int) - 1 = (j : Int) by omega]
              have hc : wr.cell? ⟨g, j, none⟩ = some (.int .u8 ((((D).getD j 0).toNat : Nat) : Int)) := (HB2.out.cell (p := ⟨g, j, none⟩) GL.out).trans ((OD.out.cellAt j (by omega)).trans (bv_at (by rw [HL.out]; omega)))
              obtain ⟨b, hb8⟩ : ∃ b : UInt8, (D).getD j 0 = b := ⟨_, rfl⟩
              rw [hb8] at hc
              have st := Lib.hid (show bv ((D).reverse.take (L - j)) = bv ((D).reverse.take (L - (j + 1))) ++ [.int .u8 (b.toNat : Int)] by
                have e1 : L - j = (L - (j + 1)) + 1 := by omega
                have hlt : L - (j + 1) < (D).reverse.length := by rw [List.length_reverse, HL.out]; omega
                rw [e1, List.take_add_one, bv_append]
                congr 1
                rw [List.getElem?_eq_getElem hlt, List.getElem_reverse, ← hb8]
                have e2 : (D).length - 1 - (L - (j + 1)) = j := by rw [HL.out]; omega
                simp only [e2]
                rw [List.getD_eq_getElem?_getD, List.getElem?_eq_getElem (by rw [HL.out]; omega)]
                rfl)
              have gj : (0 : Int) ≤ (j : Int) := by omega
              have gj2 : (j : Int) < (L : Int) := by omega
              clear hk0 hb8
              go_wp2_with (at_builtin; refine wpList_append_own _ rfl _ _ 61 rfl W1.heap.size 5 i0 (.int .u8 0) 1 1 Tryd.underlying61 hi hz0 hz1' hz2 rfl (by decide) _ _ _ rfl (HO2.out.alloc _) ⟨wr.heap.size, 0, none⟩ 1 1 [.int .u8 (b.toNat : Int)] rfl rfl ?c1 ?c2 ?c3 ?c4 ?c5 ?_)
              case c1 => exact cell_one_new _ _ _
              case c2 => intro u hu; simp at hu; subst hu; rfl
              case c3 => unfold maxLen; omega
              case c4 => omega
              case c5 => have := HB2.out.size; simp; omega
              · intro v' w4 hown' hgrow _
                have HO4 := Lib.hid hown'
                have HG4 := Lib.hid (below_own HO2.out HB2.out hgrow HB2.out.size)
                clear hown' hgrow
                go_wp2
                go_roundw
                case rel => exact ⟨j, by omega, rfl, by rw [st.out, show L - j = L - (j + 1) + 1 by omega]; exact HO4.out, HG4.out⟩
                case measure => simp [intOf]
      · have hres := Lib.hid (show ds.reverse = Lib.itoa n by unfold Lib.itoa; rw [if_neg neg, dec_rdg _ (by omega), hds.out, show n.toNat = n.natAbs by omega])
        obtain ⟨W1, hW1⟩ : ∃ W1 : World, W1 = wr := ⟨_, rfl⟩
        have HO1 := Lib.hid (show W1.ownsRow w.heap.size 5 1 _ ds.length (bv ds) by rw [hW1]; exact HO.out)
        have HBW := Lib.hid (show Below w.heap.size w W1 by rw [hW1]; exact HB.out)
        have HLE := Lib.hid (show 1 ≤ ds.length ∧ ds.length ≤ 30 by have := hle.out; have := hpos.out; omega)
        rw [← hW1]
        clear hW1 HO HB
        have dl := HO1.out.1
        rw [bv_len] at dl
        obtain ⟨g, c, hv, _, hgl⟩ := HO1.out.form (by have := HLE.out; omega)
        subst hv
        obtain ⟨L, hL⟩ : ∃ L, (ds).length = L := ⟨_, rfl⟩
        have HL := Lib.hid hL
        have OD := Lib.hid (show W1.ownsRow w.heap.size 5 1 (.slice (some ⟨g, 0, none⟩) L c) L (bv (ds)) by rw [← hL]; exact HO1.out)
        have L30 : L ≤ 30 := by have := HLE.out; omega
        have L1 : 1 ≤ L := by have := HLE.out; omega
        have GL := Lib.hid hgl
        rw [hL]
        have h2 := Lib.hid (World.ownsRow_lit (base := W1.heap.size) (e := 5) (size := 1) W1 #[] 0 (Nat.le_refl _) (by simp [maxLen]) rfl)
        clear dl hgl hL
        go_wp2_with fail
        go_loopw [6, 7] (fun v y wr => ∃ k : Nat, k ≤ L ∧ y = .int .i64 ((k : Int) - 1) ∧ wr.ownsRow W1.heap.size 5 1 v (L - k) (bv ((ds).reverse.take (L - k))) ∧ Below W1.heap.size W1 wr) (fun _ y _ => (intOf y + 1).toNat)
        case atStart => exact ⟨L, Nat.le_refl _, rfl, by simpa [bv] using h2.out, (Below.refl _ _).alloc (Nat.le_refl _) _⟩
        case round =>
          obtain ⟨k, hk, rfl, ho, hb⟩ := hrel
          have HO2 := Lib.hid ho
          have HB2 := Lib.hid hb
          clear ho hb
          by_cases hk0 : k = 0
          · subst hk0
            have ho := HO2.out
            rw [Nat.sub_zero, List.take_of_length_le (by rw [List.length_reverse, HL.out]; exact Nat.le_refl _)] at ho
            obtain ⟨g2, c2, hv2, _, _⟩ := ho.form (by omega)
            subst hv2
            have hcv := conv_own ho
            have HR := Lib.hid hres.out
            have HB3 := Lib.hid (HBW.out.trans (HB2.out.mono HBW.out.size))
            clear ho
            go_wp2
            go_ret
            exact ⟨by rw [HR.out]; rfl, HB3.out⟩
          · obtain ⟨j, rfl⟩ : ∃ j, k = j + 1 := ⟨k - 1, by omega⟩
            rw [show ((j + 1 : Nat) : Int) - 1 = (j : Int) by omega]
            have hc : wr.cell? ⟨g, j, none⟩ = some (.int .u8 ((((ds).getD j 0).toNat : Nat) : Int)) := (HB2.out.cell (p := ⟨g, j, none⟩) GL.out).trans ((OD.out.cellAt j (by omega)).trans (bv_at (by rw [HL.out]; omega)))
            obtain ⟨b, hb8⟩ : ∃ b : UInt8, (ds).getD j 0 = b := ⟨_, rfl⟩
            rw [hb8] at hc
            have st := Lib.hid (show bv ((ds).reverse.take (L - j)) = bv ((ds).reverse.take (L - (j + 1))) ++ [.int .u8 (b.toNat : Int)] by
              have e1 : L - j = (L - (j + 1)) + 1 := by omega
              have hlt : L - (j + 1) < (ds).reverse.length := by rw [List.length_reverse, HL.out]; omega
              rw [e1, List.take_add_one, bv_append]
              congr 1
              rw [List.getElem?_eq_getElem hlt, List.getElem_reverse, ← hb8]
              have e2 : (ds).length - 1 - (L - (j + 1)) = j := by rw [HL.out]; omega
              simp only [e2]
              rw [List.getD_eq_getElem?_getD, List.getElem?_eq_getElem (by rw [HL.out]; omega)]
              rfl)
            have gj : (0 : Int) ≤ (j : Int) := by omega
            have gj2 : (j : Int) < (L : Int) := by omega
            clear hk0 hb8
            go_wp2_with (at_builtin; refine wpList_append_own _ rfl _ _ 61 rfl W1.heap.size 5 i0 (.int .u8 0) 1 1 Tryd.underlying61 hi hz0 hz1' hz2 rfl (by decide) _ _ _ rfl (HO2.out.alloc _) ⟨wr.heap.size, 0, none⟩ 1 1 [.int .u8 (b.toNat : Int)] rfl rfl ?c1 ?c2 ?c3 ?c4 ?c5 ?_)
            case c1 => exact cell_one_new _ _ _
            case c2 => intro u hu; simp at hu; subst hu; rfl
            case c3 => unfold maxLen; omega
            case c4 => omega
            case c5 => have := HB2.out.size; simp; omega
            · intro v' w4 hown' hgrow _
              have HO4 := Lib.hid hown'
              have HG4 := Lib.hid (below_own HO2.out HB2.out hgrow HB2.out.size)
              clear hown' hgrow
              go_wp2
              go_roundw
              case rel => exact ⟨j, by omega, rfl, by rw [st.out, show L - j = L - (j + 1) + 1 by omega]; exact HO4.out, HG4.out⟩
              case measure => simp [intOf]
    · have hm1 : (M != 0) = true := by simpa using hm
      by_cases hp : 0 < M
      · obtain ⟨m, rfl⟩ : ∃ m : Nat, M = m := ⟨M.toNat, by omega⟩
        have hm0 : 0 < m := by omega
        have mm : (m : Int).tmod 10 = ((m % 10 : Nat) : Int) := by exact (Int.ofNat_tmod m 10).symm
        have mq : (m : Int).tdiv 10 = ((m / 10 : Nat) : Int) := by exact (Int.ofNat_tdiv m 10).symm
        have mb : m ≤ 9223372036854775808 := by have := SS.out.2.2; have := NB.out; omega
        obtain ⟨r, hr⟩ : ∃ r, m % 10 = r := ⟨_, rfl⟩
        obtain ⟨s, hs⟩ : ∃ s, m / 10 = s := ⟨_, rfl⟩
        have r9 : r ≤ 9 := by omega
        have sb : s ≤ 922337203685477580 := by omega
        have st := Lib.hid (show ds ++ [UInt8.ofNat (48 + r)] ++ rdg s = rdg n.natAbs by
          have := HD.out
          rw [show Int.natAbs ((m : Int)) = m by omega, rdg_pos hm0, hr, hs] at this
          simpa using this)
        have HLE := Lib.hid (show ds.length ≤ 20 by have h1 := congrArg List.length st.out; simp at h1; have := NL.out; omega)
        have S3 := Lib.hid (show (0 < n → 0 ≤ (s : Int)) ∧ (n < 0 → (s : Int) ≤ 0) ∧ ((s : Int)).natAbs ≤ n.natAbs by have := SS.out; omega)
        have bt := Lib.hid (show ((UInt8.ofNat (48 + r)).toNat : Int) = 48 + r by rw [UInt8.toNat_ofNat']; omega)
        rw [hr] at mm
        rw [hs] at mq
        have wb : IntKind.u8.wrap (48 + (r : Int)) = 48 + (r : Int) := by rw [IntKind.wrap_u8]; omega
        have MB := Lib.hid mb
        have SB := Lib.hid sb
        have hm0 := Lib.hid hm0
        have hms := Lib.hid (show s < m by omega)
        clear hm hp hr hs mb sb hz hz1
        go_wp2_with (at_builtin; refine wpList_append_own _ rfl _ _ 61 rfl w.heap.size 5 i0 (.int .u8 0) 1 1 Tryd.underlying61 hi hz0 hz1' hz2 rfl (by decide) _ _ _ rfl (HO.out.alloc _) ⟨wr.heap.size, 0, none⟩ 1 1 [.int .u8 (48 + (r : Int))] rfl rfl ?c1 ?c2 ?c3 ?c4 ?c5 ?_)
        case c1 => exact cell_one_new _ _ _
        case c2 => intro u hu; simp at hu; subst hu; rfl
        case c3 => have := HLE.out; unfold maxLen; omega
        case c4 => have := HLE.out; omega
        case c5 => have := HB.out.size; simp; omega
        · intro v' W1 hown' hgrow _
          have HO1 := Lib.hid (show W1.ownsRow w.heap.size 5 1 v' (ds ++ [UInt8.ofNat (48 + r)]).length (bv (ds ++ [UInt8.ofNat (48 + r)])) by
            rw [List.length_append, bv_append]
            have e : bv [UInt8.ofNat (48 + r)] = [.int .u8 (48 + (r : Int))] := by have := bt.out; simp only [bv, List.map_cons, List.map_nil, this]
            rw [e]; exact hown')
          have HBW := Lib.hid (below_own HO.out HB.out hgrow HB.out.size)
          clear hown' hgrow
          go_wp2
          go_roundw
          case rel =>
            have ws : Go.RowKit.wrap64 (s : Int) = (s : Int) := by have := SB.out; exact IntWalk.wrap64_in _ (by omega)
            exact ⟨(s : Int), ds ++ [UInt8.ofNat (48 + r)], by rw [← st.out]; simp, S3.out.1, S3.out.2.1, S3.out.2.2, by rw [ws], HO1.out, HBW.out⟩
          case measure =>
            have ws : Go.RowKit.wrap64 (s : Int) = (s : Int) := by have := SB.out; exact IntWalk.wrap64_in _ (by omega)
            rw [ws]
            show ((s : Int)).natAbs < ((m : Int)).natAbs
            have := hms.out; omega
      · obtain ⟨m, rfl⟩ : ∃ m : Nat, M = -(m : Int) := ⟨M.natAbs, by omega⟩
        have hm0 : 0 < m := by omega
        have mm : (-(m : Int)).tmod 10 = -((m % 10 : Nat) : Int) := by rw [Int.neg_tmod]; exact congrArg Neg.neg (Int.ofNat_tmod m 10).symm
        have mq : (-(m : Int)).tdiv 10 = -((m / 10 : Nat) : Int) := by rw [Int.neg_tdiv]; exact congrArg Neg.neg (Int.ofNat_tdiv m 10).symm
        have mb : m ≤ 9223372036854775808 := by have := SS.out.2.2; have := NB.out; omega
        obtain ⟨r, hr⟩ : ∃ r, m % 10 = r := ⟨_, rfl⟩
        obtain ⟨s, hs⟩ : ∃ s, m / 10 = s := ⟨_, rfl⟩
        have r9 : r ≤ 9 := by omega
        have sb : s ≤ 922337203685477580 := by omega
        have st := Lib.hid (show ds ++ [UInt8.ofNat (48 + r)] ++ rdg s = rdg n.natAbs by
          have := HD.out
          rw [show Int.natAbs (-(m : Int)) = m by omega, rdg_pos hm0, hr, hs] at this
          simpa using this)
        have HLE := Lib.hid (show ds.length ≤ 20 by have h1 := congrArg List.length st.out; simp at h1; have := NL.out; omega)
        have S3 := Lib.hid (show (0 < n → 0 ≤ -(s : Int)) ∧ (n < 0 → -(s : Int) ≤ 0) ∧ (-(s : Int)).natAbs ≤ n.natAbs by have := SS.out; omega)
        have bt := Lib.hid (show ((UInt8.ofNat (48 + r)).toNat : Int) = 48 + r by rw [UInt8.toNat_ofNat']; omega)
        rw [hr] at mm
        rw [hs] at mq
        have wb : IntKind.u8.wrap (48 + (r : Int)) = 48 + (r : Int) := by rw [IntKind.wrap_u8]; omega
        have MB := Lib.hid mb
        have SB := Lib.hid sb
        have hm0 := Lib.hid hm0
        have hms := Lib.hid (show s < m by omega)
        clear hm hp hr hs mb sb hz hz1
        by_cases r0 : r = 0
        · subst r0
          go_wp2_with (at_builtin; refine wpList_append_own _ rfl _ _ 61 rfl w.heap.size 5 i0 (.int .u8 0) 1 1 Tryd.underlying61 hi hz0 hz1' hz2 rfl (by decide) _ _ _ rfl (HO.out.alloc _) ⟨wr.heap.size, 0, none⟩ 1 1 [.int .u8 48] rfl rfl ?c1 ?c2 ?c3 ?c4 ?c5 ?_)
          case c1 => exact cell_one_new _ _ _
          case c2 => intro u hu; simp at hu; subst hu; rfl
          case c3 => have := HLE.out; unfold maxLen; omega
          case c4 => have := HLE.out; omega
          case c5 => have := HB.out.size; simp; omega
          · intro v' W1 hown' hgrow _
            have HO1 := Lib.hid (show W1.ownsRow w.heap.size 5 1 v' (ds ++ [UInt8.ofNat (48 + 0)]).length (bv (ds ++ [UInt8.ofNat (48 + 0)])) by
              rw [List.length_append, bv_append]
              have e : bv [UInt8.ofNat (48 + 0)] = [.int .u8 48] := by have := bt.out; simp only [bv, List.map_cons, List.map_nil, this]; rfl
              rw [e]; exact hown')
            have HBW := Lib.hid (below_own HO.out HB.out hgrow HB.out.size)
            clear hown' hgrow
            go_wp2
            go_roundw
            case rel =>
              have ws : Go.RowKit.wrap64 (-(s : Int)) = (-(s : Int)) := by have := SB.out; exact IntWalk.wrap64_in _ (by omega)
              exact ⟨(-(s : Int)), ds ++ [UInt8.ofNat (48 + 0)], by rw [← st.out]; simp, S3.out.1, S3.out.2.1, S3.out.2.2, by rw [ws], HO1.out, HBW.out⟩
            case measure =>
              have ws : Go.RowKit.wrap64 (-(s : Int)) = (-(s : Int)) := by have := SB.out; exact IntWalk.wrap64_in _ (by omega)
              rw [ws]
              show ((-(s : Int))).natAbs < ((-(m : Int))).natAbs
              have := hms.out; omega
        · have rp : (-(r : Int)) < 0 := by omega
          clear r0
          go_wp2_with (at_builtin; refine wpList_append_own _ rfl _ _ 61 rfl w.heap.size 5 i0 (.int .u8 0) 1 1 Tryd.underlying61 hi hz0 hz1' hz2 rfl (by decide) _ _ _ rfl (HO.out.alloc _) ⟨wr.heap.size, 0, none⟩ 1 1 [.int .u8 (48 + (r : Int))] rfl rfl ?c1 ?c2 ?c3 ?c4 ?c5 ?_)
          case c1 => exact cell_one_new _ _ _
          case c2 => intro u hu; simp at hu; subst hu; rfl
          case c3 => have := HLE.out; unfold maxLen; omega
          case c4 => have := HLE.out; omega
          case c5 => have := HB.out.size; simp; omega
          · intro v' W1 hown' hgrow _
            have HO1 := Lib.hid (show W1.ownsRow w.heap.size 5 1 v' (ds ++ [UInt8.ofNat (48 + r)]).length (bv (ds ++ [UInt8.ofNat (48 + r)])) by
              rw [List.length_append, bv_append]
              have e : bv [UInt8.ofNat (48 + r)] = [.int .u8 (48 + (r : Int))] := by have := bt.out; simp only [bv, List.map_cons, List.map_nil, this]
              rw [e]; exact hown')
            have HBW := Lib.hid (below_own HO.out HB.out hgrow HB.out.size)
            clear hown' hgrow
            go_wp2
            go_roundw
            case rel =>
              have ws : Go.RowKit.wrap64 (-(s : Int)) = (-(s : Int)) := by have := SB.out; exact IntWalk.wrap64_in _ (by omega)
              exact ⟨(-(s : Int)), ds ++ [UInt8.ofNat (48 + r)], by rw [← st.out]; simp, S3.out.1, S3.out.2.1, S3.out.2.2, by rw [ws], HO1.out, HBW.out⟩
            case measure =>
              have ws : Go.RowKit.wrap64 (-(s : Int)) = (-(s : Int)) := by have := SB.out; exact IntWalk.wrap64_in _ (by omega)
              rw [ws]
              show ((-(s : Int))).natAbs < ((-(m : Int))).natAbs
              have := hms.out; omega
end Go.Proofs.YtemloifpcjphkaaDoor
