/- A grid's own copy, as the reference makes it; the next row of a grid that is being made. -/
import Derived.Test.YtfnlnkfihldoeaaOG
import Derived.Test.YtfnlnkfihldoeaaMat
namespace Go.Proofs.Ytfnlnkfihldoeaa
open Go.RowKit Go.Sort

/-- one row more, appended -/
theorem OG.push {B : Nat} {w0 w1 w2 : World} {v v' line : Value} {k : Nat} {R : Nat → List Int} {H : Nat → Value} {r : List Int} {o : Obj} (h : OG B w0.heap.size w0 v k R H) (hB : B ≤ w0.heap.size) (hb : Below w0.heap.size w0 w1)
    (hl : w1.ownsRow w0.heap.size 2 1 line r.length (iv r)) (ho : w2.ownsRow B 53 1 v' (k + 1) ((List.range k).map H ++ [line])) (hg : (w1.alloc o).grownBy w2 v.ownBlock) :
    OG B w2.heap.size w2 v' (k + 1) (fun i => if i = k then r else R i) (fun i => if i = k then line else H i) := by
  have hv := (own_below h.heads hb).alloc o
  have kp : ∀ {n : Nat} {x : Value} {xs : List Value}, (w1.alloc o).ownsRow B 2 1 x n xs → w2.ownsRow B 2 1 x n xs := fun hx => by
    refine hx.kept hg ?_
    cases e : Value.ownBlock _ with
    | none => exact .inl rfl
    | some g => exact .inr (fun e2 => own_apart hx hv (by decide) g e e2.symm)
  have hrow : ∀ i, i < k + 1 → w2.ownsRow B 2 1 ((fun i => if i = k then line else H i) i) ((fun i => if i = k then r else R i) i).length (iv ((fun i => if i = k then r else R i) i)) := fun i hi => by
    by_cases e : i = k
    · simp only [if_pos e]; exact kp ((own_base hl hB).alloc o)
    · simp only [if_neg e]; exact kp ((own_below (h.row i (by omega)) hb).alloc o)
  refine ⟨?_, hrow, fun i j g hij hj hgi => ?_, fun g hgv => (ho.lt g hgv).2, fun i g hi hgi => ((hrow i hi).lt g hgi).2⟩
  · rw [List.range_succ, List.map_append]
    have : (List.range k).map (fun i => if i = k then line else H i) = (List.range k).map H := List.map_congr_left fun i hi => by rw [if_neg (by have := List.mem_range.1 hi; omega)]
    rw [this]; simpa using ho
  · have e1 : i ≠ k := by omega
    simp only [if_neg e1] at hgi
    by_cases e2 : j = k
    · simp only [if_pos e2]
      intro e3
      have h1 := h.tops i g (by omega) hgi
      have h2 := (hl.lt g e3).1
      omega
    · simp only [if_neg e2]
      exact h.apart i j g hij (by omega) hgi

theorem below_own2 {w wr w1 w2 : World} {B T n : Nat} {v : Value} {R : Nat → List Int} {H : Nat → Value} {o : Obj} (h : OG B T wr v n R H) (hb : Below B w wr) (h1 : Below wr.heap.size wr w1) (hg : (w1.alloc o).grownBy w2 v.ownBlock) (hB : B ≤ wr.heap.size) : Below B w w2 :=
  (((hb.trans (h1.mono hB)).alloc (Nat.le_trans hB h1.size) o)).grown hg (by simp; have := h1.size; omega) (fun k hk => (h.heads.lt k hk).1)

/-- a number of a row is written over -/
theorem OG.store {B T : Nat} {w : World} {v : Value} {n i x g m c : Nat} {R : Nat → List Int} {H : Nat → Value} (h : OG B T w v n R H) (hi : i < n) (hH : H i = .slice (some ⟨g, 0, none⟩) m c) (z : Int) :
    OG B T (w.setCell ⟨g, x, none⟩ (.int .i64 z)) v n (fun j => if j = i then (R i).set x z else R j) H := by
  have hr := h.row i hi
  have hm : m = (R i).length := by
    rw [hH] at hr
    obtain ⟨A, c', e⟩ := own_form hr
    injection e
  rw [hH, hm] at hr
  have st := hr.stored x (.int .i64 z)
  refine h.rowSet hi ?_ ?_
  · rw [hH, hm, List.length_set]
    have := st.1
    rwa [show (iv (R i)).set x (.int .i64 z) = iv ((R i).set x z) by simp [iv, List.map_set]] at this
  · rw [hH]; exact st.2

theorem l00Own_any (ad : Addr) (n c b : Nat) (xs : List Int) (w : World) (hx : Reads w b 1 (some ad) n (iv xs)) (hb0 : b ≤ w.heap.size) (hn : n ≤ 1048576) (hp : 0 < n) :
    Calls Try.prog 74 #[.slice (some ad) n c] w fun e w' => ∃ v, e = .returned v ∧ w'.ownsRow w.heap.size 2 1 v n (iv xs) ∧ Below w.heap.size w w' := by
  obtain ⟨i0, hi, hz0, hz1, hz2⟩ := info_parts infoI
  obtain ⟨ad', e, hbl, hcell⟩ := hx.2 hp
  injection e with e
  subst e
  have lx := hx.1
  have h0 := Lib.hid (World.ownsRow_lit (base := w.heap.size) (e := 2) (size := 1) w #[] 0 (Nat.le_refl _) (by simp [maxLen]) rfl)
  have HC := Lib.hid hcell
  clear hx hcell
  go_enter Try.func74, Try.ntmps74
  go_wp2_with (at_builtin; refine wpList_append_own _ rfl _ _ 53 rfl w.heap.size 2 i0 (.int .i64 0) 1 8 Try.underlying53 hi hz0 hz1 hz2 rfl (by decide) _ _ _ rfl h0.out ad n c (iv xs) rfl ?c0 ?c1 ?c2 ?c3 ?c4 ?c5 ?_)
  case c1 => exact fun j u hu => (World.cell?_alloc_lt w _ _ (by rw [block_of_add]; omega)).trans (HC.out j u hu)
  case c2 => intro u hu; simp [iv] at hu; obtain ⟨z, _, rfl⟩ := hu; rfl
  case c3 => unfold maxLen; omega
  case c4 => omega
  · intro v' w1 hown' hgrow _
    have HO := Lib.hid hown'
    have HG := Lib.hid (((Below.refl w.heap.size w).alloc (Nat.le_refl _) _).grown hgrow (by simp) (fun k hk => by simp [Value.ownBlock] at hk; omega))
    clear hown' hgrow
    go_wp2
    go_ret
    exact ⟨_, rfl, by simpa using HO.out, HG.out⟩

set_option maxHeartbeats 1600000 in
theorem l07Own_any (A : Option Addr) (n c b : Nat) (Z : List (List Int)) (w : World) (hg : Grid w b A n Z) (hb0 : b ≤ w.heap.size) (hn : n ≤ 1048576) (hm : ∀ i, i < n → 0 < (rowZ Z i).length ∧ (rowZ Z i).length ≤ 1048576) :
    Calls Try.prog 63 #[.slice A n c] w fun e w' => ∃ v H, e = .returned v ∧ OG w.heap.size w'.heap.size w' v n (rowZ Z) H ∧ Below w.heap.size w w' := by
  obtain ⟨i0, hi, hz0, hz1, hz2⟩ := info_parts infoR
  have h0 := Lib.hid (World.ownsRow_lit (base := w.heap.size) (e := 53) (size := 1) w #[] 0 (Nat.le_refl _) (by simp [maxLen]) rfl)
  have HG := Lib.hid hg
  have HM := Lib.hid hm
  clear hg hm
  go_enter Try.func63, Try.ntmps63
  go_wp2_with fail
  go_loopw [3, 4] (fun v i wr => ∃ (k : Nat) (H : Nat → Value), k ≤ n ∧ i = .int .i64 k ∧ OG w.heap.size wr.heap.size wr v k (rowZ Z) H ∧ Below w.heap.size w wr) (fun _ i _ => n - (intOf i).toNat)
  case atStart => exact ⟨0, fun _ => .bool false, Nat.zero_le _, rfl, ⟨by simpa using h0.out, fun i hi => by omega, fun i j g _ hj => by omega, fun g hg => (h0.out.lt g hg).2, fun i g hi => by omega⟩, (Below.refl _ _).alloc (Nat.le_refl _) _⟩
  case round =>
    obtain ⟨k, H, hk, rfl, ho, hb⟩ := hrel
    have HR := Lib.hid ho
    have HB := Lib.hid hb
    clear ho hb
    by_cases hlt : k < n
    · obtain ⟨ad, rfl, hbl⟩ := HG.out.addr (by omega)
      obtain ⟨Ak, ck, g1w, g2, g3⟩ := HG.out.row ad rfl k hlt
      obtain ⟨ak, rfl, _, _⟩ := g2.2 (HM.out k hlt).1
      have g1 : wr.cell? (ad.add k) = some (.slice (some ak) (rowZ Z k).length ck) := (HB.out.cell (by rw [block_of_add]; omega)).trans g1w
      have G2 := Lib.hid (g2.below (HB.out.mono hb0))
      have hm := HM.out k hlt
      obtain ⟨L, hL⟩ : ∃ L, (rowZ Z k).length = L := ⟨_, rfl⟩
      have HL := Lib.hid hL
      rw [hL] at g1 hm
      clear g1w g2 g3 hL
      have G3 := Lib.hid (show Reads wr b 1 (some ak) L (iv (rowZ Z k)) by rw [← HL.out]; exact G2.out)
      go_wp2_with fail
      refine (l00Own_any ak L ck b (rowZ Z k) wr G3.out (Nat.le_trans hb0 HB.out.size) hm.2 hm.1).mono ?_
      rintro e w1 ⟨line, rfl, o1, b1⟩
      obtain ⟨Al, cl, rfl⟩ := own_form o1
      have O1 := Lib.hid o1
      have B1 := Lib.hid b1
      clear o1 b1
      go_wp2_with (at_builtin; refine wpList_append_own _ rfl _ _ 28 rfl w.heap.size 53 i0 (.slice none 0 0) 1 24 Try.underlying28 hi hz0 hz1 hz2 rfl (by decide) _ _ _ rfl ((own_below HR.out.heads B1.out).alloc _) ⟨w1.heap.size, 0, none⟩ 1 1 [.slice Al L cl] rfl rfl ?c1 ?c2 ?c3 ?c4 ?c5 ?_)
      case c1 => exact cell_one_new _ _ _
      case c2 => intro u hu; simp at hu; subst hu; rfl
      case c3 => unfold maxLen; omega
      case c4 => omega
      case c5 => have := HB.out.size; have := B1.out.size; simp; omega
      · intro v' w2 hown' hgrow _
        have HP := Lib.hid (HR.out.push (r := rowZ Z k) HB.out.size B1.out (by rw [HL.out]; exact O1.out) hown' hgrow)
        have HB2 := Lib.hid (below_own2 HR.out HB.out B1.out hgrow HB.out.size)
        clear hown' hgrow
        go_wp2
        go_roundw
        case rel => exact ⟨k + 1, _, by omega, by go_num, HP.out.congr fun i hi => (by by_cases e : i = k <;> simp [e]), HB2.out⟩
        case measure => simp [intOf]; omega
    · obtain rfl : k = n := by omega
      go_wp2
      go_ret
      exact ⟨_, H, rfl, HR.out, HB.out⟩
end Go.Proofs.Ytfnlnkfihldoeaa
