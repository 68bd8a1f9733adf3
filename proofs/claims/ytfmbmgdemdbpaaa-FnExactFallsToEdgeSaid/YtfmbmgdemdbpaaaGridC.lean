/- Grids: the law's copy of a grid (rows in blocks of their own), and equality of grids. -/
import Derived.Test.YtfmbmgdemdbpaaaGridB
namespace Go.Proofs.Ytfmbmgdemdbpaaa
open Go.RowKit Go.Sort

theorem own_below {w w' : World} {B : Nat} {e : TypeId} {size n : Nat} {v : Value} {xs : List Value} (h : w.ownsRow B e size v n xs) (hb : Below w.heap.size w w') : w'.ownsRow B e size v n xs := by
  refine ⟨h.1, ?_⟩
  rcases h.2 with h0 | ⟨g, cap, cur, hv, hbg, hh, h1, h2, h3, h4⟩
  · exact .inl h0
  · have hlt : g < w.heap.size := by
      rcases Nat.lt_or_ge g w.heap.size with hlt | hge
      · exact hlt
      · rw [Array.getElem?_eq_none hge] at hh; cases hh
    exact .inr ⟨g, cap, cur, hv, hbg, (hb.block g hlt).trans hh, h1, h2, h3, h4⟩
theorem own_lt {w : World} {B : Nat} {e : TypeId} {size n g cap : Nat} {xs : List Value} (h : w.ownsRow B e size (.slice (some ⟨g, 0, none⟩) n cap) n xs) : B ≤ g ∧ g < w.heap.size := by
  rcases h.2 with ⟨h0, _⟩ | ⟨g', cap', cur, hv, hbg, hh, _⟩
  · cases h0
  · simp only [Value.slice.injEq, Option.some.injEq, Addr.mk.injEq, and_true, true_and] at hv
    obtain ⟨rfl, rfl⟩ := hv
    refine ⟨hbg, ?_⟩
    rcases Nat.lt_or_ge g w.heap.size with hlt | hge
    · exact hlt
    · rw [Array.getElem?_eq_none hge] at hh; cases hh
/-- a store into another block -/
theorem own_far {w : World} {B : Nat} {e : TypeId} {size n g cap : Nat} {xs : List Value} (h : w.ownsRow B e size (.slice (some ⟨g, 0, none⟩) n cap) n xs) {p : Addr} (hp : p.block ≠ g) (u : Value) : (w.setCell p u).ownsRow B e size (.slice (some ⟨g, 0, none⟩) n cap) n xs := by
  refine ⟨h.1, ?_⟩
  rcases h.2 with h0 | ⟨g', cap', cur, hv, hbg, hh, h1, h2, h3, h4⟩
  · exact .inl h0
  · simp only [Value.slice.injEq, Option.some.injEq, Addr.mk.injEq, and_true, true_and] at hv
    obtain ⟨rfl, rfl⟩ := hv
    exact .inr ⟨g, cap, cur, rfl, hbg, (Below.heap_setCell w p u g (fun e => hp e.symm)).trans hh, h1, h2, h3, h4⟩

/-- the headers of the first k rows -/
def hdr (g : Nat → Nat) (Z : List (List Int)) (i : Nat) : Value := .slice (some ⟨g i, 0, none⟩) (rowZ Z i).length (rowZ Z i).length
def hdrs (g : Nat → Nat) (Z : List (List Int)) (n : Nat) : List Value := (List.range n).map (hdr g Z)
theorem hdrs_len (g : Nat → Nat) (Z : List (List Int)) (n : Nat) : (hdrs g Z n).length = n := by simp [hdrs]
theorem hdrs_at {g : Nat → Nat} {Z : List (List Int)} {n i : Nat} (h : i < n) : (hdrs g Z n)[i]? = some (hdr g Z i) := by rw [hdrs, List.getElem?_map, List.getElem?_range h]; rfl

/-- a grid of the call's own, its first k rows copied: the headers in block B, row i in block g i; the blocks differ -/
structure OwnG (B : Nat) (w : World) (n : Nat) (Z : List (List Int)) (g : Nat → Nat) (k : Nat) (zs : List Value) : Prop where
  heads : w.ownsRow B 28 1 (.slice (some ⟨B, 0, none⟩) n n) n (mixC (hdrs g Z n) zs k)
  row : ∀ i, i < k → w.ownsRow (B + 1) 2 1 (hdr g Z i) (rowZ Z i).length (iv (rowZ Z i))
  apart : ∀ i j, i < j → j < k → g i < g j
theorem OwnG.lt {B : Nat} {w : World} {n k : Nat} {Z : List (List Int)} {g : Nat → Nat} {zs : List Value} (h : OwnG B w n Z g k zs) {i : Nat} (hi : i < k) : B < g i ∧ g i < w.heap.size := by
  have := own_lt (h.row i hi); omega

theorem add_zero_at (B i : Nat) : (⟨B, 0, none⟩ : Addr).add i = ⟨B, i, none⟩ := by unfold Addr.add; split <;> simp_all

/-- a grid of the call's own reads as a grid -/
theorem OwnG.grid {B : Nat} {w : World} {n : Nat} {Z : List (List Int)} {g : Nat → Nat} {zs : List Value} (h : OwnG B w n Z g n zs) (hz : zs.length = n) (hl : Z.length = n) (hm : ∀ i, i < n → (rowZ Z i).length ≤ 9223372036854775807) :
    Grid w w.heap.size (some ⟨B, 0, none⟩) n Z := by
  refine ⟨hl, fun _ => ⟨_, rfl, (own_lt h.heads).2⟩, fun ad ha i hi => ?_⟩
  injection ha with ha
  subst ha
  refine ⟨some ⟨g i, 0, none⟩, (rowZ Z i).length, ?_, Reads.of_own (h.row i hi), hm i hi⟩
  have hc := h.heads.cellAt i (by omega)
  rw [mixC_end (hdrs_len g Z n) hz, hdrs_at hi] at hc
  rw [add_zero_at]; exact hc

def CopyGPost (w : World) (n : Nat) (Z : List (List Int)) (e : Ending) (w' : World) : Prop :=
  ∃ (g : Nat → Nat) (zs : List Value), e = .returned (.slice (some ⟨w.heap.size, 0, none⟩) n n) ∧ zs.length = n ∧ OwnG w.heap.size w' n Z g n zs ∧ Below w.heap.size w w'

theorem hdrs_congr {g g' : Nat → Nat} {Z : List (List Int)} {n k : Nat} {zs : List Value} (h : ∀ i, i < k → g i = g' i) (hk : k ≤ n) : mixC (hdrs g Z n) zs k = mixC (hdrs g' Z n) zs k := by
  unfold mixC
  congr 1
  apply List.ext_getElem?
  intro i
  rw [List.getElem?_take, List.getElem?_take]
  split
  · rename_i hi
    rw [hdrs_at (by omega), hdrs_at (by omega), hdr, hdr, h i hi]
  · rfl

/-- one row more -/
theorem OwnG.step {B : Nat} {w w1 : World} {n k : Nat} {Z : List (List Int)} {g : Nat → Nat} {zs : List Value} (h : OwnG B w n Z g k zs) (hk : k < n) (hz : zs.length = n) (hBw : B < w.heap.size)
    (ho : w1.ownsRow w.heap.size 2 1 (.slice (some ⟨w.heap.size, 0, none⟩) (rowZ Z k).length (rowZ Z k).length) (rowZ Z k).length (iv (rowZ Z k))) (hb : Below w.heap.size w w1) :
    OwnG B (w1.setCell ⟨B, k, none⟩ (.slice (some ⟨w.heap.size, 0, none⟩) (rowZ Z k).length (rowZ Z k).length)) n Z (fun i => if i = k then w.heap.size else g i) (k + 1) zs := by
  have hg : ∀ i, i < k → (fun i => if i = k then w.heap.size else g i) i = g i := fun i hi => by simp; omega
  refine ⟨?_, fun i hi => ?_, fun i j hij hj => ?_⟩
  · have h1 := (own_below h.heads hb).stored k (.slice (some ⟨w.heap.size, 0, none⟩) (rowZ Z k).length (rowZ Z k).length)
    have h2 := h1.1
    rw [← hdrs_congr hg (Nat.le_of_lt hk), mixC_set (by rw [hz]; exact hk) (by rw [hdrs_at hk, hdr]; simp)] at h2
    exact h2
  · by_cases e : i = k
    · subst e
      have : hdr (fun j => if j = i then w.heap.size else g j) Z i = .slice (some ⟨w.heap.size, 0, none⟩) (rowZ Z i).length (rowZ Z i).length := by simp [hdr]
      rw [this]
      have h3 := own_far ho (p := ⟨B, i, none⟩) (by simp; omega) (.slice (some ⟨w.heap.size, 0, none⟩) (rowZ Z i).length (rowZ Z i).length)
      refine ⟨h3.1, ?_⟩
      rcases h3.2 with h0 | ⟨g', cap', cur, hv, hbg, hr⟩
      · exact .inl h0
      · exact .inr ⟨g', cap', cur, hv, by omega, hr⟩
    · have hi' : i < k := by omega
      have : hdr (fun j => if j = k then w.heap.size else g j) Z i = hdr g Z i := by simp [hdr, e]
      rw [this]
      exact own_far (own_below (h.row i hi') hb) (by have := (h.lt hi').1; simp; omega) _
  · by_cases e : j = k
    · subst e
      have h1 := (h.lt (show i < j by omega)).2
      simp only [if_neg (show ¬ i = j by omega), if_true]
      exact h1
    · simp only [if_neg (show ¬ i = k by omega), if_neg e]
      exact h.apart i j hij (by omega)

set_option maxHeartbeats 1600000 in
theorem toInt64SS_any (A : Option Addr) (n c b : Nat) (Z : List (List Int)) (w : World) (hg : Grid w b A n Z) (hb0 : b ≤ w.heap.size) (hn : n ≤ 1048576) (hm : ∀ i, i < n → (rowZ Z i).length ≤ 1048576) :
    Calls Try.prog 6 #[.slice A n c] w (CopyGPost w n Z) := by
  obtain ⟨i0, hi, hz0, hz1, hz2⟩ := info_parts infoR
  have hmk := run_make_rowN (P := Try.prog) 22 28 i0 (.slice none 0 0) Try.underlying22 hi hz0 .i64 .i64 n n (Nat.le_refl _) (by rw [hz2]; omega) (by omega)
  rw [hz1] at hmk
  obtain ⟨hown, hzl⟩ := own_made w (.slice none 0 0) 28 n hn
  obtain ⟨ZS, hZS⟩ : ∃ ZS, madeCells (Value.slice none 0 0).cells (n * 1) = ZS := ⟨_, rfl⟩
  rw [hZS] at hmk hown hzl
  have HO := Lib.hid hown
  have HZ := Lib.hid hzl
  have HG := Lib.hid hg
  have HM := Lib.hid hm
  clear hown hzl hg hz0 hz1 hz2 hi hZS hm
  go_enter Try.func6, Try.ntmps6
  go_wp2_with fail
  go_loopw [4] (fun i wr => ∃ (k : Nat) (g : Nat → Nat), k ≤ n ∧ i = .int .i64 k ∧ OwnG w.heap.size wr n Z g k ZS.toList ∧ Below w.heap.size w wr) (fun i _ => n - (intOf i).toNat)
  case atStart => exact ⟨0, fun _ => 0, Nat.zero_le _, rfl, ⟨by rw [mixC_zero]; exact HO.out, fun i hi => by omega, fun i j _ hj => by omega⟩, (Below.refl _ _).alloc (Nat.le_refl _) _⟩
  case round =>
    obtain ⟨k, g, hk, rfl, ho, hb⟩ := hrel
    have HR := Lib.hid ho
    have HB := Lib.hid hb
    clear ho hb
    by_cases hlt : k < n
    · obtain ⟨ad, rfl, hbl⟩ := HG.out.addr (by omega)
      obtain ⟨Ai, ci, h1, h2, h3⟩ := ((HG.out.more hb0).below HB.out).row ad rfl k hlt
      have hsz := Lib.hid (own_lt HR.out.heads).2
      have H2 := Lib.hid (h2.more HB.out.size)
      obtain ⟨u, hv⟩ := mixC_at (cs := hdrs g Z n) (xs := ZS.toList) (k := k) (by rw [HZ.out]; exact hlt) (by rw [hdrs_len]; exact hlt)
      have hc := Lib.hid ((HR.out.heads.cellAt k (by omega)).trans hv)
      have hf := Lib.hid (HR.out.heads.frozenAt k)
      clear h2 hv h3
      go_wp2_with fail
      refine (toInt64S_any Ai _ ci _ (rowZ Z k) _ H2.out (Nat.le_refl _) (HM.out k hlt)).mono ?_
      rintro e w1 ⟨rfl, o1, b1⟩
      have st := Lib.hid (HR.out.step hlt HZ.out hsz.out o1 b1)
      have hc1 : w1.cell? ⟨w.heap.size, k, none⟩ = some u := (b1.cell (p := ⟨w.heap.size, k, none⟩) hsz.out).trans hc.out
      have hf1 : w1.frozen? ⟨w.heap.size, k, none⟩ = false := (b1.frozen (p := ⟨w.heap.size, k, none⟩) hsz.out).trans hf.out
      have HB1 := Lib.hid (HB.out.trans (b1.mono HB.out.size))
      clear o1 b1
      go_wp2
      go_roundw
      case rel => exact ⟨k + 1, _, by omega, by go_num, st.out, HB1.out.setCell (by simp) _⟩
      case measure => simp [intOf]; omega
    · obtain rfl : k = n := by omega
      go_wp2
      go_ret
      exact ⟨g, ZS.toList, rfl, HZ.out, HR.out, HB.out⟩

set_option maxHeartbeats 1600000 in
theorem eqInt64SS_any (A B : Option Addr) (n c d b1 b2 : Nat) (Z : List (List Int)) (w : World) (hx : Grid w b1 A n Z) (hy : Grid w b2 B n Z) (hb1 : b1 ≤ w.heap.size) (hb2 : b2 ≤ w.heap.size) (hn : n ≤ 1048576) :
    Calls Try.prog 8 #[.slice A n c, .slice B n d] w fun e w' => e = .returned (.bool true) ∧ Below w.heap.size w w' := by
  have HX := Lib.hid hx
  have HY := Lib.hid hy
  clear hx hy
  go_enter Try.func8, Try.ntmps8
  go_wp2_with fail
  go_loopw [5] (fun i wr => ∃ k : Nat, k ≤ n ∧ i = .int .i64 k ∧ Below w.heap.size w wr) (fun i _ => n - (intOf i).toNat)
  case atStart => exact ⟨0, Nat.zero_le _, rfl, Below.refl _ _⟩
  case round =>
    obtain ⟨k, hk, rfl, hb⟩ := hrel
    have HB := Lib.hid hb
    clear hb
    by_cases hlt : k < n
    · obtain ⟨a1, rfl, _⟩ := HX.out.addr (by omega)
      obtain ⟨a2, rfl, _⟩ := HY.out.addr (by omega)
      obtain ⟨A1, c1, h1, h2, h3⟩ := ((HX.out.more hb1).below HB.out).row a1 rfl k hlt
      obtain ⟨A2, c2, j1, j2, j3⟩ := ((HY.out.more hb2).below HB.out).row a2 rfl k hlt
      have ce : ∀ W, Below wr.heap.size wr W → Calls Try.prog 18 #[.slice A1 (rowZ Z k).length c1, .slice A2 (rowZ Z k).length c2] W fun e w' => e = .returned (.bool true) ∧ Below W.heap.size W w' := fun W hW => by
        have e := eqInt64S_any A1 A2 _ _ c1 c2 (rowZ Z k) (rowZ Z k) w.heap.size w.heap.size W (h2.keep fun p hp => hW.cell (Nat.lt_of_lt_of_le hp HB.out.size)) (j2.keep fun p hp => hW.cell (Nat.lt_of_lt_of_le hp HB.out.size)) (Nat.le_trans HB.out.size hW.size) (Nat.le_trans HB.out.size hW.size) (by unfold maxLen; omega) (by unfold maxLen; omega)
        rw [show sameL (rowZ Z k) (rowZ Z k) = true by simp [sameL]] at e
        exact e
      have CE := Lib.hid ce
      have k1 := cell_regrown h1
      have k2 := cell_regrown j1
      have g1 : (k : Int) < (n : Int) := by omega
      have g0 : (0 : Int) ≤ (k : Int) := by omega
      clear h1 h2 h3 j1 j2 j3 ce
      go_wp2_with fail
      refine wp_region_quiet_below (by kernel_rfl) (by kernel_rfl) ?_; (repeat (quiet_step ((go_at_call 18; exact Calls.regrown_of (CE.out _ (below_regrown _ _ _)))))); refine wpQuiet_nil ?_; intro wq hwq; obtain ⟨⟨dq, osq⟩, hwq2⟩ := hwq; have bq := below_of hwq2; clear hwq2
      clear k1 k2
      have HB1 := Lib.hid (HB.out.trans (bq.mono HB.out.size))
      clear bq
      go_wp2
      go_roundw
      case rel => exact ⟨k + 1, by omega, by go_num, HB1.out⟩
      case measure => simp [intOf]; omega
    · obtain rfl : k = n := by omega
      go_wp2
      go_ret
      exact ⟨rfl, HB.out⟩
end Go.Proofs.Ytfmbmgdemdbpaaa
