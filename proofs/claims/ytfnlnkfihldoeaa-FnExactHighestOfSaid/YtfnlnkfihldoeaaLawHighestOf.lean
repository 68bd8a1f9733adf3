/- For every grid, the program's HighestOf returns what the reference's returns; grids of more than 2^20 cells the law lets pass. Conditions: none. -/
import Derived.Test.YtfnlnkfihldoeaaArchB
import Derived.Test.YtfnlnkfihldoeaaPlaces
import Derived.Deep.Matrix
import Derived.ProofKit
import Derived.OpenShut
import Derived.ShutString
import Derived.ChangeOld
import Derived.Below
namespace Go.Proofs.Ytfnlnkfihldoeaa.fnExactHighestOf
open Go.ChangeShapes Go.WideShapes Go.ChangeAt Go.RowKit
open Go.ChangeMaps (open_string shut_string)
set_option linter.unusedVariables false
open Go.Sort

/-- the highest place so far, by its number in the row-by-row order -/
def hiF (Z : List (List Int)) (m t b : Nat) : Nat := if V Z (b / m) (b % m) < V Z (t / m) (t % m) then t else b
def fold (Z : List (List Int)) : Nat := foldN (hiF Z (rowZ Z 0).length) 0 (Z.length * (rowZ Z 0).length)
def resX (Z : List (List Int)) : Int := if archB Z then ((fold Z / (rowZ Z 0).length : Nat) : Int) else 0
def resY (Z : List (List Int)) : Int := if archB Z then ((fold Z % (rowZ Z 0).length : Nat) : Int) else 0
def cod (Z : List (List Int)) : Int := if archB Z then 0 else 1
theorem res_t {Z : List (List Int)} (h : archB Z = true) : resX Z = ((fold Z / (rowZ Z 0).length : Nat) : Int) ∧ resY Z = ((fold Z % (rowZ Z 0).length : Nat) : Int) ∧ cod Z = 0 := by simp [resX, resY, cod, h]
theorem res_f {Z : List (List Int)} (h : archB Z = false) : resX Z = 0 ∧ resY Z = 0 ∧ cod Z = 1 := by simp [resX, resY, cod, h]
theorem gb_alloc {a w : World} {r : Option Nat} (h : a.grownBy w r) (o : Obj) : a.grownBy (w.alloc o) r :=
  ⟨h.os, h.tape, h.output, Nat.le_trans h.size (by simp), fun i hi hne => (Below.heap_alloc w o i (Nat.lt_of_lt_of_le hi h.size)).trans (h.block i hi hne)⟩
theorem gb_below {a w w' : World} {r : Option Nat} (h : a.grownBy w r) (hb : Below w.heap.size w w') : a.grownBy w' r :=
  ⟨hb.os.trans h.os, hb.tape.trans h.tape, hb.output.trans h.output, Nat.le_trans h.size hb.size, fun i hi hne => (hb.block i (Nat.lt_of_lt_of_le hi h.size)).trans (h.block i hi hne)⟩
theorem gb_set {a w : World} {g i : Nat} (h : a.grownBy w (some g)) (u : Value) : a.grownBy (w.setCell ⟨g, i, none⟩ u) (some g) :=
  ⟨h.os, h.tape, h.output, by simpa [World.setCell] using h.size, fun j hj hne => (Below.heap_setCell w ⟨g, i, none⟩ u j (fun e => hne (by rw [e]))).trans (h.block j hj hne)⟩
theorem ret_int3 {k : IntKind} {a b c d e f : Int} (h : a = b) (h' : c = d) (h'' : e = f) : Ending.returned (.tuple #[.int k a, .int k c, .int k e]) = .returned (.tuple #[.int k b, .int k d, .int k f]) := by rw [h, h', h'']
theorem is_ofb {P : Program} {f : FuncId} {args : Array Value} {w : World} {b c : Bool} (h : Calls P f args w fun e w' => e = .returned (.bool b) ∧ Below w.heap.size w w') (hb : b = c) :
    Calls P f args w fun e w' => e = .returned (.bool c) ∧ Below w.heap.size w w' := by rw [← hb]; exact h

set_option maxHeartbeats 2000000 in
theorem specF_any (A : Option Addr) (n c b : Nat) (Z : List (List Int)) (w : World) (hg : Grid w b A n Z) (hb0 : b ≤ w.heap.size) (hn : n ≤ 1048576) :
    Calls Try.prog 25 #[.slice A n c] w fun r w' => r = .returned (.tuple #[.int .i64 (resX Z), .int .i64 (resY Z), .int .i64 (cod Z)]) ∧ Below w.heap.size w w' := by
  have HG := Lib.hid hg
  have HL := Lib.hid hg.len
  clear hg
  cases h0 : archB Z
  · have hr := Lib.hid (res_f h0)
    go_enter Try.func25, Try.ntmps25
    go_wp2_with (go_at_call 46; refine (is_ofb (l07Ok_any A n c b Z _ HG.out hb0 hn) h0).mono ?_; rintro e w1 ⟨rfl, b1⟩; have B1 := Lib.hid b1; clear b1)
    go_ret3
    exact ⟨ret_int3 hr.out.1.symm hr.out.2.1.symm hr.out.2.2.symm, B1.out⟩
  · have hr0 := res_t h0
    obtain ⟨ad, rfl, M⟩ := Mat.of HG.out h0
    obtain ⟨m, hm⟩ : ∃ m, (rowZ Z 0).length = m := ⟨_, rfl⟩
    have hF : fold Z = foldN (hiF Z m) 0 (n * m) := by rw [fold, hm, HL.out]
    rw [hm, hF] at hr0
    rw [hm] at M
    have hr := Lib.hid hr0
    have HM := Lib.hid M
    have n1 := M.n1
    have n2 := M.n2
    have m1 := M.m1
    have m2 := M.m2
    have hnm : n * m ≤ 100 := Nat.mul_le_mul n2 m2
    have hpos : 1 ≤ n * m := Nat.mul_le_mul n1 m1
    clear M hm hF hr0
    go_enter Try.func25, Try.ntmps25
    go_wp2_with (go_at_call 46; refine (is_ofb (l07Ok_any (some ad) n c b Z _ HG.out hb0 hn) h0).mono ?_; rintro e w1 ⟨rfl, b1⟩; have B1 := Lib.hid b1; clear b1)
    go_loopw [5, 6, 7] (fun s s2 i wr => ∃ (k bst : Nat), k ≤ n ∧ foldN (hiF Z m) 0 (k * m) = bst ∧ bst < n * m ∧ s = .int .i64 ((bst / m : Nat) : Int) ∧ s2 = .int .i64 ((bst % m : Nat) : Int) ∧ i = .int .i64 k ∧ Below w.heap.size w wr) (fun _ _ i _ => n - (intOf i).toNat)
    case atStart => exact ⟨0, 0, Nat.zero_le _, by simp [foldN], by omega, by simp, by simp, rfl, B1.out⟩
    case round =>
      obtain ⟨k, bst, hk, ha, hbl, rfl, rfl, rfl, hb⟩ := hrel
      have HA := Lib.hid ha
      have HB := Lib.hid hb
      clear ha hb
      by_cases hlt : k < n
      · obtain ⟨ai, ci, r1, r2, r3⟩ := HM.out.rows k hlt
        have hc0 := Lib.hid r1
        have R3 := Lib.hid r3
        clear r1 r3
        obtain ⟨wo, rfl⟩ : ∃ wo : World, wo = wr := ⟨_, rfl⟩
        go_wp2
        go_loopw [5, 6, 8] (fun s s2 j wi => ∃ (x bst : Nat), x ≤ m ∧ foldN (hiF Z m) 0 (k * m + x) = bst ∧ bst < n * m ∧ s = .int .i64 ((bst / m : Nat) : Int) ∧ s2 = .int .i64 ((bst % m : Nat) : Int) ∧ j = .int .i64 x ∧ Below w.heap.size w wi) (fun _ _ j _ => m - (intOf j).toNat)
        case atStart => exact ⟨0, bst, Nat.zero_le _, HA.out, hbl, rfl, rfl, rfl, HB.out⟩
        case round =>
          obtain ⟨x, bst2, hx, ha2, hbl2, rfl, rfl, rfl, hbi⟩ := hrel
          have HA2 := Lib.hid ha2
          have HBI := Lib.hid hbi
          clear ha2 hbi
          have hc1 := (HBI.out.cell (p := ad.add k) (by rw [block_of_add]; exact Nat.lt_of_lt_of_le HM.out.blk hb0)).trans hc0.out
          by_cases hxl : x < m
          · have hc2 := (HBI.out.cell (p := ai.add x) (by rw [block_of_add]; exact Nat.lt_of_lt_of_le r2 hb0)).trans (R3.out x hxl)
            have hi : bst2 / m < n := Nat.div_lt_of_lt_mul (by rw [Nat.mul_comm]; exact hbl2)
            have hkm : bst2 % m < m := Nat.mod_lt _ m1
            obtain ⟨aj, cj, s1, s2, s3⟩ := HM.out.rows _ hi
            have hc3 := (HBI.out.cell (p := ad.add (bst2 / m)) (by rw [block_of_add]; exact Nat.lt_of_lt_of_le HM.out.blk hb0)).trans s1
            have hc4 := (HBI.out.cell (p := aj.add (bst2 % m)) (by rw [block_of_add]; exact Nat.lt_of_lt_of_le s2 hb0)).trans (s3 _ hkm)
            obtain ⟨p, hp⟩ : ∃ p, V Z k x = p := ⟨_, rfl⟩
            obtain ⟨q, hq⟩ : ∃ q, V Z (bst2 / m) (bst2 % m) = q := ⟨_, rfl⟩
            rw [hp] at hc2
            rw [hq] at hc4
            have st := Lib.hid (show foldN (hiF Z m) 0 (k * m + (x + 1)) = if q < p then k * m + x else bst2 by rw [show k * m + (x + 1) = k * m + x + 1 from rfl, foldN, HA2.out, hiF, div_row hxl, mod_row hxl, hp, hq])
            have D1 := Lib.hid (div_row (i := k) hxl)
            have D2 := Lib.hid (mod_row (i := k) hxl)
            have hkx : k * m + x < n * m := by
              have h1 : k * m + m ≤ n * m := by rw [row_end]; exact Nat.mul_le_mul_right m hlt
              omega
            have HKX := Lib.hid hkx
            obtain ⟨bi, hbi2⟩ : ∃ bi, bst2 / m = bi := ⟨_, rfl⟩
            obtain ⟨bk, hbk2⟩ : ∃ bk, bst2 % m = bk := ⟨_, rfl⟩
            rw [hbi2] at hc3 hi
            rw [hbk2] at hc4 hkm
            rw [hbi2, hbk2]
            have HBI2 := Lib.hid hbi2
            have HBK2 := Lib.hid hbk2
            have g2 : (x : Int) < m := by omega
            have g3 : (k : Int) < n := by omega
            have g4 : (bi : Int) < n := by omega
            have g5 : (bk : Int) < m := by omega
            clear hp hq s1 s2 s3 hbi2 hbk2 hkx
            by_cases hpq : q < p
            · go_wp2_with fail
              go_quiet (fail)
              clear hc1 hc2 hc3 hc4
              go_wp2
              go_roundw
              case rel => exact ⟨x + 1, k * m + x, by omega, by rw [st.out, if_pos hpq], HKX.out, by rw [D1.out], by rw [D2.out], by go_num, below_drewN HBI.out _⟩
              case measure => simp [intOf]; omega
            · go_wp2_with fail
              go_quiet (fail)
              clear hc1 hc2 hc3 hc4
              go_wp2
              go_roundw
              case rel => exact ⟨x + 1, bst2, by omega, by rw [st.out, if_neg (by omega)], hbl2, by rw [HBI2.out], by rw [HBK2.out], by go_num, below_drewN HBI.out _⟩
              case measure => simp [intOf]; omega
          · have hx2 := Lib.hid (show k * m + x = (k + 1) * m by rw [show x = m by omega, row_end])
            go_wp2
            go_roundw
            case rel => exact ⟨k + 1, bst2, by omega, by rw [← hx2.out]; exact HA2.out, hbl2, rfl, rfl, by go_num, HBI.out⟩
            case measure => simp [intOf]; omega
      · have hk2 := Lib.hid (show k = n by omega)
        go_wp2
        go_ret3
        exact ⟨ret_int3 (by rw [hr.out.1, ← HA.out, hk2.out]) (by rw [hr.out.2.1, ← HA.out, hk2.out]) hr.out.2.2.symm, HB.out⟩

set_option maxHeartbeats 2000000 in
theorem implF_any (A : Option Addr) (n c b : Nat) (Z : List (List Int)) (w : World) (hg : Grid w b A n Z) (hb0 : b ≤ w.heap.size) (hn : n ≤ 1048576) :
    Calls Try.prog 26 #[.slice A n c] w fun r w' => r = .returned (.tuple #[.int .i64 (resX Z), .int .i64 (resY Z), .int .i64 (cod Z)]) ∧ Below w.heap.size w w' := by
  have HG := Lib.hid hg
  have HL := Lib.hid hg.len
  clear hg
  cases h0 : archB Z
  · have hr := Lib.hid (res_f h0)
    go_enter Try.func26, Try.ntmps26
    go_wp2_with (go_at_call 21; refine (is_ofb (implArch_any A n c b Z _ HG.out hb0 hn) h0).mono ?_; rintro e w1 ⟨rfl, b1⟩; have B1 := Lib.hid b1; clear b1)
    go_ret3
    exact ⟨ret_int3 hr.out.1.symm hr.out.2.1.symm hr.out.2.2.symm, B1.out⟩
  · have hr0 := res_t h0
    obtain ⟨ad, rfl, M⟩ := Mat.of HG.out h0
    obtain ⟨m, hm⟩ : ∃ m, (rowZ Z 0).length = m := ⟨_, rfl⟩
    have hF : fold Z = foldN (hiF Z m) 0 (n * m) := by rw [fold, hm, HL.out]
    rw [hm, hF] at hr0
    rw [hm] at M
    have hr := Lib.hid hr0
    have HM := Lib.hid M
    have n1 := M.n1
    have n2 := M.n2
    have m1 := M.m1
    have m2 := M.m2
    have hnm : n * m ≤ 100 := Nat.mul_le_mul n2 m2
    have hpos : 1 ≤ n * m := Nat.mul_le_mul n1 m1
    clear M hm hF hr0
    go_enter Try.func26, Try.ntmps26
    go_wp2_with (go_at_call 21; refine (is_ofb (implArch_any (some ad) n c b Z _ HG.out hb0 hn) h0).mono ?_; rintro e w1 ⟨rfl, b1⟩; have B1 := Lib.hid b1; clear b1)
    have MW := Lib.hid (HM.out.below (((B1.out.mono hb0)).alloc (Nat.le_trans hb0 B1.out.size) (.cells #[.int .i64 0, .int .i64 0] 59)))
    refine (places_any ad n m c b Z _ MW.out (by simp; have := B1.out.size; omega)).mono ?_
    rintro e w2 ⟨g, cap, rfl, o2, b2⟩
    obtain ⟨B0, hB0⟩ : ∃ B0, w1.heap.size = B0 := ⟨_, rfl⟩
    have hbB : b ≤ B0 := by have := B1.out.size; omega
    have hwB : w.heap.size ≤ B0 := by have := B1.out.size; omega
    have G2 := Lib.hid (own_lt o2)
    have hs2 : B0 < w2.heap.size := by have := b2.size; simp at this; omega
    have hgB : g ≠ B0 := by have := G2.out.1; simp at this; omega
    have BK := Lib.hid (show Blk w2 B0 59 #[.int .i64 0, .int .i64 0] from by rw [← hB0]; exact (Blk.new w1 59 #[.int .i64 0, .int .i64 0]).below b2 (by simp))
    have B2 := Lib.hid ((B1.out.alloc B1.out.size (.cells #[.int .i64 0, .int .i64 0] 59)).trans (b2.mono (by simp; have := B1.out.size; omega)))
    have M2 := Lib.hid (HM.out.below (B2.out.mono hb0))
    have O2 := Lib.hid o2
    rw [hB0]
    have HB0 := Lib.hid hB0
    clear o2 b2 hB0
    go_wp2_with fail
    go_loopw [15] (fun i wr => ∃ (t bst : Nat), t ≤ n * m ∧ foldN (hiF Z m) 0 t = bst ∧ bst < n * m ∧ i = .int .i64 t ∧ Blk wr B0 59 #[.int .i64 ((bst / m : Nat) : Int), .int .i64 ((bst % m : Nat) : Int)] ∧ w2.grownBy wr (some B0)) (fun i _ => n * m - (intOf i).toNat)
    case atStart => exact ⟨0, 0, Nat.zero_le _, by simp [foldN], by omega, rfl, by simpa using BK.out, World.grownBy.refl _ _⟩
    case round =>
      obtain ⟨t, bst, ht, ha, hbl, rfl, hbk, hgr⟩ := hrel
      have HA := Lib.hid ha
      have HK := Lib.hid hbk
      have HG2 := Lib.hid hgr
      clear ha hbk hgr
      by_cases hlt : t < n * m
      · have hi : t / m < n := Nat.div_lt_of_lt_mul (by rw [Nat.mul_comm]; exact hlt)
        have hkm : t % m < m := Nat.mod_lt _ m1
        have hi2 : bst / m < n := Nat.div_lt_of_lt_mul (by rw [Nat.mul_comm]; exact hbl)
        have hkm2 : bst % m < m := Nat.mod_lt _ m1
        have pa := plc_at (m := m) hlt
        have hc1 : wr.cell? ⟨g, t * 2, none⟩ = some (.int .i64 ((t / m : Nat) : Int)) := (HG2.out.cell_far ⟨g, t * 2, none⟩ G2.out.2 (by simp; exact hgB)).trans ((O2.out.cellAt (t * 2) (by omega)).trans pa.1)
        have hc2 : wr.cell? ⟨g, t * 2 + 1, none⟩ = some (.int .i64 ((t % m : Nat) : Int)) := (HG2.out.cell_far ⟨g, t * 2 + 1, none⟩ G2.out.2 (by simp; exact hgB)).trans ((O2.out.cellAt (t * 2 + 1) (by omega)).trans pa.2)
        have MR := Lib.hid (M2.out.keep (w' := wr) fun p hp => HG2.out.cell_far p (by omega) (by simp; omega))
        obtain ⟨i, hii⟩ : ∃ i, t / m = i := ⟨_, rfl⟩
        obtain ⟨k, hkk⟩ : ∃ k, t % m = k := ⟨_, rfl⟩
        obtain ⟨bi, hbi⟩ : ∃ bi, bst / m = bi := ⟨_, rfl⟩
        obtain ⟨bk, hbk⟩ : ∃ bk, bst % m = bk := ⟨_, rfl⟩
        rw [hii] at hc1 hi
        rw [hkk] at hc2 hkm
        rw [hbi] at hi2
        rw [hbk] at hkm2
        have HK := Lib.hid (show Blk wr B0 59 #[.int .i64 (bi : Int), .int .i64 (bk : Int)] by rw [← hbi, ← hbk]; exact HK.out)
        obtain ⟨p, hp⟩ : ∃ p, V Z i k = p := ⟨_, rfl⟩
        obtain ⟨q, hq⟩ : ∃ q, V Z bi bk = q := ⟨_, rfl⟩
        have st := Lib.hid (show foldN (hiF Z m) 0 (t + 1) = if q < p then t else bst by rw [foldN, HA.out, hiF, hii, hkk, hbi, hbk, hp, hq])
        have HII := Lib.hid hii
        have HKK := Lib.hid hkk
        have HBI := Lib.hid hbi
        have HBK := Lib.hid hbk
        have hsz : w2.heap.size ≤ wr.heap.size := HG2.out.size
        obtain ⟨W0, hW0⟩ : ∃ W0, wr.alloc (.cells #[.int .i64 (i : Int), .int .i64 (k : Int)] 59) = W0 := ⟨_, rfl⟩
        have PB := Lib.hid (show Blk W0 wr.heap.size 59 #[.int .i64 (i : Int), .int .i64 (k : Int)] by rw [← hW0]; exact Blk.new _ _ _)
        have QB0 := Lib.hid (show Blk W0 B0 59 #[.int .i64 (bi : Int), .int .i64 (bk : Int)] by rw [← hW0]; exact HK.out.alloc _)
        have GW := Lib.hid (show w2.grownBy W0 (some B0) by rw [← hW0]; exact gb_alloc HG2.out _)
        have hs0 : W0.heap.size = wr.heap.size + 1 := by rw [← hW0]; simp
        have MR0 := Lib.hid (show Mat W0 b ad n m Z by rw [← hW0]; exact MR.out.below ((Below.refl _ _).alloc (by omega) _))
        have ofp : ∀ W, Below W0.heap.size W0 W → Calls Try.prog 54 #[.agg #[.int .i64 (i : Int), .int .i64 (k : Int)], .slice (some ad) n c] W fun e w' => e = .returned (.int .i64 p) ∧ Below W.heap.size W w' := fun W hW => by
          rw [← hp]; exact of_any ad n m c b i k Z W (MR0.out.below (hW.mono (by omega))) (by have := hW.size; omega) hi hkm
        have ofq : ∀ W, Below W0.heap.size W0 W → Calls Try.prog 54 #[.agg #[.int .i64 (bi : Int), .int .i64 (bk : Int)], .slice (some ad) n c] W fun e w' => e = .returned (.int .i64 q) ∧ Below W.heap.size W w' := fun W hW => by
          rw [← hq]; exact of_any ad n m c b bi bk Z W (MR0.out.below (hW.mono (by omega))) (by have := hW.size; omega) hi2 hkm2
        have OFP := Lib.hid ofp
        have OFQ := Lib.hid ofq
        have HW0 := Lib.hid hW0
        have HS0 := Lib.hid hs0
        clear pa hii hkk hbi hbk hp hq ofp ofq hW0 hs0
        go_wp2_with fail
        rw [HW0.out]
        have k1 := cell_regrown (PB.out.cell 0)
        have k2 := cell_regrown (PB.out.cell 1)
        have j1 := cell_regrown (QB0.out.cell 0)
        have j2 := cell_regrown (QB0.out.cell 1)
        clear hc1 hc2
        refine wp_region_quiet_below (by kernel_rfl) (by kernel_rfl) ?_; (repeat (quiet_step (first | (go_at_call_of 54 bi; exact Calls.regrown_of (OFQ.out _ (below_regrown _ _ _))) | (go_at_call 54; exact Calls.regrown_of (OFP.out _ (below_regrown _ _ _)))))); refine wpQuiet_nil ?_; intro wq hwq; obtain ⟨⟨dq, osq⟩, hwq2⟩ := hwq; have bq := below_of hwq2; clear hwq2
        clear k1 k2 j1 j2
        have hsq : B0 < W0.heap.size := by have := HS0.out; omega
        have PQ := Lib.hid (PB.out.below bq (by have := HS0.out; omega))
        have QQ := Lib.hid (QB0.out.below bq hsq)
        have GQ := Lib.hid (gb_below GW.out bq)
        clear bq
        by_cases hpq : q < p
        · have k1 := PQ.out.cell 0
          have k2 := PQ.out.cell 1
          have j1 := QQ.out.cell 0
          have j2 := QQ.out.cell 1
          have f1 := QQ.out.frozen 0
          have f2 := QQ.out.frozen 1
          have SB := Lib.hid (show Blk ((wq.setCell ⟨B0, 0, none⟩ (.int .i64 (i : Int))).setCell ⟨B0, 1, none⟩ (.int .i64 (k : Int))) B0 59 #[.int .i64 (i : Int), .int .i64 (k : Int)] from by simpa using (QQ.out.set_ 0 (.int .i64 (i : Int))).set_ 1 (.int .i64 (k : Int)))
          have SG := Lib.hid (gb_set (i := 1) (gb_set (i := 0) GQ.out (.int .i64 (i : Int))) (.int .i64 (k : Int)))
          go_wp2
          go_roundw
          case rel => exact ⟨t + 1, t, by omega, by rw [st.out, if_pos hpq], by omega, by go_num, by rw [HII.out, HKK.out]; exact SB.out, SG.out⟩
          case measure => simp [intOf]; omega
        · go_wp2
          go_roundw
          case rel => exact ⟨t + 1, bst, by omega, by rw [st.out, if_neg (by omega)], hbl, by go_num, by rw [HBI.out, HBK.out]; exact QQ.out, GQ.out⟩
          case measure => simp [intOf]; omega
      · have hk2 := Lib.hid (show t = n * m by omega)
        have hrx := Lib.hid (show resX Z = ((bst / m : Nat) : Int) by rw [hr.out.1, ← hk2.out, HA.out])
        have hry := Lib.hid (show resY Z = ((bst % m : Nat) : Int) by rw [hr.out.2.1, ← hk2.out, HA.out])
        obtain ⟨bi, hbi⟩ : ∃ bi, bst / m = bi := ⟨_, rfl⟩
        obtain ⟨bk, hbk⟩ : ∃ bk, bst % m = bk := ⟨_, rfl⟩
        have k1 := HK.out.cell 0
        have k2 := HK.out.cell 1
        rw [hbi] at hrx k1 k2
        rw [hbk] at hry k1 k2
        clear hbi hbk
        go_wp2_with fail
        go_quiet (fail)
        go_wp2
        go_ret3
        exact ⟨ret_int3 hrx.out.symm hry.out.symm hr.out.2.2.symm, below_drewN (B2.out.grown HG2.out B2.out.size (fun k hk => by injection hk with hk; omega)) _⟩

set_option maxHeartbeats 1600000 in
theorem walk (A : Option Addr) (n c : Nat) (Z : List (List Int)) (w : World) (w0 : Grid w w.heap.size A n Z ∧ n ≤ 9223372036854775807) :
    Calls Try.prog 6 #[.slice A n c] w fun r w' => r = .returned (.bool true) ∧ Below w.heap.size w w' := by
  obtain ⟨hg, hn⟩ := w0
  have K := Lib.hid (show KeepG w A n Z w from ⟨Below.refl _ _, hg⟩)
  have HL := Lib.hid hg.len
  clear hg
  go_enter Try.func6, Try.ntmps6
  go_wp2_with fail
  refine (szInt64SS_any A n c _ Z 1048576 _ K.out.grid hn (by omega) (by omega)).mono ?_
  rintro e w1 ⟨r, rfl, r1, hs, b1⟩
  have HS := Lib.hid hs
  have K := Lib.hid (K.out.step b1)
  clear hs b1
  by_cases hr : r < 0
  · go_wp2
    go_ret
    exact ⟨rfl, K.out.old⟩
  · have hr0 : 0 ≤ r := by omega
    have hn2 : n ≤ 1048576 := by have := (HS.out hr0).1; rw [HL.out] at this; omega
    have HM : Hid (∀ i, i < n → (rowZ Z i).length ≤ 1048576) := fun i hi => by have := (HS.out hr0).2 i (by rw [HL.out]; exact hi); omega
    go_wp2_with fail
    refine (toInt64SS_any A n c _ Z _ K.out.grid K.out.old.size hn2 HM.out).mono ?_
    rintro e w2 ⟨g2, z2, rfl, hz2, o2, b2⟩
    have X := Lib.hid (copy_grid o2 hz2 HL.out HM.out)
    have K := Lib.hid (K.out.step b2)
    clear o2 hz2 b2
    go_wp2_with fail
    refine (specF_any _ n n _ Z _ X.out (Nat.le_refl _) hn2).mono ?_
    rintro e w3 ⟨rfl, b3⟩
    have K := Lib.hid (K.out.step b3)
    clear b3
    go_wp2_with fail
    refine (toInt64SS_any A n c _ Z _ K.out.grid K.out.old.size hn2 HM.out).mono ?_
    rintro e w4 ⟨g4, z4, rfl, hz4, o4, b4⟩
    have X := Lib.hid (copy_grid o4 hz4 HL.out HM.out)
    have K := Lib.hid (K.out.step b4)
    clear o4 hz4 b4
    go_wp2_with fail
    refine (implF_any _ n n _ Z _ X.out (Nat.le_refl _) hn2).mono ?_
    rintro e w5 ⟨rfl, b5⟩
    have X := Lib.hid (X.out.below b5)
    have S := Lib.hid b5.size
    have K := Lib.hid (K.out.step b5)
    clear b5
    go_wp2_with fail
    refine (toInt64SS_any A n c _ Z _ K.out.grid K.out.old.size hn2 HM.out).mono ?_
    rintro e w6 ⟨g6, z6, rfl, hz6, o6, b6⟩
    have Y := Lib.hid (copy_grid o6 hz6 HL.out HM.out)
    have X := Lib.hid (X.out.below (b6.mono S.out))
    have S := Lib.hid (Nat.le_trans S.out b6.size)
    have K := Lib.hid (K.out.step b6)
    clear o6 hz6 b6
    go_wp2_with fail
    refine (eqInt64SS_any _ _ n n n _ _ Z _ X.out Y.out S.out (Nat.le_refl _) hn2).mono ?_
    rintro e w7 ⟨rfl, b7⟩
    have K := Lib.hid (K.out.step b7)
    clear b7
    go_wp2
    go_ret
    exact ⟨rfl, K.out.old⟩

/-! ### The row's step -/
theorem own : ownKnob Try.prog.godebug = none := by kernel_rfl
theorem laidOut : laidOutB Try.prog = true := by kernel_rfl
set_option maxRecDepth 100000 in
theorem lifted (os : Os) (started : os.Started) (H : Type) (enc : TypeId × Value → H) :
    ReturnsInHanded {} Try.checked os 6 .any (Rows.fnExactHighestOfSpec.pre6 enc Try.prog Try.f6 Rows.fnExactHighestOfRow.domain false) (Rows.fnExactHighestOfSpec.post enc Try.prog Try.f6 false true false false) := by
  refine returnsInHanded_of_change (C := Try.checked) own started (by kernel_rfl) Try.func6
    (ChangeSpec.witness6 (enc := enc) (C := Try.checked) false ⟨#[], #[.slice none 0 0], []⟩ 8 (by kernel_rfl) (by kernel_rfl) (by kernel_rfl) (by kernel_rfl)) ?_
  intro W base args ds gs before hval0 hW hcnd _
  have hval : ∀ (j : Nat) t v, Try.f6.params[j]? = some t → args[j]? = some v → Value.okWide Try.prog W .any base t v := hval0
  have hW' := hW
  obtain ⟨p, q, hA0, hV, rfl, hfz, hnd⟩ := hW
  have hA : DataW.TrodAll enc Try.prog W 0 (fun _ => true) true Try.f6.params.toList args.toList ds p := hA0
  rw [Try.params6] at hA hval
  obtain ⟨v0, vs0, d0, ds0, p0, q0, hargs, rfl, rfl, h0, r0⟩ := trodAll_cons hA
  obtain ⟨rfl, rfl, rfl⟩ := trodAll_nil r0
  obtain rfl : args = #[v0] := by cases args; simp_all
  obtain ⟨rfl, rfl⟩ := trodVars_none hV
  have k0 := h0
  have lt0 : ∀ x ∈ p0, x.block < W.heap.size := by obtain ⟨m, hm⟩ := k0; exact DataW.trod_lt m _ _ _ hm
  obtain ⟨a0, len0, cap0, rfl⟩ := okWide_slice Try.underlying28 (hval 0 28 v0 rfl rfl)
  obtain ⟨z0, w0⟩ : ∃ Z, Grid W W.heap.size a0 len0 Z ∧ len0 ≤ 9223372036854775807 := by
    obtain ⟨fuel, hf⟩ := h0
    rcases Deep.open_int_rows Try.underlying28 Try.underlying53 Try.underlying2 (by kernel_rfl) (by kernel_rfl) hf with ⟨hcs, _⟩ | ⟨x, l, c, A, L, C, ZZ, hcs, _, hl, hm, _, hrow⟩
    · simp [Value.cells] at hcs
      obtain ⟨rfl, rfl, rfl⟩ := hcs
      exact ⟨[], grid_nil _ _ _, by omega⟩
    · simp [Value.cells] at hcs
      obtain ⟨rfl, rfl, rfl⟩ := hcs
      exact ⟨_, grid_of_rows hl hrow, by unfold maxLen at hm; omega⟩
  clear hA0 hval0
  refine (walk a0 len0 cap0 z0 W w0).mono fun e W' ⟨he, bel⟩ => ?_
  subst he
  exact ⟨_, rfl, _, _, _, [], _, [], hW', trodAll_mk1 (shut_bool Try.underlying4 _), (trodAll_cons_mk (Below.trod laidOut (by kernel_rfl) (of_decide_eq_true (by kernel_rfl)) k0 bel lt0) trodAll_mk0), rfl, bel.frame _, fun h => by cases h⟩

theorem over : Rows.fnExactHighestOfRow.holds Try.pinned (OpenSpec.ofChange Rows.fnExactHighestOfSpec) :=
  OpenClaim.holds_of_wide 6 Try.f6 rfl rfl rfl rfl rfl rfl rfl ⟨rfl, rfl, rfl, rfl, rfl⟩ rfl rfl rfl rfl rfl (by kernel_rfl) Try.func6 (by kernel_rfl)
    (of_decide_eq_true (by kernel_rfl)) (by unfold Func.isWrapper; first | (rw [if_pos (by decide +kernel)]; kernel_rfl) | (rw [if_neg (by decide +kernel)]; exact ⟨rfl, rfl⟩))
    (fun os started H enc _ => lifted os started H enc)

/-- The given statement. -/
theorem proved : Rows.FnExactHighestOfSaid := over
#print axioms proved

end Go.Proofs.Ytfnlnkfihldoeaa.fnExactHighestOf
