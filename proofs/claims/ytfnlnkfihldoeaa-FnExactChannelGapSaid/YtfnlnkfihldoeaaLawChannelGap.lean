/- For every grid, the program's ChannelGap returns what the reference's returns; grids of more than 2^20 cells the law lets pass. Conditions: none. -/
import Derived.Test.YtfnlnkfihldoeaaArchB
import Derived.Test.YtfnlnkfihldoeaaEdge
import Derived.Deep.Matrix
import Derived.ProofKit
import Derived.OpenShut
import Derived.ShutString
import Derived.ChangeOld
import Derived.Below
namespace Go.Proofs.Ytfnlnkfihldoeaa.fnExactChannelGap
open Go.ChangeShapes Go.WideShapes Go.ChangeAt Go.RowKit
open Go.ChangeMaps (open_string shut_string)
set_option linter.unusedVariables false
open Go.Sort

/-- the least and the greatest number at the edge so far -/
def chF (Z : List (List Int)) (n m t : Nat) (a : Int × Int) : Int × Int := if edgeB n m (t / m) (t % m) then (mnI a.1 (V Z (t / m) (t % m)), mxI a.2 (V Z (t / m) (t % m))) else a
def fold (Z : List (List Int)) : Int × Int := foldN (chF Z Z.length (rowZ Z 0).length) (V Z 0 0, V Z 0 0) (Z.length * (rowZ Z 0).length)
def res (Z : List (List Int)) : Int := if archB Z then (fold Z).2 - (fold Z).1 else 0
def cod (Z : List (List Int)) : Int := if archB Z then 0 else 1
theorem res_t {Z : List (List Int)} (h : archB Z = true) : res Z = (fold Z).2 - (fold Z).1 ∧ cod Z = 0 := by simp [res, cod, h]
theorem res_f {Z : List (List Int)} (h : archB Z = false) : res Z = 0 ∧ cod Z = 1 := by simp [res, cod, h]
theorem is_ofb {P : Program} {f : FuncId} {args : Array Value} {w : World} {b c : Bool} (h : Calls P f args w fun e w' => e = .returned (.bool b) ∧ Below w.heap.size w w') (hb : b = c) :
    Calls P f args w fun e w' => e = .returned (.bool c) ∧ Below w.heap.size w w' := by rw [← hb]; exact h

set_option maxHeartbeats 3000000 in
theorem specF_any (A : Option Addr) (n c b : Nat) (Z : List (List Int)) (w : World) (hg : Grid w b A n Z) (hb0 : b ≤ w.heap.size) (hn : n ≤ 1048576) :
    Calls Try.prog 29 #[.slice A n c] w fun r w' => r = .returned (.tuple #[.int .i64 (res Z), .int .i64 (cod Z)]) ∧ Below w.heap.size w w' := by
  have HG := Lib.hid hg
  have HL := Lib.hid hg.len
  clear hg
  cases h0 : archB Z
  · have hr := Lib.hid (res_f h0)
    go_enter Try.func29, Try.ntmps29
    go_wp2_with (go_at_call 46; refine (is_ofb (l07Ok_any A n c b Z _ HG.out hb0 hn) h0).mono ?_; rintro e w1 ⟨rfl, b1⟩; have B1 := Lib.hid b1; clear b1)
    go_ret2
    exact ⟨ret_int2 hr.out.1.symm hr.out.2.symm, B1.out⟩
  · have hr0 := res_t h0
    obtain ⟨ad, rfl, M⟩ := Mat.of HG.out h0
    obtain ⟨m, hm⟩ : ∃ m, (rowZ Z 0).length = m := ⟨_, rfl⟩
    have hF : fold Z = foldN (chF Z n m) (V Z 0 0, V Z 0 0) (n * m) := by rw [fold, hm, HL.out]
    rw [hF] at hr0
    rw [hm] at M
    have hr := Lib.hid hr0
    have HM := Lib.hid M
    have n1 := M.n1
    have n2 := M.n2
    have m1 := M.m1
    have m2 := M.m2
    have hnm : n * m ≤ 100 := Nat.mul_le_mul n2 m2
    have hpos : 1 ≤ n * m := Nat.mul_le_mul n1 m1
    obtain ⟨a0, c0, r1, hb00, r3⟩ := M.rows 0 n1
    have v0 := M.bd 0 n1 0 m1
    have hc1 := Lib.hid (show w.cell? ad = some (.slice (some a0) m c0) by simpa [Addr.add] using r1)
    have hc2 := Lib.hid (show w.cell? a0 = some (.int .i64 (V Z 0 0)) by simpa [Addr.add] using r3 0 m1)
    obtain ⟨s0, hs0⟩ : ∃ s0, V Z 0 0 = s0 := ⟨_, rfl⟩
    have q1 : (0 : Int) < (n : Int) := by omega
    have q2 : (0 : Int) < (m : Int) := by omega
    rw [hs0] at v0 hc2 hr
    clear M hm hF hr0 r1 r3 hs0
    go_enter Try.func29, Try.ntmps29
    go_wp2_with (go_at_call 46; refine (is_ofb (l07Ok_any (some ad) n c b Z _ HG.out hb0 hn) h0).mono ?_; rintro e w1 ⟨rfl, b1⟩; have B1 := Lib.hid b1; have c1 := (b1.cell (p := ad) (Nat.lt_of_lt_of_le HM.out.blk hb0)).trans hc1.out; have c2 := (b1.cell (p := a0) (Nat.lt_of_lt_of_le hb00 hb0)).trans hc2.out; clear b1)
    clear c1 c2 q1 q2
    go_loopw [4, 5, 6] (fun s s2 i wr => ∃ (k : Nat) (lo hi : Int), k ≤ n ∧ foldN (chF Z n m) (s0, s0) (k * m) = (lo, hi) ∧ 0 ≤ lo ∧ lo ≤ 1000 ∧ 0 ≤ hi ∧ hi ≤ 1000 ∧ s = .int .i64 lo ∧ s2 = .int .i64 hi ∧ i = .int .i64 k ∧ Below w.heap.size w wr) (fun _ _ i _ => n - (intOf i).toNat)
    case atStart => exact ⟨0, s0, s0, Nat.zero_le _, by simp [foldN], v0.1, v0.2, v0.1, v0.2, rfl, rfl, rfl, B1.out⟩
    case round =>
      obtain ⟨k, lo, hi, hk, ha, l1, l2, h1, h2, rfl, rfl, rfl, hb⟩ := hrel
      have HA := Lib.hid ha
      have HB := Lib.hid hb
      clear ha hb
      by_cases hlt : k < n
      · obtain ⟨ai, ci, r1, r2, r3⟩ := HM.out.rows k hlt
        have hc0 := Lib.hid r1
        have R3 := Lib.hid r3
        clear r1 r3
        obtain ⟨wo, rfl⟩ : ∃ wo : World, wo = wr := ⟨_, rfl⟩
        go_wp2
        go_loopw [4, 5, 7] (fun s s2 j wi => ∃ (x : Nat) (lo hi : Int), x ≤ m ∧ foldN (chF Z n m) (s0, s0) (k * m + x) = (lo, hi) ∧ 0 ≤ lo ∧ lo ≤ 1000 ∧ 0 ≤ hi ∧ hi ≤ 1000 ∧ s = .int .i64 lo ∧ s2 = .int .i64 hi ∧ j = .int .i64 x ∧ Below w.heap.size w wi) (fun _ _ j _ => m - (intOf j).toNat)
        case atStart => exact ⟨0, lo, hi, Nat.zero_le _, HA.out, l1, l2, h1, h2, rfl, rfl, rfl, HB.out⟩
        case round =>
          obtain ⟨x, lo2, hi2, hx, ha2, l3, l4, h3, h4, rfl, rfl, rfl, hbi⟩ := hrel
          have HA2 := Lib.hid ha2
          have HBI := Lib.hid hbi
          have MI := Lib.hid (HM.out.below (hbi.mono hb0))
          clear ha2 hbi
          have hc1 := (HBI.out.cell (p := ad.add k) (by rw [block_of_add]; exact Nat.lt_of_lt_of_le HM.out.blk hb0)).trans hc0.out
          by_cases hxl : x < m
          · have hc2 := (HBI.out.cell (p := ai.add x) (by rw [block_of_add]; exact Nat.lt_of_lt_of_le r2 hb0)).trans (R3.out x hxl)
            have v1 := HM.out.bd k hlt x hxl
            obtain ⟨p, hp⟩ : ∃ p, V Z k x = p := ⟨_, rfl⟩
            rw [hp] at hc2 v1
            have st := Lib.hid (show foldN (chF Z n m) (s0, s0) (k * m + (x + 1)) = if edgeB n m k x then (mnI lo2 p, mxI hi2 p) else (lo2, hi2) by rw [show k * m + (x + 1) = k * m + x + 1 from rfl, foldN, HA2.out, chF, div_row hxl, mod_row hxl, hp])
            have hmn : 0 ≤ mnI lo2 p ∧ mnI lo2 p ≤ 1000 := by unfold mnI; split <;> omega
            have hmx : 0 ≤ mxI hi2 p ∧ mxI hi2 p ≤ 1000 := by unfold mxI; split <;> omega
            have HMN := Lib.hid hmn
            have HMX := Lib.hid hmx
            clear hp hmn hmx
            cases he : edgeB n m k x
            · go_wp2_with (go_at_call 57; refine (is_of (l07Edge_any ad n m _ b k x Z _ MI.out hlt) he).mono ?_; rintro e w' ⟨rfl, rfl⟩)
              go_roundw
              case rel => exact ⟨x + 1, lo2, hi2, by omega, by rw [st.out, he]; rfl, l3, l4, h3, h4, rfl, rfl, by go_num, HBI.out⟩
              case measure => simp [intOf]; omega
            · go_wp2_with (first | (go_at_call 57; refine (is_of (l07Edge_any ad n m _ b k x Z _ MI.out hlt) he).mono ?_; rintro e w' ⟨rfl, rfl⟩) | (go_at_call 58; refine (l00Min_any _ _ _).mono ?_; rintro e w' ⟨rfl, rfl⟩) | (go_at_call 50; refine (l00Max_any _ _ _).mono ?_; rintro e w' ⟨rfl, rfl⟩))
              go_roundw
              case rel => exact ⟨x + 1, mnI lo2 p, mxI hi2 p, by omega, by rw [st.out, he]; rfl, HMN.out.1, HMN.out.2, HMX.out.1, HMX.out.2, rfl, rfl, by go_num, HBI.out⟩
              case measure => simp [intOf]; omega
          · have hx2 := Lib.hid (show k * m + x = (k + 1) * m by rw [show x = m by omega, row_end])
            go_wp2
            go_roundw
            case rel => exact ⟨k + 1, lo2, hi2, by omega, by rw [← hx2.out]; exact HA2.out, l3, l4, h3, h4, rfl, rfl, by go_num, HBI.out⟩
            case measure => simp [intOf]; omega
      · have hk2 := Lib.hid (show k = n by omega)
        go_wp2
        go_ret2
        exact ⟨ret_int2 (by rw [hr.out.1, show n * m = k * m by rw [hk2.out], HA.out]) hr.out.2.symm, HB.out⟩

set_option maxHeartbeats 3000000 in
theorem implF_any (A : Option Addr) (n c b : Nat) (Z : List (List Int)) (w : World) (hg : Grid w b A n Z) (hb0 : b ≤ w.heap.size) (hn : n ≤ 1048576) :
    Calls Try.prog 30 #[.slice A n c] w fun r w' => r = .returned (.tuple #[.int .i64 (res Z), .int .i64 (cod Z)]) ∧ Below w.heap.size w w' := by
  have HG := Lib.hid hg
  have HL := Lib.hid hg.len
  clear hg
  cases h0 : archB Z
  · have hr := Lib.hid (res_f h0)
    go_enter Try.func30, Try.ntmps30
    go_wp2_with (go_at_call 21; refine (is_ofb (implArch_any A n c b Z _ HG.out hb0 hn) h0).mono ?_; rintro e w1 ⟨rfl, b1⟩; have B1 := Lib.hid b1; clear b1)
    go_ret2
    exact ⟨ret_int2 hr.out.1.symm hr.out.2.symm, B1.out⟩
  · have hr0 := res_t h0
    obtain ⟨ad, rfl, M⟩ := Mat.of HG.out h0
    obtain ⟨m, hm⟩ : ∃ m, (rowZ Z 0).length = m := ⟨_, rfl⟩
    have hF : fold Z = foldN (chF Z n m) (V Z 0 0, V Z 0 0) (n * m) := by rw [fold, hm, HL.out]
    rw [hF] at hr0
    rw [hm] at M
    have hr := Lib.hid hr0
    have HM := Lib.hid M
    have n1 := M.n1
    have n2 := M.n2
    have m1 := M.m1
    have m2 := M.m2
    have hnm : n * m ≤ 100 := Nat.mul_le_mul n2 m2
    have hpos : 1 ≤ n * m := Nat.mul_le_mul n1 m1
    obtain ⟨a0, c0, r1, hb00, r3⟩ := M.rows 0 n1
    have v0 := M.bd 0 n1 0 m1
    have hc1 := Lib.hid (show w.cell? ad = some (.slice (some a0) m c0) by simpa [Addr.add] using r1)
    have hc2 := Lib.hid (show w.cell? a0 = some (.int .i64 (V Z 0 0)) by simpa [Addr.add] using r3 0 m1)
    obtain ⟨s0, hs0⟩ : ∃ s0, V Z 0 0 = s0 := ⟨_, rfl⟩
    have q1 : (0 : Int) < (n : Int) := by omega
    have q2 : (0 : Int) < (m : Int) := by omega
    rw [hs0] at v0 hc2 hr
    clear M hm hF hr0 r1 r3 hs0
    go_enter Try.func30, Try.ntmps30
    go_wp2_with (go_at_call 21; refine (is_ofb (implArch_any (some ad) n c b Z _ HG.out hb0 hn) h0).mono ?_; rintro e w1 ⟨rfl, b1⟩; have B1 := Lib.hid b1; have c1 := (b1.cell (p := ad) (Nat.lt_of_lt_of_le HM.out.blk hb0)).trans hc1.out; have c2 := (b1.cell (p := a0) (Nat.lt_of_lt_of_le hb00 hb0)).trans hc2.out; clear b1)
    go_wp2_with fail
    go_quiet (fail)
    have BD := Lib.hid (below_drewN B1.out nq)
    obtain ⟨wd, hwd⟩ : ∃ wd : World, wd = w1.drewN nq := ⟨_, rfl⟩
    rw [← hwd] at BD ⊢
    clear B1 c1 c2 hwd
    have B1 := BD
    clear BD
    go_wp2_with fail
    refine (places_any ad n m c b Z _ (HM.out.below (B1.out.mono hb0)) (Nat.le_trans hb0 B1.out.size)).mono ?_
    rintro e w2 ⟨g, cap, rfl, o2, b2⟩
    have B2 := Lib.hid (B1.out.trans (b2.mono B1.out.size))
    have O2 := Lib.hid o2
    have G2 := Lib.hid (own_lt o2)
    clear o2 b2
    have m0 : 0 < m := m1
    go_wp2_with fail
    go_loopw [4, 5, 24] (fun s s2 i wr => ∃ (t : Nat) (lo hi : Int), t ≤ n * m ∧ foldN (chF Z n m) (s0, s0) t = (lo, hi) ∧ 0 ≤ lo ∧ lo ≤ 1000 ∧ 0 ≤ hi ∧ hi ≤ 1000 ∧ s = .int .i64 lo ∧ s2 = .int .i64 hi ∧ i = .int .i64 t ∧ Below w2.heap.size w2 wr) (fun _ _ i _ => n * m - (intOf i).toNat)
    case atStart => exact ⟨0, s0, s0, Nat.zero_le _, by simp [foldN], v0.1, v0.2, v0.1, v0.2, rfl, rfl, rfl, Below.refl _ _⟩
    case round =>
      obtain ⟨t, lo, hi, ht, ha, l1, l2, h1, h2, rfl, rfl, rfl, hb⟩ := hrel
      have HA := Lib.hid ha
      have HB := Lib.hid hb
      clear ha hb
      by_cases hlt : t < n * m
      · have hin : t / m < n := Nat.div_lt_of_lt_mul (by rw [Nat.mul_comm]; exact hlt)
        have hkm : t % m < m := Nat.mod_lt _ m1
        have v1 := HM.out.bd _ hin _ hkm
        have pa := plc_at (m := m) hlt
        have hc1 : wr.cell? ⟨g, t * 2, none⟩ = some (.int .i64 ((t / m : Nat) : Int)) := (HB.out.cell (p := ⟨g, t * 2, none⟩) G2.out.2).trans ((O2.out.cellAt (t * 2) (by omega)).trans pa.1)
        have hc2 : wr.cell? ⟨g, t * 2 + 1, none⟩ = some (.int .i64 ((t % m : Nat) : Int)) := (HB.out.cell (p := ⟨g, t * 2 + 1, none⟩) G2.out.2).trans ((O2.out.cellAt (t * 2 + 1) (by omega)).trans pa.2)
        obtain ⟨i, hi2⟩ : ∃ i, t / m = i := ⟨_, rfl⟩
        obtain ⟨k, hk2⟩ : ∃ k, t % m = k := ⟨_, rfl⟩
        rw [hi2] at hc1 hin v1
        rw [hk2] at hc2 hkm v1
        obtain ⟨p, hp⟩ : ∃ p, V Z i k = p := ⟨_, rfl⟩
        rw [hp] at v1
        have st := Lib.hid (show foldN (chF Z n m) (s0, s0) (t + 1) = if edgeB n m i k then (mnI lo p, mxI hi p) else (lo, hi) by rw [foldN, HA.out, chF, hi2, hk2, hp])
        have HP := Lib.hid hp
        have hbw : Below w.heap.size w wr := B2.out.trans (HB.out.mono B2.out.size)
        have HBW := Lib.hid hbw
        have MW := Lib.hid (HM.out.below (hbw.mono hb0))
        have hmn : 0 ≤ mnI lo p ∧ mnI lo p ≤ 1000 := by unfold mnI; split <;> omega
        have hmx : 0 ≤ mxI hi p ∧ mxI hi p ≤ 1000 := by unfold mxI; split <;> omega
        have HMN := Lib.hid hmn
        have HMX := Lib.hid hmx
        obtain ⟨W0, hW0⟩ : ∃ W0, wr.alloc (.cells #[.int .i64 (i : Int), .int .i64 (k : Int)] 59) = W0 := ⟨_, rfl⟩
        have PB := Lib.hid (show Blk W0 wr.heap.size 59 #[.int .i64 (i : Int), .int .i64 (k : Int)] by rw [← hW0]; exact Blk.new _ _ _)
        have hs0 : W0.heap.size = wr.heap.size + 1 := by rw [← hW0]; simp
        have MR0 := Lib.hid (show Mat W0 b ad n m Z by rw [← hW0]; exact MW.out.below ((Below.refl _ _).alloc (Nat.le_trans hb0 HBW.out.size) _))
        have BW0 := Lib.hid (show Below wr.heap.size wr W0 by rw [← hW0]; exact (Below.refl wr.heap.size wr).alloc (Nat.le_refl _) _)
        have HW0 := Lib.hid hW0
        have HS0 := Lib.hid hs0
        have hbz := Lib.hid (show b ≤ W0.heap.size by have := HBW.out.size; omega)
        clear pa hi2 hk2 hp hbw hmn hmx hW0 hs0
        go_wp2_with fail
        rw [HW0.out]
        cases he : edgeB n m i k
        all_goals
          refine (is_ofb (edge_any ad n m c b i k Z _ MR0.out hbz.out hin hkm) he).mono ?_
          rintro e w5 ⟨rfl, b5⟩
          have PB := Lib.hid (PB.out.below b5 (by have := HS0.out; omega))
          have MR := Lib.hid (MR0.out.below (b5.mono hbz.out))
          have B5 := Lib.hid (BW0.out.trans (b5.mono BW0.out.size))
          have hbz5 := Lib.hid (Nat.le_trans hbz.out b5.size)
          clear b5
        · go_wp2
          go_roundw
          case rel => exact ⟨t + 1, lo, hi, by omega, by rw [st.out, he]; rfl, l1, l2, h1, h2, rfl, rfl, by go_num, HB.out.trans (B5.out.mono HB.out.size)⟩
          case measure => simp [intOf]; omega
        · have ofp : ∀ W, Below w5.heap.size w5 W → Calls Try.prog 54 #[.agg #[.int .i64 (i : Int), .int .i64 (k : Int)], .slice (some ad) n c] W fun e w' => e = .returned (.int .i64 p) ∧ Below W.heap.size W w' := fun W hW => by
            rw [← HP.out]; exact of_any ad n m c b i k Z W (MR.out.below (hW.mono hbz5.out)) (Nat.le_trans hbz5.out hW.size) hin hkm
          have OFP := Lib.hid ofp
          have hv1 := Lib.hid (show mnI lo p = if p < lo then p else lo by unfold mnI; (repeat' split) <;> omega)
          have hv2 := Lib.hid (show mxI hi p = if hi < p then p else hi by unfold mxI; (repeat' split) <;> omega)
          have k1 := cell_regrown (PB.out.cell 0)
          have k2 := cell_regrown (PB.out.cell 1)
          clear hc1 hc2 ofp
          go_wp2_with fail
          refine wp_region_quiet_below (by kernel_rfl) (by kernel_rfl) ?_; (repeat (quiet_step ((go_at_call 54; exact Calls.regrown_of (OFP.out _ (below_regrown _ _ _)))))); refine wpQuiet_nil ?_; intro wq hwq; obtain ⟨⟨dq, osq⟩, hwq2⟩ := hwq; have bq := below_of hwq2; clear hwq2
          clear k1 k2
          go_wp2
          go_roundw
          case rel => exact ⟨t + 1, mnI lo p, mxI hi p, by omega, by rw [st.out, he]; rfl, HMN.out.1, HMN.out.2, HMX.out.1, HMX.out.2, by rw [hv1.out], by rw [hv2.out], by go_num, HB.out.trans ((B5.out.trans (bq.mono B5.out.size)).mono HB.out.size)⟩
          case measure => simp [intOf]; omega
      · have hk2 := Lib.hid (show t = n * m by omega)
        go_wp2
        go_ret2
        exact ⟨ret_int2 (by rw [hr.out.1, ← hk2.out, HA.out]) hr.out.2.symm, B2.out.trans (HB.out.mono B2.out.size)⟩

set_option maxHeartbeats 1600000 in
theorem walk (A : Option Addr) (n c : Nat) (Z : List (List Int)) (w : World) (w0 : Grid w w.heap.size A n Z ∧ n ≤ 9223372036854775807) :
    Calls Try.prog 8 #[.slice A n c] w fun r w' => r = .returned (.bool true) ∧ Below w.heap.size w w' := by
  obtain ⟨hg, hn⟩ := w0
  have K := Lib.hid (show KeepG w A n Z w from ⟨Below.refl _ _, hg⟩)
  have HL := Lib.hid hg.len
  clear hg
  go_enter Try.func8, Try.ntmps8
  go_wp2_with fail
  refine (szInt64SS_any A n c _ Z 1048576 _ K.out.grid hn (by omega) (by omega)).mono ?_
  rintro e w1 ⟨r, rfl, r1, hs, b1⟩
  have HS := Lib.hid hs
  have K := Lib.hid (K.out.step b1)
  clear hs b1
  by_cases hr : r < 0
  · go_wp2
    go_ret
    exact ⟨rfl, K.out.old⟩
  · have hr0 : 0 ≤ r := by omega
    have hn2 : n ≤ 1048576 := by have := (HS.out hr0).1; rw [HL.out] at this; omega
    have HM : Hid (∀ i, i < n → (rowZ Z i).length ≤ 1048576) := fun i hi => by have := (HS.out hr0).2 i (by rw [HL.out]; exact hi); omega
    go_wp2_with fail
    refine (toInt64SS_any A n c _ Z _ K.out.grid K.out.old.size hn2 HM.out).mono ?_
    rintro e w2 ⟨g2, z2, rfl, hz2, o2, b2⟩
    have X := Lib.hid (copy_grid o2 hz2 HL.out HM.out)
    have K := Lib.hid (K.out.step b2)
    clear o2 hz2 b2
    go_wp2_with fail
    refine (specF_any _ n n _ Z _ X.out (Nat.le_refl _) hn2).mono ?_
    rintro e w3 ⟨rfl, b3⟩
    have K := Lib.hid (K.out.step b3)
    clear b3
    go_wp2_with fail
    refine (toInt64SS_any A n c _ Z _ K.out.grid K.out.old.size hn2 HM.out).mono ?_
    rintro e w4 ⟨g4, z4, rfl, hz4, o4, b4⟩
    have X := Lib.hid (copy_grid o4 hz4 HL.out HM.out)
    have K := Lib.hid (K.out.step b4)
    clear o4 hz4 b4
    go_wp2_with fail
    refine (implF_any _ n n _ Z _ X.out (Nat.le_refl _) hn2).mono ?_
    rintro e w5 ⟨rfl, b5⟩
    have X := Lib.hid (X.out.below b5)
    have S := Lib.hid b5.size
    have K := Lib.hid (K.out.step b5)
    clear b5
    go_wp2_with fail
    refine (toInt64SS_any A n c _ Z _ K.out.grid K.out.old.size hn2 HM.out).mono ?_
    rintro e w6 ⟨g6, z6, rfl, hz6, o6, b6⟩
    have Y := Lib.hid (copy_grid o6 hz6 HL.out HM.out)
    have X := Lib.hid (X.out.below (b6.mono S.out))
    have S := Lib.hid (Nat.le_trans S.out b6.size)
    have K := Lib.hid (K.out.step b6)
    clear o6 hz6 b6
    go_wp2_with fail
    refine (eqInt64SS_any _ _ n n n _ _ Z _ X.out Y.out S.out (Nat.le_refl _) hn2).mono ?_
    rintro e w7 ⟨rfl, b7⟩
    have K := Lib.hid (K.out.step b7)
    clear b7
    go_wp2
    go_ret
    exact ⟨rfl, K.out.old⟩

/-! ### The row's step -/
theorem own : ownKnob Try.prog.godebug = none := by kernel_rfl
theorem laidOut : laidOutB Try.prog = true := by kernel_rfl
set_option maxRecDepth 100000 in
theorem lifted (os : Os) (started : os.Started) (H : Type) (enc : TypeId × Value → H) :
    ReturnsInHanded {} Try.checked os 8 .any (Rows.fnExactChannelGapSpec.pre6 enc Try.prog Try.f8 Rows.fnExactChannelGapRow.domain false) (Rows.fnExactChannelGapSpec.post enc Try.prog Try.f8 false true false false) := by
  refine returnsInHanded_of_change (C := Try.checked) own started (by kernel_rfl) Try.func8
    (ChangeSpec.witness6 (enc := enc) (C := Try.checked) false ⟨#[], #[.slice none 0 0], []⟩ 8 (by kernel_rfl) (by kernel_rfl) (by kernel_rfl) (by kernel_rfl)) ?_
  intro W base args ds gs before hval0 hW hcnd _
  have hval : ∀ (j : Nat) t v, Try.f8.params[j]? = some t → args[j]? = some v → Value.okWide Try.prog W .any base t v := hval0
  have hW' := hW
  obtain ⟨p, q, hA0, hV, rfl, hfz, hnd⟩ := hW
  have hA : DataW.TrodAll enc Try.prog W 0 (fun _ => true) true Try.f8.params.toList args.toList ds p := hA0
  rw [Try.params8] at hA hval
  obtain ⟨v0, vs0, d0, ds0, p0, q0, hargs, rfl, rfl, h0, r0⟩ := trodAll_cons hA
  obtain ⟨rfl, rfl, rfl⟩ := trodAll_nil r0
  obtain rfl : args = #[v0] := by cases args; simp_all
  obtain ⟨rfl, rfl⟩ := trodVars_none hV
  have k0 := h0
  have lt0 : ∀ x ∈ p0, x.block < W.heap.size := by obtain ⟨m, hm⟩ := k0; exact DataW.trod_lt m _ _ _ hm
  obtain ⟨a0, len0, cap0, rfl⟩ := okWide_slice Try.underlying28 (hval 0 28 v0 rfl rfl)
  obtain ⟨z0, w0⟩ : ∃ Z, Grid W W.heap.size a0 len0 Z ∧ len0 ≤ 9223372036854775807 := by
    obtain ⟨fuel, hf⟩ := h0
    rcases Deep.open_int_rows Try.underlying28 Try.underlying53 Try.underlying2 (by kernel_rfl) (by kernel_rfl) hf with ⟨hcs, _⟩ | ⟨x, l, c, A, L, C, ZZ, hcs, _, hl, hm, _, hrow⟩
    · simp [Value.cells] at hcs
      obtain ⟨rfl, rfl, rfl⟩ := hcs
      exact ⟨[], grid_nil _ _ _, by omega⟩
    · simp [Value.cells] at hcs
      obtain ⟨rfl, rfl, rfl⟩ := hcs
      exact ⟨_, grid_of_rows hl hrow, by unfold maxLen at hm; omega⟩
  clear hA0 hval0
  refine (walk a0 len0 cap0 z0 W w0).mono fun e W' ⟨he, bel⟩ => ?_
  subst he
  exact ⟨_, rfl, _, _, _, [], _, [], hW', trodAll_mk1 (shut_bool Try.underlying4 _), (trodAll_cons_mk (Below.trod laidOut (by kernel_rfl) (of_decide_eq_true (by kernel_rfl)) k0 bel lt0) trodAll_mk0), rfl, bel.frame _, fun h => by cases h⟩

theorem over : Rows.fnExactChannelGapRow.holds Try.pinned (OpenSpec.ofChange Rows.fnExactChannelGapSpec) :=
  OpenClaim.holds_of_wide 8 Try.f8 rfl rfl rfl rfl rfl rfl rfl ⟨rfl, rfl, rfl, rfl, rfl⟩ rfl rfl rfl rfl rfl (by kernel_rfl) Try.func8 (by kernel_rfl)
    (of_decide_eq_true (by kernel_rfl)) (by unfold Func.isWrapper; first | (rw [if_pos (by decide +kernel)]; kernel_rfl) | (rw [if_neg (by decide +kernel)]; exact ⟨rfl, rfl⟩))
    (fun os started H enc _ => lifted os started H enc)

/-- The given statement. -/
theorem proved : Rows.FnExactChannelGapSaid := over
#print axioms proved

end Go.Proofs.Ytfnlnkfihldoeaa.fnExactChannelGap
