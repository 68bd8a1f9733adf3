/- For every grid, the program's SteepestStep returns what the reference's returns; grids of more than 2^20 cells the law lets pass. Conditions: none. -/
import Derived.Test.YtfnlnkfihldoeaaArchB
import Derived.Test.YtfnlnkfihldoeaaSteep
import Derived.Deep.Matrix
import Derived.ProofKit
import Derived.OpenShut
import Derived.ShutString
import Derived.ChangeOld
import Derived.Below
namespace Go.Proofs.Ytfnlnkfihldoeaa.fnExactSteepestStep
open Go.ChangeShapes Go.WideShapes Go.ChangeAt Go.RowKit
open Go.ChangeMaps (open_string shut_string)
set_option linter.unusedVariables false
open Go.Sort

def res (Z : List (List Int)) : Int := if archB Z then foldN (stS Z (rowZ Z 0).length) 0 (Z.length * (rowZ Z 0).length) else 0
def cod (Z : List (List Int)) : Int := if archB Z then 0 else 1
theorem res_t {Z : List (List Int)} (h : archB Z = true) : res Z = foldN (stS Z (rowZ Z 0).length) 0 (Z.length * (rowZ Z 0).length) ∧ cod Z = 0 := by simp [res, cod, h]
theorem res_f {Z : List (List Int)} (h : archB Z = false) : res Z = 0 ∧ cod Z = 1 := by simp [res, cod, h]
theorem is_ofb {P : Program} {f : FuncId} {args : Array Value} {w : World} {b c : Bool} (h : Calls P f args w fun e w' => e = .returned (.bool b) ∧ Below w.heap.size w w') (hb : b = c) :
    Calls P f args w fun e w' => e = .returned (.bool c) ∧ Below w.heap.size w w' := by rw [← hb]; exact h
theorem stN_take {Z : List (List Int)} {p : Int} : ∀ {l : List (Nat × Nat)} {j : Nat} {q : Nat × Nat} {a : Int}, l[j]? = some q → stN Z p (l.take (j + 1)) a = mxI (stN Z p (l.take j) a) (p - V Z q.1 q.2)
  | x :: l, 0, q, a, h => by simp at h; subst h; simp [stN]
  | x :: l, j + 1, q, a, h => by
    rw [List.take_succ_cons, List.take_succ_cons, stN, stN]
    exact stN_take (by simpa using h)
theorem bd_mx {a b : Int} (h1 : 0 ≤ a) (h2 : a ≤ 1000) (h3 : b ≤ 1000) : 0 ≤ mxI a b ∧ mxI a b ≤ 1000 := by unfold mxI; split <;> omega

set_option maxHeartbeats 2000000 in
theorem specF_any (A : Option Addr) (n c b : Nat) (Z : List (List Int)) (w : World) (hg : Grid w b A n Z) (hb0 : b ≤ w.heap.size) (hn : n ≤ 1048576) :
    Calls Try.prog 31 #[.slice A n c] w fun r w' => r = .returned (.tuple #[.int .i64 (res Z), .int .i64 (cod Z)]) ∧ Below w.heap.size w w' := by
  have HG := Lib.hid hg
  have HL := Lib.hid hg.len
  clear hg
  cases h : archB Z
  · have hr := Lib.hid (res_f h)
    go_enter Try.func31, Try.ntmps31
    go_wp2_with (go_at_call 46; refine (is_ofb (l07Ok_any A n c b Z _ HG.out hb0 hn) h).mono ?_; rintro e w1 ⟨rfl, b1⟩; have B1 := Lib.hid b1; clear b1)
    go_ret2
    exact ⟨ret_int2 hr.out.1.symm hr.out.2.symm, B1.out⟩
  · have hr := Lib.hid (res_t h)
    obtain ⟨ad, rfl, M⟩ := Mat.of HG.out h
    obtain ⟨m, hm⟩ : ∃ m, (rowZ Z 0).length = m := ⟨_, rfl⟩
    rw [hm] at M
    have HF := Lib.hid (show res Z = foldN (stS Z m) 0 (n * m) by rw [hr.out.1, hm, HL.out])
    have HM := Lib.hid M
    have n1 := M.n1
    have n2 := M.n2
    have m1 := M.m1
    have m2 := M.m2
    clear M hm
    go_enter Try.func31, Try.ntmps31
    go_wp2_with (go_at_call 46; refine (is_ofb (l07Ok_any (some ad) n c b Z _ HG.out hb0 hn) h).mono ?_; rintro e w1 ⟨rfl, b1⟩; have B1 := Lib.hid b1; clear b1)
    go_loopw [4, 5] (fun s i wr => ∃ (k : Nat) (acc : Int), k ≤ n ∧ foldN (stS Z m) 0 (k * m) = acc ∧ 0 ≤ acc ∧ acc ≤ 1000 ∧ s = .int .i64 acc ∧ i = .int .i64 k ∧ Below w.heap.size w wr) (fun _ i _ => n - (intOf i).toNat)
    case atStart => exact ⟨0, 0, Nat.zero_le _, by simp [foldN], by omega, by omega, rfl, rfl, B1.out⟩
    case round =>
      obtain ⟨k, acc, hk, ha, a0, a1, rfl, rfl, hb⟩ := hrel
      have HA := Lib.hid ha
      have HB := Lib.hid hb
      clear ha hb
      by_cases hlt : k < n
      · obtain ⟨ai, ci, r1, r2, r3⟩ := HM.out.rows k hlt
        have hc0 := Lib.hid r1
        have R3 := Lib.hid r3
        clear r1 r3
        obtain ⟨wo, rfl⟩ : ∃ wo : World, wo = wr := ⟨_, rfl⟩
        go_wp2
        go_loopw [4, 6] (fun s j wi => ∃ (x : Nat) (acc : Int), x ≤ m ∧ foldN (stS Z m) 0 (k * m + x) = acc ∧ 0 ≤ acc ∧ acc ≤ 1000 ∧ s = .int .i64 acc ∧ j = .int .i64 x ∧ Below w.heap.size w wi) (fun _ j _ => m - (intOf j).toNat)
        case atStart => exact ⟨0, acc, Nat.zero_le _, HA.out, a0, a1, rfl, rfl, HB.out⟩
        case round =>
          obtain ⟨x, acc2, hx, ha2, a2, a3, rfl, rfl, hbi⟩ := hrel
          have HA2 := Lib.hid ha2
          have HBI := Lib.hid hbi
          clear ha2 hbi
          have hc1 := (HBI.out.cell (p := ad.add k) (by rw [block_of_add]; exact Nat.lt_of_lt_of_le HM.out.blk hb0)).trans hc0.out
          by_cases hxl : x < m
          · have v1 := HM.out.bd k hlt x hxl
            have hc2 := (HBI.out.cell (p := ai.add x) (by rw [block_of_add]; exact Nat.lt_of_lt_of_le r2 hb0)).trans (R3.out x hxl)
            obtain ⟨p, hp⟩ : ∃ p, V Z k x = p := ⟨_, rfl⟩
            rw [hp] at hc2 v1
            have gk : (k : Int) < (n : Int) := by omega
            have gx : (x : Int) < (m : Int) := by omega
            by_cases hk1 : 0 < k <;> by_cases hx1 : 0 < x
            · have vu := HM.out.bd (k - 1) (by omega) x hxl
              obtain ⟨au, cu, s1, s2, s3⟩ := HM.out.rows (k - 1) (by omega)
              have hcu := (HBI.out.cell (p := ad.add (k - 1)) (by rw [block_of_add]; exact Nat.lt_of_lt_of_le HM.out.blk hb0)).trans s1
              have hcv := (HBI.out.cell (p := au.add x) (by rw [block_of_add]; exact Nat.lt_of_lt_of_le s2 hb0)).trans (s3 x hxl)
              obtain ⟨u, hu⟩ : ∃ u, V Z (k - 1) x = u := ⟨_, rfl⟩
              rw [hu] at hcv vu
              have d1 : distI p u ≤ 1000 := by unfold distI; split <;> omega
              have eu : ((k : Int) - 1).toNat = k - 1 := by omega
              have gu0 : (0 : Int) ≤ (k : Int) - 1 := by omega
              have gu1 : (k : Int) - 1 < (n : Int) := by omega
              have wu : IntKind.i64.wrap ((k : Int) - 1) = (k : Int) - 1 := by rw [IntKind.wrap_i64]; omega
              have b1 := Lib.hid (bd_mx a2 a3 d1)
              clear s1 s2 s3
              have vl := HM.out.bd k hlt (x - 1) (by omega)
              have hcl := (HBI.out.cell (p := ai.add (x - 1)) (by rw [block_of_add]; exact Nat.lt_of_lt_of_le r2 hb0)).trans (R3.out (x - 1) (by omega))
              obtain ⟨q, hq⟩ : ∃ q, V Z k (x - 1) = q := ⟨_, rfl⟩
              rw [hq] at hcl vl
              have d2 : distI p q ≤ 1000 := by unfold distI; split <;> omega
              have el : ((x : Int) - 1).toNat = x - 1 := by omega
              have gl0 : (0 : Int) ≤ (x : Int) - 1 := by omega
              have gl1 : (x : Int) - 1 < (m : Int) := by omega
              have wl : IntKind.i64.wrap ((x : Int) - 1) = (x : Int) - 1 := by rw [IntKind.wrap_i64]; omega
              have st := Lib.hid (show foldN (stS Z m) 0 (k * m + (x + 1)) = (mxI (mxI acc2 (distI p u)) (distI p q)) by rw [show k * m + (x + 1) = k * m + x + 1 from rfl, foldN, HA2.out, stS, div_row hxl, mod_row hxl]; simp only [hx1, hk1, ↓reduceIte]; rw [hp, hu, hq])
              have BD := Lib.hid (show 0 ≤ (mxI (mxI acc2 (distI p u)) (distI p q)) ∧ (mxI (mxI acc2 (distI p u)) (distI p q)) ≤ 1000 from bd_mx b1.out.1 b1.out.2 d2)
              have zk : decide (0 < k) = true := by rw [decide_eq_true_iff]; omega
              have zx : decide (0 < x) = true := by rw [decide_eq_true_iff]; omega
              clear hp hx1 hk1 hu hq
              go_wp2_with fail
              go_quiet (first | (go_at_call 51; exact Calls.quiet_of_same (flip (l03Abs_any _ _ _ (by omega) (by omega) (by omega) (by omega)))) | (go_at_call 50; exact Calls.quiet_of_same (flip (l00Max_any _ _ _))))
              go_wp2_with fail
              obtain ⟨wd, hwd⟩ : ∃ wd : World, wd = wr.drewN nq := ⟨_, rfl⟩
              rw [← hwd]
              replace hc1 : wd.cell? (ad.add k) = some (.slice (some ai) m ci) := by rw [hwd]; exact hc1
              replace hc2 : wd.cell? (ai.add x) = some (.int .i64 p) := by rw [hwd]; exact hc2
              replace hcl : wd.cell? (ai.add (x - 1)) = some (.int .i64 q) := by rw [hwd]; exact hcl
              have HBD := Lib.hid (show Below w.heap.size w wd by rw [hwd]; exact below_drewN HBI.out nq)
              clear hwd hcu hcv eu gu0 gu1 wu vu d1
              go_quiet (first | (go_at_call 51; exact Calls.quiet_of_same (flip (l03Abs_any _ _ _ (by omega) (by omega) (by omega) (by omega)))) | (go_at_call 50; exact Calls.quiet_of_same (flip (l00Max_any _ _ _))))
              go_wp2
              go_roundw
              case rel => exact ⟨x + 1, _, by omega, st.out, BD.out.1, BD.out.2, rfl, by go_num, below_drewN HBD.out _⟩
              case measure => simp [intOf]; omega
            · have vu := HM.out.bd (k - 1) (by omega) x hxl
              obtain ⟨au, cu, s1, s2, s3⟩ := HM.out.rows (k - 1) (by omega)
              have hcu := (HBI.out.cell (p := ad.add (k - 1)) (by rw [block_of_add]; exact Nat.lt_of_lt_of_le HM.out.blk hb0)).trans s1
              have hcv := (HBI.out.cell (p := au.add x) (by rw [block_of_add]; exact Nat.lt_of_lt_of_le s2 hb0)).trans (s3 x hxl)
              obtain ⟨u, hu⟩ : ∃ u, V Z (k - 1) x = u := ⟨_, rfl⟩
              rw [hu] at hcv vu
              have d1 : distI p u ≤ 1000 := by unfold distI; split <;> omega
              have eu : ((k : Int) - 1).toNat = k - 1 := by omega
              have gu0 : (0 : Int) ≤ (k : Int) - 1 := by omega
              have gu1 : (k : Int) - 1 < (n : Int) := by omega
              have wu : IntKind.i64.wrap ((k : Int) - 1) = (k : Int) - 1 := by rw [IntKind.wrap_i64]; omega
              have b1 := Lib.hid (bd_mx a2 a3 d1)
              clear s1 s2 s3
              have st := Lib.hid (show foldN (stS Z m) 0 (k * m + (x + 1)) = (mxI acc2 (distI p u)) by rw [show k * m + (x + 1) = k * m + x + 1 from rfl, foldN, HA2.out, stS, div_row hxl, mod_row hxl]; simp only [hx1, hk1, ↓reduceIte]; rw [hp, hu])
              have BD := Lib.hid (show 0 ≤ (mxI acc2 (distI p u)) ∧ (mxI acc2 (distI p u)) ≤ 1000 from b1.out)
              have zk : decide (0 < k) = true := by rw [decide_eq_true_iff]; omega
              have zx : decide (0 < x) = false := by rw [decide_eq_false_iff_not]; omega
              clear hp hx1 hk1 hu
              go_wp2_with fail
              go_quiet (first | (go_at_call 51; exact Calls.quiet_of_same (flip (l03Abs_any _ _ _ (by omega) (by omega) (by omega) (by omega)))) | (go_at_call 50; exact Calls.quiet_of_same (flip (l00Max_any _ _ _))))
              go_wp2
              go_roundw
              case rel => exact ⟨x + 1, _, by omega, st.out, BD.out.1, BD.out.2, rfl, by go_num, below_drewN HBI.out _⟩
              case measure => simp [intOf]; omega
            · have vl := HM.out.bd k hlt (x - 1) (by omega)
              have hcl := (HBI.out.cell (p := ai.add (x - 1)) (by rw [block_of_add]; exact Nat.lt_of_lt_of_le r2 hb0)).trans (R3.out (x - 1) (by omega))
              obtain ⟨q, hq⟩ : ∃ q, V Z k (x - 1) = q := ⟨_, rfl⟩
              rw [hq] at hcl vl
              have d2 : distI p q ≤ 1000 := by unfold distI; split <;> omega
              have el : ((x : Int) - 1).toNat = x - 1 := by omega
              have gl0 : (0 : Int) ≤ (x : Int) - 1 := by omega
              have gl1 : (x : Int) - 1 < (m : Int) := by omega
              have wl : IntKind.i64.wrap ((x : Int) - 1) = (x : Int) - 1 := by rw [IntKind.wrap_i64]; omega
              have st := Lib.hid (show foldN (stS Z m) 0 (k * m + (x + 1)) = (mxI acc2 (distI p q)) by rw [show k * m + (x + 1) = k * m + x + 1 from rfl, foldN, HA2.out, stS, div_row hxl, mod_row hxl]; simp only [hx1, hk1, ↓reduceIte]; rw [hp, hq])
              have BD := Lib.hid (show 0 ≤ (mxI acc2 (distI p q)) ∧ (mxI acc2 (distI p q)) ≤ 1000 from bd_mx a2 a3 d2)
              have zk : decide (0 < k) = false := by rw [decide_eq_false_iff_not]; omega
              have zx : decide (0 < x) = true := by rw [decide_eq_true_iff]; omega
              clear hp hx1 hk1 hq
              go_wp2_with fail
              go_quiet (first | (go_at_call 51; exact Calls.quiet_of_same (flip (l03Abs_any _ _ _ (by omega) (by omega) (by omega) (by omega)))) | (go_at_call 50; exact Calls.quiet_of_same (flip (l00Max_any _ _ _))))
              go_wp2
              go_roundw
              case rel => exact ⟨x + 1, _, by omega, st.out, BD.out.1, BD.out.2, rfl, by go_num, below_drewN HBI.out _⟩
              case measure => simp [intOf]; omega
            · have st := Lib.hid (show foldN (stS Z m) 0 (k * m + (x + 1)) = acc2 by rw [show k * m + (x + 1) = k * m + x + 1 from rfl, foldN, HA2.out, stS, div_row hxl, mod_row hxl]; simp only [hx1, hk1, ↓reduceIte])
              have BD := Lib.hid (show 0 ≤ acc2 ∧ acc2 ≤ 1000 from ⟨a2, a3⟩)
              have zk : decide (0 < k) = false := by rw [decide_eq_false_iff_not]; omega
              have zx : decide (0 < x) = false := by rw [decide_eq_false_iff_not]; omega
              clear hp hx1 hk1
              go_wp2
              go_roundw
              case rel => exact ⟨x + 1, _, by omega, st.out, BD.out.1, BD.out.2, rfl, by go_num, HBI.out⟩
              case measure => simp [intOf]; omega
          · have hx2 := Lib.hid (show k * m + x = (k + 1) * m by rw [show x = m by omega, row_end])
            go_wp2
            go_roundw
            case rel => exact ⟨k + 1, acc2, by omega, by rw [← hx2.out]; exact HA2.out, a2, a3, rfl, by go_num, HBI.out⟩
            case measure => simp [intOf]; omega
      · have hk2 := Lib.hid (show k = n by omega)
        go_wp2
        go_ret2
        exact ⟨ret_int2 (by rw [HF.out, ← HA.out, hk2.out]) hr.out.2.symm, HB.out⟩

set_option maxHeartbeats 4000000 in
theorem steepest_any (ad : Addr) (n m c b : Nat) (Z : List (List Int)) (w : World) (hM : Mat w b ad n m Z) (hb0 : b ≤ w.heap.size) :
    Calls Try.prog 60 #[.slice (some ad) n c] w fun e w' => e = .returned (.int .i64 (foldN (stI Z n m) 0 (n * m))) ∧ Below w.heap.size w w' := by
  have n1 := hM.n1
  have n2 := hM.n2
  have m1 := hM.m1
  have m2 := hM.m2
  have HM := Lib.hid hM
  clear hM
  have hnm : n * m ≤ 100 := Nat.mul_le_mul n2 m2
  have m0 : 0 < m := m1
  go_enter Try.func60, Try.ntmps60
  go_wp2_with fail
  refine (places_any ad n m c b Z _ HM.out hb0).mono ?_
  rintro e w2 ⟨g, cap, rfl, o2, b2⟩
  have B2 := Lib.hid b2
  have O2 := Lib.hid o2
  have G2 := Lib.hid (own_lt o2)
  clear o2 b2
  go_wp2_with fail
  go_loopw [3, 11] (fun s i wr => ∃ (t : Nat) (acc : Int), t ≤ n * m ∧ foldN (stI Z n m) 0 t = acc ∧ 0 ≤ acc ∧ acc ≤ 1000 ∧ s = .int .i64 acc ∧ i = .int .i64 t ∧ Below w2.heap.size w2 wr) (fun _ i _ => n * m - (intOf i).toNat)
  case atStart => exact ⟨0, 0, Nat.zero_le _, by simp [foldN], by omega, by omega, rfl, rfl, Below.refl _ _⟩
  case round =>
    obtain ⟨t, acc, ht, ha, a0, a1, rfl, rfl, hb⟩ := hrel
    have HA := Lib.hid ha
    have HB := Lib.hid hb
    clear ha hb
    by_cases hlt : t < n * m
    · have hi : t / m < n := Nat.div_lt_of_lt_mul (by rw [Nat.mul_comm]; exact hlt)
      have hkm : t % m < m := Nat.mod_lt _ m1
      have v1 := HM.out.bd _ hi _ hkm
      have pa := plc_at (m := m) hlt
      have hc1 : wr.cell? ⟨g, t * 2, none⟩ = some (.int .i64 ((t / m : Nat) : Int)) := (HB.out.cell (p := ⟨g, t * 2, none⟩) G2.out.2).trans ((O2.out.cellAt (t * 2) (by omega)).trans pa.1)
      have hc2 : wr.cell? ⟨g, t * 2 + 1, none⟩ = some (.int .i64 ((t % m : Nat) : Int)) := (HB.out.cell (p := ⟨g, t * 2 + 1, none⟩) G2.out.2).trans ((O2.out.cellAt (t * 2 + 1) (by omega)).trans pa.2)
      obtain ⟨i, hi2⟩ : ∃ i, t / m = i := ⟨_, rfl⟩
      obtain ⟨k, hk2⟩ : ∃ k, t % m = k := ⟨_, rfl⟩
      rw [hi2] at hc1 hi v1
      rw [hk2] at hc2 hkm v1
      have st := Lib.hid (show foldN (stI Z n m) 0 (t + 1) = stN Z (V Z i k) (nb n m i k 4) acc by rw [foldN, HA.out, stI, hi2, hk2])
      have hbw : Below w.heap.size w wr := B2.out.trans (HB.out.mono B2.out.size)
      have HBW := Lib.hid hbw
      have MW := Lib.hid (HM.out.below (hbw.mono hb0))
      obtain ⟨nl, hnl⟩ : ∃ nl, (nb n m i k 4).length = nl := ⟨_, rfl⟩
      have nl4 : nl ≤ 4 := by rw [← hnl]; exact nb_len n m i k 4
      have HNL := Lib.hid hnl
      clear pa hi2 hk2 hbw hnl
      obtain ⟨W0, hW0⟩ : ∃ W0, wr.alloc (.cells #[.int .i64 (i : Int), .int .i64 (k : Int)] 59) = W0 := ⟨_, rfl⟩
      have PB := Lib.hid (show Blk W0 wr.heap.size 59 #[.int .i64 (i : Int), .int .i64 (k : Int)] by rw [← hW0]; exact Blk.new _ _ _)
      have hs0 : W0.heap.size = wr.heap.size + 1 := by rw [← hW0]; simp
      have MR0 := Lib.hid (show Mat W0 b ad n m Z by rw [← hW0]; exact MW.out.below ((Below.refl _ _).alloc (Nat.le_trans hb0 HBW.out.size) _))
      have BW0 := Lib.hid (show Below wr.heap.size wr W0 by rw [← hW0]; exact (Below.refl wr.heap.size wr).alloc (Nat.le_refl _) _)
      have HW0 := Lib.hid hW0
      have HS0 := Lib.hid hs0
      have hbz := Lib.hid (show b ≤ W0.heap.size by have := HBW.out.size; omega)
      clear hW0 hs0
      go_wp2_with fail
      rw [HW0.out]
      refine (near_any ad n m c b i k Z _ MR0.out hbz.out hi hkm).mono ?_
      rintro e w5 ⟨v5, rfl, o5, b5⟩
      rw [HNL.out] at o5
      obtain ⟨A5, c5, rfl⟩ : ∃ A5 c5, v5 = .slice A5 nl c5 := by
        rcases o5.2 with ⟨rfl, hz⟩ | ⟨g5, c5, cur, rfl, _⟩
        · exact ⟨none, 0, by rw [hz]⟩
        · exact ⟨_, _, rfl⟩
      have B5 := Lib.hid (BW0.out.trans (b5.mono BW0.out.size))
      have PB5 := Lib.hid (PB.out.below b5 (by have := HS0.out; omega))
      have M5 := Lib.hid (MR0.out.below (b5.mono hbz.out))
      have hbz5 := Lib.hid (Nat.le_trans hbz.out b5.size)
      have O5 := Lib.hid o5
      have HSZ := Lib.hid (show wr.heap.size < w5.heap.size by have := HS0.out; have := b5.size; omega)
      clear o5 b5
      go_wp2_with fail
      obtain ⟨wo, hwo⟩ : ∃ wo : World, wo = wr := ⟨_, rfl⟩
      have BO := Lib.hid (show Below w2.heap.size w2 wo by rw [hwo]; exact HB.out)
      have WS := Lib.hid (show w2.heap.size ≤ wo.heap.size by rw [hwo]; exact HB.out.size)
      rw [← hwo] at B5 PB5 HSZ
      rw [← hwo]
      clear hwo HB HBW MW HW0 HS0 BW0 PB MR0 hc1 hc2
      go_loopw [3, 19] (fun s y wr => ∃ (j : Nat) (ac : Int), j ≤ nl ∧ stN Z (V Z i k) ((nb n m i k 4).take j) acc = ac ∧ 0 ≤ ac ∧ ac ≤ 1000 ∧ s = .int .i64 ac ∧ y = .int .i64 j ∧ Below w5.heap.size w5 wr) (fun _ y _ => nl - (intOf y).toNat)
      case atStart => exact ⟨0, acc, Nat.zero_le _, by simp [stN], a0, a1, rfl, rfl, Below.refl _ _⟩
      case round =>
        obtain ⟨j, ac, hj, hac, c0, c1, rfl, rfl, hb⟩ := hrel
        have HA2 := Lib.hid hac
        have HB2 := Lib.hid hb
        clear hac hb
        by_cases hjl : j < nl
        · obtain ⟨⟨qi, qk⟩, hq⟩ : ∃ q, (nb n m i k 4)[j]? = some q := ⟨_, List.getElem?_eq_getElem (by rw [HNL.out]; exact hjl)⟩
          have hqm := nb_in hi hkm 4 (qi, qk) (List.mem_of_getElem? hq)
          have pa := pcs_at (l := nb n m i k 4) (x := j) (by rw [HNL.out]; exact hjl) _ hq
          obtain ⟨g5, cap5, hv5, _, hl5⟩ := O5.out.form (by omega)
          obtain ⟨rfl, rfl⟩ : A5 = some ⟨g5, 0, none⟩ ∧ c5 = cap5 := by simpa using hv5
          have e1 : wr.cell? ⟨g5, j * 2, none⟩ = some (.int .i64 (qi : Int)) := (HB2.out.cell (p := ⟨g5, j * 2, none⟩) hl5).trans ((O5.out.cellAt (j * 2) (by omega)).trans pa.1)
          have e2 : wr.cell? ⟨g5, j * 2 + 1, none⟩ = some (.int .i64 (qk : Int)) := (HB2.out.cell (p := ⟨g5, j * 2 + 1, none⟩) hl5).trans ((O5.out.cellAt (j * 2 + 1) (by omega)).trans pa.2)
          clear hv5
          have vq : 0 ≤ V Z qi qk ∧ V Z qi qk ≤ 1000 := HM.out.bd _ hqm.1 _ hqm.2
          have st2 := Lib.hid (show stN Z (V Z i k) ((nb n m i k 4).take (j + 1)) acc = mxI ac (V Z i k - V Z qi qk) by rw [stN_take hq, HA2.out])
          have M2 := Lib.hid (M5.out.below (HB2.out.mono hbz5.out))
          have hz2 := Lib.hid (Nat.le_trans hbz5.out HB2.out.size)
          have bd := Lib.hid (bd_mx c0 c1 (show V Z i k - V Z qi qk ≤ 1000 by omega))
          have PBr := Lib.hid (PB5.out.below HB2.out HSZ.out)
          obtain ⟨W1, hW1⟩ : ∃ W1, wr.alloc (.cells #[.int .i64 (qi : Int), .int .i64 (qk : Int)] 59) = W1 := ⟨_, rfl⟩
          have PQ := Lib.hid (show Blk W1 wr.heap.size 59 #[.int .i64 (qi : Int), .int .i64 (qk : Int)] by rw [← hW1]; exact Blk.new _ _ _)
          have PP := Lib.hid (show Blk W1 wo.heap.size 59 #[.int .i64 (i : Int), .int .i64 (k : Int)] by rw [← hW1]; exact PBr.out.alloc _)
          have M3 := Lib.hid (show Mat W1 b ad n m Z by rw [← hW1]; exact M2.out.below ((Below.refl _ _).alloc hz2.out _))
          have BW1 := Lib.hid (show Below wr.heap.size wr W1 by rw [← hW1]; exact (Below.refl wr.heap.size wr).alloc (Nat.le_refl _) _)
          have hz3 := Lib.hid (Nat.le_trans hz2.out BW1.out.size)
          have HW1 := Lib.hid hW1
          have ofp : ∀ a e W, a < n → e < m → Below W1.heap.size W1 W → Calls Try.prog 54 #[.agg #[.int .i64 (a : Int), .int .i64 (e : Int)], .slice (some ad) n c] W fun e' w' => e' = .returned (.int .i64 (V Z a e)) ∧ Below W.heap.size W w' := fun a e W ha he hW =>
            of_any ad n m c b a e Z W (M3.out.below (hW.mono hz3.out)) (Nat.le_trans hz3.out hW.size) ha he
          have OFP := Lib.hid ofp
          have k1 := cell_regrown (PP.out.cell 0)
          have k2 := cell_regrown (PP.out.cell 1)
          have k3 := cell_regrown (PQ.out.cell 0)
          have k4 := cell_regrown (PQ.out.cell 1)
          have hv := Lib.hid (show mxI ac (V Z i k - V Z qi qk) = if ac < V Z i k - V Z qi qk then V Z i k - V Z qi qk else ac by unfold mxI; (repeat' split) <;> omega)
          have wz : IntKind.i64.wrap (V Z i k - V Z qi qk) = V Z i k - V Z qi qk := by rw [IntKind.wrap_i64]; omega
          clear pa hq hW1 ofp
          go_wp2_with fail
          rw [HW1.out]
          refine wp_region_quiet_below (by kernel_rfl) (by kernel_rfl) ?_; (repeat (quiet_step ((go_at_call 54; exact Calls.regrown_of (OFP.out _ _ _ (by first | exact hi | exact hqm.1) (by first | exact hkm | exact hqm.2) (below_regrown _ _ _)))))); refine wpQuiet_nil ?_; intro wq hwq; obtain ⟨⟨dq, osq⟩, hwq2⟩ := hwq; have bq := below_of hwq2; clear hwq2
          clear k1 k2 k3 k4 e1 e2
          go_wp2
          go_roundw
          case rel => exact ⟨j + 1, _, by omega, by rw [st2.out], bd.out.1, bd.out.2, by rw [hv.out], by go_num, HB2.out.trans ((BW1.out.trans (bq.mono BW1.out.size)).mono HB2.out.size)⟩
          case measure => simp [intOf]; omega
        · have hk2 := Lib.hid (show j = nl by omega)
          go_wp2
          go_roundw
          case rel => exact ⟨t + 1, ac, by omega, by rw [st.out, ← HA2.out, hk2.out, ← HNL.out, List.take_length], c0, c1, rfl, by go_num, BO.out.trans ((B5.out.trans (HB2.out.mono B5.out.size)).mono WS.out)⟩
          case measure => simp [intOf]; omega
    · have hk2 := Lib.hid (show t = n * m by omega)
      go_wp2
      go_ret
      exact ⟨ret_int (by rw [← hk2.out, HA.out]), B2.out.trans (HB.out.mono B2.out.size)⟩

set_option maxHeartbeats 2000000 in
theorem implF_any (A : Option Addr) (n c b : Nat) (Z : List (List Int)) (w : World) (hg : Grid w b A n Z) (hb0 : b ≤ w.heap.size) (hn : n ≤ 1048576) :
    Calls Try.prog 32 #[.slice A n c] w fun r w' => r = .returned (.tuple #[.int .i64 (res Z), .int .i64 (cod Z)]) ∧ Below w.heap.size w w' := by
  have HG := Lib.hid hg
  have HL := Lib.hid hg.len
  clear hg
  cases h : archB Z
  · have hr := Lib.hid (res_f h)
    go_enter Try.func32, Try.ntmps32
    go_wp2_with (go_at_call 21; refine (is_ofb (implArch_any A n c b Z _ HG.out hb0 hn) h).mono ?_; rintro e w1 ⟨rfl, b1⟩; have B1 := Lib.hid b1; clear b1)
    go_ret2
    exact ⟨ret_int2 hr.out.1.symm hr.out.2.symm, B1.out⟩
  · have hr := Lib.hid (res_t h)
    obtain ⟨ad, rfl, M⟩ := Mat.of HG.out h
    obtain ⟨m, hm⟩ : ∃ m, (rowZ Z 0).length = m := ⟨_, rfl⟩
    rw [hm] at M
    have HF := Lib.hid (show res Z = foldN (stS Z m) 0 (n * m) by rw [hr.out.1, hm, HL.out])
    have HM := Lib.hid M
    have n1 := M.n1
    have n2 := M.n2
    have m1 := M.m1
    have m2 := M.m2
    clear M hm
    go_enter Try.func32, Try.ntmps32
    go_wp2_with (go_at_call 21; refine (is_ofb (implArch_any (some ad) n c b Z _ HG.out hb0 hn) h).mono ?_; rintro e w1 ⟨rfl, b1⟩; have B1 := Lib.hid b1; clear b1)
    refine (steepest_any ad n m c b Z _ (HM.out.below (B1.out.mono hb0)) (Nat.le_trans hb0 B1.out.size)).mono ?_
    rintro e w2 ⟨rfl, b2⟩
    have B2 := Lib.hid (B1.out.trans (b2.mono B1.out.size))
    clear b2
    go_wp2
    go_ret2
    exact ⟨ret_int2 (by rw [HF.out, steep_eq Z n m m1]) hr.out.2.symm, B2.out⟩

set_option maxHeartbeats 1600000 in
theorem walk (A : Option Addr) (n c : Nat) (Z : List (List Int)) (w : World) (w0 : Grid w w.heap.size A n Z ∧ n ≤ 9223372036854775807) :
    Calls Try.prog 9 #[.slice A n c] w fun r w' => r = .returned (.bool true) ∧ Below w.heap.size w w' := by
  obtain ⟨hg, hn⟩ := w0
  have K := Lib.hid (show KeepG w A n Z w from ⟨Below.refl _ _, hg⟩)
  have HL := Lib.hid hg.len
  clear hg
  go_enter Try.func9, Try.ntmps9
  go_wp2_with fail
  refine (szInt64SS_any A n c _ Z 1048576 _ K.out.grid hn (by omega) (by omega)).mono ?_
  rintro e w1 ⟨r, rfl, r1, hs, b1⟩
  have HS := Lib.hid hs
  have K := Lib.hid (K.out.step b1)
  clear hs b1
  by_cases hr : r < 0
  · go_wp2
    go_ret
    exact ⟨rfl, K.out.old⟩
  · have hr0 : 0 ≤ r := by omega
    have hn2 : n ≤ 1048576 := by have := (HS.out hr0).1; rw [HL.out] at this; omega
    have HM : Hid (∀ i, i < n → (rowZ Z i).length ≤ 1048576) := fun i hi => by have := (HS.out hr0).2 i (by rw [HL.out]; exact hi); omega
    go_wp2_with fail
    refine (toInt64SS_any A n c _ Z _ K.out.grid K.out.old.size hn2 HM.out).mono ?_
    rintro e w2 ⟨g2, z2, rfl, hz2, o2, b2⟩
    have X := Lib.hid (copy_grid o2 hz2 HL.out HM.out)
    have K := Lib.hid (K.out.step b2)
    clear o2 hz2 b2
    go_wp2_with fail
    refine (specF_any _ n n _ Z _ X.out (Nat.le_refl _) hn2).mono ?_
    rintro e w3 ⟨rfl, b3⟩
    have K := Lib.hid (K.out.step b3)
    clear b3
    go_wp2_with fail
    refine (toInt64SS_any A n c _ Z _ K.out.grid K.out.old.size hn2 HM.out).mono ?_
    rintro e w4 ⟨g4, z4, rfl, hz4, o4, b4⟩
    have X := Lib.hid (copy_grid o4 hz4 HL.out HM.out)
    have K := Lib.hid (K.out.step b4)
    clear o4 hz4 b4
    go_wp2_with fail
    refine (implF_any _ n n _ Z _ X.out (Nat.le_refl _) hn2).mono ?_
    rintro e w5 ⟨rfl, b5⟩
    have X := Lib.hid (X.out.below b5)
    have S := Lib.hid b5.size
    have K := Lib.hid (K.out.step b5)
    clear b5
    go_wp2_with fail
    refine (toInt64SS_any A n c _ Z _ K.out.grid K.out.old.size hn2 HM.out).mono ?_
    rintro e w6 ⟨g6, z6, rfl, hz6, o6, b6⟩
    have Y := Lib.hid (copy_grid o6 hz6 HL.out HM.out)
    have X := Lib.hid (X.out.below (b6.mono S.out))
    have S := Lib.hid (Nat.le_trans S.out b6.size)
    have K := Lib.hid (K.out.step b6)
    clear o6 hz6 b6
    go_wp2_with fail
    refine (eqInt64SS_any _ _ n n n _ _ Z _ X.out Y.out S.out (Nat.le_refl _) hn2).mono ?_
    rintro e w7 ⟨rfl, b7⟩
    have K := Lib.hid (K.out.step b7)
    clear b7
    go_wp2
    go_ret
    exact ⟨rfl, K.out.old⟩

/-! ### The row's step -/
theorem own : ownKnob Try.prog.godebug = none := by kernel_rfl
theorem laidOut : laidOutB Try.prog = true := by kernel_rfl
set_option maxRecDepth 100000 in
theorem lifted (os : Os) (started : os.Started) (H : Type) (enc : TypeId × Value → H) :
    ReturnsInHanded {} Try.checked os 9 .any (Rows.fnExactSteepestStepSpec.pre6 enc Try.prog Try.f9 Rows.fnExactSteepestStepRow.domain false) (Rows.fnExactSteepestStepSpec.post enc Try.prog Try.f9 false true false false) := by
  refine returnsInHanded_of_change (C := Try.checked) own started (by kernel_rfl) Try.func9
    (ChangeSpec.witness6 (enc := enc) (C := Try.checked) false ⟨#[], #[.slice none 0 0], []⟩ 8 (by kernel_rfl) (by kernel_rfl) (by kernel_rfl) (by kernel_rfl)) ?_
  intro W base args ds gs before hval0 hW hcnd _
  have hval : ∀ (j : Nat) t v, Try.f9.params[j]? = some t → args[j]? = some v → Value.okWide Try.prog W .any base t v := hval0
  have hW' := hW
  obtain ⟨p, q, hA0, hV, rfl, hfz, hnd⟩ := hW
  have hA : DataW.TrodAll enc Try.prog W 0 (fun _ => true) true Try.f9.params.toList args.toList ds p := hA0
  rw [Try.params9] at hA hval
  obtain ⟨v0, vs0, d0, ds0, p0, q0, hargs, rfl, rfl, h0, r0⟩ := trodAll_cons hA
  obtain ⟨rfl, rfl, rfl⟩ := trodAll_nil r0
  obtain rfl : args = #[v0] := by cases args; simp_all
  obtain ⟨rfl, rfl⟩ := trodVars_none hV
  have k0 := h0
  have lt0 : ∀ x ∈ p0, x.block < W.heap.size := by obtain ⟨m, hm⟩ := k0; exact DataW.trod_lt m _ _ _ hm
  obtain ⟨a0, len0, cap0, rfl⟩ := okWide_slice Try.underlying28 (hval 0 28 v0 rfl rfl)
  obtain ⟨z0, w0⟩ : ∃ Z, Grid W W.heap.size a0 len0 Z ∧ len0 ≤ 9223372036854775807 := by
    obtain ⟨fuel, hf⟩ := h0
    rcases Deep.open_int_rows Try.underlying28 Try.underlying53 Try.underlying2 (by kernel_rfl) (by kernel_rfl) hf with ⟨hcs, _⟩ | ⟨x, l, c, A, L, C, ZZ, hcs, _, hl, hm, _, hrow⟩
    · simp [Value.cells] at hcs
      obtain ⟨rfl, rfl, rfl⟩ := hcs
      exact ⟨[], grid_nil _ _ _, by omega⟩
    · simp [Value.cells] at hcs
      obtain ⟨rfl, rfl, rfl⟩ := hcs
      exact ⟨_, grid_of_rows hl hrow, by unfold maxLen at hm; omega⟩
  clear hA0 hval0
  refine (walk a0 len0 cap0 z0 W w0).mono fun e W' ⟨he, bel⟩ => ?_
  subst he
  exact ⟨_, rfl, _, _, _, [], _, [], hW', trodAll_mk1 (shut_bool Try.underlying4 _), (trodAll_cons_mk (Below.trod laidOut (by kernel_rfl) (of_decide_eq_true (by kernel_rfl)) k0 bel lt0) trodAll_mk0), rfl, bel.frame _, fun h => by cases h⟩

theorem over : Rows.fnExactSteepestStepRow.holds Try.pinned (OpenSpec.ofChange Rows.fnExactSteepestStepSpec) :=
  OpenClaim.holds_of_wide 9 Try.f9 rfl rfl rfl rfl rfl rfl rfl ⟨rfl, rfl, rfl, rfl, rfl⟩ rfl rfl rfl rfl rfl (by kernel_rfl) Try.func9 (by kernel_rfl)
    (of_decide_eq_true (by kernel_rfl)) (by unfold Func.isWrapper; first | (rw [if_pos (by decide +kernel)]; kernel_rfl) | (rw [if_neg (by decide +kernel)]; exact ⟨rfl, rfl⟩))
    (fun os started H enc _ => lifted os started H enc)

/-- The given statement. -/
theorem proved : Rows.FnExactSteepestStepSaid := over
#print axioms proved

end Go.Proofs.Ytfnlnkfihldoeaa.fnExactSteepestStep
