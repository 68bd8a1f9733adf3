/- The program's search for water that runs to the edge: the walk. -/
import Derived.Test.YtfmbmgdemdbpaaaFallK
import Derived.Test.YtfmbmgdemdbpaaaFallQ
import Derived.Test.YtfmbmgdemdbpaaaArchB
import Derived.Test.YtfmbmgdemdbpaaaOG
import Derived.Deep.DeepCutAuto
namespace Go.Proofs.Ytfmbmgdemdbpaaa
open Go.RowKit Go.Sort
set_option linter.unusedVariables false

theorem grown_on {a b c : World} {r : Option Nat} (h : a.grownBy b r) (k : b.grownBy c r) : a.grownBy c r :=
  ⟨k.os.trans h.os, k.tape.trans h.tape, k.output.trans h.output, Nat.le_trans h.size k.size, fun i hi hne => (k.block i (Nat.lt_of_lt_of_le hi h.size) hne).trans (h.block i hi hne)⟩
theorem grown_cell {w w' : World} {bm : Nat} {p : Addr} (h : w.grownBy w' (some bm)) (hb : p.block < w.heap.size) (hne : p.block ≠ bm) : w'.cell? p = w.cell? p := World.cell?_of_block (h.block _ hb (by simpa using hne))
theorem mat_grown {w w' : World} {b bm n m : Nat} {ad : Addr} {Z : List (List Int)} (h : Mat w b ad n m Z) (hg : w.grownBy w' (some bm)) (hb : b ≤ bm) (hs : bm < w.heap.size) : Mat w' b ad n m Z :=
  h.keep fun p hp => grown_cell hg (by omega) (by omega)

/-- what FallsToEdge says -/
def FallsIs (Z : List (List Int)) (n m : Nat) (x : Bool) : Prop :=
  (archB Z = false ∧ x = false) ∨ (archB Z = true ∧ ∃ r s, n * m ≤ r ∧ Rnd (n * m) (EdgeP n m) (LowP n m Z) cnt r s ∧ x = allB (n * m) s)
theorem falls_one {Z : List (List Int)} {n m : Nat} {x y : Bool} (hx : FallsIs Z n m x) (hy : FallsIs Z n m y) : x = y := by
  rcases hx with ⟨h1, rfl⟩ | ⟨h1, r, s, h2, h3, rfl⟩
  · rcases hy with ⟨k1, rfl⟩ | ⟨k1, _⟩
    · rfl
    · rw [h1] at k1; cases k1
  · rcases hy with ⟨k1, _⟩ | ⟨k1, r', s', k2, k3, rfl⟩
    · rw [h1] at k1; cases k1
    · exact allB_end h3 k3 h2 k2

set_option maxRecDepth 100000 in
set_option maxHeartbeats 8000000 in
theorem fallsM_any (ad : Addr) (n m c b : Nat) (Z : List (List Int)) (w : World) (hg : Grid w b (some ad) n Z) (hM : Mat w b ad n m Z) (ha : archB Z = true) (hb0 : b ≤ w.heap.size) :
    Calls Try.prog 7 #[.slice (some ad) n c] w fun r w' => ∃ x, r = .returned (.bool x) ∧ FallsIs Z n m x ∧ Below w.heap.size w w' := by
  have n1 := hM.n1
  have n2 := hM.n2
  have m1 := hM.m1
  have m2 := hM.m2
  have HM := Lib.hid hM
  have HG := Lib.hid hg
  have HA := Lib.hid ha
  clear hM hg ha
  have hnm : n * m ≤ 100 := Nat.mul_le_mul n2 m2
  have m0 : 0 < m := m1
  have hmm := @run_makeMap Try.prog
  go_enter Try.func7, Try.ntmps7
  go_wp2_with (go_at_call 13; refine ((show ∀ W, Grid W b (some ad) n Z → b ≤ W.heap.size → Calls Try.prog 13 #[.slice (some ad) n c] W fun e w' => e = .returned (.bool true) ∧ Below W.heap.size W w' from fun W hW hs => by rw [← HA.out]; exact implArch_any (some ad) n c b Z W hW hs (by omega)) _ HG.out hb0).mono ?_; rintro e w1 ⟨rfl, b1⟩; have B1 := Lib.hid b1; clear b1)
  obtain ⟨bm, hbm⟩ : ∃ bm, w1.heap.size = bm := ⟨_, rfl⟩
  obtain ⟨W1, hW1⟩ : ∃ W1, w1.alloc (.map #[] 0) = W1 := ⟨_, rfl⟩
  have hs1 : W1.heap.size = bm + 1 := by rw [← hW1, ← hbm]; simp
  have M1 := Lib.hid (show MapIs W1 bm 0 n m (fun _ => false) by rw [← hW1, ← hbm]; exact MapIs.made w1 n m)
  have BW1 := Lib.hid (show Below w.heap.size w W1 by rw [← hW1]; exact B1.out.alloc B1.out.size _)
  have hbb : w.heap.size ≤ bm := by rw [← hbm]; exact B1.out.size
  rw [hW1, hbm]
  clear hW1 hbm B1
  refine (places_any ad n m c b Z _ (HM.out.below (BW1.out.mono hb0)) (by omega)).mono ?_
  rintro e w2 ⟨g, cap, rfl, o2, b2⟩
  have M2 := Lib.hid (M1.out.below b2)
  have B2 := Lib.hid (BW1.out.trans (b2.mono BW1.out.size))
  have O2 := Lib.hid o2
  have gl := own_lt o2
  have hgb : g ≠ bm := by omega
  have sz2 : bm < w2.heap.size := by have := b2.size; omega
  have HM2 := Lib.hid (HM.out.below (B2.out.mono hb0))
  have G2 := Lib.hid gl
  clear o2 b2 M1 BW1 hs1 gl
  go_wp2_with fail
  go_loopw [19] (fun x wr => ∃ (r cc : Nat) (s : Nat → Bool), r ≤ n * m ∧ x = .int .i64 r ∧ cc ≤ 600 * r ∧ MapIs wr bm cc n m s ∧ w2.grownBy wr (some bm) ∧ Rnd (n * m) (EdgeP n m) (LowP n m Z) cnt r s) (fun x _ => n * m - (intOf x).toNat)
  case atStart => exact ⟨0, 0, _, Nat.zero_le _, rfl, by omega, M2.out, World.grownBy.refl _ _, rnd_start (none_sound Z n m)⟩
  case round =>
    obtain ⟨r, cc, s, hr, rfl, hcc, hm1, hgw1, hq⟩ := hrel
    have MR := Lib.hid hm1
    have GR := Lib.hid hgw1
    have QR := Lib.hid hq
    clear hm1 hgw1 hq M2
    by_cases hlr : r < n * m
    · have hlb : (r : Int) < (n : Int) * (m : Int) := by exact_mod_cast hlr
      have hlb2 : decide ((r : Int) < (n : Int) * (m : Int)) = true := by rw [decide_eq_true_iff]; exact hlb
      obtain ⟨wo, rfl⟩ : ∃ wo : World, wo = wr := ⟨_, rfl⟩
      go_wp2_with fail
      go_loopw [23] (fun x wi => ∃ (t c1 : Nat) (s1 : Nat → Bool), t ≤ n * m ∧ x = .int .i64 t ∧ c1 ≤ cc + 6 * t ∧ MapIs wi bm c1 n m s1 ∧ w2.grownBy wi (some bm) ∧ Mid (n * m) (EdgeP n m) (LowP n m Z) t s s1) (fun x _ => n * m - (intOf x).toNat)
      case atStart => exact ⟨0, cc, s, Nat.zero_le _, rfl, by omega, MR.out, GR.out, mid_start QR.out.1⟩
      case round =>
        obtain ⟨t, c1, s1, ht, rfl, hc1', hm2, hgw2, hmid⟩ := hrel
        have MT := Lib.hid hm2
        have GT := Lib.hid hgw2
        have IT := Lib.hid hmid
        clear hm2 hgw2 hmid
        by_cases hlt : t < n * m
        · have hi : t / m < n := Nat.div_lt_of_lt_mul (by rw [Nat.mul_comm]; exact hlt)
          have hkm : t % m < m := Nat.mod_lt _ m1
          have hte := Nat.div_add_mod' t m
          have pa := plc_at (m := m) hlt
          have hx1 : wr.cell? ⟨g, t * 2, none⟩ = some (.int .i64 ((t / m : Nat) : Int)) := (grown_cell (p := ⟨g, t * 2, none⟩) GT.out G2.out.2 hgb).trans ((O2.out.cellAt (t * 2) (by omega)).trans pa.1)
          have hx2 : wr.cell? ⟨g, t * 2 + 1, none⟩ = some (.int .i64 ((t % m : Nat) : Int)) := (grown_cell (p := ⟨g, t * 2 + 1, none⟩) GT.out G2.out.2 hgb).trans ((O2.out.cellAt (t * 2 + 1) (by omega)).trans pa.2)
          obtain ⟨i, hi2⟩ : ∃ i, t / m = i := ⟨_, rfl⟩
          obtain ⟨k, hk2⟩ : ∃ k, t % m = k := ⟨_, rfl⟩
          rw [hi2] at hx1 hi hte
          rw [hk2] at hx2 hkm hte
          have TE := Lib.hid hte
          have MI := Lib.hid (show Mid (n * m) (EdgeP n m) (LowP n m Z) (i * m + k) s s1 by rw [hte]; exact IT.out)
          have szr : bm < wr.heap.size := MT.out.lt
          have MW := Lib.hid (mat_grown HM2.out GT.out (Nat.le_trans hb0 hbb) sz2)
          clear pa hi2 hk2 hte IT
          obtain ⟨W0, hW0⟩ : ∃ W0, wr.alloc (.cells #[.int .i64 (i : Int), .int .i64 (k : Int)] 34) = W0 := ⟨_, rfl⟩
          have PB := Lib.hid (show Blk W0 wr.heap.size 34 #[.int .i64 (i : Int), .int .i64 (k : Int)] by rw [← hW0]; exact Blk.new _ _ _)
          have hs0 : W0.heap.size = wr.heap.size + 1 := by rw [← hW0]; simp
          have BW0 := Lib.hid (show Below wr.heap.size wr W0 by rw [← hW0]; exact (Below.refl wr.heap.size wr).alloc (Nat.le_refl _) _)
          have M0 := Lib.hid (MT.out.below BW0.out)
          have MR0 := Lib.hid (MW.out.below (BW0.out.mono (by omega)))
          have G0 := Lib.hid (grown_on GT.out (grown_of_below (row := some bm) BW0.out))
          have HW0 := Lib.hid hW0
          clear hW0
          go_upto_region 10 with fail
          rw [HW0.out]
          clear hx1 hx2
          go_cut [36] (fun x wx => MapIs wx bm (c1 + 1) n m (up s1 (i * m + k) (edgeB n m i k)) ∧ W0.grownBy wx (some bm))
          case first => as_aux_lemma =>
            have k1 := cell_regrown (PB.out.cell 0)
            have k2 := cell_regrown (PB.out.cell 1)
            have l1 := M0.out.look_rg hi hkm n2 m2
            have EDG := Lib.hid (show ∀ W, Below W0.heap.size W0 W → Calls Try.prog 15 #[.agg #[.int .i64 (i : Int), .int .i64 (k : Int)], .slice (some ad) n c] W fun e w' => e = .returned (.bool (edgeB n m i k)) ∧ Below W.heap.size W w' from fun W hW =>
              edge_any ad n m c b i k Z W (MR0.out.below (hW.mono (by omega))) (by have := hW.size; omega) hi hkm)
            cases hsp : s1 (i * m + k)
            · rw [hsp] at l1
              refine region_below_last 10 (by kernel_rfl) (by kernel_rfl) (by kernel_rfl) ?_; simp only [nopped, nop, List.take_succ_cons, List.take_zero, List.drop_succ_cons, List.drop_zero, List.map_cons, List.map_nil, List.cons_append, List.nil_append]; (repeat (go_big_quiet_step ((go_at_call 15; exact Calls.regrown_of (EDG.out _ (below_regrown _ _ _)))))); refine wpQuiet_nil ?_; intro wq hwq; obtain ⟨⟨dq, osq⟩, hwq2⟩ := hwq; have bq := below_of hwq2; clear hwq2
              refine put_place _ rfl _ _ _ rfl bm c1 n m i k s1 (edgeB n m i k) rfl (M0.out.below bq) (by unfold maxLen; omega) n2 m2 hi hkm rfl (by rw [hsp]; rfl) ?_
              intro w6 hM6 hg6
              have H6 := Lib.hid (And.intro hM6 (grown_on (grown_of_below (row := some bm) bq) hg6))
              clear hM6 hg6 bq k1 k2 l1
              go_wp2
              go_meet
              exact H6.out
            · rw [hsp] at l1
              refine region_below_last 10 (by kernel_rfl) (by kernel_rfl) (by kernel_rfl) ?_; simp only [nopped, nop, List.take_succ_cons, List.take_zero, List.drop_succ_cons, List.drop_zero, List.map_cons, List.map_nil, List.cons_append, List.nil_append]; (repeat (go_big_quiet_step (fail))); refine wpQuiet_nil ?_; intro wq hwq; obtain ⟨⟨dq, osq⟩, hwq2⟩ := hwq; have bq := below_of hwq2; clear hwq2
              refine put_place _ rfl _ _ _ rfl bm c1 n m i k s1 (edgeB n m i k) rfl (M0.out.below bq) (by unfold maxLen; omega) n2 m2 hi hkm rfl (by rw [hsp]; rfl) ?_
              intro w6 hM6 hg6
              have H6 := Lib.hid (And.intro hM6 (grown_on (grown_of_below (row := some bm) bq) hg6))
              clear hM6 hg6 bq k1 k2 l1
              go_wp2
              go_meet
              exact H6.out
          case rest => as_aux_lemma =>
            obtain ⟨hm6, hg6⟩ := hcut
            obtain ⟨w6, rfl⟩ : ∃ w6 : World, w6 = wc := ⟨_, rfl⟩
            have M6 := Lib.hid hm6
            have G6 := Lib.hid hg6
            have x1 : w6.cell? ⟨wr.heap.size, 0, none⟩ = some (.int .i64 (i : Int)) := (grown_cell (p := ⟨wr.heap.size, 0, none⟩) hg6 (by show wr.heap.size < _; omega) (by show wr.heap.size ≠ bm; omega)).trans (PB.out.cell 0)
            have x2 : w6.cell? ⟨wr.heap.size, 1, none⟩ = some (.int .i64 (k : Int)) := (grown_cell (p := ⟨wr.heap.size, 1, none⟩) hg6 (by show wr.heap.size < _; omega) (by show wr.heap.size ≠ bm; omega)).trans (PB.out.cell 1)
            have MW6 := Lib.hid (mat_grown MR0.out hg6 (Nat.le_trans hb0 hbb) (by omega))
            have sz6 : W0.heap.size ≤ w6.heap.size := hg6.size
            have X1 := Lib.hid x1
            have X2 := Lib.hid x2
            clear hm6 hg6
            go_wp2_with fail
            refine (near_any ad n m c b i k Z _ MW6.out (by omega) hi hkm).mono ?_
            rintro e w5 ⟨v5, rfl, o5, b5⟩
            obtain ⟨nl, hnl⟩ : ∃ nl, (nb n m i k 4).length = nl := ⟨_, rfl⟩
            have nl4 : nl ≤ 4 := by rw [← hnl]; exact nb_len n m i k 4
            have HNL := Lib.hid hnl
            rw [hnl] at o5
            obtain ⟨A5, c5, rfl⟩ := own_form o5
            have M5 := Lib.hid (M6.out.below b5)
            have MW5 := Lib.hid (MW6.out.below (b5.mono (by omega)))
            have O5 := Lib.hid o5
            have G5 := Lib.hid (grown_on G0.out (grown_on G6.out (grown_of_below (row := some bm) b5)))
            have Y1 := Lib.hid ((b5.cell (p := ⟨wr.heap.size, 0, none⟩) (by show wr.heap.size < _; omega)).trans X1.out)
            have Y2 := Lib.hid ((b5.cell (p := ⟨wr.heap.size, 1, none⟩) (by show wr.heap.size < _; omega)).trans X2.out)
            have sz5 : w6.heap.size ≤ w5.heap.size := b5.size
            clear o5 b5 hnl x1 x2 X1 X2 M6 G6 MW6 G0 M0 MR0 PB BW0 HW0 MT GT MW
            go_wp2_with fail
            obtain ⟨wo2, rfl⟩ : ∃ wo2 : World, wo2 = wr := ⟨_, rfl⟩
            go_loopw [41] (fun x wi => ∃ (j c2 : Nat) (s2 : Nat → Bool), j ≤ nl ∧ x = .int .i64 j ∧ c2 ≤ c1 + 1 + j ∧ MapIs wi bm c2 n m s2 ∧ w5.grownBy wi (some bm) ∧ NrM Z n m i k j s s2) (fun x _ => nl - (intOf x).toNat)
            case atStart => exact ⟨0, c1 + 1, _, Nat.zero_le _, rfl, by omega, M5.out, World.grownBy.refl _ _, impl_start hkm MI.out⟩
            case round =>
              obtain ⟨j, c2, s2, hj, rfl, hc2, hm3, hg3, hnr⟩ := hrel
              have M3 := Lib.hid hm3
              have G3 := Lib.hid hg3
              have N3 := Lib.hid hnr
              clear hm3 hg3 hnr
              by_cases hjl : j < nl
              · obtain ⟨⟨qi, qk⟩, hq⟩ : ∃ q, (nb n m i k 4)[j]? = some q := ⟨_, List.getElem?_eq_getElem (by rw [HNL.out]; exact hjl)⟩
                have hqm := nb_in hi hkm 4 (qi, qk) (List.mem_of_getElem? hq)
                have pa := pcs_at (l := nb n m i k 4) (x := j) (by rw [HNL.out]; exact hjl) _ hq
                obtain ⟨g5, cap5, hv5, hl4, hl5⟩ := O5.out.form (by omega)
                obtain ⟨rfl, rfl⟩ : A5 = some ⟨g5, 0, none⟩ ∧ c5 = cap5 := by simpa using hv5
                have e1 : wr.cell? ⟨g5, j * 2, none⟩ = some (.int .i64 (qi : Int)) := (grown_cell (p := ⟨g5, j * 2, none⟩) G3.out hl5 (by show g5 ≠ bm; omega)).trans ((O5.out.cellAt (j * 2) (by omega)).trans pa.1)
                have e2 : wr.cell? ⟨g5, j * 2 + 1, none⟩ = some (.int .i64 (qk : Int)) := (grown_cell (p := ⟨g5, j * 2 + 1, none⟩) G3.out hl5 (by show g5 ≠ bm; omega)).trans ((O5.out.cellAt (j * 2 + 1) (by omega)).trans pa.2)
                clear hv5
                have sz3 : w5.heap.size ≤ wr.heap.size := G3.out.size
                have d1 := (grown_cell (p := ⟨wo2.heap.size, 0, none⟩) G3.out (by show wo2.heap.size < _; omega) (by show wo2.heap.size ≠ bm; omega)).trans Y1.out
                have d2 := (grown_cell (p := ⟨wo2.heap.size, 1, none⟩) G3.out (by show wo2.heap.size < _; omega) (by show wo2.heap.size ≠ bm; omega)).trans Y2.out
                obtain ⟨W2, hW2⟩ : ∃ W2, wr.alloc (.cells #[.int .i64 (qi : Int), .int .i64 (qk : Int)] 34) = W2 := ⟨_, rfl⟩
                have PQ := Lib.hid (show Blk W2 wr.heap.size 34 #[.int .i64 (qi : Int), .int .i64 (qk : Int)] by rw [← hW2]; exact Blk.new _ _ _)
                have BW2 := Lib.hid (show Below wr.heap.size wr W2 by rw [← hW2]; exact (Below.refl wr.heap.size wr).alloc (Nat.le_refl _) _)
                have D1 := Lib.hid ((BW2.out.cell (p := ⟨wo2.heap.size, 0, none⟩) (by show wo2.heap.size < _; omega)).trans d1)
                have D2 := Lib.hid ((BW2.out.cell (p := ⟨wo2.heap.size, 1, none⟩) (by show wo2.heap.size < _; omega)).trans d2)
                have MX := Lib.hid (M3.out.below BW2.out)
                have MW3 := Lib.hid ((mat_grown MW5.out G3.out (Nat.le_trans hb0 hbb) (by omega)).below (BW2.out.mono (by omega)))
                have G4 := Lib.hid (grown_on G3.out (grown_of_below (row := some bm) BW2.out))
                have sz4 : wr.heap.size ≤ W2.heap.size := BW2.out.size
                have HW2 := Lib.hid hW2
                have HQ := Lib.hid hq
                clear hW2 d1 d2 pa hq
                go_upto_region 14 with fail
                rw [HW2.out]
                clear e1 e2
                have k1 := cell_regrown D1.out
                have k2 := cell_regrown D2.out
                have k3 := cell_regrown (PQ.out.cell 0)
                have k4 := cell_regrown (PQ.out.cell 1)
                have l1 := MX.out.look_rg hi hkm n2 m2
                have l2 := MX.out.look_rg hqm.1 hqm.2 n2 m2
                have OFP := Lib.hid (show ∀ a e W, a < n → e < m → Below W2.heap.size W2 W → Calls Try.prog 17 #[.agg #[.int .i64 (a : Int), .int .i64 (e : Int)], .slice (some ad) n c] W fun e' w' => e' = .returned (.int .i64 (V Z a e)) ∧ Below W.heap.size W w' from fun a e W ha he hW =>
                  of_any ad n m c b a e Z W (MW3.out.below (hW.mono (by omega))) (by have := hW.size; omega) ha he)
                cases hsp : s2 (i * m + k)
                · rw [hsp] at l1
                  cases hsq : s2 (qi * m + qk)
                  · rw [hsq] at l2
                    refine region_below_last 19 (by kernel_rfl) (by kernel_rfl) (by kernel_rfl) ?_; simp only [nopped, nop, List.take_succ_cons, List.take_zero, List.drop_succ_cons, List.drop_zero, List.map_cons, List.map_nil, List.cons_append, List.nil_append]; (repeat (go_big_quiet_step (fail))); refine wpQuiet_nil ?_; intro wq hwq; obtain ⟨⟨dq, osq⟩, hwq2⟩ := hwq; have bq := below_of hwq2; clear hwq2
                    refine put_place _ rfl _ _ _ rfl bm c2 n m i k s2 (s2 (qi * m + qk) && decide (V Z qi qk < V Z i k)) rfl (MX.out.below bq) (by unfold maxLen; omega) n2 m2 hi hkm rfl (by rw [hsp, hsq]; rfl) ?_
                    intro w6 hM6 hg6
                    have MF := Lib.hid hM6
                    have GF := Lib.hid (grown_on G4.out (grown_on (grown_of_below (row := some bm) bq) hg6))
                    have NF := Lib.hid (impl_next hi hkm HQ.out N3.out)
                    clear hM6 hg6 bq k1 k2 k3 k4 l1 l2
                    go_wp2
                    go_roundw
                    case rel => exact ⟨j + 1, c2 + 1, _, by omega, by go_num, by omega, MF.out, GF.out, NF.out⟩
                    case measure => simp [intOf]; omega
                  · rw [hsq] at l2
                    refine region_below_last 19 (by kernel_rfl) (by kernel_rfl) (by kernel_rfl) ?_; simp only [nopped, nop, List.take_succ_cons, List.take_zero, List.drop_succ_cons, List.drop_zero, List.map_cons, List.map_nil, List.cons_append, List.nil_append]; (repeat (go_big_quiet_step ((go_at_call 17; exact Calls.regrown_of (OFP.out _ _ _ (by first | exact hi | exact hqm.1) (by first | exact hkm | exact hqm.2) (below_regrown _ _ _)))))); refine wpQuiet_nil ?_; intro wq hwq; obtain ⟨⟨dq, osq⟩, hwq2⟩ := hwq; have bq := below_of hwq2; clear hwq2
                    refine put_place _ rfl _ _ _ rfl bm c2 n m i k s2 (s2 (qi * m + qk) && decide (V Z qi qk < V Z i k)) rfl (MX.out.below bq) (by unfold maxLen; omega) n2 m2 hi hkm rfl (by rw [hsp, hsq]; rfl) ?_
                    intro w6 hM6 hg6
                    have MF := Lib.hid hM6
                    have GF := Lib.hid (grown_on G4.out (grown_on (grown_of_below (row := some bm) bq) hg6))
                    have NF := Lib.hid (impl_next hi hkm HQ.out N3.out)
                    clear hM6 hg6 bq k1 k2 k3 k4 l1 l2
                    go_wp2
                    go_roundw
                    case rel => exact ⟨j + 1, c2 + 1, _, by omega, by go_num, by omega, MF.out, GF.out, NF.out⟩
                    case measure => simp [intOf]; omega
                · rw [hsp] at l1
                  refine region_below_last 19 (by kernel_rfl) (by kernel_rfl) (by kernel_rfl) ?_; simp only [nopped, nop, List.take_succ_cons, List.take_zero, List.drop_succ_cons, List.drop_zero, List.map_cons, List.map_nil, List.cons_append, List.nil_append]; (repeat (go_big_quiet_step (fail))); refine wpQuiet_nil ?_; intro wq hwq; obtain ⟨⟨dq, osq⟩, hwq2⟩ := hwq; have bq := below_of hwq2; clear hwq2
                  refine put_place _ rfl _ _ _ rfl bm c2 n m i k s2 (s2 (qi * m + qk) && decide (V Z qi qk < V Z i k)) rfl (MX.out.below bq) (by unfold maxLen; omega) n2 m2 hi hkm rfl (by rw [hsp]; rfl) ?_
                  intro w6 hM6 hg6
                  have MF := Lib.hid hM6
                  have GF := Lib.hid (grown_on G4.out (grown_on (grown_of_below (row := some bm) bq) hg6))
                  have NF := Lib.hid (impl_next hi hkm HQ.out N3.out)
                  clear hM6 hg6 bq k1 k2 k3 k4 l1 l2
                  go_wp2
                  go_roundw
                  case rel => exact ⟨j + 1, c2 + 1, _, by omega, by go_num, by omega, MF.out, GF.out, NF.out⟩
                  case measure => simp [intOf]; omega
              · obtain rfl : j = nl := by omega
                have EM := Lib.hid (impl_end hi hkm (by rw [HNL.out]; exact N3.out))
                have GE := Lib.hid (grown_on G5.out G3.out)
                go_wp2
                go_roundw
                case rel => exact ⟨t + 1, c2, s2, by omega, by go_num, by omega, M3.out, GE.out, by rw [← TE.out]; exact EM.out⟩
                case measure => simp [intOf]; omega
        · obtain rfl : t = n * m := by omega
          go_wp2
          go_roundw
          case rel => exact ⟨r + 1, c1, s1, by omega, by go_num, by omega, MT.out, GT.out, mid_end QR.out IT.out⟩
          case measure => simp [intOf]; omega
    · obtain rfl : r = n * m := by omega
      go_wp2_with fail
      go_loopw [69] (fun x wi => ∃ t : Nat, t ≤ n * m ∧ x = .int .i64 t ∧ (∀ p, p < t → s p = true) ∧ MapIs wi bm cc n m s ∧ w2.grownBy wi (some bm)) (fun x _ => n * m - (intOf x).toNat)
      case atStart => exact ⟨0, Nat.zero_le _, rfl, fun p hp => by omega, MR.out, GR.out⟩
      case round =>
        obtain ⟨t, ht, rfl, hall, hm2, hgw2⟩ := hrel
        have MT := Lib.hid hm2
        have GT := Lib.hid hgw2
        have AL := Lib.hid hall
        clear hm2 hgw2 hall
        by_cases hlt : t < n * m
        · have hi : t / m < n := Nat.div_lt_of_lt_mul (by rw [Nat.mul_comm]; exact hlt)
          have hkm : t % m < m := Nat.mod_lt _ m1
          have hte := Nat.div_add_mod' t m
          have pa := plc_at (m := m) hlt
          have hx1 : wr.cell? ⟨g, t * 2, none⟩ = some (.int .i64 ((t / m : Nat) : Int)) := (grown_cell (p := ⟨g, t * 2, none⟩) GT.out G2.out.2 hgb).trans ((O2.out.cellAt (t * 2) (by omega)).trans pa.1)
          have hx2 : wr.cell? ⟨g, t * 2 + 1, none⟩ = some (.int .i64 ((t % m : Nat) : Int)) := (grown_cell (p := ⟨g, t * 2 + 1, none⟩) GT.out G2.out.2 hgb).trans ((O2.out.cellAt (t * 2 + 1) (by omega)).trans pa.2)
          obtain ⟨i, hi2⟩ : ∃ i, t / m = i := ⟨_, rfl⟩
          obtain ⟨k, hk2⟩ : ∃ k, t % m = k := ⟨_, rfl⟩
          rw [hi2] at hx1 hi hte
          rw [hk2] at hx2 hkm hte
          have TE := Lib.hid hte
          clear pa hi2 hk2 hte
          obtain ⟨W0, hW0⟩ : ∃ W0, wr.alloc (.cells #[.int .i64 (i : Int), .int .i64 (k : Int)] 34) = W0 := ⟨_, rfl⟩
          have BW0 := Lib.hid (show Below wr.heap.size wr W0 by rw [← hW0]; exact (Below.refl wr.heap.size wr).alloc (Nat.le_refl _) _)
          have M0 := Lib.hid (MT.out.below BW0.out)
          have G0 := Lib.hid (grown_on GT.out (grown_of_below (row := some bm) BW0.out))
          have BF := Lib.hid (B2.out.grown G0.out B2.out.size (fun k hk => by injection hk with hk; omega))
          have PB := Lib.hid (show Blk W0 wr.heap.size 34 #[.int .i64 (i : Int), .int .i64 (k : Int)] by rw [← hW0]; exact Blk.new _ _ _)
          have HW0 := Lib.hid hW0
          clear hW0
          go_upto_region 21 with fail
          rw [HW0.out]
          have k1 : W0.cell? ⟨wr.heap.size, 0, none⟩ = some (.int .i64 (i : Int)) := PB.out.cell 0
          have k2 : W0.cell? ⟨wr.heap.size, 1, none⟩ = some (.int .i64 (k : Int)) := PB.out.cell 1
          have l1 := M0.out.look hi hkm n2 m2
          rw [TE.out] at l1
          clear hx1 hx2
          cases hst : s t
          · rw [hst] at l1
            have NB := Lib.hid (show FallsIs Z n m false from .inr ⟨HA.out, n * m, s, Nat.le_refl _, QR.out, by
              unfold allB
              exact (decide_eq_false fun h => by rw [h t hlt] at hst; cases hst).symm⟩)
            go_wp2
            go_ret
            exact ⟨_, rfl, NB.out, BF.out⟩
          · rw [hst] at l1
            have AN := Lib.hid (show ∀ p, p < t + 1 → s p = true from fun p hp => by
              by_cases e : p = t
              · subst e; exact hst
              · exact AL.out p (by omega))
            clear hst
            go_wp2
            go_roundw
            case rel => exact ⟨t + 1, by omega, by go_num, AN.out, M0.out, G0.out⟩
            case measure => simp [intOf]; omega
        · obtain rfl : t = n * m := by omega
          have BF := Lib.hid (B2.out.grown GT.out B2.out.size (fun k hk => by injection hk with hk; omega))
          have NB := Lib.hid (show FallsIs Z n m true from .inr ⟨HA.out, n * m, s, Nat.le_refl _, QR.out, by
            unfold allB
            exact (decide_eq_true AL.out).symm⟩)
          go_wp2
          go_ret
          exact ⟨_, rfl, NB.out, BF.out⟩
end Go.Proofs.Ytfmbmgdemdbpaaa
