/- The reference's search for water that runs to the edge: the walk. -/
import Derived.Test.YtfmbmgdemdbpaaaFallM
import Derived.Test.YtfmbmgdemdbpaaaFallQ
import Derived.Deep.DeepCutAuto
namespace Go.Proofs.Ytfmbmgdemdbpaaa
open Go.RowKit Go.Sort
set_option linter.unusedVariables false

def s0B (n m : Nat) : Nat → Bool := fun p => edgeB n m (p / m) (p % m)
theorem s0B_at {n m i k : Nat} (hk : k < m) : s0B n m (i * m + k) = edgeB n m i k := by unfold s0B; rw [div_row hk, mod_row hk]
theorem OGB.below2 {w wr w1 w2 : World} {B n m : Nat} {v : Value} {s : Nat → Bool} {H : Nat → Value} {o : Obj} (h : OGB B wr v n m s H) (hb : Below B w wr) (h1 : Below wr.heap.size wr w1) (hg : (w1.alloc o).grownBy w2 v.ownBlock) (hB : B ≤ wr.heap.size) : Below B w w2 :=
  (((hb.trans (h1.mono hB)).alloc (Nat.le_trans hB h1.size) o)).grown hg (by simp; have := h1.size; omega) (fun k hk => (h.heads.lt k hk).1)

def RunsPost (Z : List (List Int)) (n m : Nat) (w : World) (e : Ending) (w' : World) : Prop :=
  ∃ (g c : Nat) (s : Nat → Bool) (H : Nat → Value), e = .returned (.slice (some ⟨g, 0, none⟩) n c) ∧ OGB w.heap.size w' (.slice (some ⟨g, 0, none⟩) n c) n m s H ∧ Rnd (n * m) (EdgeP n m) (LowP n m Z) cnt 100 s ∧ Below w.heap.size w w'

set_option maxRecDepth 100000 in
set_option maxHeartbeats 8000000 in
theorem l07Runs_any (ad : Addr) (n m c b : Nat) (Z : List (List Int)) (w : World) (hM : Mat w b ad n m Z) (hb0 : b ≤ w.heap.size) :
    Calls Try.prog 20 #[.slice (some ad) n c] w (RunsPost Z n m w) := by
  obtain ⟨i0, hi0, hz0, hz1, hz2⟩ := info_parts infoBl
  obtain ⟨j0, hj0, hy0, hy1, hy2⟩ := info_parts infoBr
  have n1 := hM.n1
  have n2 := hM.n2
  have m1 := hM.m1
  have m2 := hM.m2
  have HM := Lib.hid hM
  clear hM
  have h0 := Lib.hid (World.ownsRow_lit (base := w.heap.size) (e := 40) (size := 1) w #[] 0 (Nat.le_refl _) (by simp [maxLen]) rfl)
  go_enter Try.func20, Try.ntmps20
  go_wp2_with fail
  go_loopw [3, 4] (fun v i wr => ∃ (k : Nat) (H : Nat → Value), k ≤ n ∧ i = .int .i64 k ∧ OGB w.heap.size wr v k m (s0B n m) H ∧ Below w.heap.size w wr) (fun _ i _ => n - (intOf i).toNat)
  case atStart => exact ⟨0, fun _ => .bool false, Nat.zero_le _, rfl, ⟨by simpa using h0.out, fun i hi => by omega, fun i j g _ hj => by omega⟩, (Below.refl _ _).alloc (Nat.le_refl _) _⟩
  case round =>
    obtain ⟨k, H, hk, rfl, ho, hb⟩ := hrel
    have HR := Lib.hid ho
    have HB := Lib.hid hb
    clear ho hb
    by_cases hlt : k < n
    · obtain ⟨ai, ci, r1, r2, r3⟩ := HM.out.rows k hlt
      have hc0 := Lib.hid r1
      clear r1 r2 r3
      have h1 := Lib.hid (World.ownsRow_lit (base := wr.heap.size) (e := 4) (size := 1) wr #[] 0 (Nat.le_refl _) (by simp [maxLen]) rfl)
      have gk : (k : Int) < (n : Int) := by omega
      obtain ⟨wo, rfl⟩ : ∃ wo : World, wo = wr := ⟨_, rfl⟩
      go_wp2
      go_loopw [5, 6] (fun rv x wi => ∃ y : Nat, y ≤ m ∧ x = .int .i64 y ∧ wi.ownsRow wo.heap.size 4 1 rv y (rowB (s0B n m) m k y) ∧ Below wo.heap.size wo wi) (fun _ x _ => m - (intOf x).toNat)
      case atStart => exact ⟨0, Nat.zero_le _, rfl, by simpa [rowB] using h1.out, (Below.refl _ _).alloc (Nat.le_refl _) _⟩
      case round =>
        obtain ⟨y, hy, rfl, hoi, hbi⟩ := hrel
        have HRI := Lib.hid hoi
        have HBI := Lib.hid hbi
        clear hoi hbi
        have HBW := Lib.hid (HB.out.trans (HBI.out.mono HB.out.size))
        have hc1 := (HBW.out.cell (p := ad.add k) (by rw [block_of_add]; exact Nat.lt_of_lt_of_le HM.out.blk hb0)).trans hc0.out
        by_cases hxl : y < m
        · have gx : (y : Int) < (m : Int) := by omega
          have st := Lib.hid (show rowB (s0B n m) m k (y + 1) = rowB (s0B n m) m k y ++ [.bool (edgeB n m k y)] by rw [rowB_succ, s0B_at hxl])
          go_wp2_with fail
          refine (l07Edge_any ad n m c b k y Z wr (HM.out.below (HBW.out.mono hb0)) hlt).mono ?_
          rintro e w' ⟨rfl, rfl⟩
          go_wp2_with (at_builtin; refine wpList_append_own _ rfl _ _ 40 rfl wo.heap.size 4 i0 (.bool false) 1 1 Try.underlying40 hi0 hz0 hz1 hz2 rfl (by decide) _ _ _ rfl (HRI.out.alloc _) ⟨wr.heap.size, 0, none⟩ 1 1 [.bool (edgeB n m k y)] rfl rfl ?c1 ?c2 ?c3 ?c4 ?c5 ?_)
          case c1 => exact cell_one_new _ _ _
          case c2 => intro u hu; simp at hu; subst hu; rfl
          case c3 => unfold maxLen; omega
          case c4 => omega
          case c5 => have := HBI.out.size; simp; omega
          · intro v' w1 hown' hgrow _
            have HO := Lib.hid hown'
            have HG := Lib.hid (below_own HRI.out HBI.out hgrow HBI.out.size)
            clear hown' hgrow
            go_wp2
            go_roundw
            case rel => exact ⟨y + 1, by omega, by go_num, by rw [st.out]; exact HO.out, HG.out⟩
            case measure => simp [intOf]; omega
        · obtain rfl : y = m := by omega
          obtain ⟨Al, cl, rfl⟩ := own_form HRI.out
          go_wp2_with (at_builtin; refine wpList_append_own _ rfl _ _ 38 rfl w.heap.size 40 j0 (.slice none 0 0) 1 24 Try.underlying38 hj0 hy0 hy1 hy2 rfl (by decide) _ _ _ rfl ((own_below HR.out.heads HBI.out).alloc _) ⟨wr.heap.size, 0, none⟩ 1 1 [.slice Al y cl] rfl rfl ?c1 ?c2 ?c3 ?c4 ?c5 ?_)
          case c1 => exact cell_one_new _ _ _
          case c2 => intro u hu; simp at hu; subst hu; rfl
          case c3 => unfold maxLen; omega
          case c4 => omega
          case c5 => have := HBW.out.size; simp; omega
          · intro v' w2 hown' hgrow _
            have HP := Lib.hid (HR.out.push HB.out.size HBI.out HRI.out hown' hgrow)
            have HB2 := Lib.hid (HR.out.below2 HB.out HBI.out hgrow HB.out.size)
            clear hown' hgrow
            go_wp2
            go_roundw
            case rel => exact ⟨k + 1, _, by omega, by go_num, HP.out, HB2.out⟩
            case measure => simp [intOf]; omega
    · obtain rfl : k = n := by omega
      obtain ⟨g, c2, hv, _, _⟩ := HR.out.heads.form (by omega)
      subst hv
      have hnm : k * m ≤ 100 := Nat.mul_le_mul n2 m2
      go_wp2_with fail
      go_loopw [7] (fun x wi => ∃ (r : Nat) (s : Nat → Bool), r ≤ 100 ∧ x = .int .i64 r ∧ OGB w.heap.size wi (.slice (some ⟨g, 0, none⟩) k c2) k m s H ∧ Rnd (k * m) (EdgeP k m) (LowP k m Z) cnt r s ∧ (∀ p, p < k * m → EdgeP k m p → s p = true) ∧ Below w.heap.size w wi) (fun x _ => 100 - (intOf x).toNat)
      case atStart => exact ⟨0, s0B k m, by omega, rfl, HR.out, rnd_start (edge_sound Z k m), fun p _ h => h, HB.out⟩
      case round =>
        obtain ⟨r, s0, hr, rfl, ho, hq, he, hb⟩ := hrel
        have HO := Lib.hid ho
        have HQ := Lib.hid hq
        have HE := Lib.hid he
        have HBR := Lib.hid hb
        clear ho hq he hb
        by_cases hlr : r < 100
        · have gr : (r : Int) < 100 := by omega
          obtain ⟨wo, rfl⟩ : ∃ wo : World, wo = wr := ⟨_, rfl⟩
          go_wp2
          go_loopw [8] (fun x wi => ∃ (i : Nat) (s : Nat → Bool), i ≤ k ∧ x = .int .i64 i ∧ OGB w.heap.size wi (.slice (some ⟨g, 0, none⟩) k c2) k m s H ∧ Mid (k * m) (EdgeP k m) (LowP k m Z) (i * m) s0 s ∧ Below w.heap.size w wi) (fun x _ => k - (intOf x).toNat)
          case atStart => exact ⟨0, s0, by omega, rfl, HO.out, by rw [Nat.zero_mul]; exact mid_start HQ.out.1, HBR.out⟩
          case round =>
            obtain ⟨i, s, hi, rfl, ho, hm, hb⟩ := hrel
            have HOI := Lib.hid ho
            have HMI := Lib.hid hm
            have HBI := Lib.hid hb
            clear ho hm hb
            by_cases hil : i < k
            · have gi : (i : Int) < (k : Int) := by omega
              obtain ⟨ai, ci, r1, r2, r3⟩ := HM.out.rows i hil
              have hc0 := Lib.hid r1
              have R3 := Lib.hid r3
              clear r1 r3
              obtain ⟨wo2, rfl⟩ : ∃ wo2 : World, wo2 = wr := ⟨_, rfl⟩
              go_wp2
              go_loopw [9] (fun x wi => ∃ (y : Nat) (s : Nat → Bool), y ≤ m ∧ x = .int .i64 y ∧ OGB w.heap.size wi (.slice (some ⟨g, 0, none⟩) k c2) k m s H ∧ Mid (k * m) (EdgeP k m) (LowP k m Z) (i * m + y) s0 s ∧ Below w.heap.size w wi) (fun x _ => m - (intOf x).toNat)
              case atStart => exact ⟨0, s, by omega, rfl, HOI.out, HMI.out, HBI.out⟩
              case round =>
                obtain ⟨y, s1, hy, rfl, ho, hm, hb⟩ := hrel
                have HOY := Lib.hid ho
                have HMY := Lib.hid hm
                have HBY := Lib.hid hb
                clear ho hm hb
                have hc1 := (HBY.out.cell (p := ad.add i) (by rw [block_of_add]; exact Nat.lt_of_lt_of_le HM.out.blk hb0)).trans hc0.out
                by_cases hyl : y < m
                · have gy : (y : Int) < (m : Int) := by omega
                  have hc2 := (HBY.out.cell (p := ai.add y) (by rw [block_of_add]; exact Nat.lt_of_lt_of_le r2 hb0)).trans (R3.out y hyl)
                  obtain ⟨h, hh⟩ : ∃ h, V Z i y = h := ⟨_, rfl⟩
                  rw [hh] at hc2
                  go_upto_region 21 with fail
                  have HH := Lib.hid hh
                  clear hh
                  go_cut [117] (fun x wx => x = .bool (vB Z k m s1 i y) ∧ wx = wr)
                  case first => as_aux_lemma =>
                    by_cases un : 0 < i
                    · skip
                      have e1 : ((i : Int) - 1).toNat = i - 1 := by omega
                      have e2 : (0 : Int) ≤ (i : Int) - 1 := by omega
                      have e3 : (i : Int) - 1 < (k : Int) := by omega
                      have e4 : IntKind.i64.wrap ((i : Int) - 1) = (i : Int) - 1 := by rw [IntKind.wrap_i64]; omega
                      have e5 : (0 : Int) < (i : Int) := by omega
                      obtain ⟨gu, cu, _, _, hp1, hp2⟩ := HOY.out.cells (i := i - 1) (by omega) m1
                      have hp3 := (hp2 y hyl).1
                      clear hp2
                      cases hsu : s1 ((i - 1) * m + y)
                      · rw [hsu] at hp3
                        by_cases dn : i + 1 < k
                        · skip
                          obtain ⟨i', hi'⟩ : ∃ i', i + 1 = i' := ⟨_, rfl⟩
                          have f1 : ((i : Int) + 1).toNat = i' := by omega
                          have f2 : (0 : Int) ≤ (i : Int) + 1 := by omega
                          have f3 : (i : Int) + 1 < (k : Int) := by omega
                          have f4 : IntKind.i64.wrap ((i : Int) + 1) = (i : Int) + 1 := by rw [IntKind.wrap_i64]; omega
                          have HI1 := Lib.hid hi'
                          rw [hi'] at dn
                          clear hi'
                          obtain ⟨gd, cd, _, _, hr1, hr2⟩ := HOY.out.cells (i := i') dn m1
                          have hr3 := (hr2 y hyl).1
                          clear hr2
                          cases hsd : s1 (i' * m + y)
                          · rw [hsd] at hr3
                            go_wp2_with fail
                            go_meet
                            exact ⟨congrArg Value.bool (by unfold vB; rw [HI1.out]; simp [un, hsu, dn, hsd]), rfl⟩
                          · rw [hsd] at hr3
                            obtain ⟨ax, cd2, t1, t2, t3⟩ := HM.out.rows i' dn
                            have hk1 := (HBY.out.cell (p := ad.add i') (by rw [block_of_add]; exact Nat.lt_of_lt_of_le HM.out.blk hb0)).trans t1
                            have hk2 := (HBY.out.cell (p := ax.add y) (by rw [block_of_add]; exact Nat.lt_of_lt_of_le t2 hb0)).trans (t3 y hyl)
                            obtain ⟨zd, hzd⟩ : ∃ z, V Z i' y = z := ⟨_, rfl⟩
                            rw [hzd] at hk2
                            have HZd := Lib.hid hzd
                            clear t1 t2 t3 hzd
                            go_wp2_with fail
                            go_meet
                            exact ⟨congrArg Value.bool (by unfold vB; rw [HI1.out]; rw [HZd.out]; rw [HH.out]; simp [un, hsu, dn, hsd]), rfl⟩
                        · skip
                          have f3 : ¬ (i : Int) + 1 < (k : Int) := by omega
                          have f4 : IntKind.i64.wrap ((i : Int) + 1) = (i : Int) + 1 := by rw [IntKind.wrap_i64]; omega
                          go_wp2_with fail
                          go_meet
                          exact ⟨congrArg Value.bool (by unfold vB; simp [un, hsu, dn]), rfl⟩
                      · rw [hsu] at hp3
                        obtain ⟨au, cu2, t1, t2, t3⟩ := HM.out.rows (i - 1) (by omega)
                        have hg1 := (HBY.out.cell (p := ad.add (i - 1)) (by rw [block_of_add]; exact Nat.lt_of_lt_of_le HM.out.blk hb0)).trans t1
                        have hg2 := (HBY.out.cell (p := au.add y) (by rw [block_of_add]; exact Nat.lt_of_lt_of_le t2 hb0)).trans (t3 y hyl)
                        obtain ⟨zu, hzu⟩ : ∃ z, V Z (i - 1) y = z := ⟨_, rfl⟩
                        rw [hzu] at hg2
                        have HZu := Lib.hid hzu
                        clear t1 t2 t3 hzu
                        by_cases ul : zu < h
                        · skip
                          go_wp2_with fail
                          go_meet
                          exact ⟨congrArg Value.bool (by unfold vB; rw [HZu.out]; rw [HH.out]; simp [un, hsu, ul]), rfl⟩
                        · skip
                          by_cases dn : i + 1 < k
                          · skip
                            obtain ⟨i', hi'⟩ : ∃ i', i + 1 = i' := ⟨_, rfl⟩
                            have f1 : ((i : Int) + 1).toNat = i' := by omega
                            have f2 : (0 : Int) ≤ (i : Int) + 1 := by omega
                            have f3 : (i : Int) + 1 < (k : Int) := by omega
                            have f4 : IntKind.i64.wrap ((i : Int) + 1) = (i : Int) + 1 := by rw [IntKind.wrap_i64]; omega
                            have HI1 := Lib.hid hi'
                            rw [hi'] at dn
                            clear hi'
                            obtain ⟨gd, cd, _, _, hr1, hr2⟩ := HOY.out.cells (i := i') dn m1
                            have hr3 := (hr2 y hyl).1
                            clear hr2
                            cases hsd : s1 (i' * m + y)
                            · rw [hsd] at hr3
                              go_wp2_with fail
                              go_meet
                              exact ⟨congrArg Value.bool (by unfold vB; rw [HI1.out]; rw [HZu.out]; rw [HH.out]; simp [un, hsu, ul, dn, hsd]), rfl⟩
                            · rw [hsd] at hr3
                              obtain ⟨ax, cd2, t1, t2, t3⟩ := HM.out.rows i' dn
                              have hk1 := (HBY.out.cell (p := ad.add i') (by rw [block_of_add]; exact Nat.lt_of_lt_of_le HM.out.blk hb0)).trans t1
                              have hk2 := (HBY.out.cell (p := ax.add y) (by rw [block_of_add]; exact Nat.lt_of_lt_of_le t2 hb0)).trans (t3 y hyl)
                              obtain ⟨zd, hzd⟩ : ∃ z, V Z i' y = z := ⟨_, rfl⟩
                              rw [hzd] at hk2
                              have HZd := Lib.hid hzd
                              clear t1 t2 t3 hzd
                              go_wp2_with fail
                              go_meet
                              exact ⟨congrArg Value.bool (by unfold vB; rw [HI1.out]; rw [HZu.out]; rw [HH.out]; rw [HZd.out]; simp [un, hsu, dn, hsd]; exact fun h9 => absurd h9 (by omega)), rfl⟩
                          · skip
                            have f3 : ¬ (i : Int) + 1 < (k : Int) := by omega
                            have f4 : IntKind.i64.wrap ((i : Int) + 1) = (i : Int) + 1 := by rw [IntKind.wrap_i64]; omega
                            go_wp2_with fail
                            go_meet
                            exact ⟨congrArg Value.bool (by unfold vB; rw [HZu.out]; rw [HH.out]; simp [un, hsu, ul, dn]), rfl⟩
                    · skip
                      have e5 : ¬ (0 : Int) < (i : Int) := by omega
                      by_cases dn : i + 1 < k
                      · skip
                        obtain ⟨i', hi'⟩ : ∃ i', i + 1 = i' := ⟨_, rfl⟩
                        have f1 : ((i : Int) + 1).toNat = i' := by omega
                        have f2 : (0 : Int) ≤ (i : Int) + 1 := by omega
                        have f3 : (i : Int) + 1 < (k : Int) := by omega
                        have f4 : IntKind.i64.wrap ((i : Int) + 1) = (i : Int) + 1 := by rw [IntKind.wrap_i64]; omega
                        have HI1 := Lib.hid hi'
                        rw [hi'] at dn
                        clear hi'
                        obtain ⟨gd, cd, _, _, hr1, hr2⟩ := HOY.out.cells (i := i') dn m1
                        have hr3 := (hr2 y hyl).1
                        clear hr2
                        cases hsd : s1 (i' * m + y)
                        · rw [hsd] at hr3
                          go_wp2_with fail
                          go_meet
                          exact ⟨congrArg Value.bool (by unfold vB; rw [HI1.out]; simp [un, dn, hsd]), rfl⟩
                        · rw [hsd] at hr3
                          obtain ⟨ax, cd2, t1, t2, t3⟩ := HM.out.rows i' dn
                          have hk1 := (HBY.out.cell (p := ad.add i') (by rw [block_of_add]; exact Nat.lt_of_lt_of_le HM.out.blk hb0)).trans t1
                          have hk2 := (HBY.out.cell (p := ax.add y) (by rw [block_of_add]; exact Nat.lt_of_lt_of_le t2 hb0)).trans (t3 y hyl)
                          obtain ⟨zd, hzd⟩ : ∃ z, V Z i' y = z := ⟨_, rfl⟩
                          rw [hzd] at hk2
                          have HZd := Lib.hid hzd
                          clear t1 t2 t3 hzd
                          go_wp2_with fail
                          go_meet
                          exact ⟨congrArg Value.bool (by unfold vB; rw [HI1.out]; rw [HZd.out]; rw [HH.out]; simp [un, dn, hsd]), rfl⟩
                      · skip
                        have f3 : ¬ (i : Int) + 1 < (k : Int) := by omega
                        have f4 : IntKind.i64.wrap ((i : Int) + 1) = (i : Int) + 1 := by rw [IntKind.wrap_i64]; omega
                        go_wp2_with fail
                        go_meet
                        exact ⟨congrArg Value.bool (by unfold vB; simp [un, dn]), rfl⟩
                  case rest => as_aux_lemma =>
                    obtain ⟨rfl, rfl⟩ := hcut
                    go_upto_if 117 with fail
                    go_cut [117] (fun x wx => OGB w.heap.size wx (.slice (some ⟨g, 0, none⟩) k c2) k m (up s1 (i * m + y) (vB Z k m s1 i y)) H ∧ Below w.heap.size w wx)
                    case first =>
                      obtain ⟨gi', ci', hHi, hBi, hq1, hq2⟩ := HOY.out.cells hil m1
                      obtain ⟨hq4, hq3⟩ := hq2 y hyl
                      have HHi := Lib.hid hHi
                      clear hq2 hHi
                      cases hvb : vB Z k m s1 i y
                      · go_wp2_with fail
                        go_meet
                        exact ⟨by rw [hvb, up_false]; exact HOY.out, HBY.out⟩
                      · go_wp2_with fail
                        go_meet
                        exact ⟨by rw [hvb]; exact HOY.out.store hil hyl HHi.out, HBY.out.setCell hBi _⟩
                    case rest =>
                      obtain ⟨ho2, hb2⟩ := hcut
                      obtain ⟨w5, rfl⟩ : ∃ w5 : World, w5 = wc := ⟨_, rfl⟩
                      obtain ⟨s2, hs2⟩ : ∃ s2, up s1 (i * m + y) (vB Z k m s1 i y) = s2 := ⟨_, rfl⟩
                      rw [hs2] at ho2
                      have HS2 := Lib.hid hs2
                      have HO2 := Lib.hid ho2
                      have HB2 := Lib.hid hb2
                      obtain ⟨gi, ci2, hHi, hBi, hq1, hq2⟩ := ho2.cells hil m1
                      have HHi := Lib.hid hHi
                      have HQ2 := Lib.hid hq2
                      have hc3 := (HB2.out.cell (p := ad.add i) (by rw [block_of_add]; exact Nat.lt_of_lt_of_le HM.out.blk hb0)).trans hc0.out
                      clear hs2 ho2 hb2 hHi hq2 hc1 hc2
                      go_upto_region 23 with fail
                      go_cut [179] (fun x wx => x = .bool (hB Z m s2 i y) ∧ wx = w5)
                      case first => as_aux_lemma =>
                        by_cases un : 0 < y
                        · skip
                          have e1 : ((y : Int) - 1).toNat = y - 1 := by omega
                          have e2 : (0 : Int) ≤ (y : Int) - 1 := by omega
                          have e3 : (y : Int) - 1 < (m : Int) := by omega
                          have e4 : IntKind.i64.wrap ((y : Int) - 1) = (y : Int) - 1 := by rw [IntKind.wrap_i64]; omega
                          have e5 : (0 : Int) < (y : Int) := by omega
                          have hp3 := (HQ2.out (y - 1) (by omega)).1
                          cases hsu : s2 (i * m + (y - 1))
                          · rw [hsu] at hp3
                            by_cases dn : y + 1 < m
                            · skip
                              obtain ⟨y', hy'⟩ : ∃ y', y + 1 = y' := ⟨_, rfl⟩
                              have f1 : ((y : Int) + 1).toNat = y' := by omega
                              have f2 : (0 : Int) ≤ (y : Int) + 1 := by omega
                              have f3 : (y : Int) + 1 < (m : Int) := by omega
                              have f4 : IntKind.i64.wrap ((y : Int) + 1) = (y : Int) + 1 := by rw [IntKind.wrap_i64]; omega
                              have HI1 := Lib.hid hy'
                              rw [hy'] at dn
                              clear hy'
                              have hr3 := (HQ2.out y' dn).1
                              cases hsd : s2 (i * m + y')
                              · rw [hsd] at hr3
                                go_wp2_with fail
                                go_meet
                                exact ⟨congrArg Value.bool (by unfold hB; rw [HI1.out]; simp [un, hsu, dn, hsd]), rfl⟩
                              · rw [hsd] at hr3
                                have hk2 := (HB2.out.cell (p := ai.add y') (by rw [block_of_add]; exact Nat.lt_of_lt_of_le r2 hb0)).trans (R3.out y' dn)
                                obtain ⟨zd, hzd⟩ : ∃ z, V Z i y' = z := ⟨_, rfl⟩
                                rw [hzd] at hk2
                                have HZd := Lib.hid hzd
                                clear hzd
                                go_wp2_with fail
                                go_meet
                                exact ⟨congrArg Value.bool (by unfold hB; rw [HI1.out]; rw [HZd.out]; rw [HH.out]; simp [un, hsu, dn, hsd]), rfl⟩
                            · skip
                              have f3 : ¬ (y : Int) + 1 < (m : Int) := by omega
                              have f4 : IntKind.i64.wrap ((y : Int) + 1) = (y : Int) + 1 := by rw [IntKind.wrap_i64]; omega
                              go_wp2_with fail
                              go_meet
                              exact ⟨congrArg Value.bool (by unfold hB; simp [un, hsu, dn]), rfl⟩
                          · rw [hsu] at hp3
                            have hg2 := (HB2.out.cell (p := ai.add (y - 1)) (by rw [block_of_add]; exact Nat.lt_of_lt_of_le r2 hb0)).trans (R3.out (y - 1) (by omega))
                            obtain ⟨zu, hzu⟩ : ∃ z, V Z i (y - 1) = z := ⟨_, rfl⟩
                            rw [hzu] at hg2
                            have HZu := Lib.hid hzu
                            clear hzu
                            by_cases ul : zu < h
                            · skip
                              go_wp2_with fail
                              go_meet
                              exact ⟨congrArg Value.bool (by unfold hB; rw [HZu.out]; rw [HH.out]; simp [un, hsu, ul]), rfl⟩
                            · skip
                              by_cases dn : y + 1 < m
                              · skip
                                obtain ⟨y', hy'⟩ : ∃ y', y + 1 = y' := ⟨_, rfl⟩
                                have f1 : ((y : Int) + 1).toNat = y' := by omega
                                have f2 : (0 : Int) ≤ (y : Int) + 1 := by omega
                                have f3 : (y : Int) + 1 < (m : Int) := by omega
                                have f4 : IntKind.i64.wrap ((y : Int) + 1) = (y : Int) + 1 := by rw [IntKind.wrap_i64]; omega
                                have HI1 := Lib.hid hy'
                                rw [hy'] at dn
                                clear hy'
                                have hr3 := (HQ2.out y' dn).1
                                cases hsd : s2 (i * m + y')
                                · rw [hsd] at hr3
                                  go_wp2_with fail
                                  go_meet
                                  exact ⟨congrArg Value.bool (by unfold hB; rw [HI1.out]; rw [HZu.out]; rw [HH.out]; simp [un, hsu, ul, dn, hsd]), rfl⟩
                                · rw [hsd] at hr3
                                  have hk2 := (HB2.out.cell (p := ai.add y') (by rw [block_of_add]; exact Nat.lt_of_lt_of_le r2 hb0)).trans (R3.out y' dn)
                                  obtain ⟨zd, hzd⟩ : ∃ z, V Z i y' = z := ⟨_, rfl⟩
                                  rw [hzd] at hk2
                                  have HZd := Lib.hid hzd
                                  clear hzd
                                  go_wp2_with fail
                                  go_meet
                                  exact ⟨congrArg Value.bool (by unfold hB; rw [HI1.out]; rw [HZu.out]; rw [HH.out]; rw [HZd.out]; simp [un, hsu, dn, hsd]; exact fun h9 => absurd h9 (by omega)), rfl⟩
                              · skip
                                have f3 : ¬ (y : Int) + 1 < (m : Int) := by omega
                                have f4 : IntKind.i64.wrap ((y : Int) + 1) = (y : Int) + 1 := by rw [IntKind.wrap_i64]; omega
                                go_wp2_with fail
                                go_meet
                                exact ⟨congrArg Value.bool (by unfold hB; rw [HZu.out]; rw [HH.out]; simp [un, hsu, ul, dn]), rfl⟩
                        · skip
                          have e5 : ¬ (0 : Int) < (y : Int) := by omega
                          by_cases dn : y + 1 < m
                          · skip
                            obtain ⟨y', hy'⟩ : ∃ y', y + 1 = y' := ⟨_, rfl⟩
                            have f1 : ((y : Int) + 1).toNat = y' := by omega
                            have f2 : (0 : Int) ≤ (y : Int) + 1 := by omega
                            have f3 : (y : Int) + 1 < (m : Int) := by omega
                            have f4 : IntKind.i64.wrap ((y : Int) + 1) = (y : Int) + 1 := by rw [IntKind.wrap_i64]; omega
                            have HI1 := Lib.hid hy'
                            rw [hy'] at dn
                            clear hy'
                            have hr3 := (HQ2.out y' dn).1
                            cases hsd : s2 (i * m + y')
                            · rw [hsd] at hr3
                              go_wp2_with fail
                              go_meet
                              exact ⟨congrArg Value.bool (by unfold hB; rw [HI1.out]; simp [un, dn, hsd]), rfl⟩
                            · rw [hsd] at hr3
                              have hk2 := (HB2.out.cell (p := ai.add y') (by rw [block_of_add]; exact Nat.lt_of_lt_of_le r2 hb0)).trans (R3.out y' dn)
                              obtain ⟨zd, hzd⟩ : ∃ z, V Z i y' = z := ⟨_, rfl⟩
                              rw [hzd] at hk2
                              have HZd := Lib.hid hzd
                              clear hzd
                              go_wp2_with fail
                              go_meet
                              exact ⟨congrArg Value.bool (by unfold hB; rw [HI1.out]; rw [HZd.out]; rw [HH.out]; simp [un, dn, hsd]), rfl⟩
                          · skip
                            have f3 : ¬ (y : Int) + 1 < (m : Int) := by omega
                            have f4 : IntKind.i64.wrap ((y : Int) + 1) = (y : Int) + 1 := by rw [IntKind.wrap_i64]; omega
                            go_wp2_with fail
                            go_meet
                            exact ⟨congrArg Value.bool (by unfold hB; simp [un, dn]), rfl⟩
                      case rest => as_aux_lemma =>
                        obtain ⟨rfl, rfl⟩ := hcut
                        obtain ⟨hq4, hq3⟩ := HQ2.out y hyl
                        cases hvb : hB Z m s2 i y
                        · have MS := Lib.hid (show Mid (k * m) (EdgeP k m) (LowP k m Z) (i * m + (y + 1)) s0 s2 by
                            have := spec_step (Z := Z) hil hyl HE.out HMY.out
                            rw [HS2.out, hvb, up_false] at this
                            exact this)
                          go_wp2
                          go_roundw
                          case rel => exact ⟨y + 1, s2, by omega, by go_num, HO2.out, MS.out, HB2.out⟩
                          case measure => simp [intOf]; omega
                        · have MS := Lib.hid (show Mid (k * m) (EdgeP k m) (LowP k m Z) (i * m + (y + 1)) s0 (up s2 (i * m + y) true) by
                            have := spec_step (Z := Z) hil hyl HE.out HMY.out
                            rw [HS2.out, hvb] at this
                            exact this)
                          have ST := Lib.hid (And.intro (HO2.out.store hil hyl HHi.out) (HB2.out.setCell hBi (.bool true) (p := ⟨gi, y, none⟩)))
                          go_wp2
                          go_roundw
                          case rel => exact ⟨y + 1, up s2 (i * m + y) true, by omega, by go_num, ST.out.1, MS.out, ST.out.2⟩
                          case measure => simp [intOf]; omega
                · have hy2 := Lib.hid (show i * m + y = (i + 1) * m by rw [show y = m by omega, row_end])
                  go_wp2
                  go_roundw
                  case rel => exact ⟨i + 1, s1, by omega, by go_num, HOY.out, by rw [← hy2.out]; exact HMY.out, HBY.out⟩
                  case measure => simp [intOf]; omega
            · obtain rfl : i = k := by omega
              go_wp2
              go_roundw
              case rel => exact ⟨r + 1, s, by omega, by go_num, HOI.out, mid_end HQ.out HMI.out, fun p hp e => HMI.out.1 p (HE.out p hp e), HBI.out⟩
              case measure => simp [intOf]; omega
        · obtain rfl : r = 100 := by omega
          go_wp2
          go_ret
          exact ⟨g, c2, s0, H, rfl, HO.out, HQ.out, HBR.out⟩
end Go.Proofs.Ytfmbmgdemdbpaaa
