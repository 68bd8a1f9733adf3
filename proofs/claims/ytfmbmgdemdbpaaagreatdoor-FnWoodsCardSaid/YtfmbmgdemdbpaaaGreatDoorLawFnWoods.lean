/- For all bytes, gaps are the same both ways, the best pair has the least gap, and the lightest plank for a piece has the least density. Conditions: none. -/
import Derived.Test.YtfmbmgdemdbpaaaGreatDoorDrawP
import Derived.Test.YtfmbmgdemdbpaaaGreatDoorReadB2
import Derived.Test.YtfmbmgdemdbpaaaGreatDoorWoods
import Derived.Test.YtfmbmgdemdbpaaaGreatDoorObytes
import Derived.Test.YtfmbmgdemdbpaaaGreatDoorR8N
import Derived.Test.YtfmbmgdemdbpaaaGreatDoorBasP
import Derived.Test.YtfmbmgdemdbpaaaGreatDoorWrap
import Derived.Deep.RegionHeld3
import Derived.Deep.DeepCutAuto
import Derived.ProofKit
import Derived.OpenShut
import Derived.ShutString
import Derived.ChangeOld
import Derived.Below
import Derived.Lib.LaidU8
import Derived.LaidMore
import Derived.Lay
import Derived.Stop.Joined
import Derived.SevenTiedAt
import Derived.Test.YtfmbmgdemdbpaaaGreatDoorTie
import Derived.Test.YtfmbmgdemdbpaaaGreatDoorCards
namespace Go.Proofs.YtfmbmgdemdbpaaaGreatDoor.fnWoods
open Go.ChangeShapes Go.WideShapes Go.ChangeAt Go.RowKit
open Go.ChangeMaps (open_string shut_string)
set_option linter.unusedVariables false
open Go.Sort

theorem pz_valid {p : Pl} (h : Drawn p ⟨#[112, 122]⟩) : validB p = true := by
  obtain ⟨h0, h1, h2, h3, h4, h5⟩ := h
  unfold validB pieceB
  rw [h0, inB_mk (by omega) (by omega), inB_mk (by omega) (by omega), inB_mk (by omega) (by omega), inB_mk (by omega) (by omega), inB_mk (by omega) (by omega)]
  decide
theorem vol_pos {a b c : Int} (ha : 400 ≤ a ∧ a ≤ 459) (hb : 120 ≤ b ∧ b ≤ 159) (hc : 30 ≤ c ∧ c ≤ 44) : 1 ≤ a * b * c ∧ a * b * c ≤ 4000000 ∧ 0 ≤ a * b ∧ a * b ≤ 80000 := by
  have h1 : 400 * 120 ≤ a * b := Int.mul_le_mul ha.1 hb.1 (by omega) (by omega)
  have h2 : a * b ≤ 459 * 159 := Int.mul_le_mul ha.2 hb.2 (by omega) (by omega)
  obtain ⟨x, hx⟩ : ∃ x, a * b = x := ⟨_, rfl⟩
  rw [hx] at h1 h2 ⊢
  have h3 : 1 * 30 ≤ x * c := Int.mul_le_mul (by omega) hc.1 (by omega) (by omega)
  have h4 : x * c ≤ 72981 * 44 := Int.mul_le_mul (by omega) hc.2 (by omega) (by omega)
  omega

set_option maxRecDepth 100000 in
set_option maxHeartbeats 8000000 in
theorem walk (A : Option Addr) (n c : Nat) (B : Option Addr) (m d : Nat) (w : World) (tab : PowTab w) (er : ErrVars w) (mx : MaxL w) (hA : Bytes w w.heap.size A n) (hB : Bytes w w.heap.size B m) :
    Calls Tryz.prog 3 #[.slice A n c, .slice B m d] w fun r w' => r = .returned (.bool true) ∧ Below w.heap.size w w' := by
  have LO := long_any A B n c m d w
  obtain ⟨L, hL⟩ : ∃ L, (decide (1048576 < n) || decide (1048576 < m)) = L := ⟨_, rfl⟩
  rw [hL] at LO
  have LO := Lib.hid LO
  cases L with
  | true =>
    go_enter Tryz.func3, Tryz.ntmps3
    go_wp2_with fail
    refine LO.out.mono ?_
    rintro e w' ⟨rfl, rfl⟩
    go_wp2
    go_ret
    exact ⟨rfl, Below.refl _ _⟩
  | false =>
    rw [Bool.or_eq_false_iff] at hL
    have hn : n ≤ 1048576 := by have := of_decide_eq_false hL.1; omega
    have hm : m ≤ 1048576 := by have := of_decide_eq_false hL.2; omega
    obtain ⟨zs, hzr, hzb⟩ := hA
    have PS := Lib.hid (planks_any A n c w zs hzr hzb hn)
    have HB := Lib.hid (And.intro hB hm)
    obtain ⟨ys, hyr, hyb⟩ := hB
    have PL := Lib.hid (fun W (hW : Below w.heap.size w W) => plank_any B m d W ys ((hyr.below hW).more hW.size) hyb hm)
    have TB := Lib.hid tab
    have ER := Lib.hid er
    have MX := Lib.hid mx
    clear hL hn hm tab er mx hzr hzb hyr hyb
    go_enter Tryz.func3, Tryz.ntmps3
    go_wp2_with fail
    refine LO.out.mono ?_
    rintro e w' ⟨rfl, rfl⟩
    go_wp2_with fail
    refine PS.out.mono ?_
    rintro e w1 ⟨v, rfl, ps, o1, hr, b1⟩
    obtain ⟨Al, cl, rfl⟩ := own_form o1
    obtain ⟨N, hN⟩ : ∃ N, ps.length = N := ⟨_, rfl⟩
    have RW := Lib.hid hr
    have HN := Lib.hid hN
    rw [hN] at o1 ⊢
    have O1 := Lib.hid o1
    have B1 := Lib.hid b1
    clear o1 b1 hr hN PS LO
    go_wp2_with fail
    refine (PL.out w1 B1.out).mono ?_
    rintro e w2 ⟨p, rfl, dr, b2⟩
    have hv := pz_valid dr
    have psz : p.id.size ≤ maxLen := by rw [dr.1]; show 2 ≤ maxLen; unfold maxLen; omega
    have DR := Lib.hid dr
    have HV := Lib.hid hv
    have O2 := Lib.hid (own_below O1.out b2)
    have B2 := Lib.hid (B1.out.trans (b2.mono B1.out.size))
    clear b2 dr hv O1 PL
    have K := Lib.hid (Keeps.start w2 p 27 psz)
    have O3 := Lib.hid (own_below O2.out K.out.old)
    have B3 := Lib.hid (B2.out.trans (K.out.old.mono B2.out.size))
    obtain ⟨q0, q1, q2, q3, q4, q5⟩ := K.out.cells
    unfold agg6'
    go_wp2_with fail
    have DN := fun W => wDens.impl_any p W psz
    rw [(wDens.res_t HV.out).1, (wDens.res_t HV.out).2] at DN
    have RG := fun W => wRing.impl_any p W psz
    rw [(wRing.res_t HV.out).1, (wRing.res_t HV.out).2] at RG
    have DN := Lib.hid DN
    have RG := Lib.hid RG
    obtain ⟨xb, hxb⟩ : ∃ xb, w2.heap.size = xb := ⟨_, rfl⟩
    rw [hxb] at K q0 q1 q2 q3 q4 q5 ⊢
    clear q0 q1 q2 q3 q4 q5
    refine (DN.out _).mono ?_
    rintro e w3 ⟨rfl, b3⟩
    have K := Lib.hid (K.out.step b3)
    have O4 := Lib.hid (own_below O3.out b3)
    have B4 := Lib.hid (B3.out.trans (b3.mono B3.out.size))
    obtain ⟨q0, q1, q2, q3, q4, q5⟩ := K.out.cells
    clear b3 O3
    go_wp2_with fail
    refine (RG.out _).mono ?_
    rintro e w4 ⟨rfl, b4⟩
    clear q0 q1 q2 q3 q4 q5
    have K := Lib.hid (K.out.step b4)
    have O5 := Lib.hid (own_below O4.out b4)
    have B5 := Lib.hid (B4.out.trans (b4.mono B4.out.size))
    obtain ⟨q0, q1, q2, q3, q4, q5⟩ := K.out.cells
    clear b4 O4 DN RG
    have PT := implPtext_any p w4 psz (tab_below TB.out B5.out)
    rw [HV.out, if_pos rfl] at PT
    have PT := Lib.hid PT
    go_wp2_with fail
    refine PT.out.mono ?_
    rintro e w5 ⟨rfl, b5⟩
    clear q0 q1 q2 q3 q4 q5
    have K := Lib.hid (K.out.step b5)
    have O6 := Lib.hid (own_below O5.out b5)
    have B6 := Lib.hid (B5.out.trans (b5.mono B5.out.size))
    clear b5 O5 PT
    have psz2 : (ptxt p).size ≤ 1048576 := by
      have h1 := ltxt_len HV.out
      have h2 := name_short HV.out
      unfold ptxt
      rw [ByteArray.size_append', ByteArray.size_append']
      show p.id.size + 1 + (ltxt (nums p)).length ≤ _
      omega
    have RP := Lib.hid (implRplank_any (ptxt p) w5 psz2 (tab_below TB.out B6.out) (err_below ER.out B6.out) (maxl_below MX.out B6.out))
    go_wp2_with fail
    refine RP.out.mono ?_
    rintro e w6 ⟨p2, f2, hp2, rfl, b6⟩
    obtain ⟨rfl, rfl⟩ := rp_one (plank_back HV.out) hp2
    have K := Lib.hid (K.out.step b6)
    have O7 := Lib.hid (own_below O6.out b6)
    have B7 := Lib.hid (B6.out.trans (b6.mono B6.out.size))
    clear b6 O6 RP hp2
    unfold agg6
    have bn := Blk.new w6 27 #[.string p.id, .int .i64 p.l, .int .i64 p.wd, .int .i64 p.t, .int .i64 p.m, .int .i64 p.r]
    have al := (Below.refl w6.heap.size w6).alloc (Nat.le_refl _) (.cells #[.string p.id, .int .i64 p.l, .int .i64 p.wd, .int .i64 p.t, .int .i64 p.m, .int .i64 p.r] 27)
    have K := Lib.hid (K.out.step al)
    have O8 := Lib.hid (own_below O7.out al)
    have B8 := Lib.hid (B7.out.trans (al.mono B7.out.size))
    have KX := K.out.cells
    clear O7 al
    obtain ⟨h0, h1, h2, h3, h4, h5⟩ := DR.out
    obtain ⟨v0, v1, x0, x1⟩ := vol_pos h1 h2 h3
    have near1 := rnd_near (a := 1000000 * p.m) (b := p.l * p.wd * p.t) (by omega)
    have near2 := rnd_near (a := 100 * p.wd) (b := p.r) (by omega)
    rw [show rnd (1000000 * p.m) (p.l * p.wd * p.t) = dens p from rfl] at near1
    rw [show rnd (100 * p.wd) p.r = ring p from rfl] at near2
    have db := dens_bd (validB_fits HV.out)
    have rb := ring_bd (validB_fits HV.out)
    clear h0
    obtain ⟨dn, hdn⟩ : ∃ dn, dens p = dn := ⟨_, rfl⟩
    obtain ⟨rg, hrg⟩ : ∃ rg, ring p = rg := ⟨_, rfl⟩
    rw [hdn] at near1 db ⊢
    rw [hrg] at near2 rb ⊢
    obtain ⟨ar, har⟩ : ∃ ar, p.l * p.wd = ar := ⟨_, rfl⟩
    rw [har] at v0 v1 x0 x1 near1
    obtain ⟨vol, hvol⟩ : ∃ vol, ar * p.t = vol := ⟨_, rfl⟩
    rw [hvol] at v0 v1 near1
    obtain ⟨f1, hf1⟩ : ∃ f1, dn * vol = f1 := ⟨_, rfl⟩
    obtain ⟨f2, hf2⟩ : ∃ f2, rg * p.r = f2 := ⟨_, rfl⟩
    rw [hf1] at near1
    rw [hf2] at near2
    obtain ⟨V1, hV1⟩ : ∃ V, max (f1 - 1000000 * p.m) (-(f1 - 1000000 * p.m)) = V := ⟨_, rfl⟩
    obtain ⟨V2, hV2⟩ : ∃ V, max (f2 - 100 * p.wd) (-(f2 - 100 * p.wd)) = V := ⟨_, rfl⟩
    have A1 := Lib.hid (fun W => ((r8Abs_any (f1 - 1000000 * p.m) W (by omega) (by omega)).mono (fun e w' ⟨v, he, hv, hw⟩ => ⟨by rw [he, hv, hV1], hw⟩) : Calls Tryz.prog 11 #[.int .i64 (f1 - 1000000 * p.m)] W fun e w' => e = .returned (.int .i64 V1) ∧ W = w'))
    have A2 := Lib.hid (fun W => ((r8Abs_any (f2 - 100 * p.wd) W (by omega) (by omega)).mono (fun e w' ⟨v, he, hv, hw⟩ => ⟨by rw [he, hv, hV2], hw⟩) : Calls Tryz.prog 11 #[.int .i64 (f2 - 100 * p.wd)] W fun e w' => e = .returned (.int .i64 V2) ∧ W = w'))
    have s1 : ¬ vol < 2 * V1 := by omega
    have s2 : ¬ p.r < 2 * V2 := by omega
    have s3 : 0 ≤ V1 ∧ V1 ≤ 4000000000 := by omega
    have s4 : 0 ≤ V2 ∧ V2 ≤ 4000000000 := by omega
    have f1b : -200000000000 ≤ f1 ∧ f1 ≤ 200000000000 := by omega
    have f2b : -200000000000 ≤ f2 ∧ f2 ≤ 200000000000 := by omega
    have HDR := Lib.hid (And.intro hdn hrg)
    clear hV1 hV2 near1 near2 hdn hrg DR
    go_upto_region 8 with (fail)
    revert K O8 B8 KX bn
    generalize hwb : (w6.alloc (.cells #[.string p.id, .int .i64 p.l, .int .i64 p.wd, .int .i64 p.t, .int .i64 p.m, .int .i64 p.r] 27)) = w7
    intro bn K O8 B8 KX
    obtain ⟨q0, q1, q2, q3, q4, q5⟩ := KX
    have n0 : w7.cell? ⟨w6.heap.size, 0, none⟩ = some (.string p.id) := bn.cell 0
    have n1 : w7.cell? ⟨w6.heap.size, 1, none⟩ = some (.int .i64 p.l) := bn.cell 1
    have n2 : w7.cell? ⟨w6.heap.size, 2, none⟩ = some (.int .i64 p.wd) := bn.cell 2
    have n3 : w7.cell? ⟨w6.heap.size, 3, none⟩ = some (.int .i64 p.t) := bn.cell 3
    have n4 : w7.cell? ⟨w6.heap.size, 4, none⟩ = some (.int .i64 p.m) := bn.cell 4
    have n5 : w7.cell? ⟨w6.heap.size, 5, none⟩ = some (.int .i64 p.r) := bn.cell 5
    clear bn hwb B2 B3 B4 B5 B6 B7 DN RG PT psz2 O2
    go_wp2_with fail
    have e1 : IntKind.i64.wrap (dn * vol) = f1 := by rw [hf1]; exact wrap_i64 (by omega) (by omega)
    have e2 : IntKind.i64.wrap (1000000 * p.m) = 1000000 * p.m := wrap_i64 (by omega) (by omega)
    have e3 : IntKind.i64.wrap (f1 - 1000000 * p.m) = f1 - 1000000 * p.m := wrap_i64 (by omega) (by omega)
    have e4 : IntKind.i64.wrap (2 * V1) = 2 * V1 := wrap_i64 (by omega) (by omega)
    have e5 : IntKind.i64.wrap (rg * p.r) = f2 := by rw [hf2]; exact wrap_i64 (by omega) (by omega)
    have e6 : IntKind.i64.wrap (100 * p.wd) = 100 * p.wd := wrap_i64 (by omega) (by omega)
    have e7 : IntKind.i64.wrap (f2 - 100 * p.wd) = f2 - 100 * p.wd := wrap_i64 (by omega) (by omega)
    have e8 : IntKind.i64.wrap (2 * V2) = 2 * V2 := wrap_i64 (by omega) (by omega)
    have d1 : decide (vol < 2 * V1) = false := by rw [decide_eq_false_iff_not]; omega
    have d2 : decide (p.r < 2 * V2) = false := by rw [decide_eq_false_iff_not]; omega
    go_quiet (first | (go_at_call_of 11 f1; exact Calls.quiet_of_same (flip (A1.out _))) | (go_at_call 11; exact Calls.quiet_of_same (flip (A2.out _))))
    clear q0 q1 q2 q3 q4 q5 d1 d2 e1 e2 e3 e4 e5 e6 e7 e8 s1 s2 s3 s4 f1b f2b A1 A2 n0 n1 n2 n3 n4 n5
    go_upto_region 11 with (fail)
    have bd := below_drewN (Below.refl w7.heap.size w7) nq
    have K := Lib.hid (K.out.step bd)
    have O9 := Lib.hid (own_below O8.out bd)
    have B9 := Lib.hid (B8.out.trans (bd.mono B8.out.size))
    clear bd O8 B8
    revert K O9 B9
    generalize w7.drewN nq = w8
    intro K O9 B9
    have RS := Lib.hid (show Short ps N by rw [← HN.out]; exact row_short RW.out)
    have N6 : N ≤ 6 := by have := RW.out.1; have := HN.out; omega
    have VL := Lib.hid (validL_of (row_valid RW.out))
    have BP := Lib.hid (show (2 ≤ N ∧ ∃ i k : Nat, wBest.ra ps = i ∧ wBest.rb ps = k ∧ wBest.rc ps = 0 ∧ i < k ∧ k < N ∧ ∀ p q, p < N → q < N → p ≠ q → gapI (atP ps i) (atP ps k) ≤ gapI (atP ps p) (atP ps q)) ∨ (N < 2 ∧ wBest.rc ps = 3) by
      by_cases h2 : 2 ≤ N
      · refine .inl ⟨h2, ?_⟩
        have := HN.out
        subst this
        exact best_least (row_valid RW.out) h2
      · refine .inr ⟨by omega, best_few (row_valid RW.out) (by have := HN.out; omega)⟩)
    go_wp2_with fail
    refine (wBest.implF_any w.heap.size N _ ps w8 O9.out RS.out (by omega)).mono ?_
    rintro e w9 ⟨rfl, b9⟩
    have K := Lib.hid (K.out.step b9)
    have O10 := Lib.hid (own_below O9.out b9)
    have B10 := Lib.hid (B9.out.trans (b9.mono B9.out.size))
    clear b9 O9 B9
    revert BP
    generalize wBest.ra ps = ia
    generalize wBest.rb ps = ib
    generalize wBest.rc ps = ic
    intro BP
    go_upto_if 124 with fail
    have hb : (!((ic == 0) == decide (2 ≤ (N : Int)))) = false := by
      rcases BP.out with ⟨h, _, _, _, _, rfl, _⟩ | ⟨h, rfl⟩
      · have : decide (2 ≤ (N : Int)) = true := by rw [decide_eq_true_iff]; omega
        rw [this]; rfl
      · have : decide (2 ≤ (N : Int)) = false := by rw [decide_eq_false_iff_not]; omega
        rw [this]; rfl
    rw [hb]
    clear hb
    have VD := Lib.hid (show ∀ j, j < N → validB (atP ps j) = true from fun j hj => (VL.out.2 j (by rw [HN.out]; exact hj)).1)
    go_upto_if 126 with fail
    go_cut [17] (fun s17 wx => Below w9.heap.size w9 wx)
    case first => as_aux_lemma =>
      rcases BP.out with ⟨h2, i, k, rfl, rfl, rfl, ik, kN, hl⟩ | ⟨h2, rfl⟩
      · have HL := Lib.hid hl
        clear hl BP
        obtain ⟨g, cap, hv, _, _⟩ := O10.out.form (by omega)
        obtain ⟨rfl, rfl⟩ : Al = some ⟨g, 0, none⟩ ∧ cl = cap := by simpa using hv
        clear hv
        have iN : i < N := by omega
        have gi : (i : Int) < (N : Int) := by omega
        have gk : (k : Int) < (N : Int) := by omega
        have gik : (i : Int) < (k : Int) := by omega
        obtain ⟨t0, t1, t2, t3, t4, t5⟩ := el_own O10.out iN
        have Vt := Lib.hid (VD.out i iN)
        have St := Lib.hid (RS.out i iN)
        obtain ⟨pt, hpt⟩ : ∃ p, atP ps i = p := ⟨_, rfl⟩
        rw [hpt] at t0 t1 t2 t3 t4 t5 Vt St
        have Kt0 := cell_regrown t0
        have Kt1 := cell_regrown t1
        have Kt2 := cell_regrown t2
        have Kt3 := cell_regrown t3
        have Kt4 := cell_regrown t4
        have Kt5 := cell_regrown t5
        clear t0 t1 t2 t3 t4 t5
        obtain ⟨u0, u1, u2, u3, u4, u5⟩ := el_own O10.out kN
        have Vu := Lib.hid (VD.out k kN)
        have Su := Lib.hid (RS.out k kN)
        obtain ⟨pu, hpu⟩ : ∃ p, atP ps k = p := ⟨_, rfl⟩
        rw [hpu] at u0 u1 u2 u3 u4 u5 Vu Su
        have Ku0 := cell_regrown u0
        have Ku1 := cell_regrown u1
        have Ku2 := cell_regrown u2
        have Ku3 := cell_regrown u3
        have Ku4 := cell_regrown u4
        have Ku5 := cell_regrown u5
        clear u0 u1 u2 u3 u4 u5
        obtain ⟨le, hle⟩ : ∃ x, gapI pt pu = x := ⟨_, rfl⟩
        have G0 := Lib.hid (show ∀ args W, args = #[.agg #[.string pt.id, .int .i64 pt.l, .int .i64 pt.wd, .int .i64 pt.t, .int .i64 pt.m, .int .i64 pt.r], .agg #[.string pu.id, .int .i64 pu.l, .int .i64 pu.wd, .int .i64 pu.t, .int .i64 pu.m, .int .i64 pu.r]] → Calls Tryz.prog 13 args W fun e w' => e = .returned (.tuple #[.int .i64 le, .int .i64 0]) ∧ Below W.heap.size W w' from fun args W ha => by
          subst ha
          have := wGap.spec_any pt pu W St.out Su.out
          rw [(wGap.res_t Vt.out Vu.out).1, (wGap.res_t Vt.out Vu.out).2] at this
          rw [hle] at this
          exact this)
        have HL := Lib.hid (show ∀ p q, p < N → q < N → p ≠ q → le ≤ gapI (atP ps p) (atP ps q) by rw [← hle, ← hpt, ← hpu]; exact HL.out)
        clear hpt hpu hle
        go_wp2_with fail
        refine wp_region_quiet_below (by kernel_rfl) (by kernel_rfl) ?_; (repeat (go_big_quiet_step ((go_at_call 13; refine Calls.regrown_of (G0.out _ _ ?_); rfl)))); refine wpQuiet_nil ?_; intro wq hwq; obtain ⟨⟨dq, osq⟩, hwq2⟩ := hwq; have bq := below_of hwq2; clear hwq2
        have BQ := Lib.hid bq
        clear bq Kt0 Kt1 Kt2 Kt3 Kt4 Kt5 Ku0 Ku1 Ku2 Ku3 Ku4 Ku5 G0 Vt St Vu Su gi gk gik
        go_wp2_with fail
        go_loopw [19] (fun x wr => ∃ a : Nat, a ≤ N ∧ x = .int .i64 a ∧ Below w9.heap.size w9 wr) (fun x _ => N - (intOf x).toNat)
        case atStart => exact ⟨0, Nat.zero_le _, rfl, BQ.out⟩
        case round =>
          obtain ⟨a, ha, rfl, hb⟩ := hrel
          have HB := Lib.hid hb
          clear hb
          by_cases hlt : a < N
          · obtain ⟨wo, rfl⟩ : ∃ wo : World, wo = wr := ⟨_, rfl⟩
            go_wp2
            go_loopw [20] (fun y wi => ∃ b : Nat, b ≤ N ∧ y = .int .i64 b ∧ Below w9.heap.size w9 wi) (fun y _ => N - (intOf y).toNat)
            case atStart => exact ⟨0, Nat.zero_le _, rfl, HB.out⟩
            case round =>
              obtain ⟨b, hbN, rfl, hbi⟩ := hrel
              have HBI := Lib.hid hbi
              clear hbi
              by_cases hml : b < N
              · have OX := Lib.hid (own_below O10.out HBI.out)
                have ga : (a : Int) < (N : Int) := by omega
                have gb : (b : Int) < (N : Int) := by omega
                by_cases ab : a = b
                · subst ab
                  obtain ⟨x0, x1, x2, x3, x4, x5⟩ := el_own OX.out hlt
                  have Vx := Lib.hid (VD.out a hlt)
                  have Sx := Lib.hid (RS.out a hlt)
                  obtain ⟨px, hpx⟩ : ∃ p, atP ps a = p := ⟨_, rfl⟩
                  rw [hpx] at x0 x1 x2 x3 x4 x5 Vx Sx
                  have Kx0 := cell_regrown x0
                  have Kx1 := cell_regrown x1
                  have Kx2 := cell_regrown x2
                  have Kx3 := cell_regrown x3
                  have Kx4 := cell_regrown x4
                  have Kx5 := cell_regrown x5
                  clear x0 x1 x2 x3 x4 x5
                  have G1 := Lib.hid (show ∀ args W, args = #[.agg #[.string px.id, .int .i64 px.l, .int .i64 px.wd, .int .i64 px.t, .int .i64 px.m, .int .i64 px.r], .agg #[.string px.id, .int .i64 px.l, .int .i64 px.wd, .int .i64 px.t, .int .i64 px.m, .int .i64 px.r]] → Calls Tryz.prog 14 args W fun e w' => e = .returned (.tuple #[.int .i64 0, .int .i64 0]) ∧ Below W.heap.size W w' from fun args W ha => by
                    subst ha
                    have := wGap.impl_any px px W Sx.out Sx.out
                    rw [(wGap.res_t Vx.out Vx.out).1, (wGap.res_t Vx.out Vx.out).2] at this
                    rw [gap_self] at this
                    exact this)
                  have HPx := Lib.hid hpx
                  clear hpx
                  go_wp2_with fail
                  refine wp_region_quiet_below (by kernel_rfl) (by kernel_rfl) ?_; (repeat (go_big_quiet_step ((go_at_call 14; refine Calls.regrown_of (G1.out _ _ ?_); rfl)))); refine wpQuiet_nil ?_; intro wq hwq; obtain ⟨⟨dq, osq⟩, hwq2⟩ := hwq; have bq := below_of hwq2; clear hwq2
                  have HB2 := Lib.hid (HBI.out.trans (bq.mono HBI.out.size))
                  obtain ⟨w10, hw10⟩ : ∃ W, W = wq := ⟨_, rfl⟩
                  rw [← hw10] at HB2 ⊢
                  clear bq hw10 Kx0 Kx1 Kx2 Kx3 Kx4 Kx5
                  have OX := Lib.hid (own_below O10.out HB2.out)
                  obtain ⟨x0, x1, x2, x3, x4, x5⟩ := el_own OX.out hlt
                  rw [HPx.out] at x0 x1 x2 x3 x4 x5
                  have Kx0 := cell_regrown x0
                  have Kx1 := cell_regrown x1
                  have Kx2 := cell_regrown x2
                  have Kx3 := cell_regrown x3
                  have Kx4 := cell_regrown x4
                  have Kx5 := cell_regrown x5
                  clear x0 x1 x2 x3 x4 x5
                  go_wp2_with fail
                  refine wp_region_quiet_below (by kernel_rfl) (by kernel_rfl) ?_; (repeat (go_big_quiet_step ((go_at_call 14; refine Calls.regrown_of (G1.out _ _ ?_); rfl)))); refine wpQuiet_nil ?_; intro wq hwq; obtain ⟨⟨dq, osq⟩, hwq2⟩ := hwq; have bq := below_of hwq2; clear hwq2
                  have HB3 := Lib.hid (HB2.out.trans (bq.mono HB2.out.size))
                  clear bq Kx0 Kx1 Kx2 Kx3 Kx4 Kx5
                  go_wp2
                  go_roundw
                  case rel => exact ⟨a + 1, by omega, by go_num, HB3.out⟩
                  case measure => simp [intOf]; omega
                · skip
                  obtain ⟨x0, x1, x2, x3, x4, x5⟩ := el_own OX.out hlt
                  have Vx := Lib.hid (VD.out a hlt)
                  have Sx := Lib.hid (RS.out a hlt)
                  obtain ⟨px, hpx⟩ : ∃ p, atP ps a = p := ⟨_, rfl⟩
                  rw [hpx] at x0 x1 x2 x3 x4 x5 Vx Sx
                  have Kx0 := cell_regrown x0
                  have Kx1 := cell_regrown x1
                  have Kx2 := cell_regrown x2
                  have Kx3 := cell_regrown x3
                  have Kx4 := cell_regrown x4
                  have Kx5 := cell_regrown x5
                  clear x0 x1 x2 x3 x4 x5
                  obtain ⟨y0, y1, y2, y3, y4, y5⟩ := el_own OX.out hml
                  have Vy := Lib.hid (VD.out b hml)
                  have Sy := Lib.hid (RS.out b hml)
                  obtain ⟨py, hpy⟩ : ∃ p, atP ps b = p := ⟨_, rfl⟩
                  rw [hpy] at y0 y1 y2 y3 y4 y5 Vy Sy
                  have Ky0 := cell_regrown y0
                  have Ky1 := cell_regrown y1
                  have Ky2 := cell_regrown y2
                  have Ky3 := cell_regrown y3
                  have Ky4 := cell_regrown y4
                  have Ky5 := cell_regrown y5
                  clear y0 y1 y2 y3 y4 y5
                  obtain ⟨gp, hgp⟩ : ∃ z, gapI px py = z := ⟨_, rfl⟩
                  have hge : ¬ gp < le := by have := HL.out a b hlt hml ab; rw [hpx, hpy, hgp] at this; omega
                  have hgd : decide (gp < le) = false := by rw [decide_eq_false_iff_not]; exact hge
                  have G1 := Lib.hid (show ∀ args W, args = #[.agg #[.string px.id, .int .i64 px.l, .int .i64 px.wd, .int .i64 px.t, .int .i64 px.m, .int .i64 px.r], .agg #[.string py.id, .int .i64 py.l, .int .i64 py.wd, .int .i64 py.t, .int .i64 py.m, .int .i64 py.r]] → Calls Tryz.prog 14 args W fun e w' => e = .returned (.tuple #[.int .i64 gp, .int .i64 0]) ∧ Below W.heap.size W w' from fun args W ha => by
                    subst ha
                    have := wGap.impl_any px py W Sx.out Sy.out
                    rw [(wGap.res_t Vx.out Vy.out).1, (wGap.res_t Vx.out Vy.out).2] at this
                    rw [hgp] at this
                    exact this)
                  have G2 := Lib.hid (show ∀ args W, args = #[.agg #[.string py.id, .int .i64 py.l, .int .i64 py.wd, .int .i64 py.t, .int .i64 py.m, .int .i64 py.r], .agg #[.string px.id, .int .i64 px.l, .int .i64 px.wd, .int .i64 px.t, .int .i64 px.m, .int .i64 px.r]] → Calls Tryz.prog 14 args W fun e w' => e = .returned (.tuple #[.int .i64 gp, .int .i64 0]) ∧ Below W.heap.size W w' from fun args W ha => by
                    subst ha
                    have := wGap.impl_any py px W Sy.out Sx.out
                    rw [(wGap.res_t Vy.out Vx.out).1, (wGap.res_t Vy.out Vx.out).2] at this
                    rw [gap_comm, hgp] at this
                    exact this)
                  have nab : ¬ (a : Int) = (b : Int) := by omega
                  have nab2 : ((a : Int) == (b : Int)) = false := by rw [beq_eq_false_iff_ne]; exact nab
                  have HPx := Lib.hid hpx
                  have HPy := Lib.hid hpy
                  clear hpx hpy hgp hge
                  go_wp2_with fail
                  refine wp_region_quiet_below (by kernel_rfl) (by kernel_rfl) ?_; (repeat (go_big_quiet_step (first | (go_at_call 14; refine Calls.regrown_of (G1.out _ _ ?_); rfl) | (go_at_call 14; refine Calls.regrown_of (G2.out _ _ ?_); rfl)))); refine wpQuiet_nil ?_; intro wq hwq; obtain ⟨⟨dq, osq⟩, hwq2⟩ := hwq; have bq := below_of hwq2; clear hwq2
                  have HB2 := Lib.hid (HBI.out.trans (bq.mono HBI.out.size))
                  obtain ⟨w10, hw10⟩ : ∃ W, W = wq := ⟨_, rfl⟩
                  rw [← hw10] at HB2 ⊢
                  clear bq hw10 Kx0 Kx1 Kx2 Kx3 Kx4 Kx5 Ky0 Ky1 Ky2 Ky3 Ky4 Ky5
                  have OX := Lib.hid (own_below O10.out HB2.out)
                  obtain ⟨x0, x1, x2, x3, x4, x5⟩ := el_own OX.out hlt
                  rw [HPx.out] at x0 x1 x2 x3 x4 x5
                  have Kx0 := cell_regrown x0
                  have Kx1 := cell_regrown x1
                  have Kx2 := cell_regrown x2
                  have Kx3 := cell_regrown x3
                  have Kx4 := cell_regrown x4
                  have Kx5 := cell_regrown x5
                  clear x0 x1 x2 x3 x4 x5
                  obtain ⟨y0, y1, y2, y3, y4, y5⟩ := el_own OX.out hml
                  rw [HPy.out] at y0 y1 y2 y3 y4 y5
                  have Ky0 := cell_regrown y0
                  have Ky1 := cell_regrown y1
                  have Ky2 := cell_regrown y2
                  have Ky3 := cell_regrown y3
                  have Ky4 := cell_regrown y4
                  have Ky5 := cell_regrown y5
                  clear y0 y1 y2 y3 y4 y5
                  go_wp2_with fail
                  refine wp_region_quiet_below (by kernel_rfl) (by kernel_rfl) ?_; (repeat (go_big_quiet_step (first | (go_at_call 14; refine Calls.regrown_of (G1.out _ _ ?_); rfl) | (go_at_call 14; refine Calls.regrown_of (G2.out _ _ ?_); rfl)))); refine wpQuiet_nil ?_; intro wq hwq; obtain ⟨⟨dq, osq⟩, hwq2⟩ := hwq; have bq := below_of hwq2; clear hwq2
                  have HB3 := Lib.hid (HB2.out.trans (bq.mono HB2.out.size))
                  clear bq Kx0 Kx1 Kx2 Kx3 Kx4 Kx5 Ky0 Ky1 Ky2 Ky3 Ky4 Ky5
                  go_wp2
                  go_roundw
                  case rel => exact ⟨b + 1, by omega, by go_num, HB3.out⟩
                  case measure => simp [intOf]; omega
              · go_wp2
                go_roundw
                case rel => exact ⟨a + 1, by omega, by go_num, HBI.out⟩
                case measure => simp [intOf]; omega
          · obtain rfl : a = N := by omega
            go_wp2_with fail
            go_meet
            exact HB.out
      · go_wp2_with fail
        go_meet
        exact Below.refl _ _
    case rest => as_aux_lemma =>
      have K := Lib.hid (K.out.step hcut)
      have O11 := Lib.hid (own_below O10.out hcut)
      have B11 := Lib.hid (B10.out.trans (hcut.mono B10.out.size))
      have HC := Lib.hid (HB.out.1.below B11.out)
      clear hcut O10 B10
      go_wp2_with fail
      refine (r8Wide_any B m d w.heap.size 20 260 wc HC.out HB.out.2 (by omega) (by omega) (by omega) (by omega)).mono ?_
      rintro e w12 ⟨x, rfl, x0, x1, rfl⟩
      go_wp2_with fail
      refine (r8AtN_any B m d w.heap.size 22 110 wc HC.out HB.out.2 (by omega) (by omega) (by omega) (by omega)).mono ?_
      rintro e w12 ⟨y, rfl, y0, y1, rfl⟩
      go_wp2_with fail
      refine (r8AtN_any B m d w.heap.size 23 30 wc HC.out HB.out.2 (by omega) (by omega) (by omega) (by omega)).mono ?_
      rintro e w12 ⟨z, rfl, z0, z1, rfl⟩
      obtain ⟨q0, q1, q2, q3, q4, q5⟩ := K.out.cells
      go_wp2_with fail
      obtain ⟨X, hX⟩ : ∃ X, 200 + x = X := ⟨_, rfl⟩
      obtain ⟨Y, hY⟩ : ∃ Y, 40 + y = Y := ⟨_, rfl⟩
      obtain ⟨Z, hZ⟩ : ∃ Z, 10 + z = Z := ⟨_, rfl⟩
      rw [hX, hY, hZ]
      have pb : pieceB X Y Z = true := by unfold pieceB; rw [inB_mk (by omega) (by omega), inB_mk (by omega) (by omega), inB_mk (by omega) (by omega)]; rfl
      have vf := validB_fits HV.out
      have mp := many_pos (p := p) (a := X) (b := Y) (c := Z) (by omega) (by omega) (by omega) (by have := vf.l1; omega) (by have := vf.w1; omega) (by have := vf.t1; omega)
      have PC := fun W => wPieces.impl_any p X Y Z W psz
      rw [(wPieces.res_t HV.out pb).1, (wPieces.res_t HV.out pb).2] at PC
      have FP := fun W => wFits.impl_any p X Y Z W psz
      have hres : wFits.res p X Y Z = decide (0 < wPieces.many p X Y Z) := by rw [← mp]; simp [wFits.res, HV.out, pb]
      rw [hres] at FP
      have PB := Lib.hid pb
      clear hX hY hZ x0 x1 y0 y1 z0 z1 vf mp hres pb
      generalize wPieces.many p X Y Z = mn at PC FP
      have PC := Lib.hid PC
      have FP := Lib.hid FP
      refine (PC.out _).mono ?_
      rintro e w12 ⟨rfl, b12⟩
      clear q0 q1 q2 q3 q4 q5
      have K := Lib.hid (K.out.step b12)
      have O12 := Lib.hid (own_below O11.out b12)
      have B12 := Lib.hid (B11.out.trans (b12.mono B11.out.size))
      clear b12 O11 B11
      obtain ⟨q0, q1, q2, q3, q4, q5⟩ := K.out.cells
      go_wp2_with fail
      refine (FP.out _).mono ?_
      rintro e w13 ⟨rfl, b13⟩
      clear q0 q1 q2 q3 q4 q5
      have O13 := Lib.hid (own_below O12.out b13)
      have B13 := Lib.hid (B12.out.trans (b13.mono B12.out.size))
      clear b13 O12 B12 K PC FP
      go_upto_if 249 with fail
      have LF := Lib.hid (show (∃ b : Nat, wLight.res ps X Y Z = b ∧ wLight.cod ps X Y Z = 0 ∧ b < N ∧ cutB (atP ps b) X Y Z = true ∧ ∀ k, k < N → cutB (atP ps k) X Y Z = true → dens (atP ps b) ≤ dens (atP ps k)) ∨ (wLight.cod ps X Y Z = 3 ∧ ∀ k, k < N → cutB (atP ps k) X Y Z = false) by
        have hv := row_valid RW.out
        have e : wLight.ans ps X Y Z = wLight.fin (wLight.lightN ps X Y Z N) := by rw [wLight.ans, hv, if_pos rfl, PB.out, if_pos rfl, HN.out]
        rcases light_least ps X Y Z N with ⟨h, hk⟩ | ⟨b, h, hb, hc, hk⟩
        · exact .inr ⟨by rw [wLight.cod, e, h]; rfl, hk⟩
        · exact .inl ⟨b, by rw [wLight.res, e, h, wLight.fin, if_neg (by omega)], by rw [wLight.cod, e, h, wLight.fin, if_neg (by omega)], hb, hc, hk⟩)
      go_wp2_with fail
      refine (wLight.implF_any w.heap.size N _ ps X Y Z w13 O13.out RS.out (by omega)).mono ?_
      rintro e w14 ⟨rfl, b14⟩
      have O14 := Lib.hid (own_below O13.out b14)
      have B14 := Lib.hid (B13.out.trans (b14.mono B13.out.size))
      clear b14 O13 B13
      revert LF
      generalize wLight.res ps X Y Z = lr
      generalize wLight.cod ps X Y Z = lc
      intro LF
      have FF := Lib.hid (show ∀ (q : Pl) W, q.id.size ≤ maxLen → cutB q X Y Z = false → Calls Tryz.prog 20 #[.agg #[.string q.id, .int .i64 q.l, .int .i64 q.wd, .int .i64 q.t, .int .i64 q.m, .int .i64 q.r], .int .i64 X, .int .i64 Y, .int .i64 Z] W fun e w' => e = .returned (.bool false) ∧ Below W.heap.size W w' from fun q W hs hq => by
        have := wFits.spec_any q X Y Z W hs
        rw [show wFits.res q X Y Z = false by simp [wFits.res, hq]] at this
        exact this)
      have FT := Lib.hid (show ∀ (q : Pl) W, q.id.size ≤ maxLen → validB q = true → cutB q X Y Z = true → Calls Tryz.prog 20 #[.agg #[.string q.id, .int .i64 q.l, .int .i64 q.wd, .int .i64 q.t, .int .i64 q.m, .int .i64 q.r], .int .i64 X, .int .i64 Y, .int .i64 Z] W fun e w' => e = .returned (.bool true) ∧ Below W.heap.size W w' from fun q W hs hv hq => by
        have := wFits.spec_any q X Y Z W hs
        rw [show wFits.res q X Y Z = true by simp [wFits.res, hq, hv, PB.out]] at this
        exact this)
      have DS := Lib.hid (show ∀ (q : Pl) W, q.id.size ≤ maxLen → validB q = true → Calls Tryz.prog 21 #[.agg #[.string q.id, .int .i64 q.l, .int .i64 q.wd, .int .i64 q.t, .int .i64 q.m, .int .i64 q.r]] W fun e w' => e = .returned (.tuple #[.int .i64 (dens q), .int .i64 0]) ∧ Below W.heap.size W w' from fun q W hs hv => by
        have := wDens.spec_any q W hs
        rw [(wDens.res_t hv).1, (wDens.res_t hv).2] at this
        exact this)
      rcases LF.out with ⟨b, rfl, rfl, hb, hc, hk⟩ | ⟨rfl, hk⟩
      · have HK := Lib.hid hk
        have HC1 := Lib.hid hc
        clear hk hc LF
        obtain ⟨g, cap, hv, _, _⟩ := O14.out.form (by omega)
        obtain ⟨rfl, rfl⟩ : Al = some ⟨g, 0, none⟩ ∧ cl = cap := by simpa using hv
        clear hv
        have gb : (b : Int) < (N : Int) := by omega
        go_wp2_with fail
        go_loopw [33, 34] (fun f x wr => ∃ (F : Bool) (a : Nat), a ≤ N ∧ f = .bool F ∧ x = .int .i64 a ∧ (b < a → F = true) ∧ Below w14.heap.size w14 wr) (fun _ x _ => N - (intOf x).toNat)
        case atStart => exact ⟨false, 0, Nat.zero_le _, rfl, rfl, fun h => by omega, Below.refl _ _⟩
        case round =>
          obtain ⟨F, a, ha, rfl, rfl, hf, hb1⟩ := hrel
          have HF := Lib.hid hf
          have HB := Lib.hid hb1
          clear hf hb1
          by_cases hlt : a < N
          · have ga : (a : Int) < (N : Int) := by omega
            have OX := Lib.hid (own_below O14.out HB.out)
            obtain ⟨x0, x1, x2, x3, x4, x5⟩ := el_own OX.out hlt
            have Vx := Lib.hid (VD.out a hlt)
            have Sx := Lib.hid (RS.out a hlt)
            obtain ⟨px, hpx⟩ : ∃ p, atP ps a = p := ⟨_, rfl⟩
            rw [hpx] at x0 x1 x2 x3 x4 x5 Vx Sx
            have HPx := Lib.hid hpx
            clear hpx
            cases hcx : cutB px X Y Z
            · have hne : b ≠ a := fun h => by subst h; have := HC1.out; rw [HPx.out, hcx] at this; cases this
              have F2 := Lib.hid (show b < a + 1 → F = true from fun h => HF.out (by omega))
              have C1 := Lib.hid (fun W => FF.out px W Sx.out hcx)
              clear hne hcx
              go_wp2_with fail
              refine (C1.out _).mono ?_
              rintro e w15 ⟨rfl, b15⟩
              have HB5 := Lib.hid (HB.out.trans (b15.mono HB.out.size))
              clear b15 x0 x1 x2 x3 x4 x5
              go_wp2
              go_roundw
              case rel => exact ⟨F, a + 1, by omega, rfl, by go_num, F2.out, HB5.out⟩
              case measure => simp [intOf]; omega
            · have C1 := Lib.hid (fun W => FT.out px W Sx.out Vx.out hcx)
              have C2 := Lib.hid (fun W => DS.out px W Sx.out Vx.out)
              have hle : dens (atP ps b) ≤ dens px := by rw [← HPx.out]; exact HK.out a hlt (by rw [HPx.out]; exact hcx)
              clear hcx
              go_wp2_with fail
              refine (C1.out _).mono ?_
              rintro e w15 ⟨rfl, b15⟩
              have HB5 := Lib.hid (HB.out.trans (b15.mono HB.out.size))
              clear b15 x0 x1 x2 x3 x4 x5
              have OX := Lib.hid (own_below O14.out HB5.out)
              obtain ⟨x0, x1, x2, x3, x4, x5⟩ := el_own OX.out hlt
              rw [HPx.out] at x0 x1 x2 x3 x4 x5
              go_wp2_with fail
              refine (C2.out _).mono ?_
              rintro e w16 ⟨rfl, b16⟩
              have HB6 := Lib.hid (HB5.out.trans (b16.mono HB5.out.size))
              clear b16 x0 x1 x2 x3 x4 x5
              have OX := Lib.hid (own_below O14.out HB6.out)
              obtain ⟨y0, y1, y2, y3, y4, y5⟩ := el_own OX.out hb
              have Vy := Lib.hid (VD.out b hb)
              have Sy := Lib.hid (RS.out b hb)
              obtain ⟨py, hpy⟩ : ∃ p, atP ps b = p := ⟨_, rfl⟩
              rw [hpy] at y0 y1 y2 y3 y4 y5 Vy Sy
              rw [hpy] at hle
              clear hpy
              have C3 := Lib.hid (fun W => DS.out py W Sy.out Vy.out)
              obtain ⟨dx, hdx⟩ : ∃ d, dens px = d := ⟨_, rfl⟩
              obtain ⟨dy, hdy⟩ : ∃ d, dens py = d := ⟨_, rfl⟩
              rw [hdx, hdy] at hle
              rw [hdy] at C3
              rw [hdx]
              clear hdx hdy
              have nl : ¬ dx < dy := by omega
              have nl2 : decide (dx < dy) = false := by rw [decide_eq_false_iff_not]; exact nl
              clear hle
              go_wp2_with fail
              refine (C3.out _).mono ?_
              rintro e w17 ⟨rfl, b17⟩
              have HB7 := Lib.hid (HB6.out.trans (b17.mono HB6.out.size))
              clear b17 y0 y1 y2 y3 y4 y5
              go_wp2
              go_roundw
              case rel => exact ⟨true, a + 1, by omega, rfl, by go_num, fun _ => rfl, HB7.out⟩
              case measure => simp [intOf]; omega
          · obtain rfl : a = N := by omega
            obtain rfl := HF.out hb
            have OX := Lib.hid (own_below O14.out HB.out)
            obtain ⟨y0, y1, y2, y3, y4, y5⟩ := el_own OX.out hb
            have Vy := Lib.hid (VD.out b hb)
            have Sy := Lib.hid (RS.out b hb)
            obtain ⟨py, hpy⟩ : ∃ p, atP ps b = p := ⟨_, rfl⟩
            rw [hpy] at y0 y1 y2 y3 y4 y5 Vy Sy
            have C1 := Lib.hid (fun W => FT.out py W Sy.out Vy.out (by rw [← hpy]; exact HC1.out))
            clear hpy
            go_wp2_with fail
            refine (C1.out _).mono ?_
            rintro e w18 ⟨rfl, b18⟩
            have HB8 := Lib.hid (B14.out.trans ((HB.out.trans (b18.mono HB.out.size)).mono B14.out.size))
            clear b18 y0 y1 y2 y3 y4 y5
            go_wp2
            go_ret
            exact ⟨rfl, HB8.out⟩
      · have HK := Lib.hid hk
        clear hk LF
        go_wp2_with fail
        go_loopw [33, 34] (fun f x wr => ∃ a : Nat, a ≤ N ∧ f = .bool false ∧ x = .int .i64 a ∧ Below w14.heap.size w14 wr) (fun _ x _ => N - (intOf x).toNat)
        case atStart => exact ⟨0, Nat.zero_le _, rfl, rfl, Below.refl _ _⟩
        case round =>
          obtain ⟨a, ha, rfl, rfl, hb1⟩ := hrel
          have HB := Lib.hid hb1
          clear hb1
          by_cases hlt : a < N
          · have ga : (a : Int) < (N : Int) := by omega
            have OX := Lib.hid (own_below O14.out HB.out)
            obtain ⟨g, cap, hv, _, _⟩ := OX.out.form (by omega)
            obtain ⟨rfl, rfl⟩ : Al = some ⟨g, 0, none⟩ ∧ cl = cap := by simpa using hv
            clear hv
            obtain ⟨x0, x1, x2, x3, x4, x5⟩ := el_own OX.out hlt
            have Vx := Lib.hid (VD.out a hlt)
            have Sx := Lib.hid (RS.out a hlt)
            obtain ⟨px, hpx⟩ : ∃ p, atP ps a = p := ⟨_, rfl⟩
            rw [hpx] at x0 x1 x2 x3 x4 x5 Vx Sx
            have C1 := Lib.hid (fun W => FF.out px W Sx.out (by rw [← hpx]; exact HK.out a hlt))
            clear hpx
            go_wp2_with fail
            refine (C1.out _).mono ?_
            rintro e w15 ⟨rfl, b15⟩
            have HB5 := Lib.hid (HB.out.trans (b15.mono HB.out.size))
            clear b15 x0 x1 x2 x3 x4 x5
            go_wp2
            go_roundw
            case rel => exact ⟨a + 1, by omega, rfl, by go_num, HB5.out⟩
            case measure => simp [intOf]; omega
          · obtain rfl : a = N := by omega
            have HB8 := Lib.hid (B14.out.trans (HB.out.mono B14.out.size))
            go_wp2
            go_ret
            exact ⟨rfl, HB8.out⟩

/-! ### The row's step -/
theorem own : ownKnob Tryz.prog.godebug = none := by kernel_rfl
theorem laidOut : laidOutB Tryz.prog = true := by kernel_rfl
theorem plainL : (Rows.fnWoodsRow.laid.all fun x => x.2.handleName?.isNone) = true := by kernel_rfl
set_option maxRecDepth 100000 in
theorem lifted (os : Os) (started : os.Started) (H : Type) (enc : TypeId × Value → H) :
    ReturnsInHanded {} Tryz.checked os 3 .any (fun w args => (Rows.fnWoodsSpec.pre enc Tryz.prog Tryz.f3 Rows.fnWoodsRow.domain false w args ∧ laidMetH Tryz.prog Rows.fnWoodsRow.laid w) ∧ sizedMet enc Tryz.prog Tryz.f3 (OpenSpec.ofChange Rows.fnWoodsSpec) false w args) (Rows.fnWoodsSpec.post enc Tryz.prog Tryz.f3 false true false false) := by
  refine wrapAndShaped (C := Tryz.checked) (X := (fun w _ => laidMetH Tryz.prog Rows.fnWoodsRow.laid w)) (fun _ _ _ hh h => h.of_heap hh) own started (by kernel_rfl) Tryz.func3
    (ChangeSpec.witness_shaped (enc := enc) (C := Tryz.checked) (os := os) (X := (fun w _ => laidMetH Tryz.prog Rows.fnWoodsRow.laid w)) false (World.laidAll Tryz.prog os Rows.fnWoodsRow.laid) #[.slice none 0 0, .slice none 0 0] 8 (World.laidAll_os _ _ _) (World.shaped_of_ZipB (by kernel_rfl) (by kernel_rfl)) (by kernel_rfl) (by kernel_rfl) (by kernel_rfl) (by rw [MakeChecks.laidMetH_plain _ _ _ plainL]; exact laidMet_laidAll _ (by kernel_rfl) (by kernel_rfl))) ?_
  intro W base args ds gs before hval0 hW hcnd hL hsh
  have hval : ∀ (j : Nat) t v, Tryz.f3.params[j]? = some t → args[j]? = some v → Value.okWide Tryz.prog W .any base t v := hval0
  have hW' := hW
  obtain ⟨p, q, hA0, hV, rfl, hfz, hnd⟩ := hW
  have hA : DataW.TrodAll enc Tryz.prog W 0 (fun _ => true) true Tryz.f3.params.toList args.toList ds p := hA0
  rw [Tryz.params3] at hA hval
  obtain ⟨v0, vs0, d0, ds0, p0, q0, hargs, rfl, rfl, h0, r0⟩ := trodAll_cons hA
  obtain ⟨v1, vs1, d1, ds1, p1, q1, rfl, rfl, rfl, h1, r1⟩ := trodAll_cons r0
  obtain ⟨rfl, rfl, rfl⟩ := trodAll_nil r1
  obtain rfl : args = #[v0, v1] := by cases args; simp_all
  obtain ⟨rfl, rfl⟩ := trodVars_none hV
  have k0 := h0
  have lt0 : ∀ x ∈ p0, x.block < W.heap.size := by obtain ⟨m, hm⟩ := k0; exact DataW.trod_lt m _ _ _ hm
  obtain ⟨a0, len0, cap0, rfl⟩ := okWide_slice Tryz.underlying22 (hval 0 22 v0 rfl rfl)
  have w0 : Bytes W W.heap.size a0 len0 := open_bytesR Tryz.underlying22 Tryz.underlying5 (by kernel_rfl) h0
  have k1 := h1
  have lt1 : ∀ x ∈ p1, x.block < W.heap.size := by obtain ⟨m, hm⟩ := k1; exact DataW.trod_lt m _ _ _ hm
  obtain ⟨a1, len1, cap1, rfl⟩ := okWide_slice Tryz.underlying22 (hval 1 22 v1 rfl rfl)
  have w1 : Bytes W W.heap.size a1 len1 := open_bytesR Tryz.underlying22 Tryz.underlying5 (by kernel_rfl) h1
  clear hA0 hval0
  refine (walk a0 len0 cap0 a1 len1 cap1 W (pow_of_laid plainL hL (by simp [Rows.fnWoodsRow])) (err_of_laid plainL hL (by simp [Rows.fnWoodsRow]) (by simp [Rows.fnWoodsRow])) (Tryz.laysM146.s1_3 W hsh) w0 w1).mono fun e W' ⟨he, bel⟩ => ?_
  subst he
  exact ⟨_, rfl, _, _, _, [], _, [], hW', trodAll_mk1 (shut_bool Tryz.underlying4 _), (trodAll_cons_mk (Below.trod laidOut (by kernel_rfl) (of_decide_eq_true (by kernel_rfl)) k0 bel lt0) (trodAll_cons_mk (Below.trod laidOut (by kernel_rfl) (of_decide_eq_true (by kernel_rfl)) k1 bel lt1) trodAll_mk0)), rfl, bel.frame _, fun h => by cases h⟩

theorem over : Rows.fnWoodsRow.holds Tryz.pinned (OpenSpec.ofChange Rows.fnWoodsSpec) :=
  OpenClaim.holds_of_wide 3 Tryz.f3 rfl rfl rfl rfl rfl rfl rfl ⟨rfl, rfl, rfl, rfl, rfl⟩ rfl rfl rfl rfl rfl (by kernel_rfl) Tryz.func3 (by kernel_rfl)
    (of_decide_eq_true (by kernel_rfl)) (by unfold Func.isWrapper; first | (rw [if_pos (by decide +kernel)]; kernel_rfl) | (rw [if_neg (by decide +kernel)]; exact ⟨rfl, rfl⟩))
    (fun os started H enc _ => lifted os started H enc)

/-- The given statement: the tied card. -/
theorem proved : Rows.FnWoodsCardSaid :=
  Claim7.holds_tied_plain_at .later [] [.data, .data, .data, .data, .sentinel, .sentinel, .pinned] true (true, "b8ade1a6eaa407aa689b8d79afbfeec3de8e5f3936bd931d35191a5c6ca1e1e2") true
    over (fun _ h => by cases h) (by kernel_rfl) (fun _ h => by cases h) fnWoods_row_tie rfl ⟨rfl, rfl⟩ (by kernel_rfl) rfl
    (fun f fn hf hfn => by
      obtain rfl : f = 3 := Option.some.inj (hf.symm.trans (show Tryz.prog.funcNamed "loop.example/g01061/laws.FnWoods" = some 3 by kernel_rfl))
      obtain rfl : fn = Tryz.f3 := (Option.some.inj (Tryz.func3.symm.trans hfn)).symm
      exact ⟨by kernel_rfl, fun j t ht => by
        rw [Tryz.params3] at ht
        have hm : t ∈ [22, 22] := by simpa using Array.mem_of_getElem? ht
        have hall : ([22, 22].all fun u => !Tryz.prog.wantsStandIn u) = true := by kernel_rfl
        exact (show Tryz.prog.wantsStandIn t = false by simpa using List.all_eq_true.1 hall t hm)⟩)
    (by kernel_rfl)
#print axioms proved

end Go.Proofs.YtfmbmgdemdbpaaaGreatDoor.fnWoods
