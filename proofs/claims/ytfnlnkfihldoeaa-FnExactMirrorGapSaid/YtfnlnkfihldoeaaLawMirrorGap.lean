/- For every grid, the program's MirrorGap returns what the reference's returns; grids of more than 2^20 cells the law lets pass. Conditions: none. -/
import Derived.Test.YtfnlnkfihldoeaaArchB
import Derived.Test.YtfnlnkfihldoeaaMat
import Derived.Deep.Matrix
import Derived.ProofKit
import Derived.OpenShut
import Derived.ShutString
import Derived.ChangeOld
import Derived.Below
namespace Go.Proofs.Ytfnlnkfihldoeaa.fnExactMirrorGap
open Go.ChangeShapes Go.WideShapes Go.ChangeAt Go.RowKit
open Go.ChangeMaps (open_string shut_string)
set_option linter.unusedVariables false
open Go.Sort

/-- one place's share of the fold -/
def mirF (Z : List (List Int)) (m t : Nat) (acc : Int) : Int := mxI acc (distI (V Z (t / m) (t % m)) (V Z (t / m) (m - 1 - t % m)))
def fold (Z : List (List Int)) : Int := foldN (mirF Z (rowZ Z 0).length) 0 (Z.length * (rowZ Z 0).length)
def res (Z : List (List Int)) : Int := if archB Z then fold Z else 0
def cod (Z : List (List Int)) : Int := if archB Z then 0 else 1
theorem res_t {Z : List (List Int)} (h : archB Z = true) : res Z = fold Z ∧ cod Z = 0 := by simp [res, cod, h]
theorem res_f {Z : List (List Int)} (h : archB Z = false) : res Z = 0 ∧ cod Z = 1 := by simp [res, cod, h]
theorem is_ofb {P : Program} {f : FuncId} {args : Array Value} {w : World} {b c : Bool} (h : Calls P f args w fun e w' => e = .returned (.bool b) ∧ Below w.heap.size w w') (hb : b = c) :
    Calls P f args w fun e w' => e = .returned (.bool c) ∧ Below w.heap.size w w' := by rw [← hb]; exact h

set_option maxHeartbeats 2000000 in
theorem specF_any (A : Option Addr) (n c b : Nat) (Z : List (List Int)) (w : World) (hg : Grid w b A n Z) (hb0 : b ≤ w.heap.size) (hn : n ≤ 1048576) :
    Calls Try.prog 23 #[.slice A n c] w fun r w' => r = .returned (.tuple #[.int .i64 (res Z), .int .i64 (cod Z)]) ∧ Below w.heap.size w w' := by
  have HG := Lib.hid hg
  have HL := Lib.hid hg.len
  clear hg
  cases h : archB Z
  · have hr := Lib.hid (res_f h)
    go_enter Try.func23, Try.ntmps23
    go_wp2_with (go_at_call 46; refine (is_ofb (l07Ok_any A n c b Z _ HG.out hb0 hn) h).mono ?_; rintro e w1 ⟨rfl, b1⟩; have B1 := Lib.hid b1; clear b1)
    go_ret2
    exact ⟨ret_int2 hr.out.1.symm hr.out.2.symm, B1.out⟩
  · have hr := Lib.hid (res_t h)
    obtain ⟨ad, rfl, M⟩ := Mat.of HG.out h
    obtain ⟨m, hm⟩ : ∃ m, (rowZ Z 0).length = m := ⟨_, rfl⟩
    rw [hm] at M
    have HF := Lib.hid (show fold Z = foldN (mirF Z m) 0 (n * m) by rw [fold, hm, HL.out])
    have HM := Lib.hid M
    have n1 := M.n1
    have n2 := M.n2
    have m1 := M.m1
    have m2 := M.m2
    clear M hm
    go_enter Try.func23, Try.ntmps23
    go_wp2_with (go_at_call 46; refine (is_ofb (l07Ok_any (some ad) n c b Z _ HG.out hb0 hn) h).mono ?_; rintro e w1 ⟨rfl, b1⟩; have B1 := Lib.hid b1; clear b1)
    go_loopw [4, 5] (fun s i wr => ∃ (k : Nat) (acc : Int), k ≤ n ∧ foldN (mirF Z m) 0 (k * m) = acc ∧ 0 ≤ acc ∧ acc ≤ 1000 ∧ s = .int .i64 acc ∧ i = .int .i64 k ∧ Below w.heap.size w wr) (fun _ i _ => n - (intOf i).toNat)
    case atStart => exact ⟨0, 0, Nat.zero_le _, by simp [foldN], by omega, by omega, rfl, rfl, B1.out⟩
    case round =>
      obtain ⟨k, acc, hk, ha, a0, a1, rfl, rfl, hb⟩ := hrel
      have HA := Lib.hid ha
      have HB := Lib.hid hb
      clear ha hb
      by_cases hlt : k < n
      · obtain ⟨ai, ci, r1, r2, r3⟩ := HM.out.rows k hlt
        have hc0 := Lib.hid r1
        have hcr := (HB.out.cell (p := ad.add k) (by rw [block_of_add]; exact Nat.lt_of_lt_of_le HM.out.blk hb0)).trans r1
        have R3 := Lib.hid r3
        clear r1 r3
        obtain ⟨wo, hwo⟩ : ∃ wo : World, wo = wr := ⟨_, rfl⟩
        have HWO := Lib.hid hwo
        clear hwo
        go_wp2
        go_loopw [4, 7] (fun s j wi => ∃ (x : Nat) (acc : Int), x ≤ m ∧ foldN (mirF Z m) 0 (k * m + x) = acc ∧ 0 ≤ acc ∧ acc ≤ 1000 ∧ s = .int .i64 acc ∧ j = .int .i64 x ∧ Below w.heap.size w wi) (fun _ j _ => m - (intOf j).toNat)
        case atStart => exact ⟨0, acc, Nat.zero_le _, HA.out, a0, a1, rfl, rfl, HB.out⟩
        case round =>
          obtain ⟨x, acc2, hx, ha2, a2, a3, rfl, rfl, hbi⟩ := hrel
          have HA2 := Lib.hid ha2
          have HBI := Lib.hid hbi
          clear ha2 hbi
          by_cases hxl : x < m
          · have v1 := HM.out.bd k hlt x hxl
            have v2 := HM.out.bd k hlt (m - 1 - x) (by omega)
            have hc1 := (HBI.out.cell (p := ad.add k) (by rw [block_of_add]; exact Nat.lt_of_lt_of_le HM.out.blk hb0)).trans hc0.out
            have hc2 := (HBI.out.cell (p := ai.add x) (by rw [block_of_add]; exact Nat.lt_of_lt_of_le r2 hb0)).trans (R3.out x hxl)
            have hc3 := (HBI.out.cell (p := ai.add (m - 1 - x)) (by rw [block_of_add]; exact Nat.lt_of_lt_of_le r2 hb0)).trans (R3.out (m - 1 - x) (by omega))
            obtain ⟨p, hp⟩ : ∃ p, V Z k x = p := ⟨_, rfl⟩
            obtain ⟨q, hq⟩ : ∃ q, V Z k (m - 1 - x) = q := ⟨_, rfl⟩
            rw [hp] at hc2 v1
            rw [hq] at hc3 v2
            have st := Lib.hid (show foldN (mirF Z m) 0 (k * m + (x + 1)) = mxI acc2 (distI p q) by rw [show k * m + (x + 1) = k * m + x + 1 from rfl, foldN, HA2.out, mirF, div_row hxl, mod_row hxl, hp, hq])
            have d := distI_bd (a := p) (b := q) (m := 1000) (by omega) (by omega) (by omega) (by omega)
            have d2 : distI p q ≤ 1000 := by unfold distI; split <;> omega
            have e0 : ((m : Int) - 1 - x).toNat = m - 1 - x := by omega
            have g0 : (0 : Int) ≤ (m : Int) - 1 - x := by omega
            have g1 : (m : Int) - 1 - x < m := by omega
            have g2 : (x : Int) < m := by omega
            have g3 : (k : Int) < n := by omega
            clear hp hq
            have m3 : 0 ≤ mxI acc2 (distI p q) ∧ mxI acc2 (distI p q) ≤ 1000 := by unfold mxI; split <;> omega
            have e1 : IntKind.i64.wrap ((m : Int) - 1) = (m : Int) - 1 := by rw [IntKind.wrap_i64]; omega
            have e2 : IntKind.i64.wrap ((m : Int) - 1 - x) = (m : Int) - 1 - x := by rw [IntKind.wrap_i64]; omega
            go_wp2_with fail
            go_quiet (first | (go_at_call 51; exact Calls.quiet_of_same (flip (l03Abs_any _ _ _ (by omega) (by omega) (by omega) (by omega)))) | (go_at_call 50; exact Calls.quiet_of_same (flip (l00Max_any _ _ _))))
            clear e0 e1 e2 hc1 hc2 hc3
            go_wp2
            go_roundw
            case rel => exact ⟨x + 1, mxI acc2 (distI p q), by omega, st.out, m3.1, m3.2, rfl, by go_num, below_drewN HBI.out _⟩
            case measure => simp [intOf]; omega
          · have hx2 := Lib.hid (show k * m + x = (k + 1) * m by rw [show x = m by omega, row_end])
            go_wp2
            go_roundw
            case rel => exact ⟨k + 1, acc2, by omega, by rw [← hx2.out]; exact HA2.out, a2, a3, rfl, by go_num, HBI.out⟩
            case measure => simp [intOf]; omega
      · have hk2 := Lib.hid (show k = n by omega)
        go_wp2
        go_ret2
        exact ⟨ret_int2 (by rw [hr.out.1, HF.out, ← HA.out, hk2.out]) hr.out.2.symm, HB.out⟩

set_option maxHeartbeats 2000000 in
theorem implF_any (A : Option Addr) (n c b : Nat) (Z : List (List Int)) (w : World) (hg : Grid w b A n Z) (hb0 : b ≤ w.heap.size) (hn : n ≤ 1048576) :
    Calls Try.prog 24 #[.slice A n c] w fun r w' => r = .returned (.tuple #[.int .i64 (res Z), .int .i64 (cod Z)]) ∧ Below w.heap.size w w' := by
  have HG := Lib.hid hg
  have HL := Lib.hid hg.len
  clear hg
  cases h : archB Z
  · have hr := Lib.hid (res_f h)
    go_enter Try.func24, Try.ntmps24
    go_wp2_with (go_at_call 21; refine (is_ofb (implArch_any A n c b Z _ HG.out hb0 hn) h).mono ?_; rintro e w1 ⟨rfl, b1⟩; have B1 := Lib.hid b1; clear b1)
    go_ret2
    exact ⟨ret_int2 hr.out.1.symm hr.out.2.symm, B1.out⟩
  · have hr := Lib.hid (res_t h)
    obtain ⟨ad, rfl, M⟩ := Mat.of HG.out h
    obtain ⟨m, hm⟩ : ∃ m, (rowZ Z 0).length = m := ⟨_, rfl⟩
    rw [hm] at M
    have HF := Lib.hid (show fold Z = foldN (mirF Z m) 0 (n * m) by rw [fold, hm, HL.out])
    have HM := Lib.hid M
    have n1 := M.n1
    have n2 := M.n2
    have m1 := M.m1
    have m2 := M.m2
    clear M hm
    go_enter Try.func24, Try.ntmps24
    go_wp2_with (go_at_call 21; refine (is_ofb (implArch_any (some ad) n c b Z _ HG.out hb0 hn) h).mono ?_; rintro e w1 ⟨rfl, b1⟩; have B1 := Lib.hid b1; clear b1)
    go_loopw [4, 14] (fun s i wr => ∃ (k : Nat) (acc : Int), k ≤ n ∧ foldN (mirF Z m) 0 (k * m) = acc ∧ 0 ≤ acc ∧ acc ≤ 1000 ∧ s = .int .i64 acc ∧ i = .int .i64 k ∧ Below w.heap.size w wr) (fun _ i _ => n - (intOf i).toNat)
    case atStart => exact ⟨0, 0, Nat.zero_le _, by simp [foldN], by omega, by omega, rfl, rfl, B1.out⟩
    case round =>
      obtain ⟨k, acc, hk, ha, a0, a1, rfl, rfl, hb⟩ := hrel
      have HA := Lib.hid ha
      have HB := Lib.hid hb
      clear ha hb
      by_cases hlt : k < n
      · obtain ⟨ai, ci, r1, r2, r3⟩ := HM.out.rows k hlt
        have hc0 := Lib.hid r1
        have hcr := (HB.out.cell (p := ad.add k) (by rw [block_of_add]; exact Nat.lt_of_lt_of_le HM.out.blk hb0)).trans r1
        have R3 := Lib.hid r3
        clear r1 r3
        obtain ⟨wo, hwo⟩ : ∃ wo : World, wo = wr := ⟨_, rfl⟩
        have HWO := Lib.hid hwo
        clear hwo
        go_wp2
        go_loopw [4, 20] (fun s j wi => ∃ (x : Nat) (acc : Int), x ≤ m ∧ foldN (mirF Z m) 0 (k * m + x) = acc ∧ 0 ≤ acc ∧ acc ≤ 1000 ∧ s = .int .i64 acc ∧ j = .int .i64 x ∧ Below w.heap.size w wi) (fun _ j _ => m - (intOf j).toNat)
        case atStart => exact ⟨0, acc, Nat.zero_le _, HA.out, a0, a1, rfl, rfl, HB.out⟩
        case round =>
          obtain ⟨x, acc2, hx, ha2, a2, a3, rfl, rfl, hbi⟩ := hrel
          have HA2 := Lib.hid ha2
          have HBI := Lib.hid hbi
          clear ha2 hbi
          by_cases hxl : x < m
          · have v1 := HM.out.bd k hlt x hxl
            have v2 := HM.out.bd k hlt (m - 1 - x) (by omega)
            have hc1 := (HBI.out.cell (p := ad.add k) (by rw [block_of_add]; exact Nat.lt_of_lt_of_le HM.out.blk hb0)).trans hc0.out
            have hc2 := (HBI.out.cell (p := ai.add x) (by rw [block_of_add]; exact Nat.lt_of_lt_of_le r2 hb0)).trans (R3.out x hxl)
            have hc3 := (HBI.out.cell (p := ai.add (m - 1 - x)) (by rw [block_of_add]; exact Nat.lt_of_lt_of_le r2 hb0)).trans (R3.out (m - 1 - x) (by omega))
            obtain ⟨p, hp⟩ : ∃ p, V Z k x = p := ⟨_, rfl⟩
            obtain ⟨q, hq⟩ : ∃ q, V Z k (m - 1 - x) = q := ⟨_, rfl⟩
            rw [hp] at hc2 v1
            rw [hq] at hc3 v2
            have st := Lib.hid (show foldN (mirF Z m) 0 (k * m + (x + 1)) = mxI acc2 (distI p q) by rw [show k * m + (x + 1) = k * m + x + 1 from rfl, foldN, HA2.out, mirF, div_row hxl, mod_row hxl, hp, hq])
            have d := distI_bd (a := p) (b := q) (m := 1000) (by omega) (by omega) (by omega) (by omega)
            have d2 : distI p q ≤ 1000 := by unfold distI; split <;> omega
            have e0 : ((m : Int) - 1 - x).toNat = m - 1 - x := by omega
            have g0 : (0 : Int) ≤ (m : Int) - 1 - x := by omega
            have g1 : (m : Int) - 1 - x < m := by omega
            have g2 : (x : Int) < m := by omega
            have g3 : (k : Int) < n := by omega
            clear hp hq
            have m3 : 0 ≤ mxI acc2 (distI p q) ∧ mxI acc2 (distI p q) ≤ 1000 := by unfold mxI; split <;> omega
            have hmx := Lib.hid (show mxI acc2 (distI p q) = if distI p q < acc2 then acc2 else distI p q from rfl)
            obtain ⟨z, hz⟩ : ∃ z, distI p q = z := ⟨_, rfl⟩
            have HZ := Lib.hid hz
            rw [hz] at d d2
            by_cases hlt2 : acc2 < z
            · have hv := Lib.hid (show mxI acc2 (distI p q) = z by rw [hmx.out, hz, if_neg (by omega)])
              clear hz
              go_wp2_with (go_at_call 52; refine (distance_any _ _ _ (by omega) (by omega) (by omega) (by omega)).mono ?_; rw [HZ.out]; rintro e w' ⟨rfl, rfl⟩)
              go_roundw
              case rel => exact ⟨x + 1, _, by omega, st.out, m3.1, m3.2, by rw [hv.out], by go_num, HBI.out⟩
              case measure => simp [intOf]; omega
            · have hv := Lib.hid (show mxI acc2 (distI p q) = acc2 by rw [hmx.out, hz]; split <;> omega)
              clear hz
              go_wp2_with (go_at_call 52; refine (distance_any _ _ _ (by omega) (by omega) (by omega) (by omega)).mono ?_; rw [HZ.out]; rintro e w' ⟨rfl, rfl⟩)
              go_roundw
              case rel => exact ⟨x + 1, _, by omega, st.out, m3.1, m3.2, by rw [hv.out], by go_num, HBI.out⟩
              case measure => simp [intOf]; omega
          · have hx2 := Lib.hid (show k * m + x = (k + 1) * m by rw [show x = m by omega, row_end])
            go_wp2
            go_roundw
            case rel => exact ⟨k + 1, acc2, by omega, by rw [← hx2.out]; exact HA2.out, a2, a3, rfl, by go_num, HBI.out⟩
            case measure => simp [intOf]; omega
      · have hk2 := Lib.hid (show k = n by omega)
        go_wp2
        go_ret2
        exact ⟨ret_int2 (by rw [hr.out.1, HF.out, ← HA.out, hk2.out]) hr.out.2.symm, HB.out⟩

set_option maxHeartbeats 1600000 in
theorem walk (A : Option Addr) (n c : Nat) (Z : List (List Int)) (w : World) (w0 : Grid w w.heap.size A n Z ∧ n ≤ 9223372036854775807) :
    Calls Try.prog 5 #[.slice A n c] w fun r w' => r = .returned (.bool true) ∧ Below w.heap.size w w' := by
  obtain ⟨hg, hn⟩ := w0
  have K := Lib.hid (show KeepG w A n Z w from ⟨Below.refl _ _, hg⟩)
  have HL := Lib.hid hg.len
  clear hg
  go_enter Try.func5, Try.ntmps5
  go_wp2_with fail
  refine (szInt64SS_any A n c _ Z 1048576 _ K.out.grid hn (by omega) (by omega)).mono ?_
  rintro e w1 ⟨r, rfl, r1, hs, b1⟩
  have HS := Lib.hid hs
  have K := Lib.hid (K.out.step b1)
  clear hs b1
  by_cases hr : r < 0
  · go_wp2
    go_ret
    exact ⟨rfl, K.out.old⟩
  · have hr0 : 0 ≤ r := by omega
    have hn2 : n ≤ 1048576 := by have := (HS.out hr0).1; rw [HL.out] at this; omega
    have HM : Hid (∀ i, i < n → (rowZ Z i).length ≤ 1048576) := fun i hi => by have := (HS.out hr0).2 i (by rw [HL.out]; exact hi); omega
    go_wp2_with fail
    refine (toInt64SS_any A n c _ Z _ K.out.grid K.out.old.size hn2 HM.out).mono ?_
    rintro e w2 ⟨g2, z2, rfl, hz2, o2, b2⟩
    have X := Lib.hid (copy_grid o2 hz2 HL.out HM.out)
    have K := Lib.hid (K.out.step b2)
    clear o2 hz2 b2
    go_wp2_with fail
    refine (specF_any _ n n _ Z _ X.out (Nat.le_refl _) hn2).mono ?_
    rintro e w3 ⟨rfl, b3⟩
    have K := Lib.hid (K.out.step b3)
    clear b3
    go_wp2_with fail
    refine (toInt64SS_any A n c _ Z _ K.out.grid K.out.old.size hn2 HM.out).mono ?_
    rintro e w4 ⟨g4, z4, rfl, hz4, o4, b4⟩
    have X := Lib.hid (copy_grid o4 hz4 HL.out HM.out)
    have K := Lib.hid (K.out.step b4)
    clear o4 hz4 b4
    go_wp2_with fail
    refine (implF_any _ n n _ Z _ X.out (Nat.le_refl _) hn2).mono ?_
    rintro e w5 ⟨rfl, b5⟩
    have X := Lib.hid (X.out.below b5)
    have S := Lib.hid b5.size
    have K := Lib.hid (K.out.step b5)
    clear b5
    go_wp2_with fail
    refine (toInt64SS_any A n c _ Z _ K.out.grid K.out.old.size hn2 HM.out).mono ?_
    rintro e w6 ⟨g6, z6, rfl, hz6, o6, b6⟩
    have Y := Lib.hid (copy_grid o6 hz6 HL.out HM.out)
    have X := Lib.hid (X.out.below (b6.mono S.out))
    have S := Lib.hid (Nat.le_trans S.out b6.size)
    have K := Lib.hid (K.out.step b6)
    clear o6 hz6 b6
    go_wp2_with fail
    refine (eqInt64SS_any _ _ n n n _ _ Z _ X.out Y.out S.out (Nat.le_refl _) hn2).mono ?_
    rintro e w7 ⟨rfl, b7⟩
    have K := Lib.hid (K.out.step b7)
    clear b7
    go_wp2
    go_ret
    exact ⟨rfl, K.out.old⟩

/-! ### The row's step -/
theorem own : ownKnob Try.prog.godebug = none := by kernel_rfl
theorem laidOut : laidOutB Try.prog = true := by kernel_rfl
set_option maxRecDepth 100000 in
theorem lifted (os : Os) (started : os.Started) (H : Type) (enc : TypeId × Value → H) :
    ReturnsInHanded {} Try.checked os 5 .any (Rows.fnExactMirrorGapSpec.pre6 enc Try.prog Try.f5 Rows.fnExactMirrorGapRow.domain false) (Rows.fnExactMirrorGapSpec.post enc Try.prog Try.f5 false true false false) := by
  refine returnsInHanded_of_change (C := Try.checked) own started (by kernel_rfl) Try.func5
    (ChangeSpec.witness6 (enc := enc) (C := Try.checked) false ⟨#[], #[.slice none 0 0], []⟩ 8 (by kernel_rfl) (by kernel_rfl) (by kernel_rfl) (by kernel_rfl)) ?_
  intro W base args ds gs before hval0 hW hcnd _
  have hval : ∀ (j : Nat) t v, Try.f5.params[j]? = some t → args[j]? = some v → Value.okWide Try.prog W .any base t v := hval0
  have hW' := hW
  obtain ⟨p, q, hA0, hV, rfl, hfz, hnd⟩ := hW
  have hA : DataW.TrodAll enc Try.prog W 0 (fun _ => true) true Try.f5.params.toList args.toList ds p := hA0
  rw [Try.params5] at hA hval
  obtain ⟨v0, vs0, d0, ds0, p0, q0, hargs, rfl, rfl, h0, r0⟩ := trodAll_cons hA
  obtain ⟨rfl, rfl, rfl⟩ := trodAll_nil r0
  obtain rfl : args = #[v0] := by cases args; simp_all
  obtain ⟨rfl, rfl⟩ := trodVars_none hV
  have k0 := h0
  have lt0 : ∀ x ∈ p0, x.block < W.heap.size := by obtain ⟨m, hm⟩ := k0; exact DataW.trod_lt m _ _ _ hm
  obtain ⟨a0, len0, cap0, rfl⟩ := okWide_slice Try.underlying28 (hval 0 28 v0 rfl rfl)
  obtain ⟨z0, w0⟩ : ∃ Z, Grid W W.heap.size a0 len0 Z ∧ len0 ≤ 9223372036854775807 := by
    obtain ⟨fuel, hf⟩ := h0
    rcases Deep.open_int_rows Try.underlying28 Try.underlying53 Try.underlying2 (by kernel_rfl) (by kernel_rfl) hf with ⟨hcs, _⟩ | ⟨x, l, c, A, L, C, ZZ, hcs, _, hl, hm, _, hrow⟩
    · simp [Value.cells] at hcs
      obtain ⟨rfl, rfl, rfl⟩ := hcs
      exact ⟨[], grid_nil _ _ _, by omega⟩
    · simp [Value.cells] at hcs
      obtain ⟨rfl, rfl, rfl⟩ := hcs
      exact ⟨_, grid_of_rows hl hrow, by unfold maxLen at hm; omega⟩
  clear hA0 hval0
  refine (walk a0 len0 cap0 z0 W w0).mono fun e W' ⟨he, bel⟩ => ?_
  subst he
  exact ⟨_, rfl, _, _, _, [], _, [], hW', trodAll_mk1 (shut_bool Try.underlying4 _), (trodAll_cons_mk (Below.trod laidOut (by kernel_rfl) (of_decide_eq_true (by kernel_rfl)) k0 bel lt0) trodAll_mk0), rfl, bel.frame _, fun h => by cases h⟩

theorem over : Rows.fnExactMirrorGapRow.holds Try.pinned (OpenSpec.ofChange Rows.fnExactMirrorGapSpec) :=
  OpenClaim.holds_of_wide 5 Try.f5 rfl rfl rfl rfl rfl rfl rfl ⟨rfl, rfl, rfl, rfl, rfl⟩ rfl rfl rfl rfl rfl (by kernel_rfl) Try.func5 (by kernel_rfl)
    (of_decide_eq_true (by kernel_rfl)) (by unfold Func.isWrapper; first | (rw [if_pos (by decide +kernel)]; kernel_rfl) | (rw [if_neg (by decide +kernel)]; exact ⟨rfl, rfl⟩))
    (fun os started H enc _ => lifted os started H enc)

/-- The given statement. -/
theorem proved : Rows.FnExactMirrorGapSaid := over
#print axioms proved

end Go.Proofs.Ytfnlnkfihldoeaa.fnExactMirrorGap
