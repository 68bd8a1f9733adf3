/- For every grid and number, the program's WoodOver returns what the reference's returns; grids of more than 2^20 cells the law lets pass. Conditions: none. -/
import Derived.Test.YtfnlnkfihldoeaaArchB
import Derived.Test.YtfnlnkfihldoeaaPlaces
import Derived.Deep.Matrix
import Derived.ProofKit
import Derived.OpenShut
import Derived.ShutString
import Derived.ChangeOld
import Derived.Below
namespace Go.Proofs.Ytfnlnkfihldoeaa.fnExactWoodOver
open Go.ChangeShapes Go.WideShapes Go.ChangeAt Go.RowKit
open Go.ChangeMaps (open_string shut_string)
set_option linter.unusedVariables false
open Go.Sort

/-- one place's share of the fold -/
def woodF (Z : List (List Int)) (m : Nat) (h : Int) (t : Nat) (acc : Int) : Int := acc + mxI 0 (V Z (t / m) (t % m) - h)
def fold (Z : List (List Int)) (h : Int) : Int := foldN (woodF Z (rowZ Z 0).length h) 0 (Z.length * (rowZ Z 0).length)
def res (Z : List (List Int)) (h : Int) : Int := if archB Z && inB h 0 1000 then fold Z h else 0
def cod (Z : List (List Int)) (h : Int) : Int := if archB Z then (if inB h 0 1000 then 0 else 2) else 1
theorem res_t {Z : List (List Int)} {h : Int} (a : archB Z = true) (b : inB h 0 1000 = true) : res Z h = fold Z h ∧ cod Z h = 0 := by simp [res, cod, a, b]
theorem res_r {Z : List (List Int)} {h : Int} (a : archB Z = true) (b : inB h 0 1000 = false) : res Z h = 0 ∧ cod Z h = 2 := by simp [res, cod, a, b]
theorem res_f {Z : List (List Int)} {h : Int} (a : archB Z = false) : res Z h = 0 ∧ cod Z h = 1 := by simp [res, cod, a]
theorem is_ofb {P : Program} {f : FuncId} {args : Array Value} {w : World} {b c : Bool} (h : Calls P f args w fun e w' => e = .returned (.bool b) ∧ Below w.heap.size w w') (hb : b = c) :
    Calls P f args w fun e w' => e = .returned (.bool c) ∧ Below w.heap.size w w' := by rw [← hb]; exact h
theorem isRise_any (n : Int) (w : World) :
    Calls Try.prog 56 #[.int .i64 n] w fun e w' => e = .returned (.bool (inB n 0 1000)) ∧ w = w' := by
  go_enter Try.func56, Try.ntmps56
  go_wp2_with (go_at_call 43; refine (within_any _ _ _ _).mono ?_; rintro e w' ⟨rfl, rfl⟩)
  go_ret
  exact ⟨rfl, rfl⟩

set_option maxHeartbeats 2000000 in
theorem specF_any (A : Option Addr) (n c b : Nat) (Z : List (List Int)) (h : Int) (w : World) (hg : Grid w b A n Z) (hb0 : b ≤ w.heap.size) (hn : n ≤ 1048576) :
    Calls Try.prog 27 #[.slice A n c, .int .i64 h] w fun r w' => r = .returned (.tuple #[.int .i64 (res Z h), .int .i64 (cod Z h)]) ∧ Below w.heap.size w w' := by
  have HG := Lib.hid hg
  have HL := Lib.hid hg.len
  clear hg
  cases h0 : archB Z
  · have hr := Lib.hid (res_f (h := h) h0)
    go_enter Try.func27, Try.ntmps27
    go_wp2_with (go_at_call 46; refine (is_ofb (l07Ok_any A n c b Z _ HG.out hb0 hn) h0).mono ?_; rintro e w1 ⟨rfl, b1⟩; have B1 := Lib.hid b1; clear b1)
    go_ret2
    exact ⟨ret_int2 hr.out.1.symm hr.out.2.symm, B1.out⟩
  cases h1 : inB h 0 1000
  · have hr := Lib.hid (res_r h0 h1)
    go_enter Try.func27, Try.ntmps27
    go_wp2_with (first | (go_at_call 46; refine (is_ofb (l07Ok_any A n c b Z _ HG.out hb0 hn) h0).mono ?_; rintro e w1 ⟨rfl, b1⟩; have B1 := Lib.hid b1; clear b1) | (go_at_call 55; refine (is_of (isRise_in _ _) h1).mono ?_; rintro e w' ⟨rfl, rfl⟩))
    go_ret2
    exact ⟨ret_int2 hr.out.1.symm hr.out.2.symm, B1.out⟩
  · have hr := Lib.hid (res_t h0 h1)
    have hh := inB_t h1
    obtain ⟨ad, rfl, M⟩ := Mat.of HG.out h0
    obtain ⟨m, hm⟩ : ∃ m, (rowZ Z 0).length = m := ⟨_, rfl⟩
    rw [hm] at M
    have HF := Lib.hid (show fold Z h = foldN (woodF Z m h) 0 (n * m) by rw [fold, hm, HL.out])
    have HM := Lib.hid M
    have n1 := M.n1
    have n2 := M.n2
    have m1 := M.m1
    have m2 := M.m2
    have hnm : n * m ≤ 100 := Nat.mul_le_mul n2 m2
    clear M hm
    go_enter Try.func27, Try.ntmps27
    go_wp2_with (first | (go_at_call 46; refine (is_ofb (l07Ok_any (some ad) n c b Z _ HG.out hb0 hn) h0).mono ?_; rintro e w1 ⟨rfl, b1⟩; have B1 := Lib.hid b1; clear b1) | (go_at_call 55; refine (is_of (isRise_in _ _) h1).mono ?_; rintro e w' ⟨rfl, rfl⟩))
    go_loopw [6, 7] (fun s i wr => ∃ (k : Nat) (acc : Int), k ≤ n ∧ foldN (woodF Z m h) 0 (k * m) = acc ∧ 0 ≤ acc ∧ acc ≤ 1000 * (k * m : Nat) ∧ s = .int .i64 acc ∧ i = .int .i64 k ∧ Below w.heap.size w wr) (fun _ i _ => n - (intOf i).toNat)
    case atStart => exact ⟨0, 0, Nat.zero_le _, by simp [foldN], by omega, by omega, rfl, rfl, B1.out⟩
    case round =>
      obtain ⟨k, acc, hk, ha, a0, a1, rfl, rfl, hb⟩ := hrel
      have HA := Lib.hid ha
      have HB := Lib.hid hb
      clear ha hb
      by_cases hlt : k < n
      · obtain ⟨ai, ci, r1, r2, r3⟩ := HM.out.rows k hlt
        have hc0 := Lib.hid r1
        have R3 := Lib.hid r3
        have A1 := Lib.hid a1
        clear r1 r3 a1
        obtain ⟨wo, rfl⟩ : ∃ wo : World, wo = wr := ⟨_, rfl⟩
        go_wp2
        go_loopw [6, 8] (fun s j wi => ∃ (x : Nat) (acc : Int), x ≤ m ∧ foldN (woodF Z m h) 0 (k * m + x) = acc ∧ 0 ≤ acc ∧ acc ≤ 1000 * (k * m + x : Nat) ∧ s = .int .i64 acc ∧ j = .int .i64 x ∧ Below w.heap.size w wi) (fun _ j _ => m - (intOf j).toNat)
        case atStart => exact ⟨0, acc, Nat.zero_le _, HA.out, a0, A1.out, rfl, rfl, HB.out⟩
        case round =>
          obtain ⟨x, acc2, hx, ha2, a2, a3, rfl, rfl, hbi⟩ := hrel
          have HA2 := Lib.hid ha2
          have HBI := Lib.hid hbi
          clear ha2 hbi
          have hc1 := (HBI.out.cell (p := ad.add k) (by rw [block_of_add]; exact Nat.lt_of_lt_of_le HM.out.blk hb0)).trans hc0.out
          by_cases hxl : x < m
          · have v1 := HM.out.bd k hlt x hxl
            have hc2 := (HBI.out.cell (p := ai.add x) (by rw [block_of_add]; exact Nat.lt_of_lt_of_le r2 hb0)).trans (R3.out x hxl)
            obtain ⟨p, hp⟩ : ∃ p, V Z k x = p := ⟨_, rfl⟩
            rw [hp] at hc2 v1
            have st := Lib.hid (show foldN (woodF Z m h) 0 (k * m + (x + 1)) = acc2 + mxI 0 (p - h) by rw [show k * m + (x + 1) = k * m + x + 1 from rfl, foldN, HA2.out, woodF, div_row hxl, mod_row hxl, hp])
            have m3 : 0 ≤ mxI 0 (p - h) ∧ mxI 0 (p - h) ≤ 1000 := by unfold mxI; split <;> omega
            have hkx : k * m + x < 100 := by
              have h1 : k * m + m ≤ n * m := by rw [row_end]; exact Nat.mul_le_mul_right m hlt
              omega
            have a4 : acc2 ≤ 100000 := by omega
            have A3 := Lib.hid (show acc2 + mxI 0 (p - h) ≤ 1000 * ((k * m + (x + 1) : Nat) : Int) by omega)
            clear hp a3 hkx
            go_wp2_with (go_at_call 50; refine (l00Max_any _ _ _).mono ?_; rintro e w' ⟨rfl, rfl⟩)
            go_roundw
            case rel => exact ⟨x + 1, _, by omega, st.out, by omega, A3.out, rfl, by go_num, HBI.out⟩
            case measure => simp [intOf]; omega
          · have hx2 := Lib.hid (show k * m + x = (k + 1) * m by rw [show x = m by omega, row_end])
            have A3 := Lib.hid a3
            clear a3
            go_wp2
            go_roundw
            case rel => exact ⟨k + 1, acc2, by omega, by rw [← hx2.out]; exact HA2.out, a2, by rw [← hx2.out]; exact A3.out, rfl, by go_num, HBI.out⟩
            case measure => simp [intOf]; omega
      · have hk2 := Lib.hid (show k = n by omega)
        clear a1
        go_wp2
        go_ret2
        exact ⟨ret_int2 (by rw [hr.out.1, HF.out, ← HA.out, hk2.out]) hr.out.2.symm, HB.out⟩

set_option maxHeartbeats 2000000 in
theorem implF_any (A : Option Addr) (n c b : Nat) (Z : List (List Int)) (h : Int) (w : World) (hg : Grid w b A n Z) (hb0 : b ≤ w.heap.size) (hn : n ≤ 1048576) :
    Calls Try.prog 28 #[.slice A n c, .int .i64 h] w fun r w' => r = .returned (.tuple #[.int .i64 (res Z h), .int .i64 (cod Z h)]) ∧ Below w.heap.size w w' := by
  have HG := Lib.hid hg
  have HL := Lib.hid hg.len
  clear hg
  cases h0 : archB Z
  · have hr := Lib.hid (res_f (h := h) h0)
    go_enter Try.func28, Try.ntmps28
    go_wp2_with (go_at_call 21; refine (is_ofb (implArch_any A n c b Z _ HG.out hb0 hn) h0).mono ?_; rintro e w1 ⟨rfl, b1⟩; have B1 := Lib.hid b1; clear b1)
    go_ret2
    exact ⟨ret_int2 hr.out.1.symm hr.out.2.symm, B1.out⟩
  cases h1 : inB h 0 1000
  · have hr := Lib.hid (res_r h0 h1)
    go_enter Try.func28, Try.ntmps28
    go_wp2_with (first | (go_at_call 21; refine (is_ofb (implArch_any A n c b Z _ HG.out hb0 hn) h0).mono ?_; rintro e w1 ⟨rfl, b1⟩; have B1 := Lib.hid b1; clear b1) | (go_at_call 56; refine (is_of (isRise_any _ _) h1).mono ?_; rintro e w' ⟨rfl, rfl⟩))
    go_ret2
    exact ⟨ret_int2 hr.out.1.symm hr.out.2.symm, B1.out⟩
  · have hr := Lib.hid (res_t h0 h1)
    have hh := inB_t h1
    obtain ⟨ad, rfl, M⟩ := Mat.of HG.out h0
    obtain ⟨m, hm⟩ : ∃ m, (rowZ Z 0).length = m := ⟨_, rfl⟩
    rw [hm] at M
    have HF := Lib.hid (show fold Z h = foldN (woodF Z m h) 0 (n * m) by rw [fold, hm, HL.out])
    have HM := Lib.hid M
    have n1 := M.n1
    have n2 := M.n2
    have m1 := M.m1
    have m2 := M.m2
    have hnm : n * m ≤ 100 := Nat.mul_le_mul n2 m2
    clear M hm
    go_enter Try.func28, Try.ntmps28
    have m0 : 0 < m := m1
    go_wp2_with (first | (go_at_call 21; refine (is_ofb (implArch_any (some ad) n c b Z _ HG.out hb0 hn) h0).mono ?_; rintro e w1 ⟨rfl, b1⟩; have B1 := Lib.hid b1; clear b1) | (go_at_call 56; refine (is_of (isRise_any _ _) h1).mono ?_; rintro e w' ⟨rfl, rfl⟩))
    refine (places_any ad n m c b Z _ (HM.out.below (B1.out.mono hb0)) (Nat.le_trans hb0 B1.out.size)).mono ?_
    rintro e w2 ⟨g, cap, rfl, o2, b2⟩
    have B2 := Lib.hid (B1.out.trans (b2.mono B1.out.size))
    have O2 := Lib.hid o2
    have G2 := Lib.hid (own_lt o2)
    clear o2 b2
    go_wp2_with fail
    go_loopw [6, 18] (fun s i wr => ∃ (t : Nat) (acc : Int), t ≤ n * m ∧ foldN (woodF Z m h) 0 t = acc ∧ 0 ≤ acc ∧ acc ≤ 1000 * (t : Int) ∧ s = .int .i64 acc ∧ i = .int .i64 t ∧ Below w2.heap.size w2 wr) (fun _ i _ => n * m - (intOf i).toNat)
    case atStart => exact ⟨0, 0, Nat.zero_le _, by simp [foldN], by omega, by omega, rfl, rfl, Below.refl _ _⟩
    case round =>
      obtain ⟨t, acc, ht, ha, a0, a1, rfl, rfl, hb⟩ := hrel
      have HA := Lib.hid ha
      have HB := Lib.hid hb
      clear ha hb
      by_cases hlt : t < n * m
      · have hi : t / m < n := Nat.div_lt_of_lt_mul (by rw [Nat.mul_comm]; exact hlt)
        have hkm : t % m < m := Nat.mod_lt _ m1
        have v1 := HM.out.bd _ hi _ hkm
        have pa := plc_at (m := m) hlt
        have hc1 : wr.cell? ⟨g, t * 2, none⟩ = some (.int .i64 ((t / m : Nat) : Int)) := (HB.out.cell (p := ⟨g, t * 2, none⟩) G2.out.2).trans ((O2.out.cellAt (t * 2) (by omega)).trans pa.1)
        have hc2 : wr.cell? ⟨g, t * 2 + 1, none⟩ = some (.int .i64 ((t % m : Nat) : Int)) := (HB.out.cell (p := ⟨g, t * 2 + 1, none⟩) G2.out.2).trans ((O2.out.cellAt (t * 2 + 1) (by omega)).trans pa.2)
        obtain ⟨i, hi2⟩ : ∃ i, t / m = i := ⟨_, rfl⟩
        obtain ⟨k, hk2⟩ : ∃ k, t % m = k := ⟨_, rfl⟩
        rw [hi2] at hc1 hi v1
        rw [hk2] at hc2 hkm v1
        obtain ⟨p, hp⟩ : ∃ p, V Z i k = p := ⟨_, rfl⟩
        rw [hp] at v1
        have st := Lib.hid (show foldN (woodF Z m h) 0 (t + 1) = acc + mxI 0 (p - h) by rw [foldN, HA.out, woodF, hi2, hk2, hp])
        have HP := Lib.hid hp
        have hbw : Below w.heap.size w wr := B2.out.trans (HB.out.mono B2.out.size)
        have HBW := Lib.hid hbw
        have MW := Lib.hid (HM.out.below (hbw.mono hb0))
        have mxv := Lib.hid (show mxI 0 (p - h) = if p - h < 0 then 0 else p - h from rfl)
        have m3 : 0 ≤ mxI 0 (p - h) ∧ mxI 0 (p - h) ≤ 1000 := by unfold mxI; split <;> omega
        have M3 := Lib.hid m3
        have A3 := Lib.hid (show acc + mxI 0 (p - h) ≤ 1000 * ((t + 1 : Nat) : Int) by omega)
        have a4 : acc ≤ 100000 := by omega
        clear pa hi2 hk2 hp hbw a1 m3
        by_cases hc : p - h ≤ 0
        all_goals
          have hv := Lib.hid (show acc + mxI 0 (p - h) = acc + (if p - h ≤ 0 then 0 else p - h) by rw [mxv.out]; (repeat' split) <;> omega)
          go_wp2_with (go_at_call 54; refine (of_any ad n m c b i k Z _ (MW.out.below ((Below.refl _ _).alloc (Nat.le_trans hb0 HBW.out.size) _)) (by simp; have := HBW.out.size; omega) hi hkm).mono ?_; rw [HP.out]; rintro e w5 ⟨rfl, b5⟩; have B5 := Lib.hid (((Below.refl wr.heap.size wr).alloc (Nat.le_refl _) _).trans (b5.mono (by simp))); clear b5)
          go_roundw
          case rel => exact ⟨t + 1, _, by omega, st.out, by have := M3.out; omega, A3.out, by rw [hv.out]; (first | (rw [if_pos hc]; simp) | rw [if_neg (by omega)]), by go_num, HB.out.trans (B5.out.mono HB.out.size)⟩
          case measure => simp [intOf]; omega
      · have hk2 := Lib.hid (show t = n * m by omega)
        clear a1
        go_wp2
        go_ret2
        exact ⟨ret_int2 (by rw [hr.out.1, HF.out, ← HA.out, hk2.out]) hr.out.2.symm, B2.out.trans (HB.out.mono B2.out.size)⟩

set_option maxHeartbeats 1600000 in
theorem walk (A : Option Addr) (n c : Nat) (Z : List (List Int)) (h : Int) (w : World) (w0 : Grid w w.heap.size A n Z ∧ n ≤ 9223372036854775807) (w1 : (Lit.int .i64 h).wf = true) :
    Calls Try.prog 7 #[.slice A n c, .int .i64 h] w fun r w' => r = .returned (.bool true) ∧ Below w.heap.size w w' := by
  obtain ⟨hg, hn⟩ := w0
  have K := Lib.hid (show KeepG w A n Z w from ⟨Below.refl _ _, hg⟩)
  have HL := Lib.hid hg.len
  clear hg
  go_enter Try.func7, Try.ntmps7
  go_wp2_with fail
  refine (szInt64SS_any A n c _ Z 1048576 _ K.out.grid hn (by omega) (by omega)).mono ?_
  rintro e w1 ⟨r, rfl, r1, hs, b1⟩
  have HS := Lib.hid hs
  have K := Lib.hid (K.out.step b1)
  clear hs b1
  by_cases hr : r < 0
  · go_wp2
    go_ret
    exact ⟨rfl, K.out.old⟩
  · have hr0 : 0 ≤ r := by omega
    have hn2 : n ≤ 1048576 := by have := (HS.out hr0).1; rw [HL.out] at this; omega
    have HM : Hid (∀ i, i < n → (rowZ Z i).length ≤ 1048576) := fun i hi => by have := (HS.out hr0).2 i (by rw [HL.out]; exact hi); omega
    go_wp2_with fail
    refine (toInt64SS_any A n c _ Z _ K.out.grid K.out.old.size hn2 HM.out).mono ?_
    rintro e w2 ⟨g2, z2, rfl, hz2, o2, b2⟩
    have X := Lib.hid (copy_grid o2 hz2 HL.out HM.out)
    have K := Lib.hid (K.out.step b2)
    clear o2 hz2 b2
    go_wp2_with fail
    refine (specF_any _ n n _ Z h _ X.out (Nat.le_refl _) hn2).mono ?_
    rintro e w3 ⟨rfl, b3⟩
    have K := Lib.hid (K.out.step b3)
    clear b3
    go_wp2_with fail
    refine (toInt64SS_any A n c _ Z _ K.out.grid K.out.old.size hn2 HM.out).mono ?_
    rintro e w4 ⟨g4, z4, rfl, hz4, o4, b4⟩
    have X := Lib.hid (copy_grid o4 hz4 HL.out HM.out)
    have K := Lib.hid (K.out.step b4)
    clear o4 hz4 b4
    go_wp2_with fail
    refine (implF_any _ n n _ Z h _ X.out (Nat.le_refl _) hn2).mono ?_
    rintro e w5 ⟨rfl, b5⟩
    have X := Lib.hid (X.out.below b5)
    have S := Lib.hid b5.size
    have K := Lib.hid (K.out.step b5)
    clear b5
    go_wp2_with fail
    refine (toInt64SS_any A n c _ Z _ K.out.grid K.out.old.size hn2 HM.out).mono ?_
    rintro e w6 ⟨g6, z6, rfl, hz6, o6, b6⟩
    have Y := Lib.hid (copy_grid o6 hz6 HL.out HM.out)
    have X := Lib.hid (X.out.below (b6.mono S.out))
    have S := Lib.hid (Nat.le_trans S.out b6.size)
    have K := Lib.hid (K.out.step b6)
    clear o6 hz6 b6
    go_wp2_with fail
    refine (eqInt64SS_any _ _ n n n _ _ Z _ X.out Y.out S.out (Nat.le_refl _) hn2).mono ?_
    rintro e w7 ⟨rfl, b7⟩
    have K := Lib.hid (K.out.step b7)
    clear b7
    go_wp2
    go_ret
    exact ⟨rfl, K.out.old⟩

/-! ### The row's step -/
theorem own : ownKnob Try.prog.godebug = none := by kernel_rfl
theorem laidOut : laidOutB Try.prog = true := by kernel_rfl
set_option maxRecDepth 100000 in
theorem lifted (os : Os) (started : os.Started) (H : Type) (enc : TypeId × Value → H) :
    ReturnsInHanded {} Try.checked os 7 .any (Rows.fnExactWoodOverSpec.pre6 enc Try.prog Try.f7 Rows.fnExactWoodOverRow.domain false) (Rows.fnExactWoodOverSpec.post enc Try.prog Try.f7 false true false false) := by
  refine returnsInHanded_of_change (C := Try.checked) own started (by kernel_rfl) Try.func7
    (ChangeSpec.witness6 (enc := enc) (C := Try.checked) false ⟨#[], #[.slice none 0 0, .int .i64 0], []⟩ 8 (by kernel_rfl) (by kernel_rfl) (by kernel_rfl) (by kernel_rfl)) ?_
  intro W base args ds gs before hval0 hW hcnd _
  have hval : ∀ (j : Nat) t v, Try.f7.params[j]? = some t → args[j]? = some v → Value.okWide Try.prog W .any base t v := hval0
  have hW' := hW
  obtain ⟨p, q, hA0, hV, rfl, hfz, hnd⟩ := hW
  have hA : DataW.TrodAll enc Try.prog W 0 (fun _ => true) true Try.f7.params.toList args.toList ds p := hA0
  rw [Try.params7] at hA hval
  obtain ⟨v0, vs0, d0, ds0, p0, q0, hargs, rfl, rfl, h0, r0⟩ := trodAll_cons hA
  obtain ⟨v1, vs1, d1, ds1, p1, q1, rfl, rfl, rfl, h1, r1⟩ := trodAll_cons r0
  obtain ⟨rfl, rfl, rfl⟩ := trodAll_nil r1
  obtain rfl : args = #[v0, v1] := by cases args; simp_all
  obtain ⟨rfl, rfl⟩ := trodVars_none hV
  have k0 := h0
  have lt0 : ∀ x ∈ p0, x.block < W.heap.size := by obtain ⟨m, hm⟩ := k0; exact DataW.trod_lt m _ _ _ hm
  obtain ⟨a0, len0, cap0, rfl⟩ := okWide_slice Try.underlying28 (hval 0 28 v0 rfl rfl)
  obtain ⟨z0, w0⟩ : ∃ Z, Grid W W.heap.size a0 len0 Z ∧ len0 ≤ 9223372036854775807 := by
    obtain ⟨fuel, hf⟩ := h0
    rcases Deep.open_int_rows Try.underlying28 Try.underlying53 Try.underlying2 (by kernel_rfl) (by kernel_rfl) hf with ⟨hcs, _⟩ | ⟨x, l, c, A, L, C, ZZ, hcs, _, hl, hm, _, hrow⟩
    · simp [Value.cells] at hcs
      obtain ⟨rfl, rfl, rfl⟩ := hcs
      exact ⟨[], grid_nil _ _ _, by omega⟩
    · simp [Value.cells] at hcs
      obtain ⟨rfl, rfl, rfl⟩ := hcs
      exact ⟨_, grid_of_rows hl hrow, by unfold maxLen at hm; omega⟩
  have k1 := h1
  have lt1 : ∀ x ∈ p1, x.block < W.heap.size := by obtain ⟨m, hm⟩ := k1; exact DataW.trod_lt m _ _ _ hm
  obtain ⟨a1, rfl, rfl, rfl, w1⟩ := open_int Try.underlying2 (hval 1 2 v1 rfl rfl) h1
  clear hA0 hval0
  refine (walk a0 len0 cap0 z0 a1 W w0 w1).mono fun e W' ⟨he, bel⟩ => ?_
  subst he
  exact ⟨_, rfl, _, _, _, [], _, [], hW', trodAll_mk1 (shut_bool Try.underlying4 _), (trodAll_cons_mk (Below.trod laidOut (by kernel_rfl) (of_decide_eq_true (by kernel_rfl)) k0 bel lt0) (trodAll_cons_mk (Below.trod laidOut (by kernel_rfl) (of_decide_eq_true (by kernel_rfl)) k1 bel lt1) trodAll_mk0)), rfl, bel.frame _, fun h => by cases h⟩

theorem over : Rows.fnExactWoodOverRow.holds Try.pinned (OpenSpec.ofChange Rows.fnExactWoodOverSpec) :=
  OpenClaim.holds_of_wide 7 Try.f7 rfl rfl rfl rfl rfl rfl rfl ⟨rfl, rfl, rfl, rfl, rfl⟩ rfl rfl rfl rfl rfl (by kernel_rfl) Try.func7 (by kernel_rfl)
    (of_decide_eq_true (by kernel_rfl)) (by unfold Func.isWrapper; first | (rw [if_pos (by decide +kernel)]; kernel_rfl) | (rw [if_neg (by decide +kernel)]; exact ⟨rfl, rfl⟩))
    (fun os started H enc _ => lifted os started H enc)

/-- The given statement. -/
theorem proved : Rows.FnExactWoodOverSaid := over
#print axioms proved

end Go.Proofs.Ytfnlnkfihldoeaa.fnExactWoodOver
