/- For all bytes, roots are rounded down, quotients are nearest, a line stays between its ends, and texts are read back. Conditions: none. -/
import Derived.Test.YtcmnmmgmhnhkhaaDoorObytes
import Derived.Test.YtcmnmmgmhnhkhaaDoorBasD
import Derived.Test.YtcmnmmgmhnhkhaaDoorBasL
import Derived.Test.YtcmnmmgmhnhkhaaDoorRoot
import Derived.Test.YtcmnmmgmhnhkhaaDoorWrap
import Derived.ProofKit
import Derived.OpenShut
import Derived.ShutString
import Derived.ChangeOld
import Derived.Below
import Derived.Lib.LaidU8
import Derived.LaidMore
import Derived.Lay
import Derived.Stop.Joined
import Derived.SevenTiedAt
import Derived.Test.YtcmnmmgmhnhkhaaDoorTie
import Derived.Test.YtcmnmmgmhnhkhaaDoorCards
namespace Go.Proofs.YtcmnmmgmhnhkhaaDoor.fnBasics
open Go.ChangeShapes Go.WideShapes Go.ChangeAt Go.RowKit
open Go.ChangeMaps (open_string shut_string)
set_option linter.unusedVariables false
open Go.Sort

theorem root_bd {a r : Int} (h0 : 0 ≤ a) (h1 : a ≤ 3600000000) (h : IsRoot a r) : 0 ≤ r ∧ r ≤ 60000 ∧ r * r ≤ a ∧ a < (r + 1) * (r + 1) ∧ (r + 1) * (r + 1) = r * r + 2 * r + 1 := by
  obtain ⟨k0, _, k1, k2⟩ := h
  refine ⟨k0, ?_, k1, k2, ?_⟩
  · rcases Int.lt_or_le 60000 r with g | g
    · have : 60001 * 60001 ≤ r * r := Int.mul_le_mul (by omega) (by omega) (by omega) (by omega)
      omega
    · exact g
  · rw [Int.add_mul, Int.mul_add, Int.one_mul, Int.mul_one]; omega
theorem quo_bd {a b : Int} (h0 : -100000 ≤ a) (h1 : a ≤ 3600000000) (b0 : 1 ≤ b) (b1 : b ≤ 5000) : -4000000000 ≤ rnd a b * b ∧ rnd a b * b ≤ 4000000000 ∧ -4000000000 ≤ rnd a b ∧ rnd a b ≤ 4000000000 := by
  have h := rnd_near (a := a) (b := b) (by omega)
  obtain ⟨q, hq⟩ : ∃ q, rnd a b = q := ⟨_, rfl⟩
  rw [hq] at h ⊢
  have p0 : -4000000000 ≤ q * b ∧ q * b ≤ 4000000000 := by omega
  refine ⟨p0.1, p0.2, ?_, ?_⟩
  · rcases Int.lt_or_le q (-4000000000) with g | g
    · have h2 : (-q) * 1 ≤ (-q) * b := Int.mul_le_mul_of_nonneg_left b0 (by omega)
      rw [Int.neg_mul, Int.mul_one] at h2
      rw [Int.neg_mul] at h2
      omega
    · exact g
  · rcases Int.lt_or_le 4000000000 q with g | g
    · have h2 : q * 1 ≤ q * b := Int.mul_le_mul_of_nonneg_left b0 (by omega)
      rw [Int.mul_one] at h2
      omega
    · exact g

set_option maxRecDepth 100000 in
set_option maxHeartbeats 3200000 in
theorem walk (A : Option Addr) (n c : Nat) (B : Option Addr) (m d : Nat) (w : World) (tab : PowTab w) (er : ErrVars w) (mx : MaxL w) (hA : Bytes w w.heap.size A n) (hB : Bytes w w.heap.size B m) :
    Calls Tryd.prog 5 #[.slice A n c, .slice B m d] w fun r w' => r = .returned (.bool true) ∧ Below w.heap.size w w' := by
  have LO := long_any A B n c m d w
  obtain ⟨L, hL⟩ : ∃ L, (decide (1048576 < n) || decide (1048576 < m)) = L := ⟨_, rfl⟩
  rw [hL] at LO
  have LO := Lib.hid LO
  cases L with
  | true =>
    go_enter Tryd.func5, Tryd.ntmps5
    go_wp2_with fail
    refine LO.out.mono ?_
    rintro e w' ⟨rfl, rfl⟩
    go_wp2
    go_ret
    exact ⟨rfl, Below.refl _ _⟩
  | false =>
    rw [Bool.or_eq_false_iff] at hL
    have hn : n ≤ 1048576 := by have := of_decide_eq_false hL.1; omega
    have hm : m ≤ 1048576 := by have := of_decide_eq_false hL.2; omega
    have NUM := Lib.hid (numbers_any A n c w hA hn)
    have WD := Lib.hid (fun W (hW : Below w.heap.size w W) k l h0 h1 h2 h3 => r8Wide_any B m d w.heap.size k l W (hB.below hW) hm h0 h1 h2 h3)
    have TB := Lib.hid tab
    have ER := Lib.hid er
    have MX := Lib.hid mx
    clear hL hA hB hn hm tab er mx
    go_enter Tryd.func5, Tryd.ntmps5
    go_wp2_with fail
    refine LO.out.mono ?_
    rintro e w' ⟨rfl, rfl⟩
    go_wp2_with fail
    refine NUM.out.mono ?_
    rintro e w1 ⟨a, b, rfl, a0, a1, b0, b1, bw⟩
    have B1 := Lib.hid bw
    clear bw NUM
    go_wp2_with fail
    refine (RootOf_any a w1 (by omega)).mono ?_
    rintro e w1' ⟨r, rfl, hr, rfl⟩
    have HR := Lib.hid hr
    clear hr
    have DV := Lib.hid (DivRound_in a b w1 (by omega) (by omega) (by omega) (by omega))
    have DV2 := DivRound_in (-a) b w1 (by omega) (by omega) (by omega) (by omega)
    rw [rnd_opp (by omega)] at DV2
    have DV2 := Lib.hid DV2
    obtain ⟨p0, p1, q0, q1⟩ := quo_bd a0 a1 b0 b1
    have near := rnd_near (a := a) (b := b) (by omega)
    obtain ⟨q, hq⟩ : ∃ q, rnd a b = q := ⟨_, rfl⟩
    rw [hq] at DV DV2 p0 p1 q0 q1 near
    obtain ⟨p, hp⟩ : ∃ p, q * b = p := ⟨_, rfl⟩
    rw [hp] at p0 p1 near
    clear hq
    have eq1 : (-q != -q) = false := by simp
    have eq2 : (q != q) = false := by simp
    by_cases ha : a < 0
    case' pos =>
      have r0 : r = 0 := HR.out.1 ha
      subst r0
      go_wp2_with fail
    case' neg =>
      obtain ⟨r0, r1, r2, r3, r4⟩ := root_bd (by omega) a1 (HR.out.2 (by omega))
      obtain ⟨rr, hrr⟩ : ∃ rr, r * r = rr := ⟨_, rfl⟩
      obtain ⟨qq, hqq⟩ : ∃ qq, (r + 1) * (r + 1) = qq := ⟨_, rfl⟩
      rw [hrr] at r2 r4
      rw [hqq] at r3 r4
      go_wp2_with fail
    all_goals
      refine DV.out.mono ?_
      rintro e w2 ⟨rfl, rfl⟩
      clear HR
      try clear r0 r1 r2 r3 r4 hrr hqq
      go_wp2_with fail
      refine (r8Abs_any (a - p) w1 (by omega) (by omega)).mono ?_
      rintro e w2 ⟨v0, rfl, hv0, rfl⟩
      have hv1 : 2 * v0 ≤ b := by omega
      have hv2 : 0 ≤ v0 := by omega
      clear hv0
      go_wp2_with fail
      refine DV2.out.mono ?_
      rintro e w2 ⟨rfl, rfl⟩
      clear hp p0 p1 near DV DV2
      go_wp2_with fail
      refine (WD.out w1 B1.out 0 1000 (by omega) (by omega) (by omega) (by omega)).mono ?_
      rintro e w2 ⟨x, rfl, x0, x1, rfl⟩
      go_wp2_with fail
      refine (WD.out w1 B1.out 2 5000 (by omega) (by omega) (by omega) (by omega)).mono ?_
      rintro e w2 ⟨y', rfl, y0', y1', rfl⟩
      obtain ⟨y, hy⟩ : ∃ y, y' - 2500 = y := ⟨_, rfl⟩
      have y0 : -2500 ≤ y := by omega
      have y1 : y ≤ 2500 := by omega
      go_wp2_with fail
      refine (WD.out w1 B1.out 4 5000 (by omega) (by omega) (by omega) (by omega)).mono ?_
      rintro e w2 ⟨z', rfl, z0', z1', rfl⟩
      obtain ⟨z, hz⟩ : ∃ z, z' - 2500 = z := ⟨_, rfl⟩
      have z0 : -2500 ≤ z := by omega
      have z1 : z ≤ 2500 := by omega
      have BX := Lib.hid (Blend_in y z x w1 y0 y1 z0 z1)
      have B0 := Blend_in y z 0 w1 y0 y1 z0 z1
      have BE := Blend_in y z 1000 w1 y0 y1 z0 z1
      rw [line_zero] at B0
      rw [line_end] at BE
      have B0 := Lib.hid B0
      have BE := Lib.hid BE
      have lm := line_mid (y := y) (z := z) x0 x1
      obtain ⟨v, hv⟩ : ∃ v, lineI 0 y 1000 z x = v := ⟨_, rfl⟩
      rw [hv] at lm BX
      have ly : (y != y) = false := by simp
      have lz : (z != z) = false := by simp
      have l1 : ¬ v < min y z := by omega
      have l2 : ¬ max y z < v := by omega
      clear hv lm
      go_wp2_with fail
      refine BX.out.mono ?_
      rintro e w2 ⟨rfl, rfl⟩
      go_wp2_with fail
      refine B0.out.mono ?_
      rintro e w2 ⟨rfl, rfl⟩
      go_wp2_with fail
      refine BE.out.mono ?_
      rintro e w2 ⟨rfl, rfl⟩
      have l3 : min y z ≤ v ∧ v ≤ max y z := by omega
      clear BX B0 BE hy hz y0' y1' z0' z1'
      go_wp2_with fail
      obtain ⟨xs, hxs⟩ : ∃ xs : List Int, [a, b, x, y, z] = xs := ⟨_, rfl⟩
      have x5 : xs.length = 5 := by rw [← hxs]; rfl
      have hok : okL xs = true := by
        rw [← hxs]
        simp only [okL, List.all_cons, List.all_nil, okV, Bool.and_true, List.length_cons, List.length_nil]
        rw [inB_mk (by omega) (by omega), inB_mk (by omega) (by omega), inB_mk (by omega) (by omega), inB_mk (by omega) (by omega), inB_mk (by omega) (by omega)]
        rfl
      obtain ⟨hg, hys⟩ := list_back hok (by omega)
      have tl : (ltext xs).length ≤ 110 := by
        have hk := (okL_all hok).1
        have := jpre_len xs (fun x hx => by
          obtain ⟨i, hi', rfl⟩ := List.getElem_of_mem hx
          have := hk i hi'
          rw [List.getD_eq_getElem?_getD, List.getElem?_eq_getElem hi'] at this
          exact itoa_short this)
        rw [ltext, if_pos hok, ltxt, if_neg (by omega)]
        omega
      have RL : Reads (w1.alloc (.cells #[.int .i64 a, .int .i64 b, .int .i64 x, .int .i64 y, .int .i64 z] 2)) (w1.heap.size + 1) 1 (some ⟨w1.heap.size, 0, none⟩) 5 (iv xs) := by
        have h := World.ownsRow_lit (base := w1.heap.size) (e := 2) (size := 1) w1 #[.int .i64 a, .int .i64 b, .int .i64 x, .int .i64 y, .int .i64 z] 5 (Nat.le_refl _) (by simp [maxLen]) rfl
        have := Reads.of_own h
        rw [World.size_alloc] at this
        rw [← hxs]
        exact this
      have B2 := B1.out.alloc B1.out.size (.cells #[.int .i64 a, .int .i64 b, .int .i64 x, .int .i64 y, .int .i64 z] 2)
      have S2 : (w1.alloc (.cells #[.int .i64 a, .int .i64 b, .int .i64 x, .int .i64 y, .int .i64 z] 2)).heap.size = w1.heap.size + 1 := by simp
      clear hxs
      revert RL B2 S2
      generalize (w1.alloc (.cells #[.int .i64 a, .int .i64 b, .int .i64 x, .int .i64 y, .int .i64 z] 2)) = w2
      intro RL B2 S2
      have RL := Lib.hid RL
      have B2 := Lib.hid B2
      have TT := Lib.hid (implList_any (some ⟨w1.heap.size, 0, none⟩) 5 5 (w1.heap.size + 1) xs w2 RL.out (by omega) (by omega) (tab_below TB.out B2.out))
      refine TT.out.mono ?_
      rintro e w3 ⟨rfl, b3⟩
      have R3 := Lib.hid (RL.out.below (b3.mono (by omega)))
      have B3 := Lib.hid (B2.out.trans (b3.mono B2.out.size))
      have S3 := Lib.hid (show w1.heap.size + 1 ≤ w3.heap.size by have := b3.size; omega)
      clear b3 TT RL
      go_wp2_with fail
      refine (implRlist_any ⟨(ltext xs).toArray⟩ w3 (by show (ltext xs).length ≤ _; omega) (tab_below TB.out B3.out) (err_below ER.out B3.out) (maxl_below MX.out B3.out)).mono ?_
      intro e w4 hp4
      obtain ⟨A4, c4, rfl, o4, b4⟩ := read_uni hp4
      have eL : (ys (⟨(ltext xs).toArray⟩ : ByteArray).data.toList) = xs := hys
      have eG : goodL (⟨(ltext xs).toArray⟩ : ByteArray).data.toList = true := hg
      rw [eL, x5] at o4
      rw [eL, eG, x5]
      have R4 := Lib.hid (R3.out.below (b4.mono S3.out))
      have O4 := Lib.hid (Reads.of_own o4)
      have B4 := Lib.hid (B3.out.trans (b4.mono B3.out.size))
      have S4 := Lib.hid (Nat.le_trans S3.out b4.size)
      clear o4 b4 hp4 R3
      have ID := Lib.hid (implDec_any a w4 (by omega) (tab_below TB.out B4.out))
      go_wp2_with fail
      refine ID.out.mono ?_
      rintro e w5 ⟨rfl, b5⟩
      have R5 := Lib.hid (R4.out.below (b5.mono S4.out))
      have O5 := Lib.hid (O4.out.below b5)
      have B5 := Lib.hid (B4.out.trans (b5.mono B4.out.size))
      have S5 := Lib.hid (Nat.le_trans S4.out b5.size)
      have T5 := Lib.hid b5.size
      clear b5
      have RD := implRead_any ⟨(Lib.itoa a).toArray⟩ w5 (by have := Lib.itoa_length_le a (by omega) (by omega); show (Lib.itoa a).length ≤ _; omega) (tab_below TB.out B5.out) (err_below ER.out B5.out)
      obtain ⟨e1, e2⟩ := itoa_num (v := a) (by omega) (by omega)
      have e1' : (numR (⟨(Lib.itoa a).toArray⟩ : ByteArray).data.toList).1 = a := e1
      have e2' : (numR (⟨(Lib.itoa a).toArray⟩ : ByteArray).data.toList).2 = true := e2
      rw [e1', e2'] at RD
      have RD := Lib.hid RD
      clear e1 e2 e1' e2'
      go_wp2_with fail
      refine RD.out.mono ?_
      rintro e w6 ⟨rfl, b6⟩
      have R6 := Lib.hid (R5.out.below (b6.mono S5.out))
      have O6 := Lib.hid (O5.out.below (b6.mono T5.out))
      have B6 := Lib.hid (B5.out.trans (b6.mono B5.out.size))
      have S6 := Lib.hid (Nat.le_trans S5.out b6.size)
      have T6 := Lib.hid (Nat.le_trans T5.out b6.size)
      clear b6 RD
      have SM := Lib.hid (r8Same_any A4 (some ⟨w1.heap.size, 0, none⟩) 5 c4 5 xs _ _ w6 O6.out R6.out T6.out S6.out (by unfold maxLen; omega))
      have ea : (a == a) = true := by simp
      go_wp2_with fail
      refine SM.out.mono ?_
      rintro e w7 ⟨rfl, b7⟩
      have B7 := Lib.hid (B6.out.trans (b7.mono B6.out.size))
      clear b7
      go_wp2
      go_ret
      exact ⟨rfl, B7.out⟩

/-! ### The row's step -/
theorem own : ownKnob Tryd.prog.godebug = none := by kernel_rfl
theorem laidOut : laidOutB Tryd.prog = true := by kernel_rfl
theorem plainL : (Rows.fnBasicsRow.laid.all fun x => x.2.handleName?.isNone) = true := by kernel_rfl
set_option maxRecDepth 100000 in
theorem lifted (os : Os) (started : os.Started) (H : Type) (enc : TypeId × Value → H) :
    ReturnsInHanded {} Tryd.checked os 5 .any (fun w args => (Rows.fnBasicsSpec.pre enc Tryd.prog Tryd.f5 Rows.fnBasicsRow.domain false w args ∧ laidMetH Tryd.prog Rows.fnBasicsRow.laid w) ∧ sizedMet enc Tryd.prog Tryd.f5 (OpenSpec.ofChange Rows.fnBasicsSpec) false w args) (Rows.fnBasicsSpec.post enc Tryd.prog Tryd.f5 false true false false) := by
  refine wrapAndShaped (C := Tryd.checked) (X := (fun w _ => laidMetH Tryd.prog Rows.fnBasicsRow.laid w)) (fun _ _ _ hh h => h.of_heap hh) own started (by kernel_rfl) Tryd.func5
    (ChangeSpec.witness_shaped (enc := enc) (C := Tryd.checked) (os := os) (X := (fun w _ => laidMetH Tryd.prog Rows.fnBasicsRow.laid w)) false (World.laidAll Tryd.prog os Rows.fnBasicsRow.laid) #[.slice none 0 0, .slice none 0 0] 8 (World.laidAll_os _ _ _) (World.shaped_of_ZipB (by kernel_rfl) (by kernel_rfl)) (by kernel_rfl) (by kernel_rfl) (by kernel_rfl) (by rw [MakeChecks.laidMetH_plain _ _ _ plainL]; exact laidMet_laidAll _ (by kernel_rfl) (by kernel_rfl))) ?_
  intro W base args ds gs before hval0 hW hcnd hL hsh
  have hval : ∀ (j : Nat) t v, Tryd.f5.params[j]? = some t → args[j]? = some v → Value.okWide Tryd.prog W .any base t v := hval0
  have hW' := hW
  obtain ⟨p, q, hA0, hV, rfl, hfz, hnd⟩ := hW
  have hA : DataW.TrodAll enc Tryd.prog W 0 (fun _ => true) true Tryd.f5.params.toList args.toList ds p := hA0
  rw [Tryd.params5] at hA hval
  obtain ⟨v0, vs0, d0, ds0, p0, q0, hargs, rfl, rfl, h0, r0⟩ := trodAll_cons hA
  obtain ⟨v1, vs1, d1, ds1, p1, q1, rfl, rfl, rfl, h1, r1⟩ := trodAll_cons r0
  obtain ⟨rfl, rfl, rfl⟩ := trodAll_nil r1
  obtain rfl : args = #[v0, v1] := by cases args; simp_all
  obtain ⟨rfl, rfl⟩ := trodVars_none hV
  have k0 := h0
  have lt0 : ∀ x ∈ p0, x.block < W.heap.size := by obtain ⟨m, hm⟩ := k0; exact DataW.trod_lt m _ _ _ hm
  obtain ⟨a0, len0, cap0, rfl⟩ := okWide_slice Tryd.underlying32 (hval 0 32 v0 rfl rfl)
  have w0 : Bytes W W.heap.size a0 len0 := open_bytesR Tryd.underlying32 Tryd.underlying5 (by kernel_rfl) h0
  have k1 := h1
  have lt1 : ∀ x ∈ p1, x.block < W.heap.size := by obtain ⟨m, hm⟩ := k1; exact DataW.trod_lt m _ _ _ hm
  obtain ⟨a1, len1, cap1, rfl⟩ := okWide_slice Tryd.underlying32 (hval 1 32 v1 rfl rfl)
  have w1 : Bytes W W.heap.size a1 len1 := open_bytesR Tryd.underlying32 Tryd.underlying5 (by kernel_rfl) h1
  clear hA0 hval0
  refine (walk a0 len0 cap0 a1 len1 cap1 W (pow_of_laid plainL hL (by simp [Rows.fnBasicsRow])) (err_of_laid plainL hL (by simp [Rows.fnBasicsRow]) (by simp [Rows.fnBasicsRow])) (Tryd.laysM146.s1_3 W hsh) w0 w1).mono fun e W' ⟨he, bel⟩ => ?_
  subst he
  exact ⟨_, rfl, _, _, _, [], _, [], hW', trodAll_mk1 (shut_bool Tryd.underlying4 _), (trodAll_cons_mk (Below.trod laidOut (by kernel_rfl) (of_decide_eq_true (by kernel_rfl)) k0 bel lt0) (trodAll_cons_mk (Below.trod laidOut (by kernel_rfl) (of_decide_eq_true (by kernel_rfl)) k1 bel lt1) trodAll_mk0)), rfl, bel.frame _, fun h => by cases h⟩

theorem over : Rows.fnBasicsRow.holds Tryd.pinned (OpenSpec.ofChange Rows.fnBasicsSpec) :=
  OpenClaim.holds_of_wide 5 Tryd.f5 rfl rfl rfl rfl rfl rfl rfl ⟨rfl, rfl, rfl, rfl, rfl⟩ rfl rfl rfl rfl rfl (by kernel_rfl) Tryd.func5 (by kernel_rfl)
    (of_decide_eq_true (by kernel_rfl)) (by unfold Func.isWrapper; first | (rw [if_pos (by decide +kernel)]; kernel_rfl) | (rw [if_neg (by decide +kernel)]; exact ⟨rfl, rfl⟩))
    (fun os started H enc _ => lifted os started H enc)

/-- The given statement: the tied card. -/
theorem proved : Rows.FnBasicsCardSaid :=
  Claim7.holds_tied_plain_at .later [] [.data, .data, .data, .data, .sentinel, .sentinel, .pinned] true (true, "a03b88b25909e291fa260ec79af525e6b3f91936ee4a590c2f74c55140c73597") true
    over (fun _ h => by cases h) (by kernel_rfl) (fun _ h => by cases h) fnBasics_row_tie rfl ⟨rfl, rfl⟩ (by kernel_rfl) rfl
    (fun f fn hf hfn => by
      obtain rfl : f = 5 := Option.some.inj (hf.symm.trans (show Tryd.prog.funcNamed "loop.example/g01061/laws.FnBasics" = some 5 by kernel_rfl))
      obtain rfl : fn = Tryd.f5 := (Option.some.inj (Tryd.func5.symm.trans hfn)).symm
      exact ⟨by kernel_rfl, fun j t ht => by
        rw [Tryd.params5] at ht
        have hm : t ∈ [32, 32] := by simpa using Array.mem_of_getElem? ht
        have hall : ([32, 32].all fun u => !Tryd.prog.wantsStandIn u) = true := by kernel_rfl
        exact (show Tryd.prog.wantsStandIn t = false by simpa using List.all_eq_true.1 hall t hm)⟩)
    (by kernel_rfl)
#print axioms proved

end Go.Proofs.YtcmnmmgmhnhkhaaDoor.fnBasics
