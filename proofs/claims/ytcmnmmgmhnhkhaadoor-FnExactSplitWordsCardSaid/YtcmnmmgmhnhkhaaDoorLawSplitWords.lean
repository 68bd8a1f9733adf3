/- For all texts, the program's SplitWords gives the parts that the reference's gives, in memory of its own; texts longer than 2^20 the law lets pass. Conditions: none. -/
import Derived.Test.YtcmnmmgmhnhkhaaDoorSplW
import Derived.Test.YtcmnmmgmhnhkhaaDoorWrap
import Derived.ProofKit
import Derived.OpenShut
import Derived.ShutString
import Derived.ChangeOld
import Derived.Below
import Derived.Lib.LaidU8
import Derived.LaidMore
import Derived.Lay
import Derived.Stop.Joined
import Derived.SevenTiedAt
import Derived.Test.YtcmnmmgmhnhkhaaDoorTie
import Derived.Test.YtcmnmmgmhnhkhaaDoorCards
namespace Go.Proofs.YtcmnmmgmhnhkhaaDoor.fnExactSplitWords
open Go.ChangeShapes Go.WideShapes Go.ChangeAt Go.RowKit
open Go.ChangeMaps (open_string shut_string)
set_option linter.unusedVariables false
open Go.Sort

theorem markOwnS_any (A : Option Addr) (c n base : Nat) (xs : List Value) (k : Nat) (w : World) (hown : w.ownsRow base 9 1 (.slice A n c) n xs) (hb : base ≤ w.heap.size) (k0 : 0 < k) (k1 : k + n ≤ 1152921504606846976) :
    Calls Tryd.prog 9 #[.slice A n c, .int .i64 (k : Int)] w fun e w' => e = .returned (.int .i64 ((k : Int) + n)) ∧ w'.ownsRow base 9 1 (.slice A n c) n (tv (mkS k n)) ∧ Below base w w' := by
  rcases hown.2 with ⟨h0, rfl⟩ | ⟨g, cap, cur, hv, hbg, _⟩
  · obtain ⟨rfl, rfl⟩ : A = none ∧ c = 0 := by simpa using h0
    refine (markSNil_any k w).mono ?_
    rintro e w' ⟨rfl, rfl⟩
    exact ⟨by simp, ⟨rfl, .inl ⟨rfl, rfl⟩⟩, Below.refl _ _⟩
  · obtain ⟨rfl, rfl⟩ : A = some ⟨g, 0, none⟩ ∧ c = cap := by simpa using hv
    exact markStringS_any g n c base xs k w hown hb k0 k1

set_option maxRecDepth 100000 in
set_option maxHeartbeats 1600000 in
theorem walk (s : ByteArray) (w : World) (mx : MaxL w) (w0 : s.size ≤ maxLen) :
    Calls Tryd.prog 3 #[.string s] w fun r w' => r = .returned (.bool true) ∧ Below w.heap.size w w' := by
  by_cases h20 : 1048576 < s.size
  · have q : (1048576 : Int) < (s.size : Int) := by omega
    go_enter Tryd.func3, Tryd.ntmps3
    go_wp2
    go_ret
    exact ⟨rfl, Below.refl _ _⟩
  have q : ¬ (1048576 : Int) < (s.size : Int) := by omega
  have F := (specSplitW_any s w (by omega))
  have G := (fun W (hB : Below w.heap.size w W) => implSplitW_any s W (by omega) (maxl_below mx hB))
  have PL := keep_len (spl 32 s.data.toList)
  have PL2 := spl_len 32 s.data.toList
  rw [len_data] at PL2
  obtain ⟨L, hL⟩ : ∃ L, keepL (spl 32 s.data.toList) = L := ⟨_, rfl⟩
  rw [hL] at F G PL
  obtain ⟨n, hn⟩ : ∃ n, L.length = n := ⟨_, rfl⟩
  rw [hn] at F G PL
  have n20 : n ≤ 1048577 := by omega
  have nm := Lib.hid (show n ≤ maxLen by unfold maxLen; omega)
  have F := Lib.hid F
  have G := Lib.hid G
  clear hL hn PL PL2 mx
  go_enter Tryd.func3, Tryd.ntmps3
  go_wp2_with fail
  refine F.out.mono ?_
  rintro e w1 ⟨v1, rfl, o1, b1⟩
  obtain ⟨A1, c1, rfl⟩ := own_form o1
  have R1 := Lib.hid (Reads.of_own o1)
  have B1 := Lib.hid b1
  clear o1 b1
  go_wp2_with fail
  refine (G.out _ B1.out).mono ?_
  rintro e w2 ⟨v2, rfl, o2, b2⟩
  obtain ⟨A2, c2, rfl⟩ := own_form o2
  have R2 := Lib.hid (R1.out.below b2)
  have O2 := Lib.hid o2
  have B2 := Lib.hid (B1.out.trans (b2.mono B1.out.size))
  have S2 := Lib.hid b2.size
  clear o2 b2 R1
  go_wp2_with fail
  refine (eqStringS_same _ _ n _ _ L _ _ _ (Reads.of_own O2.out) R2.out (Nat.le_refl _) S2.out nm.out).mono ?_
  rintro e w3 ⟨rfl, b3⟩
  have R3 := Lib.hid (R2.out.below (b3.mono S2.out))
  have O3 := Lib.hid (own_below O2.out b3)
  have B3 := Lib.hid (B2.out.trans (b3.mono B2.out.size))
  have S3 := Lib.hid (Nat.le_trans S2.out b3.size)
  clear b3
  have MK := Lib.hid (markOwnS_any _ _ _ _ _ 1 _ O3.out S3.out (by omega) (by omega))
  go_wp2_with fail
  refine MK.out.mono ?_
  rintro e w4 ⟨rfl, o4, b4⟩
  have R4 := Lib.hid (R3.out.below b4)
  have B4 := Lib.hid (B3.out.trans (b4.mono B1.out.size))
  have S4 := Lib.hid (Nat.le_trans S3.out b4.size)
  have M4 := Lib.hid (Reads.of_own o4)
  clear o4 b4 MK
  have z1 : (0 : Int) ≤ 1 + (n : Int) := by omega
  have HE := Lib.hid (heldStringS_any _ _ c2 _ 1 _ M4.out (Nat.le_refl _) nm.out (by omega) (by omega))
  go_wp2_with fail
  refine HE.out.mono ?_
  rintro e w5 ⟨rfl, b5⟩
  have R5 := Lib.hid (R4.out.below (b5.mono S4.out))
  have M5 := Lib.hid (M4.out.below b5)
  have B5 := Lib.hid (B4.out.trans (b5.mono B4.out.size))
  have S5 := Lib.hid (Nat.le_trans S4.out b5.size)
  have T5 := Lib.hid b5.size
  clear b5 HE
  go_wp2_with fail
  refine (G.out _ B5.out).mono ?_
  rintro e w6 ⟨v6, rfl, o6, b6⟩
  obtain ⟨A6, c6, rfl⟩ := own_form o6
  have R6 := Lib.hid (R5.out.below (b6.mono S5.out))
  have M6 := Lib.hid (M5.out.below (b6.mono T5.out))
  have O6 := Lib.hid (Reads.of_own o6)
  have S6 := Lib.hid (Nat.le_trans S5.out b6.size)
  have T6 := Lib.hid (Nat.le_trans T5.out b6.size)
  have B6 := Lib.hid (B5.out.trans (b6.mono B5.out.size))
  clear o6 b6
  go_wp2_with fail
  refine (eqStringS_same _ _ n _ _ L _ _ _ O6.out R6.out (Nat.le_refl _) S6.out nm.out).mono ?_
  rintro e w7 ⟨rfl, b7⟩
  have M7 := Lib.hid (M6.out.below (b7.mono T6.out))
  have T7 := Lib.hid (Nat.le_trans T6.out b7.size)
  have B7 := Lib.hid (B6.out.trans (b7.mono B6.out.size))
  clear b7
  have HE := Lib.hid (heldStringS_any _ _ c2 _ 1 _ M7.out T7.out nm.out (by omega) (by omega))
  go_wp2_with fail
  refine HE.out.mono ?_
  rintro e w8 ⟨rfl, b8⟩
  have B8 := Lib.hid (B7.out.trans (b8.mono B7.out.size))
  clear b8
  go_wp2
  go_ret
  exact ⟨rfl, B8.out⟩

/-! ### The row's step -/
theorem own : ownKnob Tryd.prog.godebug = none := by kernel_rfl
theorem laidOut : laidOutB Tryd.prog = true := by kernel_rfl
theorem plainL : (Rows.fnExactSplitWordsRow.laid.all fun x => x.2.handleName?.isNone) = true := by kernel_rfl
set_option maxRecDepth 100000 in
theorem lifted (os : Os) (started : os.Started) (H : Type) (enc : TypeId × Value → H) :
    ReturnsInHanded {} Tryd.checked os 3 .any (fun w args => (Rows.fnExactSplitWordsSpec.pre enc Tryd.prog Tryd.f3 Rows.fnExactSplitWordsRow.domain false w args ∧ laidMetH Tryd.prog Rows.fnExactSplitWordsRow.laid w) ∧ sizedMet enc Tryd.prog Tryd.f3 (OpenSpec.ofChange Rows.fnExactSplitWordsSpec) false w args) (Rows.fnExactSplitWordsSpec.post enc Tryd.prog Tryd.f3 false true false false) := by
  refine wrapAndShaped (C := Tryd.checked) (X := (fun w _ => laidMetH Tryd.prog Rows.fnExactSplitWordsRow.laid w)) (fun _ _ _ hh h => h.of_heap hh) own started (by kernel_rfl) Tryd.func3
    (ChangeSpec.witness_shaped (enc := enc) (C := Tryd.checked) (os := os) (X := (fun w _ => laidMetH Tryd.prog Rows.fnExactSplitWordsRow.laid w)) false (World.laidAll Tryd.prog os Rows.fnExactSplitWordsRow.laid) #[.string ByteArray.empty] 8 (World.laidAll_os _ _ _) (World.shaped_of_ZipB (by kernel_rfl) (by kernel_rfl)) (by kernel_rfl) (by kernel_rfl) (by kernel_rfl) (by rw [MakeChecks.laidMetH_plain _ _ _ plainL]; exact laidMet_laidAll _ (by kernel_rfl) (by kernel_rfl))) ?_
  intro W base args ds gs before hval0 hW hcnd hL hsh
  have hval : ∀ (j : Nat) t v, Tryd.f3.params[j]? = some t → args[j]? = some v → Value.okWide Tryd.prog W .any base t v := hval0
  have hW' := hW
  obtain ⟨p, q, hA0, hV, rfl, hfz, hnd⟩ := hW
  have hA : DataW.TrodAll enc Tryd.prog W 0 (fun _ => true) true Tryd.f3.params.toList args.toList ds p := hA0
  rw [Tryd.params3] at hA hval
  obtain ⟨v0, vs0, d0, ds0, p0, q0, hargs, rfl, rfl, h0, r0⟩ := trodAll_cons hA
  obtain ⟨rfl, rfl, rfl⟩ := trodAll_nil r0
  obtain rfl : args = #[v0] := by cases args; simp_all
  obtain ⟨rfl, rfl⟩ := trodVars_none hV
  have k0 := h0
  have lt0 : ∀ x ∈ p0, x.block < W.heap.size := by obtain ⟨m, hm⟩ := k0; exact DataW.trod_lt m _ _ _ hm
  obtain ⟨a0, rfl, rfl, rfl, w0⟩ := open_string Tryd.underlying9 (hval 0 9 v0 rfl rfl) h0
  clear hA0 hval0
  refine (walk a0 W (Tryd.laysM146.s1_3 W hsh) w0).mono fun e W' ⟨he, bel⟩ => ?_
  subst he
  exact ⟨_, rfl, _, _, _, [], _, [], hW', trodAll_mk1 (shut_bool Tryd.underlying4 _), (trodAll_cons_mk (Below.trod laidOut (by kernel_rfl) (of_decide_eq_true (by kernel_rfl)) k0 bel lt0) trodAll_mk0), rfl, bel.frame _, fun h => by cases h⟩

theorem over : Rows.fnExactSplitWordsRow.holds Tryd.pinned (OpenSpec.ofChange Rows.fnExactSplitWordsSpec) :=
  OpenClaim.holds_of_wide 3 Tryd.f3 rfl rfl rfl rfl rfl rfl rfl ⟨rfl, rfl, rfl, rfl, rfl⟩ rfl rfl rfl rfl rfl (by kernel_rfl) Tryd.func3 (by kernel_rfl)
    (of_decide_eq_true (by kernel_rfl)) (by unfold Func.isWrapper; first | (rw [if_pos (by decide +kernel)]; kernel_rfl) | (rw [if_neg (by decide +kernel)]; exact ⟨rfl, rfl⟩))
    (fun os started H enc _ => lifted os started H enc)

/-- The given statement: the tied card. -/
theorem proved : Rows.FnExactSplitWordsCardSaid :=
  Claim7.holds_tied_plain_at .later [] [.data, .pinned] true (true, "a03b88b25909e291fa260ec79af525e6b3f91936ee4a590c2f74c55140c73597") true
    over (fun _ h => by cases h) (by kernel_rfl) (fun _ h => by cases h) fnExactSplitWords_row_tie rfl ⟨rfl, rfl⟩ (by kernel_rfl) rfl
    (fun f fn hf hfn => by
      obtain rfl : f = 3 := Option.some.inj (hf.symm.trans (show Tryd.prog.funcNamed "loop.example/g01061/laws.FnExactSplitWords" = some 3 by kernel_rfl))
      obtain rfl : fn = Tryd.f3 := (Option.some.inj (Tryd.func3.symm.trans hfn)).symm
      exact ⟨by kernel_rfl, fun j t ht => by
        rw [Tryd.params3] at ht
        have hm : t ∈ [9] := by simpa using Array.mem_of_getElem? ht
        have hall : ([9].all fun u => !Tryd.prog.wantsStandIn u) = true := by kernel_rfl
        exact (show Tryd.prog.wantsStandIn t = false by simpa using List.all_eq_true.1 hall t hm)⟩)
    (by kernel_rfl)
#print axioms proved

end Go.Proofs.YtcmnmmgmhnhkhaaDoor.fnExactSplitWords
