/- For all lists of numbers, the program's ListText writes what the reference's writes, and leaves the list as it is; lists longer than 2^20 the law lets pass. Conditions: none. -/
import Derived.Test.YtglhlbibaghpjaaDoorLtextB
import Derived.Test.YtglhlbibaghpjaaDoorIntsC
import Derived.Test.YtglhlbibaghpjaaDoorOints
import Derived.ProofKit
import Derived.OpenShut
import Derived.ShutString
import Derived.ChangeOld
import Derived.Below
import Derived.Lib.LaidU8
import Derived.LaidMore
import Derived.Stop.Joined
import Derived.SevenTiedAt
import Derived.Test.YtglhlbibaghpjaaDoorTie
import Derived.Test.YtglhlbibaghpjaaDoorCards
namespace Go.Proofs.YtglhlbibaghpjaaDoor.fnExactListText
open Go.ChangeShapes Go.WideShapes Go.ChangeAt Go.RowKit
open Go.ChangeMaps (open_string shut_string)
set_option linter.unusedVariables false
open Go.Sort

theorem same_self (l : List Int) : sameL l l = true := by simp [sameL]
set_option maxHeartbeats 800000 in
theorem walk (A : Option Addr) (n c : Nat) (xs : List Int) (w : World) (tab : PowTab w) (w0 : Reads w w.heap.size 1 A n (iv xs) ∧ n ≤ 9223372036854775807) :
    Calls Tryd.prog 5 #[.slice A n c] w fun r w' => r = .returned (.bool true) ∧ Below w.heap.size w w' := by
  have HX := Lib.hid w0.1
  have TB := Lib.hid tab
  have hn := w0.2
  clear w0 tab
  by_cases h20 : 1048576 < n
  · go_enter Tryd.func5, Tryd.ntmps5
    go_wp2
    go_ret
    exact ⟨rfl, Below.refl _ _⟩
  have h20' : n ≤ 1048576 := by omega
  have HN := Lib.hid h20'
  have CP := Lib.hid (fun W (hB : Below w.heap.size w W) => toInt64S_any A n c w.heap.size xs W (HX.out.below hB) hB.size HN.out)
  clear h20 hn
  go_enter Tryd.func5, Tryd.ntmps5
  go_wp2_with fail
  refine (CP.out w (Below.refl _ _)).mono ?_
  rintro e w1 ⟨rfl, o1, b1⟩
  have O1 := Lib.hid o1
  have B1 := Lib.hid b1
  clear o1 b1
  go_wp2_with fail
  refine (specList_any _ n n _ xs w1 (Reads.of_own O1.out) (Nat.le_refl _) HN.out).mono ?_
  rintro e w2 ⟨rfl, b2⟩
  have B2 := Lib.hid (B1.out.trans (b2.mono B1.out.size))
  clear b2
  go_wp2_with fail
  refine (CP.out w2 B2.out).mono ?_
  rintro e w3 ⟨rfl, o3, b3⟩
  have O3 := Lib.hid o3
  have B3 := Lib.hid (B2.out.trans (b3.mono B2.out.size))
  clear o3 b3
  go_wp2_with fail
  refine (implList_any _ n n _ xs w3 (Reads.of_own O3.out) (Nat.le_refl _) HN.out (tab_below TB.out B3.out)).mono ?_
  rintro e w4 ⟨rfl, b4⟩
  have O4 := Lib.hid (Reads.of_own (own_below O3.out b4))
  have B4 := Lib.hid (B3.out.trans (b4.mono B3.out.size))
  clear b4
  go_wp2_with fail
  refine (CP.out w4 B4.out).mono ?_
  rintro e w5 ⟨rfl, o5, b5⟩
  have E := Lib.hid (eqInt64S_any _ _ n n n n xs xs _ _ w5 (O4.out.below b5) (Reads.of_own o5) b5.size (Nat.le_refl _) (by have := HN.out; unfold maxLen; omega) (by have := HN.out; unfold maxLen; omega))
  have B5 := Lib.hid (B4.out.trans (b5.mono B4.out.size))
  clear o5 b5
  go_wp2_with fail
  refine E.out.mono ?_
  rintro e w6 ⟨rfl, b6⟩
  rw [same_self]
  have B6 := Lib.hid (B5.out.trans (b6.mono B5.out.size))
  clear b6
  go_wp2
  go_ret
  exact ⟨rfl, B6.out⟩


/-! ### The row's step -/
theorem own : ownKnob Tryd.prog.godebug = none := by kernel_rfl
theorem laidOut : laidOutB Tryd.prog = true := by kernel_rfl
theorem plainL : (Rows.fnExactListTextRow.laid.all fun x => x.2.handleName?.isNone) = true := by kernel_rfl
theorem door_met (os : Os) (args : Array Value) : laidMetH Tryd.prog Rows.fnExactListTextRow.laid ((World.doorLaid Tryd.prog 72 os).forCall (fun _ _ => 0) ⟨#[], args, []⟩).memory :=
  laidMetH_of_parts3 (fuel := 8) (laidMet_of_run' 8 (by kernel_rfl) (by kernel_rfl)) (by kernel_rfl) (by kernel_rfl)
set_option maxRecDepth 100000 in
theorem lifted (os : Os) (started : os.Started) (H : Type) (enc : TypeId × Value → H) :
    ReturnsInHanded {} Tryd.checked os 5 .any (fun w args => (Rows.fnExactListTextSpec.pre enc Tryd.prog Tryd.f5 Rows.fnExactListTextRow.domain false w args ∧ laidMetH Tryd.prog Rows.fnExactListTextRow.laid w) ∧ sizedMet enc Tryd.prog Tryd.f5 (OpenSpec.ofChange Rows.fnExactListTextSpec) false w args) (Rows.fnExactListTextSpec.post enc Tryd.prog Tryd.f5 false true false false) := by
  refine returnsInHanded_of_change_and (C := Tryd.checked) (X := (fun w _ => laidMetH Tryd.prog Rows.fnExactListTextRow.laid w)) (fun _ _ _ hh h => h.of_heap hh) own started (by kernel_rfl) Tryd.func5
    (ChangeSpec.witness_shaped (enc := enc) (C := Tryd.checked) (os := os) (X := (fun w _ => laidMetH Tryd.prog Rows.fnExactListTextRow.laid w)) false (World.doorLaid Tryd.prog 72 os) #[.slice none 0 0] 8 rfl (World.shaped_of_RefB (by kernel_rfl) (by kernel_rfl)) (by kernel_rfl) (by kernel_rfl) (by kernel_rfl) (door_met os _)) ?_
  intro W base args ds gs before hval0 hW hcnd _ hL _
  have hval : ∀ (j : Nat) t v, Tryd.f5.params[j]? = some t → args[j]? = some v → Value.okWide Tryd.prog W .any base t v := hval0
  have hW' := hW
  obtain ⟨p, q, hA0, hV, rfl, hfz, hnd⟩ := hW
  have hA : DataW.TrodAll enc Tryd.prog W 0 (fun _ => true) true Tryd.f5.params.toList args.toList ds p := hA0
  rw [Tryd.params5] at hA hval
  obtain ⟨v0, vs0, d0, ds0, p0, q0, hargs, rfl, rfl, h0, r0⟩ := trodAll_cons hA
  obtain ⟨rfl, rfl, rfl⟩ := trodAll_nil r0
  obtain rfl : args = #[v0] := by cases args; simp_all
  obtain ⟨rfl, rfl⟩ := trodVars_none hV
  have k0 := h0
  have lt0 : ∀ x ∈ p0, x.block < W.heap.size := by obtain ⟨m, hm⟩ := k0; exact DataW.trod_lt m _ _ _ hm
  obtain ⟨a0, len0, cap0, rfl⟩ := okWide_slice Tryd.underlying29 (hval 0 29 v0 rfl rfl)
  obtain ⟨z0, w0⟩ : ∃ Z, Reads W W.heap.size 1 a0 len0 (iv Z) ∧ len0 ≤ 9223372036854775807 := open_intsR Tryd.underlying29 Tryd.underlying2 (by kernel_rfl) h0
  clear hA0 hval0
  refine (walk a0 len0 cap0 z0 W (pow_of_laid plainL hL (by simp [Rows.fnExactListTextRow])) w0).mono fun e W' ⟨he, bel⟩ => ?_
  subst he
  exact ⟨_, rfl, _, _, _, [], _, [], hW', trodAll_mk1 (shut_bool Tryd.underlying4 _), (trodAll_cons_mk (Below.trod laidOut (by kernel_rfl) (of_decide_eq_true (by kernel_rfl)) k0 bel lt0) trodAll_mk0), rfl, bel.frame _, fun h => by cases h⟩

theorem over : Rows.fnExactListTextRow.holds Tryd.pinned (OpenSpec.ofChange Rows.fnExactListTextSpec) :=
  OpenClaim.holds_of_wide 5 Tryd.f5 rfl rfl rfl rfl rfl rfl rfl ⟨rfl, rfl, rfl, rfl, rfl⟩ rfl rfl rfl rfl rfl (by kernel_rfl) Tryd.func5 (by kernel_rfl)
    (of_decide_eq_true (by kernel_rfl)) (by unfold Func.isWrapper; first | (rw [if_pos (by decide +kernel)]; kernel_rfl) | (rw [if_neg (by decide +kernel)]; exact ⟨rfl, rfl⟩))
    (fun os started H enc _ => lifted os started H enc)

/-- The given statement: the tied card. -/
theorem proved : Rows.FnExactListTextCardSaid :=
  Claim7.holds_tied_plain_at .later [] [.data, .data, .data] true (true, "8610680bd0cff2fba2c6926cf0c8391ce34876188d42b0fc78057b4e81bcd11f") true
    over (fun _ h => by cases h) (by kernel_rfl) (fun _ h => by cases h) fnExactListText_row_tie rfl ⟨rfl, rfl⟩ (by kernel_rfl) rfl
    (fun f fn hf hfn => by
      obtain rfl : f = 5 := Option.some.inj (hf.symm.trans (show Tryd.prog.funcNamed "loop.example/g01061/laws.FnExactListText" = some 5 by kernel_rfl))
      obtain rfl : fn = Tryd.f5 := (Option.some.inj (Tryd.func5.symm.trans hfn)).symm
      exact ⟨by kernel_rfl, fun j t ht => by
        rw [Tryd.params5] at ht
        have hm : t ∈ [29] := by simpa using Array.mem_of_getElem? ht
        have hall : ([29].all fun u => !Tryd.prog.wantsStandIn u) = true := by kernel_rfl
        exact (show Tryd.prog.wantsStandIn t = false by simpa using List.all_eq_true.1 hall t hm)⟩)
    (by kernel_rfl)
#print axioms proved

end Go.Proofs.YtglhlbibaghpjaaDoor.fnExactListText
