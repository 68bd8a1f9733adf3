/- For every grid, the program's FallsToEdge returns what the reference's returns; grids of more than 2^20 cells the law lets pass. Conditions: none. -/
import Derived.Test.YtfmbmgdemdbpaaaArchB
import Derived.Test.YtfmbmgdemdbpaaaFallS
import Derived.Deep.Matrix
import Derived.ProofKit
import Derived.OpenShut
import Derived.ShutString
import Derived.ChangeOld
import Derived.Below
namespace Go.Proofs.Ytfmbmgdemdbpaaa.fnExactFallsToEdge
open Go.ChangeShapes Go.WideShapes Go.ChangeAt Go.RowKit
open Go.ChangeMaps (open_string shut_string)
set_option linter.unusedVariables false
open Go.Sort


set_option maxHeartbeats 1600000 in
theorem walk (A : Option Addr) (n c : Nat) (Z : List (List Int)) (w : World) (w0 : Grid w w.heap.size A n Z ∧ n ≤ 9223372036854775807) :
    Calls Try.prog 3 #[.slice A n c] w fun r w' => r = .returned (.bool true) ∧ Below w.heap.size w w' := by
  obtain ⟨hg, hn⟩ := w0
  have K := Lib.hid (show KeepG w A n Z w from ⟨Below.refl _ _, hg⟩)
  have HL := Lib.hid hg.len
  clear hg
  go_enter Try.func3, Try.ntmps3
  go_wp2_with fail
  refine (szInt64SS_any A n c _ Z 1048576 _ K.out.grid hn (by omega) (by omega)).mono ?_
  rintro e w1 ⟨r, rfl, r1, hs, b1⟩
  have HS := Lib.hid hs
  have K := Lib.hid (K.out.step b1)
  clear hs b1
  by_cases hr : r < 0
  · go_wp2
    go_ret
    exact ⟨rfl, K.out.old⟩
  · have hr0 : 0 ≤ r := by omega
    have hn2 : n ≤ 1048576 := by have := (HS.out hr0).1; rw [HL.out] at this; omega
    have HM : Hid (∀ i, i < n → (rowZ Z i).length ≤ 1048576) := fun i hi => by have := (HS.out hr0).2 i (by rw [HL.out]; exact hi); omega
    go_wp2_with fail
    refine (toInt64SS_any A n c _ Z _ K.out.grid K.out.old.size hn2 HM.out).mono ?_
    rintro e w2 ⟨g2, z2, rfl, hz2, o2, b2⟩
    have X := Lib.hid (copy_grid o2 hz2 HL.out HM.out)
    have K := Lib.hid (K.out.step b2)
    clear o2 hz2 b2
    go_wp2_with fail
    refine (specFalls_any _ n n _ Z _ X.out (Nat.le_refl _) hn2).mono ?_
    rintro e w3 ⟨x0, rfl, hx0, b3⟩
    have HX := Lib.hid hx0
    have K := Lib.hid (K.out.step b3)
    clear b3 hx0
    go_wp2_with fail
    refine (toInt64SS_any A n c _ Z _ K.out.grid K.out.old.size hn2 HM.out).mono ?_
    rintro e w4 ⟨g4, z4, rfl, hz4, o4, b4⟩
    have X := Lib.hid (copy_grid o4 hz4 HL.out HM.out)
    have K := Lib.hid (K.out.step b4)
    clear o4 hz4 b4
    go_wp2_with fail
    refine (implFalls_any _ n n _ Z _ X.out (Nat.le_refl _) hn2).mono ?_
    rintro e w5 ⟨x1, rfl, hx1, b5⟩
    obtain rfl := falls_one hx1 HX.out
    have X := Lib.hid (X.out.below b5)
    have S := Lib.hid b5.size
    have K := Lib.hid (K.out.step b5)
    clear b5 hx1
    have bb : (x1 != x1) = false := by simp
    have bb2 : (x1 == x1) = true := by simp
    go_wp2_with fail
    refine (toInt64SS_any A n c _ Z _ K.out.grid K.out.old.size hn2 HM.out).mono ?_
    rintro e w6 ⟨g6, z6, rfl, hz6, o6, b6⟩
    have Y := Lib.hid (copy_grid o6 hz6 HL.out HM.out)
    have X := Lib.hid (X.out.below (b6.mono S.out))
    have S := Lib.hid (Nat.le_trans S.out b6.size)
    have K := Lib.hid (K.out.step b6)
    clear o6 hz6 b6
    go_wp2_with fail
    refine (eqInt64SS_any _ _ n n n _ _ Z _ X.out Y.out S.out (Nat.le_refl _) hn2).mono ?_
    rintro e w7 ⟨rfl, b7⟩
    have K := Lib.hid (K.out.step b7)
    clear b7
    go_wp2
    go_ret
    exact ⟨rfl, K.out.old⟩

/-! ### The row's step -/
theorem own : ownKnob Try.prog.godebug = none := by kernel_rfl
theorem laidOut : laidOutB Try.prog = true := by kernel_rfl
set_option maxRecDepth 100000 in
theorem lifted (os : Os) (started : os.Started) (H : Type) (enc : TypeId × Value → H) :
    ReturnsInHanded {} Try.checked os 3 .any (Rows.fnExactFallsToEdgeSpec.pre6 enc Try.prog Try.f3 Rows.fnExactFallsToEdgeRow.domain false) (Rows.fnExactFallsToEdgeSpec.post enc Try.prog Try.f3 false true false false) := by
  refine returnsInHanded_of_change (C := Try.checked) own started (by kernel_rfl) Try.func3
    (ChangeSpec.witness6 (enc := enc) (C := Try.checked) false ⟨#[], #[.slice none 0 0], []⟩ 8 (by kernel_rfl) (by kernel_rfl) (by kernel_rfl) (by kernel_rfl)) ?_
  intro W base args ds gs before hval0 hW hcnd _
  have hval : ∀ (j : Nat) t v, Try.f3.params[j]? = some t → args[j]? = some v → Value.okWide Try.prog W .any base t v := hval0
  have hW' := hW
  obtain ⟨p, q, hA0, hV, rfl, hfz, hnd⟩ := hW
  have hA : DataW.TrodAll enc Try.prog W 0 (fun _ => true) true Try.f3.params.toList args.toList ds p := hA0
  rw [Try.params3] at hA hval
  obtain ⟨v0, vs0, d0, ds0, p0, q0, hargs, rfl, rfl, h0, r0⟩ := trodAll_cons hA
  obtain ⟨rfl, rfl, rfl⟩ := trodAll_nil r0
  obtain rfl : args = #[v0] := by cases args; simp_all
  obtain ⟨rfl, rfl⟩ := trodVars_none hV
  have k0 := h0
  have lt0 : ∀ x ∈ p0, x.block < W.heap.size := by obtain ⟨m, hm⟩ := k0; exact DataW.trod_lt m _ _ _ hm
  obtain ⟨a0, len0, cap0, rfl⟩ := okWide_slice Try.underlying22 (hval 0 22 v0 rfl rfl)
  obtain ⟨z0, w0⟩ : ∃ Z, Grid W W.heap.size a0 len0 Z ∧ len0 ≤ 9223372036854775807 := by
    obtain ⟨fuel, hf⟩ := h0
    rcases Deep.open_int_rows Try.underlying22 Try.underlying28 Try.underlying2 (by kernel_rfl) (by kernel_rfl) hf with ⟨hcs, _⟩ | ⟨x, l, c, A, L, C, ZZ, hcs, _, hl, hm, _, hrow⟩
    · simp [Value.cells] at hcs
      obtain ⟨rfl, rfl, rfl⟩ := hcs
      exact ⟨[], grid_nil _ _ _, by omega⟩
    · simp [Value.cells] at hcs
      obtain ⟨rfl, rfl, rfl⟩ := hcs
      exact ⟨_, grid_of_rows hl hrow, by unfold maxLen at hm; omega⟩
  clear hA0 hval0
  refine (walk a0 len0 cap0 z0 W w0).mono fun e W' ⟨he, bel⟩ => ?_
  subst he
  exact ⟨_, rfl, _, _, _, [], _, [], hW', trodAll_mk1 (shut_bool Try.underlying4 _), (trodAll_cons_mk (Below.trod laidOut (by kernel_rfl) (of_decide_eq_true (by kernel_rfl)) k0 bel lt0) trodAll_mk0), rfl, bel.frame _, fun h => by cases h⟩

theorem over : Rows.fnExactFallsToEdgeRow.holds Try.pinned (OpenSpec.ofChange Rows.fnExactFallsToEdgeSpec) :=
  OpenClaim.holds_of_wide 3 Try.f3 rfl rfl rfl rfl rfl rfl rfl ⟨rfl, rfl, rfl, rfl, rfl⟩ rfl rfl rfl rfl rfl (by kernel_rfl) Try.func3 (by kernel_rfl)
    (of_decide_eq_true (by kernel_rfl)) (by unfold Func.isWrapper; first | (rw [if_pos (by decide +kernel)]; kernel_rfl) | (rw [if_neg (by decide +kernel)]; exact ⟨rfl, rfl⟩))
    (fun os started H enc _ => lifted os started H enc)

/-- The given statement. -/
theorem proved : Rows.FnExactFallsToEdgeSaid := over
#print axioms proved

end Go.Proofs.Ytfmbmgdemdbpaaa.fnExactFallsToEdge
