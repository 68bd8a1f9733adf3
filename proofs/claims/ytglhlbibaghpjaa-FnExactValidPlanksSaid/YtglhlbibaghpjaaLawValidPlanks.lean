/- For all arguments, the program's ValidPlanks returns what the reference's returns; lists whose length is beyond 2^20 the law lets pass. Conditions: none. -/
import Derived.Test.YtglhlbibaghpjaaPopen
import Derived.ProofKit
import Derived.OpenShut
import Derived.ShutString
import Derived.ChangeOld
import Derived.Below
namespace Go.Proofs.Ytglhlbibaghpjaa.fnExactValidPlanks
open Go.ChangeShapes Go.WideShapes Go.ChangeAt Go.RowKit
open Go.ChangeMaps (open_string shut_string)
set_option linter.unusedVariables false
open Go.Sort

theorem specF_any (B n : Nat) (v : Value) (ps : List Pl) (w : World) (hx : w.ownsRow B 37 6 v n (plv ps)) (hs : Short ps n) (hn : n ≤ 1048576) :
    Calls Try.prog 7 #[v] w fun e w' => e = .returned (.bool (validL ps)) ∧ Below w.heap.size w w' := by
  have HX := Lib.hid hx
  have HS := Lib.hid hs
  clear hx hs
  go_enter Try.func7, Try.ntmps7
  go_wp2_with fail
  refine (l03Ok_any B n v ps w HX.out HS.out hn).mono ?_
  rintro e w1 ⟨rfl, b1⟩
  have B1 := Lib.hid b1
  clear b1
  go_wp2
  go_ret
  exact ⟨rfl, B1.out⟩

set_option maxHeartbeats 1600000 in
theorem walk (A : Option Addr) (n c : Nat) (ps : List Pl) (w : World) (w0 : Reads w w.heap.size 6 A n (plv ps) ∧ Short ps n ∧ n ≤ 9223372036854775807) :
    Calls Try.prog 3 #[.slice A n c] w fun r w' => r = .returned (.bool true) ∧ Below w.heap.size w w' := by
  obtain ⟨hg, hs, hn⟩ := w0
  have K := Lib.hid (show KeepP w A n ps w from ⟨Below.refl _ _, hg⟩)
  have HS := Lib.hid hs
  clear hg hs
  go_enter Try.func3, Try.ntmps3
  go_wp2_with fail
  refine (szPlankS_any A n c _ ps 1048576 _ K.out.list K.out.old.size HS.out hn (by omega) (by omega)).mono ?_
  rintro e w1 ⟨r, rfl, r1, hs, b1⟩
  have K := Lib.hid (K.out.step b1)
  clear b1
  by_cases hr : r < 0
  · go_wp2
    go_ret
    exact ⟨rfl, K.out.old⟩
  · have hn2 : n ≤ 1048576 := by have := hs (by omega); omega
    clear hs
    go_wp2_with fail
    refine (toPlankS_any A n c _ ps _ K.out.list K.out.old.size hn2).mono ?_
    rintro e w2 ⟨rfl, o2, b2⟩
    have K := Lib.hid (K.out.step b2)
    have X := Lib.hid o2
    clear o2 b2
    go_wp2_with fail
    refine (specF_any _ n _ ps _ X.out HS.out hn2).mono ?_
    rintro e w3 ⟨rfl, b3⟩
    have K := Lib.hid (K.out.step b3)
    clear b3 X
    go_wp2_with fail
    refine (toPlankS_any A n c _ ps _ K.out.list K.out.old.size hn2).mono ?_
    rintro e w4 ⟨rfl, o4, b4⟩
    have K := Lib.hid (K.out.step b4)
    have X := Lib.hid o4
    clear o4 b4
    go_wp2_with fail
    refine (implValid_any _ n _ ps _ X.out HS.out hn2).mono ?_
    rintro e w5 ⟨rfl, b5⟩
    have K := Lib.hid (K.out.step b5)
    have X := Lib.hid (own_below X.out b5)
    clear b5
    go_wp2_with fail
    refine (toPlankS_any A n c _ ps _ K.out.list K.out.old.size hn2).mono ?_
    rintro e w6 ⟨rfl, o6, b6⟩
    have K := Lib.hid (K.out.step b6)
    have X := Lib.hid (own_below X.out b6)
    have Y := Lib.hid o6
    clear o6 b6
    go_wp2_with fail
    refine (eqPlankS_any _ _ n _ _ ps _ X.out Y.out hn2).mono ?_
    rintro e w7 ⟨rfl, b7⟩
    have K := Lib.hid (K.out.step b7)
    clear b7
    go_wp2
    go_ret
    exact ⟨rfl, K.out.old⟩

/-! ### The row's step -/
theorem own : ownKnob Try.prog.godebug = none := by kernel_rfl
theorem laidOut : laidOutB Try.prog = true := by kernel_rfl
set_option maxRecDepth 100000 in
theorem lifted (os : Os) (started : os.Started) (H : Type) (enc : TypeId × Value → H) :
    ReturnsInHanded {} Try.checked os 3 .any (Rows.fnExactValidPlanksSpec.pre6 enc Try.prog Try.f3 Rows.fnExactValidPlanksRow.domain false) (Rows.fnExactValidPlanksSpec.post enc Try.prog Try.f3 false true false false) := by
  refine returnsInHanded_of_change (C := Try.checked) own started (by kernel_rfl) Try.func3
    (ChangeSpec.witness6 (enc := enc) (C := Try.checked) false ⟨#[], #[.slice none 0 0], []⟩ 8 (by kernel_rfl) (by kernel_rfl) (by kernel_rfl) (by kernel_rfl)) ?_
  intro W base args ds gs before hval0 hW hcnd _
  have hval : ∀ (j : Nat) t v, Try.f3.params[j]? = some t → args[j]? = some v → Value.okWide Try.prog W .any base t v := hval0
  have hW' := hW
  obtain ⟨p, q, hA0, hV, rfl, hfz, hnd⟩ := hW
  have hA : DataW.TrodAll enc Try.prog W 0 (fun _ => true) true Try.f3.params.toList args.toList ds p := hA0
  rw [Try.params3] at hA hval
  obtain ⟨v0, vs0, d0, ds0, p0, q0, hargs, rfl, rfl, h0, r0⟩ := trodAll_cons hA
  obtain ⟨rfl, rfl, rfl⟩ := trodAll_nil r0
  obtain rfl : args = #[v0] := by cases args; simp_all
  obtain ⟨rfl, rfl⟩ := trodVars_none hV
  have k0 := h0
  have lt0 : ∀ x ∈ p0, x.block < W.heap.size := by obtain ⟨m, hm⟩ := k0; exact DataW.trod_lt m _ _ _ hm
  obtain ⟨a0, len0, cap0, rfl⟩ := okWide_slice Try.underlying22 (hval 0 22 v0 rfl rfl)
  obtain ⟨z0, w0⟩ : ∃ Z, Reads W W.heap.size 6 a0 len0 (plv Z) ∧ Short Z len0 ∧ len0 ≤ 9223372036854775807 := open_planks Try.underlying22 Try.underlying36 (by kernel_rfl) (by kernel_rfl) Try.underlying9 Try.underlying2 Try.underlying2 Try.underlying2 Try.underlying2 Try.underlying2 h0
  clear hA0 hval0
  refine (walk a0 len0 cap0 z0 W w0).mono fun e W' ⟨he, bel⟩ => ?_
  subst he
  exact ⟨_, rfl, _, _, _, [], _, [], hW', trodAll_mk1 (shut_bool Try.underlying4 _), (trodAll_cons_mk (Below.trod laidOut (by kernel_rfl) (of_decide_eq_true (by kernel_rfl)) k0 bel lt0) trodAll_mk0), rfl, bel.frame _, fun h => by cases h⟩

theorem over : Rows.fnExactValidPlanksRow.holds Try.pinned (OpenSpec.ofChange Rows.fnExactValidPlanksSpec) :=
  OpenClaim.holds_of_wide 3 Try.f3 rfl rfl rfl rfl rfl rfl rfl ⟨rfl, rfl, rfl, rfl, rfl⟩ rfl rfl rfl rfl rfl (by kernel_rfl) Try.func3 (by kernel_rfl)
    (of_decide_eq_true (by kernel_rfl)) (by unfold Func.isWrapper; first | (rw [if_pos (by decide +kernel)]; kernel_rfl) | (rw [if_neg (by decide +kernel)]; exact ⟨rfl, rfl⟩))
    (fun os started H enc _ => lifted os started H enc)

/-- The given statement. -/
theorem proved : Rows.FnExactValidPlanksSaid := over
#print axioms proved

end Go.Proofs.Ytglhlbibaghpjaa.fnExactValidPlanks
