/- For all texts, the program's ReadDate reads what the reference's reads; texts longer than 2^20 the law lets pass. Conditions: none. -/
import Derived.Test.YtemloifpcjphkaaDoorReadD
import Derived.Test.YtemloifpcjphkaaDoorWrap
import Derived.ProofKit
import Derived.OpenShut
import Derived.ShutString
import Derived.ChangeOld
import Derived.Below
import Derived.Lib.LaidU8
import Derived.LaidMore
import Derived.Lay
import Derived.Stop.Joined
import Derived.SevenTiedAt
import Derived.Test.YtemloifpcjphkaaDoorTie
import Derived.Test.YtemloifpcjphkaaDoorCards
namespace Go.Proofs.YtemloifpcjphkaaDoor.fnExactReadDate
open Go.ChangeShapes Go.WideShapes Go.ChangeAt Go.RowKit
open Go.ChangeMaps (open_string shut_string)
set_option linter.unusedVariables false

theorem rd_form {T : Int → List UInt8} {R : Int → Prop} {l : List UInt8} {e : Ending} (h : RdPost T R l e) : ∃ v b, e = .returned (.tuple #[.int .i64 v, .bool b]) := by
  rcases h with ⟨v, _, _, rfl⟩ | ⟨_, rfl⟩
  · exact ⟨v, true, rfl⟩
  · exact ⟨0, false, rfl⟩
theorem rd_same {T : Int → List UInt8} {R : Int → Prop} (inj : ∀ a b, R a → R b → T a = T b → a = b) {l : List UInt8} {e e' : Ending} (h : RdPost T R l e) (h' : RdPost T R l e') : e' = e := by
  obtain ⟨v, b, e1, e2⟩ := rd_one inj h h'
  rw [e1, e2]

set_option maxHeartbeats 800000 in
theorem walk (s : ByteArray) (w : World) (tab : PowTab w) (mx : MaxL w) (w0 : s.size ≤ maxLen) :
    Calls Tryd.prog 12 #[.string s] w fun r w' => r = .returned (.bool true) ∧ Below w.heap.size w w' := by
  by_cases h20 : 1048576 < s.size
  · have q : (1048576 : Int) < (s.size : Int) := by omega
    go_enter Tryd.func12, Tryd.ntmps12
    go_wp2
    go_ret
    exact ⟨rfl, Below.refl _ _⟩
  have q : ¬ (1048576 : Int) < (s.size : Int) := by omega
  have F := Lib.hid (specReadDate_any s w (by omega))
  have G := Lib.hid (fun W ht hm => implReadDate_any s W (by omega) ht hm)
  have TB := Lib.hid tab
  have MX := Lib.hid mx
  clear tab mx
  go_enter Tryd.func12, Tryd.ntmps12
  go_wp2_with fail
  refine F.out.mono ?_
  rintro e w1 ⟨hp, b1⟩
  obtain ⟨v, b, rfl⟩ := rd_form hp
  have HP := Lib.hid hp
  have B1 := Lib.hid b1
  clear hp b1
  have e1 : (v != v) = false := by simp
  have e2 : (b != b) = false := by simp
  go_wp2_with fail
  refine (G.out w1 (tab_below TB.out B1.out) (maxl_below MX.out B1.out)).mono ?_
  rintro e w2 ⟨hp2, b2⟩
  obtain rfl := rd_same dateX_inj HP.out hp2
  have B2 := Lib.hid (B1.out.trans (b2.mono B1.out.size))
  clear hp2 b2
  go_wp2
  go_ret
  exact ⟨rfl, B2.out⟩

/-! ### The row's step -/
theorem own : ownKnob Tryd.prog.godebug = none := by kernel_rfl
theorem laidOut : laidOutB Tryd.prog = true := by kernel_rfl
theorem plainL : (Rows.fnExactReadDateRow.laid.all fun x => x.2.handleName?.isNone) = true := by kernel_rfl
set_option maxRecDepth 100000 in
theorem lifted (os : Os) (started : os.Started) (H : Type) (enc : TypeId × Value → H) :
    ReturnsInHanded {} Tryd.checked os 12 .any (fun w args => (Rows.fnExactReadDateSpec.pre enc Tryd.prog Tryd.f12 Rows.fnExactReadDateRow.domain false w args ∧ laidMetH Tryd.prog Rows.fnExactReadDateRow.laid w) ∧ sizedMet enc Tryd.prog Tryd.f12 (OpenSpec.ofChange Rows.fnExactReadDateSpec) false w args) (Rows.fnExactReadDateSpec.post enc Tryd.prog Tryd.f12 false true false false) := by
  refine wrapAndShaped (C := Tryd.checked) (X := (fun w _ => laidMetH Tryd.prog Rows.fnExactReadDateRow.laid w)) (fun _ _ _ hh h => h.of_heap hh) own started (by kernel_rfl) Tryd.func12
    (ChangeSpec.witness_shaped (enc := enc) (C := Tryd.checked) (os := os) (X := (fun w _ => laidMetH Tryd.prog Rows.fnExactReadDateRow.laid w)) false (World.laidAll Tryd.prog os Rows.fnExactReadDateRow.laid) #[.string ByteArray.empty] 8 (World.laidAll_os _ _ _) (World.shaped_of_ZipB (by kernel_rfl) (by kernel_rfl)) (by kernel_rfl) (by kernel_rfl) (by kernel_rfl) (by rw [MakeChecks.laidMetH_plain _ _ _ plainL]; exact laidMet_laidAll _ (by kernel_rfl) (by kernel_rfl))) ?_
  intro W base args ds gs before hval0 hW hcnd hL hsh
  have hval : ∀ (j : Nat) t v, Tryd.f12.params[j]? = some t → args[j]? = some v → Value.okWide Tryd.prog W .any base t v := hval0
  have hW' := hW
  obtain ⟨p, q, hA0, hV, rfl, hfz, hnd⟩ := hW
  have hA : DataW.TrodAll enc Tryd.prog W 0 (fun _ => true) true Tryd.f12.params.toList args.toList ds p := hA0
  rw [Tryd.params12] at hA hval
  obtain ⟨v0, vs0, d0, ds0, p0, q0, hargs, rfl, rfl, h0, r0⟩ := trodAll_cons hA
  obtain ⟨rfl, rfl, rfl⟩ := trodAll_nil r0
  obtain rfl : args = #[v0] := by cases args; simp_all
  obtain ⟨rfl, rfl⟩ := trodVars_none hV
  have k0 := h0
  have lt0 : ∀ x ∈ p0, x.block < W.heap.size := by obtain ⟨m, hm⟩ := k0; exact DataW.trod_lt m _ _ _ hm
  obtain ⟨a0, rfl, rfl, rfl, w0⟩ := open_string Tryd.underlying9 (hval 0 9 v0 rfl rfl) h0
  clear hA0 hval0
  refine (walk a0 W (pow_of_laid plainL hL (by simp [Rows.fnExactReadDateRow])) (Tryd.laysM146.s1_3 W hsh) w0).mono fun e W' ⟨he, bel⟩ => ?_
  subst he
  exact ⟨_, rfl, _, _, _, [], _, [], hW', trodAll_mk1 (shut_bool Tryd.underlying4 _), (trodAll_cons_mk (Below.trod laidOut (by kernel_rfl) (of_decide_eq_true (by kernel_rfl)) k0 bel lt0) trodAll_mk0), rfl, bel.frame _, fun h => by cases h⟩

theorem over : Rows.fnExactReadDateRow.holds Tryd.pinned (OpenSpec.ofChange Rows.fnExactReadDateSpec) :=
  OpenClaim.holds_of_wide 12 Tryd.f12 rfl rfl rfl rfl rfl rfl rfl ⟨rfl, rfl, rfl, rfl, rfl⟩ rfl rfl rfl rfl rfl (by kernel_rfl) Tryd.func12 (by kernel_rfl)
    (of_decide_eq_true (by kernel_rfl)) (by unfold Func.isWrapper; first | (rw [if_pos (by decide +kernel)]; kernel_rfl) | (rw [if_neg (by decide +kernel)]; exact ⟨rfl, rfl⟩))
    (fun os started H enc _ => lifted os started H enc)

/-- The given statement: the tied card. -/
theorem proved : Rows.FnExactReadDateCardSaid :=
  Claim7.holds_tied_plain_at .later [] [.data, .data, .data, .data, .pinned] true (true, "560ae02bb9484187c91a898affccd899427a821920fe8b971c30d40fa965f0b5") false
    over (fun _ h => by cases h) (by kernel_rfl) (fun _ h => by cases h) fnExactReadDate_row_tie rfl ⟨rfl, rfl⟩ (by kernel_rfl) rfl
    (fun f fn hf hfn => by
      obtain rfl : f = 12 := Option.some.inj (hf.symm.trans (show Tryd.prog.funcNamed "loop.example/g01061/laws.FnExactReadDate" = some 12 by kernel_rfl))
      obtain rfl : fn = Tryd.f12 := (Option.some.inj (Tryd.func12.symm.trans hfn)).symm
      exact ⟨by kernel_rfl, fun j t ht => by
        rw [Tryd.params12] at ht
        have hm : t ∈ [9] := by simpa using Array.mem_of_getElem? ht
        have hall : ([9].all fun u => !Tryd.prog.wantsStandIn u) = true := by kernel_rfl
        exact (show Tryd.prog.wantsStandIn t = false by simpa using List.all_eq_true.1 hall t hm)⟩)
    (by kernel_rfl)
#print axioms proved

end Go.Proofs.YtemloifpcjphkaaDoor.fnExactReadDate
