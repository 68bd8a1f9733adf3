/- For every two heights and number, the program's TaperHeights returns what the reference's returns, in memory of its own. Conditions: none. -/
import Derived.Test.YthjedbjhinlhhaaTaper
import Derived.ProofKit
import Derived.OpenShut
import Derived.ShutString
import Derived.ChangeOld
import Derived.Below
namespace Go.Proofs.Ythjedbjhinlhhaa.fnExactTaperHeights
open Go.ChangeShapes Go.WideShapes Go.ChangeAt Go.RowKit
open Go.ChangeMaps (open_string shut_string)
set_option linter.unusedVariables false

theorem own_below {w w' : World} {B : Nat} {e : TypeId} {size n : Nat} {v : Value} {xs : List Value} (h : w.ownsRow B e size v n xs) (hb : Below w.heap.size w w') : w'.ownsRow B e size v n xs := by
  refine ⟨h.1, ?_⟩
  rcases h.2 with h0 | ⟨g, cap, cur, hv, hbg, hh, h1, h2, h3, h4⟩
  · exact .inl h0
  · have hlt : g < w.heap.size := by
      rcases Nat.lt_or_ge g w.heap.size with hlt | hge
      · exact hlt
      · rw [Array.getElem?_eq_none hge] at hh; cases hh
    exact .inr ⟨g, cap, cur, hv, hbg, (hb.block g hlt).trans hh, h1, h2, h3, h4⟩
theorem own_base {w : World} {B : Nat} {e : TypeId} {size n g cap : Nat} {xs : List Value} (h : w.ownsRow B e size (.slice (some ⟨g, 0, none⟩) n cap) n xs) : B ≤ g := by
  rcases h.2 with ⟨h0, _⟩ | ⟨g', cap', cur, hv, hbg, _⟩
  · cases h0
  · simp only [Value.slice.injEq, Option.some.injEq, Addr.mk.injEq, and_true, true_and] at hv
    omega
theorem same_self (l : List Int) : sameL l l = true := by simp [sameL]

theorem walk_no (f t m : Int) (w : World) (h : okB f t m = false) :
    Calls Try.prog 5 #[.int .i64 f, .int .i64 t, .int .i64 m] w fun r w' => r = .returned (.bool true) ∧ Below w.heap.size w w' := by
  have H := Lib.hid h
  clear h
  have hm := fun W => (show Calls Try.prog 23 #[.slice none 0 0, .int .i64 1] W fun e w' => e = .returned (.int .i64 1) ∧ W = w' from heldInt64S_any none 0 0 W.heap.size 1 W (Reads.none_) (by simp [maxLen]) (by omega) (by omega))
  have he := fun W => (show Calls Try.prog 21 #[.slice none 0 0, .slice none 0 0] W fun e w' => e = .returned (.bool true) ∧ Below W.heap.size W w' from eqInt64S_any none none 0 0 0 0 [] [] W.heap.size W.heap.size W Reads.none_ Reads.none_ (Nat.le_refl _) (Nat.le_refl _) (by simp [maxLen]) (by simp [maxLen]))
  have HM := Lib.hid hm
  have HE := Lib.hid he
  clear hm he
  have K := Lib.hid (Below.refl w.heap.size w)
  go_enter Try.func5, Try.ntmps5
  go_wp2_with (first | (go_at_call 19; refine (specTaper_no _ _ _ _ H.out).mono ?_; rintro e w1 ⟨rfl, rfl⟩) | (go_at_call 20; refine (taper_no _ _ _ _ H.out).mono ?_; rintro e w1 ⟨rfl, rfl⟩) | (go_at_call 22; refine (markNil_any _ _).mono ?_; rintro e w1 ⟨rfl, rfl⟩) | (go_at_call 23; refine (HM.out _).mono ?_; rintro e w1 ⟨rfl, rfl⟩) | (go_at_call 21; refine (HE.out _).mono ?_; rintro e w1 ⟨rfl, b1⟩; have K := Lib.hid (K.out.trans (b1.mono K.out.size)); clear b1))
  go_ret
  exact ⟨rfl, K.out⟩

set_option maxHeartbeats 1600000 in
theorem walk_yes (f t : Int) (m : Nat) (w : World) (h1 : inB f 1 10000 = true) (h2 : inB t 1 10000 = true) (h3 : inB m 2 8 = true) :
    Calls Try.prog 5 #[.int .i64 f, .int .i64 t, .int .i64 m] w fun r w' => r = .returned (.bool true) ∧ Below w.heap.size w w' := by
  have H1 := Lib.hid h1
  have H2 := Lib.hid h2
  have H3 := Lib.hid h3
  have b3 := inB_t h3
  have hmx : m ≤ maxLen := by unfold maxLen; omega
  have HMX := Lib.hid hmx
  clear h1 h2 h3 hmx
  obtain ⟨L, hL⟩ : ∃ L, taperTo f t m m = L := ⟨_, rfl⟩
  have HL := Lib.hid hL
  clear hL
  go_enter Try.func5, Try.ntmps5
  go_wp2_with fail
  refine (specTaper_yes f t m _ H1.out H2.out H3.out).mono ?_
  rintro e w1 ⟨g1, c1, rfl, o1, b1⟩
  rw [HL.out] at o1
  have R1 := Lib.hid (Reads.of_own o1)
  have B1 := Lib.hid b1
  clear o1 b1
  go_wp2_with fail
  refine (taper_yes f t m _ H1.out H2.out H3.out).mono ?_
  rintro e w2 ⟨g2, c2, rfl, o2, b2⟩
  rw [HL.out] at o2
  have R1 := Lib.hid (R1.out.below b2)
  have O2 := Lib.hid o2
  have G2 := Lib.hid (own_base o2)
  have B2 := Lib.hid (B1.out.trans (b2.mono B1.out.size))
  have S2 := Lib.hid b2.size
  clear o2 b2
  go_wp2_with fail
  refine (eqInt64S_any _ _ _ _ _ _ L L _ _ _ (Reads.of_own O2.out) R1.out (Nat.le_refl _) S2.out HMX.out HMX.out).mono ?_
  rintro e w3 ⟨rfl, b3'⟩
  rw [same_self]
  have R1 := Lib.hid ((R1.out.below (b3'.mono S2.out)))
  have O2 := Lib.hid (own_below O2.out b3')
  have B3 := Lib.hid (B2.out.trans (b3'.mono B2.out.size))
  have S3 := Lib.hid (Nat.le_trans S2.out b3'.size)
  clear b3'
  go_wp2_with fail
  refine (markInt64S_any _ _ _ _ _ 1 _ O2.out (by omega) (by omega)).mono ?_
  rintro e w4 ⟨rfl, o4, gr⟩
  have R1 := Lib.hid (R1.out.grown gr S3.out (fun g hg => by injection hg with hg; rw [← hg]; exact G2.out))
  have B4 := Lib.hid (B3.out.grown gr B3.out.size (fun g hg => by injection hg with hg; rw [← hg]; exact Nat.le_trans B1.out.size G2.out))
  have S4 := Lib.hid (Nat.le_trans S3.out gr.size)
  have M4 := Lib.hid (Reads.of_own o4)
  clear o4 gr
  have z1 : (0 : Int) ≤ 1 + (m : Int) := by omega
  go_wp2_with fail
  refine (heldInt64S_any _ _ _ _ 1 _ M4.out HMX.out (by omega) (by omega)).mono ?_
  rintro e w4 ⟨rfl, rfl⟩
  go_wp2_with fail
  refine (taper_yes f t m _ H1.out H2.out H3.out).mono ?_
  rintro e w5 ⟨g5, c5, rfl, o5, b5⟩
  rw [HL.out] at o5
  have R1 := Lib.hid (R1.out.below (b5.mono S4.out))
  have M5 := Lib.hid (M4.out.below b5)
  have R5 := Lib.hid (Reads.of_own o5)
  have S5 := Lib.hid (Nat.le_trans S4.out b5.size)
  have T5 := Lib.hid b5.size
  have B5 := Lib.hid (B4.out.trans (b5.mono B4.out.size))
  clear o5 b5
  go_wp2_with fail
  refine (eqInt64S_any _ _ _ _ _ _ L L _ _ _ R5.out R1.out (Nat.le_refl _) S5.out HMX.out HMX.out).mono ?_
  rintro e w6 ⟨rfl, b6⟩
  rw [same_self]
  have M6 := Lib.hid (M5.out.below (b6.mono T5.out))
  have B6 := Lib.hid (B5.out.trans (b6.mono B5.out.size))
  clear b6
  go_wp2_with fail
  refine (heldInt64S_any _ _ _ _ 1 _ M6.out HMX.out (by omega) (by omega)).mono ?_
  rintro e w6 ⟨rfl, rfl⟩
  go_wp2
  go_ret
  exact ⟨rfl, B6.out⟩

theorem walk (f t m : Int) (w : World) (w0 : (Lit.int .i64 f).wf = true) (w1 : (Lit.int .i64 t).wf = true) (w2 : (Lit.int .i64 m).wf = true) :
    Calls Try.prog 5 #[.int .i64 f, .int .i64 t, .int .i64 m] w fun r w' => r = .returned (.bool true) ∧ Below w.heap.size w w' := by
  cases h : okB f t m
  · exact walk_no f t m w h
  · simp only [okB, Bool.and_eq_true] at h
    obtain ⟨h1, h2, h3⟩ := h
    have b3 := inB_t h3
    obtain ⟨k, rfl⟩ := Int.eq_ofNat_of_zero_le (show 0 ≤ m by omega)
    exact walk_yes f t k w h1 h2 h3

/-! ### The row's step -/
theorem own : ownKnob Try.prog.godebug = none := by kernel_rfl
theorem laidOut : laidOutB Try.prog = true := by kernel_rfl
set_option maxRecDepth 100000 in
theorem lifted (os : Os) (started : os.Started) (H : Type) (enc : TypeId × Value → H) :
    ReturnsInHanded {} Try.checked os 5 .any (Rows.fnExactTaperHeightsSpec.pre6 enc Try.prog Try.f5 Rows.fnExactTaperHeightsRow.domain false) (Rows.fnExactTaperHeightsSpec.post enc Try.prog Try.f5 false true false false) := by
  refine returnsInHanded_of_change (C := Try.checked) own started (by kernel_rfl) Try.func5
    (ChangeSpec.witness6 (enc := enc) (C := Try.checked) false ⟨#[], #[.int .i64 0, .int .i64 0, .int .i64 0], []⟩ 8 (by kernel_rfl) (by kernel_rfl) (by kernel_rfl) (by kernel_rfl)) ?_
  intro W base args ds gs before hval0 hW hcnd _
  have hval : ∀ (j : Nat) t v, Try.f5.params[j]? = some t → args[j]? = some v → Value.okWide Try.prog W .any base t v := hval0
  have hW' := hW
  obtain ⟨p, q, hA0, hV, rfl, hfz, hnd⟩ := hW
  have hA : DataW.TrodAll enc Try.prog W 0 (fun _ => true) true Try.f5.params.toList args.toList ds p := hA0
  rw [Try.params5] at hA hval
  obtain ⟨v0, vs0, d0, ds0, p0, q0, hargs, rfl, rfl, h0, r0⟩ := trodAll_cons hA
  obtain ⟨v1, vs1, d1, ds1, p1, q1, rfl, rfl, rfl, h1, r1⟩ := trodAll_cons r0
  obtain ⟨v2, vs2, d2, ds2, p2, q2, rfl, rfl, rfl, h2, r2⟩ := trodAll_cons r1
  obtain ⟨rfl, rfl, rfl⟩ := trodAll_nil r2
  obtain rfl : args = #[v0, v1, v2] := by cases args; simp_all
  obtain ⟨rfl, rfl⟩ := trodVars_none hV
  have k0 := h0
  have lt0 : ∀ x ∈ p0, x.block < W.heap.size := by obtain ⟨m, hm⟩ := k0; exact DataW.trod_lt m _ _ _ hm
  obtain ⟨a0, rfl, rfl, rfl, w0⟩ := open_int Try.underlying2 (hval 0 2 v0 rfl rfl) h0
  have k1 := h1
  have lt1 : ∀ x ∈ p1, x.block < W.heap.size := by obtain ⟨m, hm⟩ := k1; exact DataW.trod_lt m _ _ _ hm
  obtain ⟨a1, rfl, rfl, rfl, w1⟩ := open_int Try.underlying2 (hval 1 2 v1 rfl rfl) h1
  have k2 := h2
  have lt2 : ∀ x ∈ p2, x.block < W.heap.size := by obtain ⟨m, hm⟩ := k2; exact DataW.trod_lt m _ _ _ hm
  obtain ⟨a2, rfl, rfl, rfl, w2⟩ := open_int Try.underlying2 (hval 2 2 v2 rfl rfl) h2
  clear hA0 hval0
  refine (walk a0 a1 a2 W w0 w1 w2).mono fun e W' ⟨he, bel⟩ => ?_
  subst he
  exact ⟨_, rfl, _, _, _, [], _, [], hW', trodAll_mk1 (shut_bool Try.underlying4 _), (trodAll_cons_mk (Below.trod laidOut (by kernel_rfl) (of_decide_eq_true (by kernel_rfl)) k0 bel lt0) (trodAll_cons_mk (Below.trod laidOut (by kernel_rfl) (of_decide_eq_true (by kernel_rfl)) k1 bel lt1) (trodAll_cons_mk (Below.trod laidOut (by kernel_rfl) (of_decide_eq_true (by kernel_rfl)) k2 bel lt2) trodAll_mk0))), rfl, bel.frame _, fun h => by cases h⟩

theorem over : Rows.fnExactTaperHeightsRow.holds Try.pinned (OpenSpec.ofChange Rows.fnExactTaperHeightsSpec) :=
  OpenClaim.holds_of_wide 5 Try.f5 rfl rfl rfl rfl rfl rfl rfl ⟨rfl, rfl, rfl, rfl, rfl⟩ rfl rfl rfl rfl rfl (by kernel_rfl) Try.func5 (by kernel_rfl)
    (of_decide_eq_true (by kernel_rfl)) (by unfold Func.isWrapper; first | (rw [if_pos (by decide +kernel)]; kernel_rfl) | (rw [if_neg (by decide +kernel)]; exact ⟨rfl, rfl⟩))
    (fun os started H enc _ => lifted os started H enc)

/-- The given statement. -/
theorem proved : Rows.FnExactTaperHeightsSaid := over
#print axioms proved

end Go.Proofs.Ythjedbjhinlhhaa.fnExactTaperHeights
