/- Lists of planks: which are valid; both texts. -/
import Derived.Test.YtfmbmgdemdbpaaaGreatDoorPlist
namespace Go.Proofs.YtfmbmgdemdbpaaaGreatDoor
open Go.RowKit Go.Sort

def ltB (p q : Pl) : Bool := Op.bytesLess p.id.toList q.id.toList
def ValidL (ps : List Pl) : Prop := ps.length ≤ 16 ∧ ∀ k, k < ps.length → validB (atP ps k) = true ∧ (0 < k → ltB (atP ps (k - 1)) (atP ps k) = true)
instance (ps : List Pl) : Decidable (ValidL ps) := by unfold ValidL; infer_instance
def validL (ps : List Pl) : Bool := decide (ValidL ps)
theorem validL_f {ps : List Pl} (h : ¬ ValidL ps) : validL ps = false := decide_eq_false h
theorem validL_t {ps : List Pl} (h : ValidL ps) : validL ps = true := decide_eq_true h
theorem validL_of {ps : List Pl} (h : validL ps = true) : ValidL ps := of_decide_eq_true h
theorem is_ofb {P : Program} {f : FuncId} {args : Array Value} {w : World} {b c : Bool} (h : Calls P f args w fun e w' => e = .returned (.bool b) ∧ Below w.heap.size w w') (hb : b = c) :
    Calls P f args w fun e w' => e = .returned (.bool c) ∧ Below w.heap.size w w' := by rw [← hb]; exact h

theorem step_v {ps : List Pl} {k : Nat} (h : ∀ i, i < k → validB (atP ps i) = true ∧ (0 < i → ltB (atP ps (i - 1)) (atP ps i) = true)) (h1 : validB (atP ps k) = true) (h2 : 0 < k → ltB (atP ps (k - 1)) (atP ps k) = true) :
    ∀ i, i < k + 1 → validB (atP ps i) = true ∧ (0 < i → ltB (atP ps (i - 1)) (atP ps i) = true) := fun i hi => by
  by_cases e : i = k
  · subst e; exact ⟨h1, h2⟩
  · exact h i (by omega)

set_option maxHeartbeats 3000000 in
theorem implValid_any (B n : Nat) (v : Value) (ps : List Pl) (w : World) (hx : w.ownsRow B 27 6 v n (plv ps)) (hs : Short ps n) (hn : n ≤ 1048576) :
    Calls Tryz.prog 30 #[v] w fun e w' => e = .returned (.bool (validL ps)) ∧ Below w.heap.size w w' := by
  obtain ⟨A, c, rfl⟩ := own_form hx
  have lp := Lib.hid (show ps.length = n by have := hx.1; rw [plv_len] at this; omega)
  have HX := Lib.hid hx
  have HS := Lib.hid hs
  clear hx hs
  go_enter Tryz.func30, Tryz.ntmps30
  go_wp2_with fail
  go_loopw [7] (fun i wr => ∃ k : Nat, k ≤ n ∧ (∀ i, i < k → validB (atP ps i) = true ∧ (0 < i → ltB (atP ps (i - 1)) (atP ps i) = true)) ∧ i = .int .i64 k ∧ Below w.heap.size w wr) (fun i _ => n - (intOf i).toNat)
  case atStart => exact ⟨0, Nat.zero_le _, fun i hi => by omega, rfl, Below.refl _ _⟩
  case round =>
    obtain ⟨k, hk, hv, rfl, hb⟩ := hrel
    have HV := Lib.hid hv
    have HB := Lib.hid hb
    clear hv hb
    by_cases hlt : k < n
    · have ox := own_below HX.out HB.out
      obtain ⟨g, cap, hv, _, _⟩ := ox.form (by omega)
      obtain ⟨rfl, rfl⟩ : A = some ⟨g, 0, none⟩ ∧ c = cap := by simpa using hv
      have AT := Lib.hid ((el_own ox hlt).at_ (HS.out k hlt))
      obtain ⟨k0, k1, k2, k3, k4, k5⟩ := el_own ox hlt
      have hsz := Lib.hid (HS.out k hlt)
      obtain ⟨p, hp⟩ : ∃ p, atP ps k = p := ⟨_, rfl⟩
      rw [hp] at k0 k1 k2 k3 k4 k5 hsz AT
      have HP := Lib.hid hp
      obtain ⟨W1, hW1⟩ : ∃ W1, wr.alloc (.cells #[.string p.id, .int .i64 p.l, .int .i64 p.wd, .int .i64 p.t, .int .i64 p.m, .int .i64 p.r] 27) = W1 := ⟨_, rfl⟩
      have A1 := Lib.hid (show At W1 wr.heap.size 0 p by rw [← hW1]; exact at_new p wr _ hsz.out)
      have B1 := Lib.hid (show Below wr.heap.size wr W1 by rw [← hW1]; exact (Below.refl _ _).alloc (Nat.le_refl _) _)
      have BW := Lib.hid (HB.out.trans (B1.out.mono HB.out.size))
      have HW1 := Lib.hid hW1
      have hno := Lib.hid (fun h : ¬ (validB (atP ps k) = true ∧ (0 < k → ltB (atP ps (k - 1)) (atP ps k) = true)) => validL_f (ps := ps) fun g => h (g.2 k (by rw [lp.out]; exact hlt)))
      have gk : (k : Int) < (n : Int) := by omega
      have OX := Lib.hid ox
      clear hv ox hp hW1 AT
      cases hv1 : validB p
      · have hr := Lib.hid (hno.out (by rw [HP.out, hv1]; simp))
        go_wp2_with fail
        rw [HW1.out]
        clear k0 k1 k2 k3 k4 k5
        obtain ⟨q0, q1, q2, q3, q4, q5⟩ := A1.out.rg
        have CA := Lib.hid (fun W => is_ofb (ValidPlank_any p W hsz.out) hv1)
        refine wp_region_quiet_below (by kernel_rfl) (by kernel_rfl) ?_; (repeat (go_big_quiet_step ((go_at_call 25; exact Calls.regrown_of (CA.out _))))); refine wpQuiet_nil ?_; intro wq hwq; obtain ⟨⟨dq, osq⟩, hwq2⟩ := hwq; have bq := below_of hwq2; clear hwq2
        clear q0 q1 q2 q3 q4 q5
        have BF := Lib.hid (BW.out.trans (bq.mono BW.out.size))
        clear bq
        go_wp2
        go_ret
        exact ⟨ret_bool hr.out.symm, BF.out⟩
      by_cases h0 : 0 < k
      · have z0 : decide (0 < k) = true := by rw [decide_eq_true_iff]; exact h0
        have wk : IntKind.i64.wrap ((k : Int) - 1) = (k : Int) - 1 := by rw [IntKind.wrap_i64]; omega
        have ek : ((k : Int) - 1).toNat = k - 1 := by omega
        have g1 : (0 : Int) ≤ (k : Int) - 1 := by omega
        have g2 : (k : Int) - 1 < (n : Int) := by omega
        obtain ⟨m0, -, -, -, -, -⟩ := el_own OX.out (show k - 1 < n by omega)
        have r0 := cell_regrown ((B1.out.cell (p := ⟨g, (k - 1) * 6, none⟩) (OX.out.lt g rfl).2).trans m0)
        clear m0
        cases hl : ltB (atP ps (k - 1)) p
        · have hr := Lib.hid (hno.out (by rw [HP.out, hv1, hl]; simp [h0]))
          have hl2 := hl
          unfold ltB at hl2
          clear h0
          go_wp2_with fail
          rw [HW1.out]
          clear k0 k1 k2 k3 k4 k5
          obtain ⟨q0, q1, q2, q3, q4, q5⟩ := A1.out.rg
          have CA := Lib.hid (fun W => is_ofb (ValidPlank_any p W hsz.out) hv1)
          refine wp_region_quiet_below (by kernel_rfl) (by kernel_rfl) ?_; (repeat (go_big_quiet_step ((go_at_call 25; exact Calls.regrown_of (CA.out _))))); refine wpQuiet_nil ?_; intro wq hwq; obtain ⟨⟨dq, osq⟩, hwq2⟩ := hwq; have bq := below_of hwq2; clear hwq2
          clear q0 q1 q2 q3 q4 q5
          have BF := Lib.hid (BW.out.trans (bq.mono BW.out.size))
          clear bq
          go_wp2
          go_ret
          exact ⟨ret_bool hr.out.symm, BF.out⟩
        · have st := Lib.hid (step_v HV.out (by rw [HP.out]; exact hv1) (fun _ => by rw [HP.out]; exact hl))
          have hl2 := hl
          unfold ltB at hl2
          clear h0
          go_wp2_with fail
          rw [HW1.out]
          clear k0 k1 k2 k3 k4 k5
          obtain ⟨q0, q1, q2, q3, q4, q5⟩ := A1.out.rg
          have CA := Lib.hid (fun W => is_ofb (ValidPlank_any p W hsz.out) hv1)
          refine wp_region_quiet_below (by kernel_rfl) (by kernel_rfl) ?_; (repeat (go_big_quiet_step ((go_at_call 25; exact Calls.regrown_of (CA.out _))))); refine wpQuiet_nil ?_; intro wq hwq; obtain ⟨⟨dq, osq⟩, hwq2⟩ := hwq; have bq := below_of hwq2; clear hwq2
          clear q0 q1 q2 q3 q4 q5
          have BF := Lib.hid (BW.out.trans (bq.mono BW.out.size))
          clear bq
          go_wp2
          go_roundw
          case rel => exact ⟨k + 1, by omega, st.out, by go_num, BF.out⟩
          case measure => simp [intOf]; omega
      · have z0 : decide (0 < k) = false := by rw [decide_eq_false_iff_not]; exact h0
        have st := Lib.hid (step_v HV.out (by rw [HP.out]; exact hv1) (fun h => absurd h h0))
        clear h0
        go_wp2_with fail
        rw [HW1.out]
        clear k0 k1 k2 k3 k4 k5
        obtain ⟨q0, q1, q2, q3, q4, q5⟩ := A1.out.rg
        have CA := Lib.hid (fun W => is_ofb (ValidPlank_any p W hsz.out) hv1)
        refine wp_region_quiet_below (by kernel_rfl) (by kernel_rfl) ?_; (repeat (go_big_quiet_step ((go_at_call 25; exact Calls.regrown_of (CA.out _))))); refine wpQuiet_nil ?_; intro wq hwq; obtain ⟨⟨dq, osq⟩, hwq2⟩ := hwq; have bq := below_of hwq2; clear hwq2
        clear q0 q1 q2 q3 q4 q5
        have BF := Lib.hid (BW.out.trans (bq.mono BW.out.size))
        clear bq
        go_wp2
        go_roundw
        case rel => exact ⟨k + 1, by omega, st.out, by go_num, BF.out⟩
        case measure => simp [intOf]; omega
    · obtain rfl : k = n := by omega
      have hr := Lib.hid (show validL ps = decide ((k : Int) ≤ 16) by
        unfold validL
        rw [decide_eq_decide]
        constructor
        · intro h; have := h.1; rw [lp.out] at this; omega
        · intro h; exact ⟨by rw [lp.out]; omega, fun i hi => HV.out i (by rw [lp.out] at hi; exact hi)⟩)
      go_wp2_with (go_at_call 46; refine (few_any _ _ _).mono ?_; rintro e w' ⟨rfl, rfl⟩)
      go_ret
      exact ⟨ret_bool hr.out.symm, HB.out⟩

end Go.Proofs.YtfmbmgdemdbpaaaGreatDoor
