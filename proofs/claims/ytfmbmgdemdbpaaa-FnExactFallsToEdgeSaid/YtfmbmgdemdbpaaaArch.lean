/- Archings: both texts of the test of a grid. -/
import Derived.Test.YtfmbmgdemdbpaaaGridC
namespace Go.Proofs.Ytfmbmgdemdbpaaa
open Go.RowKit Go.Sort

def RowOK (L : Nat) (r : List Int) : Prop := r.length = L ∧ 1 ≤ L ∧ L ≤ 10 ∧ ∀ c, c < r.length → inB (r.getD c 0) 0 1000 = true
instance (L : Nat) (r : List Int) : Decidable (RowOK L r) := by unfold RowOK; infer_instance
def Arch (Z : List (List Int)) : Prop := 1 ≤ Z.length ∧ Z.length ≤ 10 ∧ ∀ i, i < Z.length → RowOK (rowZ Z 0).length (rowZ Z i)
instance (Z : List (List Int)) : Decidable (Arch Z) := by unfold Arch; infer_instance
/-- is a grid an arching? -/
def archB (Z : List (List Int)) : Bool := decide (Arch Z)
theorem archB_t {Z : List (List Int)} (h : Arch Z) : archB Z = true := decide_eq_true h
theorem archB_f {Z : List (List Int)} (h : ¬ Arch Z) : archB Z = false := decide_eq_false h
theorem arch_of {Z : List (List Int)} (h : archB Z = true) : Arch Z := of_decide_eq_true h
theorem rowOK_not {Z : List (List Int)} {i : Nat} (hi : i < Z.length) (h : ¬ RowOK (rowZ Z 0).length (rowZ Z i)) : archB Z = false := archB_f fun g => h (g.2.2 i hi)

theorem isRise_in (n : Int) (w : World) :
    Calls Try.prog 19 #[.int .i64 n] w fun e w' => e = .returned (.bool (inB n 0 1000)) ∧ w = w' := by
  go_enter Try.func19, Try.ntmps19
  go_wp2_with (go_at_call 22; refine (in_any _ _ _ _).mono ?_; rintro e w' ⟨rfl, rfl⟩)
  go_ret
  exact ⟨rfl, rfl⟩

theorem is_of {P : Program} {f : FuncId} {args : Array Value} {w : World} {b c : Bool} (h : Calls P f args w fun e w' => e = .returned (.bool b) ∧ w = w') (hb : b = c) :
    Calls P f args w fun e w' => e = .returned (.bool c) ∧ w = w' := by rw [← hb]; exact h

set_option maxHeartbeats 1600000 in
theorem isGrid_any (A : Option Addr) (n c b : Nat) (Z : List (List Int)) (w : World) (hg : Grid w b A n Z) (hb0 : b ≤ w.heap.size) (hn : n ≤ 1048576) :
    Calls Try.prog 21 #[.slice A n c, .int .i64 10, .int .i64 0, .int .i64 1000] w fun e w' => e = .returned (.bool (archB Z)) ∧ Below w.heap.size w w' := by
  have HL := Lib.hid hg.len
  have HG := Lib.hid hg
  clear hg
  cases h1 : inB n 1 10
  · have hr := Lib.hid (archB_f (Z := Z) fun g => inB_f h1 (by have := g.1; rw [HL.out] at this; omega) (by have := g.2.1; rw [HL.out] at this; omega))
    go_enter Try.func21, Try.ntmps21
    go_wp2_with (go_at_call 24; refine (within_any _ _ _ _).mono ?_; rintro e w' ⟨rfl, rfl⟩)
    go_ret
    exact ⟨ret_bool hr.out.symm, Below.refl _ _⟩
  · have n1 := inB_t h1
    obtain ⟨ad, rfl, hbl⟩ := HG.out.addr (by omega)
    obtain ⟨A0, c0, h0, -, hm0⟩ := HG.out.row ad rfl 0 (by omega)
    have h00 : w.cell? ad = some (.slice A0 (rowZ Z 0).length c0) := by simpa [Addr.add] using h0
    cases h2 : inB (rowZ Z 0).length 1 10
    · have hr := Lib.hid (rowOK_not (Z := Z) (i := 0) (by rw [HL.out]; omega) fun g => inB_f h2 (by have := g.2.1; omega) (by have := g.2.2.1; omega))
      go_enter Try.func21, Try.ntmps21
      go_wp2_with (go_at_call 24; refine (within_any _ _ _ _).mono ?_; rintro e w' ⟨rfl, rfl⟩)
      go_ret
      exact ⟨ret_bool hr.out.symm, Below.refl _ _⟩
    · have n2 := inB_t h2
      go_enter Try.func21, Try.ntmps21
      go_wp2_with (go_at_call 24; refine (within_any _ _ _ _).mono ?_; rintro e w' ⟨rfl, rfl⟩)
      go_loopw [29] (fun i wr => ∃ k : Nat, k ≤ n ∧ (∀ i, i < k → RowOK (rowZ Z 0).length (rowZ Z i)) ∧ i = .int .i64 k ∧ Below w.heap.size w wr) (fun i _ => n - (intOf i).toNat)
      case atStart => exact ⟨0, Nat.zero_le _, fun i hi => by omega, rfl, Below.refl _ _⟩
      case round =>
        obtain ⟨k, hk, hs, rfl, hb⟩ := hrel
        have HS := Lib.hid hs
        have HB := Lib.hid hb
        clear hs hb h0 h00
        by_cases hlt : k < n
        · obtain ⟨Ak, ck, g1w, g2, g3⟩ := HG.out.row ad rfl k hlt
          have g1 : wr.cell? (ad.add k) = some (.slice Ak (rowZ Z k).length ck) := (HB.out.cell (by rw [block_of_add]; omega)).trans g1w
          obtain ⟨A0', c0', f0, -, -⟩ := (HG.out.below (HB.out.mono hb0)).row ad rfl 0 (by omega)
          have f00 : wr.cell? ad = some (.slice A0' (rowZ Z 0).length c0') := by simpa [Addr.add] using f0
          have G2 := Lib.hid g2
          clear g2 f0 g1w
          by_cases hl : (rowZ Z k).length = (rowZ Z 0).length
          · have heq : (((rowZ Z k).length : Int) != ((rowZ Z 0).length : Int)) = false := by simp; omega
            have heq2 : (((rowZ Z k).length : Int) == ((rowZ Z 0).length : Int)) = true := by simp; omega
            have hlen := Lib.hid hl
            have m10 : (rowZ Z k).length ≤ 10 := by omega
            clear hl
            obtain ⟨wo, hwo⟩ : ∃ wo : World, wo = wr := ⟨_, rfl⟩
            have HWO := Lib.hid hwo
            clear hwo
            go_wp2
            go_loopw [42] (fun j wi => ∃ x : Nat, x ≤ (rowZ Z k).length ∧ (∀ y, y < x → inB ((rowZ Z k).getD y 0) 0 1000 = true) ∧ j = .int .i64 x ∧ Below w.heap.size w wi) (fun j _ => (rowZ Z k).length - (intOf j).toNat)
            case atStart => exact ⟨0, Nat.zero_le _, fun y hy => by omega, rfl, HB.out⟩
            case round =>
              obtain ⟨x, hx, hin, rfl, hbi⟩ := hrel
              have HIN := Lib.hid hin
              have HBI := Lib.hid hbi
              clear hin hbi
              by_cases hxl : x < (rowZ Z k).length
              · obtain ⟨a2, u2, rfl, _, hu2, hc2⟩ := (G2.out.below (HBI.out.mono hb0)).at_ hxl
                obtain rfl := iv_at hu2
                clear hu2
                obtain ⟨z, hz⟩ : ∃ z, (rowZ Z k).getD x 0 = z := ⟨_, rfl⟩
                rw [hz] at hc2
                have HZ := Lib.hid hz
                clear hz
                cases hi : inB z 0 1000
                · have hr := Lib.hid (rowOK_not (Z := Z) (i := k) (by rw [HL.out]; exact hlt) fun g => by have := g.2.2.2 x hxl; rw [HZ.out, hi] at this; cases this)
                  go_wp2_with (go_at_call 24; refine (is_of (within_any _ _ _ _) hi).mono ?_; rintro e w' ⟨rfl, rfl⟩)
                  go_ret
                  exact ⟨ret_bool hr.out.symm, HBI.out⟩
                · have st : Hid (∀ y, y < x + 1 → inB ((rowZ Z k).getD y 0) 0 1000 = true) := fun y hy => by
                    by_cases e : y = x
                    · subst e; rw [HZ.out]; exact hi
                    · exact HIN.out y (by omega)
                  go_wp2_with (go_at_call 24; refine (is_of (within_any _ _ _ _) hi).mono ?_; rintro e w' ⟨rfl, rfl⟩)
                  go_roundw
                  case rel => exact ⟨x + 1, by omega, st.out, by go_num, HBI.out⟩
                  case measure => simp [intOf]; omega
              · have hx2 := Lib.hid (show x = (rowZ Z k).length by omega)
                have st : Hid (∀ i, i < k + 1 → RowOK (rowZ Z 0).length (rowZ Z i)) := fun i hi => by
                  by_cases e : i = k
                  · subst e; exact ⟨hlen.out, n2.1 |> fun h => by omega, by omega, fun y hy => HIN.out y (by rw [hx2.out]; exact hy)⟩
                  · exact HS.out i (by omega)
                go_wp2
                go_roundw
                case rel => exact ⟨k + 1, by omega, st.out, by go_num, HBI.out⟩
                case measure => simp [intOf]; omega
          · have hne : (((rowZ Z k).length : Int) != ((rowZ Z 0).length : Int)) = true := by simp; omega
            have hne2 : (((rowZ Z k).length : Int) == ((rowZ Z 0).length : Int)) = false := by simp; omega
            have hr := Lib.hid (rowOK_not (Z := Z) (i := k) (by rw [HL.out]; exact hlt) fun g => hl g.1)
            clear hl
            go_wp2
            go_ret
            exact ⟨ret_bool hr.out.symm, HB.out⟩
        · obtain rfl : k = n := by omega
          have hr := Lib.hid (archB_t (Z := Z) ⟨by rw [HL.out]; omega, by rw [HL.out]; omega, fun i hi => HS.out i (by rw [HL.out] at hi; exact hi)⟩)
          go_wp2
          go_ret
          exact ⟨ret_bool hr.out.symm, HB.out⟩

set_option maxHeartbeats 3000000 in
theorem l07Ok_any (A : Option Addr) (n c b : Nat) (Z : List (List Int)) (w : World) (hg : Grid w b A n Z) (hb0 : b ≤ w.heap.size) (hn : n ≤ 1048576) :
    Calls Try.prog 10 #[.slice A n c] w fun e w' => e = .returned (.bool (archB Z)) ∧ Below w.heap.size w w' := by
  have HL := Lib.hid hg.len
  have HG := Lib.hid hg
  clear hg
  by_cases hn0 : n = 0
  · subst hn0
    have hr := Lib.hid (archB_f (Z := Z) fun g => by have := g.1; rw [HL.out] at this; omega)
    go_enter Try.func10, Try.ntmps10
    go_wp2_with fail
    refine wp_loop_rounds 1 ?_
    rw [rounds_succ]
    go_wp2
    go_ret
    exact ⟨ret_bool hr.out.symm, Below.refl _ _⟩
  · obtain ⟨ad, rfl, hbl⟩ := HG.out.addr (by omega)
    go_enter Try.func10, Try.ntmps10
    go_wp2_with fail
    go_loopw [3] (fun i wr => ∃ k : Nat, k ≤ n ∧ (∀ i, i < k → RowOK (rowZ Z 0).length (rowZ Z i)) ∧ i = .int .i64 k ∧ Below w.heap.size w wr) (fun i _ => n - (intOf i).toNat)
    case atStart => exact ⟨0, Nat.zero_le _, fun i hi => by omega, rfl, Below.refl _ _⟩
    case round =>
      obtain ⟨k, hk, hs, rfl, hb⟩ := hrel
      have HS := Lib.hid hs
      have HB := Lib.hid hb
      clear hs hb
      by_cases hlt : k < n
      · obtain ⟨Ak, ck, g1w, g2, g3⟩ := HG.out.row ad rfl k hlt
        have g1 : wr.cell? (ad.add k) = some (.slice Ak (rowZ Z k).length ck) := (HB.out.cell (by rw [block_of_add]; omega)).trans g1w
        obtain ⟨A0', c0', f0, -, m0⟩ := (HG.out.below (HB.out.mono hb0)).row ad rfl 0 (by omega)
        have f00 : wr.cell? ad = some (.slice A0' (rowZ Z 0).length c0') := by simpa [Addr.add] using f0
        have G2 := Lib.hid g2
        have G1W := Lib.hid g1w
        clear g2 f0 g1w
        have q1 : (k : Int) < (n : Int) := by omega
        have q0 : (0 : Int) ≤ (k : Int) := by omega
        have q2 : (0 : Int) < (n : Int) := by omega
        by_cases hl : (rowZ Z k).length = (rowZ Z 0).length
        · have heq : (((rowZ Z k).length : Int) != ((rowZ Z 0).length : Int)) = false := by simp; omega
          have heq2 : (((rowZ Z k).length : Int) == ((rowZ Z 0).length : Int)) = true := by simp; omega
          have hlen := Lib.hid hl
          by_cases hz : (rowZ Z k).length = 0
          · have hr := Lib.hid (rowOK_not (Z := Z) (i := k) (by rw [HL.out]; exact hlt) fun g => by have := g.1; have := g.2.1; omega)
            have z1 : (((rowZ Z k).length : Int) == 0) = true := by rw [beq_iff_eq]; omega
            clear hl hz
            go_wp2_with fail
            go_quiet (fail)
            go_wp2
            go_ret
            exact ⟨ret_bool hr.out.symm, below_drewN HB.out _⟩
          · have z1 : (((rowZ Z k).length : Int) == 0) = false := by rw [beq_eq_false_iff_ne]; omega
            by_cases h10 : 10 < (rowZ Z k).length
            · have hr := Lib.hid (rowOK_not (Z := Z) (i := k) (by rw [HL.out]; exact hlt) fun g => by have := g.1; have := g.2.2.1; omega)
              have z2 : (10 : Int) < ((rowZ Z k).length : Int) := by omega
              clear hl hz
              go_wp2_with fail
              go_quiet (fail)
              go_wp2
              go_ret
              exact ⟨ret_bool hr.out.symm, below_drewN HB.out _⟩
            · have z2 : ¬ (10 : Int) < ((rowZ Z k).length : Int) := by omega
              have z3 : ((rowZ Z k).length : Int) ≤ 10 := by omega
              have z4 : 1 ≤ (rowZ Z k).length := by omega
              clear hl hz
              go_wp2_with fail
              go_quiet (fail)
              have HB1 := Lib.hid (below_drewN HB.out nq)
              clear g1 f00
              obtain ⟨w2, hw2⟩ : ∃ w2 : World, w2 = wr.drewN nq := ⟨_, rfl⟩
              have HW2 := Lib.hid hw2
              clear hw2
              go_wp2
              go_loopw [4] (fun j wi => ∃ x : Nat, x ≤ (rowZ Z k).length ∧ (∀ y, y < x → inB ((rowZ Z k).getD y 0) 0 1000 = true) ∧ j = .int .i64 x ∧ Below w.heap.size w wi) (fun j _ => (rowZ Z k).length - (intOf j).toNat)
              case atStart => exact ⟨0, Nat.zero_le _, fun y hy => by omega, rfl, HB1.out⟩
              case round =>
                obtain ⟨x, hx, hin, rfl, hbi⟩ := hrel
                have HIN := Lib.hid hin
                have HBI := Lib.hid hbi
                clear hin hbi
                by_cases hxl : x < (rowZ Z k).length
                · have hc1 := (HBI.out.cell (p := ad.add k) (by rw [block_of_add]; omega)).trans G1W.out
                  obtain ⟨a2, u2, rfl, _, hu2, hc2⟩ := (G2.out.below (HBI.out.mono hb0)).at_ hxl
                  obtain rfl := iv_at hu2
                  clear hu2
                  obtain ⟨z, hz⟩ : ∃ z, (rowZ Z k).getD x 0 = z := ⟨_, rfl⟩
                  rw [hz] at hc2
                  have HZ := Lib.hid hz
                  clear hz
                  cases hi : inB z 0 1000
                  · have hr := Lib.hid (rowOK_not (Z := Z) (i := k) (by rw [HL.out]; exact hlt) fun g => by have := g.2.2.2 x hxl; rw [HZ.out, hi] at this; cases this)
                    go_wp2_with (go_at_call 19; refine (is_of (isRise_in _ _) hi).mono ?_; rintro e w' ⟨rfl, rfl⟩)
                    go_ret
                    exact ⟨ret_bool hr.out.symm, HBI.out⟩
                  · have st : Hid (∀ y, y < x + 1 → inB ((rowZ Z k).getD y 0) 0 1000 = true) := fun y hy => by
                      by_cases e : y = x
                      · subst e; rw [HZ.out]; exact hi
                      · exact HIN.out y (by omega)
                    go_wp2_with (go_at_call 19; refine (is_of (isRise_in _ _) hi).mono ?_; rintro e w' ⟨rfl, rfl⟩)
                    go_roundw
                    case rel => exact ⟨x + 1, by omega, st.out, by go_num, HBI.out⟩
                    case measure => simp [intOf]; omega
                · have hx2 := Lib.hid (show x = (rowZ Z k).length by omega)
                  have hc1 := (HBI.out.cell (p := ad.add k) (by rw [block_of_add]; omega)).trans G1W.out
                  have st : Hid (∀ i, i < k + 1 → RowOK (rowZ Z 0).length (rowZ Z i)) := fun i hi => by
                    by_cases e : i = k
                    · subst e; exact ⟨hlen.out, by have := hlen.out; omega, by have := hlen.out; omega, fun y hy => HIN.out y (by rw [hx2.out]; exact hy)⟩
                    · exact HS.out i (by omega)
                  go_wp2
                  go_roundw
                  case rel => exact ⟨k + 1, by omega, st.out, by go_num, HBI.out⟩
                  case measure => simp [intOf]; omega
        · have hne : (((rowZ Z k).length : Int) != ((rowZ Z 0).length : Int)) = true := by simp; omega
          have hne2 : (((rowZ Z k).length : Int) == ((rowZ Z 0).length : Int)) = false := by simp; omega
          have hr := Lib.hid (rowOK_not (Z := Z) (i := k) (by rw [HL.out]; exact hlt) fun g => hl g.1)
          clear hl
          go_wp2_with fail
          go_quiet (fail)
          go_wp2
          go_ret
          exact ⟨ret_bool hr.out.symm, below_drewN HB.out _⟩
      · obtain rfl : k = n := by omega
        by_cases h10 : k ≤ 10
        · have hr := Lib.hid (archB_t (Z := Z) ⟨by rw [HL.out]; omega, by rw [HL.out]; omega, fun i hi => HS.out i (by rw [HL.out] at hi; exact hi)⟩)
          go_wp2
          go_ret
          exact ⟨ret_bool (by rw [hr.out]; simp; omega), HB.out⟩
        · have hr := Lib.hid (archB_f (Z := Z) fun g => h10 (by have := g.2.1; rw [HL.out] at this; exact this))
          go_wp2
          go_ret
          exact ⟨ret_bool (by rw [hr.out]; simp; omega), HB.out⟩
end Go.Proofs.Ytfmbmgdemdbpaaa
