/- For all arguments, the program's OvalOutline returns what the reference's returns, and memory of its own. Conditions: none. -/
import Derived.Test.YtfnlnkfihldoeaaArcs
import Derived.Test.YtfnlnkfihldoeaaArch
import Derived.BigRegion
import Derived.Deep.RegionLaw
import Derived.ProofKit
import Derived.OpenShut
import Derived.ShutString
import Derived.ChangeOld
import Derived.Below
namespace Go.Proofs.Ytfnlnkfihldoeaa.fnExactOvalOutline
open Go.ChangeShapes Go.WideShapes Go.ChangeAt Go.RowKit
open Go.ChangeMaps (open_string shut_string)
set_option linter.unusedVariables false
open Go.Sort

def lst (k m : Int) : List Int := [0, (-4 * k), (3 * k + 3 * m), (4 * m), (-(3 * k + 3 * m)), (4 * m), (-3 * k), 0, (-(3 * k + 3 * m)), (4 * m), (-(3 * k + 3 * m)), (-(4 * m)), 0, (4 * k), (-(3 * k + 3 * m)), (-(4 * m)), (3 * k + 3 * m), (-(4 * m)), (3 * k), 0, (3 * k + 3 * m), (-(4 * m)), (3 * k + 3 * m), (4 * m)]
def okB (k m : Int) : Bool := inB k 0 10000 && inB m 1 10000
def cod (k m : Int) : Int := if okB k m then 0 else 2
def nres (k m : Int) : Nat := if okB k m then 4 else 0
def rlst (k m : Int) : List Int := if okB k m then lst k m else []
def Post (k m : Int) (w : World) (e : Ending) (w' : World) : Prop :=
  ∃ v, e = .returned (.tuple #[v, .int .i64 (cod k m)]) ∧ w'.ownsRow w.heap.size 50 6 v (nres k m) (iv (rlst k m)) ∧ Below w.heap.size w w'
theorem nres_le (k m : Int) : nres k m ≤ 1048576 := by unfold nres; split <;> omega
theorem ret_v {v : Value} {a b : Int} (h : a = b) : Ending.returned (.tuple #[v, .int .i64 a]) = .returned (.tuple #[v, .int .i64 b]) := by rw [h]
theorem post_nil {k m : Int} {w w' : World} (h : okB k m = false) (hb : Below w.heap.size w w') : Post k m w (.returned (.tuple #[.slice none 0 0, .int .i64 2])) w' :=
  ⟨_, ret_v (by simp [cod, h]), by simpa [nres, rlst, h, iv] using World.ownsRow_nil w' w.heap.size 50 6, hb⟩

theorem l05Arc_any (x0 x1 x2 x3 x4 x5 : Int) (w : World) :
    Calls Try.prog 71 #[.int .i64 x0, .int .i64 x1, .int .i64 x2, .int .i64 x3, .int .i64 x4, .int .i64 x5] w fun e w' => e = .returned (.agg #[.int .i64 x0, .int .i64 x1, .int .i64 x2, .int .i64 x3, .int .i64 x4, .int .i64 x5]) ∧ Below w.heap.size w w' := by
  have b := Lib.hid ((Below.refl w.heap.size w).alloc (Nat.le_refl _) (.cells #[.int .i64 x0, .int .i64 x1, .int .i64 x2, .int .i64 x3, .int .i64 x4, .int .i64 x5] 50))
  go_enter Try.func71, Try.ntmps71
  go_wp2
  refine bodyPost_ret (v := .agg #[.int .i64 x0, .int .i64 x1, .int .i64 x2, .int .i64 x3, .int .i64 x4, .int .i64 x5]) (by simp [results, Try.results71, go_sem]) rfl ?_
  exact ⟨rfl, b.out⟩

set_option maxHeartbeats 2000000 in
theorem oval_any (k m : Int) (w : World) (k0 : 0 ≤ k) (k1 : k ≤ 10000) (m0 : 1 ≤ m) (m1 : m ≤ 10000) :
    Calls Try.prog 42 #[.int .i64 k, .int .i64 m] w fun e w' => ∃ v, e = .returned v ∧ w'.ownsRow w.heap.size 50 6 v 4 (iv (lst k m)) ∧ Below w.heap.size w w' := by
  go_enter Try.func42, Try.ntmps42
  go_wp2_with fail
  refine (l05Arc_any _ _ _ _ _ _ _).mono ?_
  rintro e w1 ⟨rfl, b1⟩
  have B1 := Lib.hid (b1)
  clear b1
  go_wp2_with fail
  refine (l05Arc_any _ _ _ _ _ _ _).mono ?_
  rintro e w2 ⟨rfl, b2⟩
  have B2 := Lib.hid (B1.out.trans (b2.mono B1.out.size))
  clear b2
  go_wp2_with fail
  refine (l05Arc_any _ _ _ _ _ _ _).mono ?_
  rintro e w3 ⟨rfl, b3⟩
  have B3 := Lib.hid (B2.out.trans (b3.mono B2.out.size))
  clear b3
  go_wp2_with fail
  refine (l05Arc_any _ _ _ _ _ _ _).mono ?_
  rintro e w4 ⟨rfl, b4⟩
  have B4 := Lib.hid (B3.out.trans (b4.mono B3.out.size))
  clear b4
  have LIT := Lib.hid (World.ownsRow_lit (base := w.heap.size) (e := 50) (size := 6) w4 #[.int .i64 0, .int .i64 (-4 * k), .int .i64 (3 * k + 3 * m), .int .i64 (4 * m), .int .i64 (-(3 * k + 3 * m)), .int .i64 (4 * m), .int .i64 (-3 * k), .int .i64 0, .int .i64 (-(3 * k + 3 * m)), .int .i64 (4 * m), .int .i64 (-(3 * k + 3 * m)), .int .i64 (-(4 * m)), .int .i64 0, .int .i64 (4 * k), .int .i64 (-(3 * k + 3 * m)), .int .i64 (-(4 * m)), .int .i64 (3 * k + 3 * m), .int .i64 (-(4 * m)), .int .i64 (3 * k), .int .i64 0, .int .i64 (3 * k + 3 * m), .int .i64 (-(4 * m)), .int .i64 (3 * k + 3 * m), .int .i64 (4 * m)] 4 B4.out.size (by simp [maxLen]) rfl)
  go_wp2
  go_ret
  exact ⟨_, rfl, by simpa [iv, lst] using LIT.out, B4.out.alloc B4.out.size _⟩

set_option maxHeartbeats 2000000 in
theorem specF_any (k m : Int) (w : World) : Calls Try.prog 13 #[.int .i64 k, .int .i64 m] w (Post k m w) := by
  cases h0 : inB k 0 10000
  · have hr := Lib.hid (show okB k m = false by simp [okB, h0])
    go_enter Try.func13, Try.ntmps13
    go_wp2_with (go_at_call 41; refine (is_of (in_any _ _ _ _) h0).mono ?_; rintro e w' ⟨rfl, rfl⟩)
    go_ret2
    exact post_nil hr.out (Below.refl _ _)
  cases h1 : inB m 1 10000
  · have hr := Lib.hid (show okB k m = false by simp [okB, h1])
    go_enter Try.func13, Try.ntmps13
    go_wp2_with fail
    refine (is_of (in_any _ _ _ _) h0).mono ?_
    rintro e w' ⟨rfl, rfl⟩
    go_wp2_with (go_at_call 41; refine (is_of (in_any _ _ _ _) h1).mono ?_; rintro e w' ⟨rfl, rfl⟩)
    go_ret2
    exact post_nil hr.out (Below.refl _ _)
  · have hr := Lib.hid (show okB k m = true by simp [okB, h0, h1])
    have hk := inB_t h0
    have hm := inB_t h1
    go_enter Try.func13, Try.ntmps13
    go_wp2_with fail
    refine (is_of (in_any _ _ _ _) h0).mono ?_
    rintro e w' ⟨rfl, rfl⟩
    go_wp2_with fail
    refine (is_of (in_any _ _ _ _) h1).mono ?_
    rintro e w' ⟨rfl, rfl⟩
    go_wp2_with fail
    refine (oval_any k m w hk.1 hk.2 hm.1 hm.2).mono ?_
    rintro e w2 ⟨v, rfl, o2, b2⟩
    have O2 := Lib.hid o2
    have B2 := Lib.hid b2
    clear o2 b2
    go_wp2
    go_ret2
    exact ⟨_, ret_v (by simp [cod, hr.out]), by simpa [nres, rlst, hr.out] using O2.out, B2.out⟩

theorem cix0 (a b c d e f g h : Int) (w : World) : (Instr.index 47 (.agg #[.int .i64 a, .int .i64 b, .int .i64 c, .int .i64 d, .int .i64 e, .int .i64 f, .int .i64 g, .int .i64 h]) (.int .i64 0)).run Try.prog w = .ok (.agg #[.int .i64 a, .int .i64 b]) w := by kernel_rfl
theorem cix1 (a b c d e f g h : Int) (w : World) : (Instr.index 47 (.agg #[.int .i64 a, .int .i64 b, .int .i64 c, .int .i64 d, .int .i64 e, .int .i64 f, .int .i64 g, .int .i64 h]) (.int .i64 1)).run Try.prog w = .ok (.agg #[.int .i64 c, .int .i64 d]) w := by kernel_rfl
theorem cix2 (a b c d e f g h : Int) (w : World) : (Instr.index 47 (.agg #[.int .i64 a, .int .i64 b, .int .i64 c, .int .i64 d, .int .i64 e, .int .i64 f, .int .i64 g, .int .i64 h]) (.int .i64 2)).run Try.prog w = .ok (.agg #[.int .i64 e, .int .i64 f]) w := by kernel_rfl
theorem cix3 (a b c d e f g h : Int) (w : World) : (Instr.index 47 (.agg #[.int .i64 a, .int .i64 b, .int .i64 c, .int .i64 d, .int .i64 e, .int .i64 f, .int .i64 g, .int .i64 h]) (.int .i64 3)).run Try.prog w = .ok (.agg #[.int .i64 g, .int .i64 h]) w := by kernel_rfl
theorem infoA : (Try.prog.info? 50).map (fun i => (i.zero, i.size, i.bytes)) = some (some (.agg #[.int .i64 0, .int .i64 0, .int .i64 0, .int .i64 0, .int .i64 0, .int .i64 0]), 6, 48) := by kernel_rfl
/-- the first j arcs -/
def upto (k m : Int) (j : Nat) : List Int := (lst k m).take (j * 6)

set_option maxHeartbeats 4000000 in
theorem implF_any (k m : Int) (w : World) : Calls Try.prog 14 #[.int .i64 k, .int .i64 m] w (Post k m w) := by
  cases h0 : inB k 0 10000
  · have hr := Lib.hid (show okB k m = false by simp [okB, h0])
    go_enter Try.func14, Try.ntmps14
    go_wp2_with (go_at_call 43; refine (is_of (within_any _ _ _ _) h0).mono ?_; rintro e w' ⟨rfl, rfl⟩)
    go_ret2
    exact post_nil hr.out (Below.refl _ _)
  cases h1 : inB m 1 10000
  · have hr := Lib.hid (show okB k m = false by simp [okB, h1])
    go_enter Try.func14, Try.ntmps14
    go_wp2_with fail
    refine (is_of (within_any _ _ _ _) h0).mono ?_
    rintro e w' ⟨rfl, rfl⟩
    go_wp2_with (go_at_call 43; refine (is_of (within_any _ _ _ _) h1).mono ?_; rintro e w' ⟨rfl, rfl⟩)
    go_ret2
    exact post_nil hr.out (Below.refl _ _)
  · have hr := Lib.hid (show okB k m = true by simp [okB, h0, h1])
    have hk := inB_t h0
    have hm := inB_t h1
    obtain ⟨i0, hi0, hz0, hz1, hz2⟩ := info_parts infoA
    go_enter Try.func14, Try.ntmps14
    go_wp2_with fail
    refine (is_of (within_any _ _ _ _) h0).mono ?_
    rintro e w' ⟨rfl, rfl⟩
    go_wp2_with fail
    refine (is_of (within_any _ _ _ _) h1).mono ?_
    rintro e w' ⟨rfl, rfl⟩
    obtain ⟨W0, hW0⟩ : ∃ W0, ((w.alloc (.cells #[.int .i64 0, .int .i64 (-4 * k), .int .i64 (-3 * k), .int .i64 0, .int .i64 0, .int .i64 (4 * k), .int .i64 (3 * k), .int .i64 0] 47)).alloc (.cells #[.int .i64 (3 * k + 3 * m), .int .i64 (4 * m), .int .i64 (-(3 * k + 3 * m)), .int .i64 (4 * m), .int .i64 (-(3 * k + 3 * m)), .int .i64 (-(4 * m)), .int .i64 (3 * k + 3 * m), .int .i64 (-(4 * m)), .int .i64 (3 * k + 3 * m), .int .i64 (4 * m)] 48)).alloc (.cells #[] 50) = W0 := ⟨_, rfl⟩
    have PP := Lib.hid (show Blk W0 (w.heap.size + 1) 48 #[.int .i64 (3 * k + 3 * m), .int .i64 (4 * m), .int .i64 (-(3 * k + 3 * m)), .int .i64 (4 * m), .int .i64 (-(3 * k + 3 * m)), .int .i64 (-(4 * m)), .int .i64 (3 * k + 3 * m), .int .i64 (-(4 * m)), .int .i64 (3 * k + 3 * m), .int .i64 (4 * m)] by rw [← hW0]; exact (show Blk _ (w.heap.size + 1) _ _ by simpa using Blk.new (w.alloc (.cells #[.int .i64 0, .int .i64 (-4 * k), .int .i64 (-3 * k), .int .i64 0, .int .i64 0, .int .i64 (4 * k), .int .i64 (3 * k), .int .i64 0] 47)) 48 #[.int .i64 (3 * k + 3 * m), .int .i64 (4 * m), .int .i64 (-(3 * k + 3 * m)), .int .i64 (4 * m), .int .i64 (-(3 * k + 3 * m)), .int .i64 (-(4 * m)), .int .i64 (3 * k + 3 * m), .int .i64 (-(4 * m)), .int .i64 (3 * k + 3 * m), .int .i64 (4 * m)]).alloc _)
    have O0 := Lib.hid (show W0.ownsRow w.heap.size 50 6 (.slice (some ⟨w.heap.size + 1 + 1, 0, none⟩) 0 0) 0 (iv (upto k m 0)) by rw [← hW0]; simpa [upto, iv] using World.ownsRow_lit (base := w.heap.size) (e := 50) (size := 6) ((w.alloc (.cells #[.int .i64 0, .int .i64 (-4 * k), .int .i64 (-3 * k), .int .i64 0, .int .i64 0, .int .i64 (4 * k), .int .i64 (3 * k), .int .i64 0] 47)).alloc (.cells #[.int .i64 (3 * k + 3 * m), .int .i64 (4 * m), .int .i64 (-(3 * k + 3 * m)), .int .i64 (4 * m), .int .i64 (-(3 * k + 3 * m)), .int .i64 (-(4 * m)), .int .i64 (3 * k + 3 * m), .int .i64 (-(4 * m)), .int .i64 (3 * k + 3 * m), .int .i64 (4 * m)] 48)) #[] 0 (by simp; omega) (by simp [maxLen]) rfl)
    have B0 := Lib.hid (show Below w.heap.size w W0 by rw [← hW0]; exact (((Below.refl _ _).alloc (Nat.le_refl _) _).alloc (by simp) _).alloc (by simp; omega) _)
    have HW := Lib.hid hW0
    clear hW0
    go_wp2_with fail
    rw [HW.out]
    go_loopw [10, 63] (fun v y wr => ∃ j : Nat, j ≤ 4 ∧ y = .int .i64 j ∧ wr.ownsRow w.heap.size 50 6 v j (iv (upto k m j)) ∧ Blk wr (w.heap.size + 1) 48 #[.int .i64 (3 * k + 3 * m), .int .i64 (4 * m), .int .i64 (-(3 * k + 3 * m)), .int .i64 (4 * m), .int .i64 (-(3 * k + 3 * m)), .int .i64 (-(4 * m)), .int .i64 (3 * k + 3 * m), .int .i64 (-(4 * m)), .int .i64 (3 * k + 3 * m), .int .i64 (4 * m)] ∧ Below w.heap.size w wr) (fun _ y _ => 4 - (intOf y).toNat)
    case atStart => exact ⟨0, by omega, rfl, O0.out, PP.out, B0.out⟩
    case round =>
      obtain ⟨j, hj, rfl, ho, hp, hb⟩ := hrel
      have HO := Lib.hid ho
      have HP := Lib.hid hp
      have HB := Lib.hid hb
      clear ho hp hb
      obtain rfl | rfl | rfl | rfl | rfl : j = 0 ∨ j = 1 ∨ j = 2 ∨ j = 3 ∨ j = 4 := by omega
      · have ix := cix0 0 (-4 * k) (-3 * k) 0 0 (4 * k) (3 * k) 0
        obtain ⟨W1, hW1⟩ : ∃ W1, wr.alloc (.cells #[.int .i64 0, .int .i64 (-4 * k)] 46) = W1 := ⟨_, rfl⟩
        have PB := Blk.new wr 46 #[.int .i64 0, .int .i64 (-4 * k)]
        rw [hW1] at PB
        have O1 := Lib.hid (show W1.ownsRow w.heap.size 50 6 _ 0 (iv (upto k m 0)) by rw [← hW1]; exact HO.out.alloc _)
        have PW := Lib.hid (show Blk W1 (w.heap.size + 1) 48 #[.int .i64 (3 * k + 3 * m), .int .i64 (4 * m), .int .i64 (-(3 * k + 3 * m)), .int .i64 (4 * m), .int .i64 (-(3 * k + 3 * m)), .int .i64 (-(4 * m)), .int .i64 (3 * k + 3 * m), .int .i64 (-(4 * m)), .int .i64 (3 * k + 3 * m), .int .i64 (4 * m)] by rw [← hW1]; exact HP.out.alloc _)
        have B1 := Lib.hid (show Below w.heap.size w W1 by rw [← hW1]; exact HB.out.alloc HB.out.size _)
        have c0 : W1.cell? ⟨wr.heap.size, 0, none⟩ = some (.int .i64 0) := PB.cell 0
        have c1 : W1.cell? ⟨wr.heap.size, 1, none⟩ = some (.int .i64 (-4 * k)) := PB.cell 1
        have d0 : W1.cell? ⟨w.heap.size + 1, 0, none⟩ = some (.int .i64 (3 * k + 3 * m)) := PW.out.cell 0
        have d1 : W1.cell? ⟨w.heap.size + 1, 1, none⟩ = some (.int .i64 (4 * m)) := PW.out.cell 1
        have d2 : W1.cell? ⟨w.heap.size + 1, 2, none⟩ = some (.int .i64 (-(3 * k + 3 * m))) := PW.out.cell 2
        have d3 : W1.cell? ⟨w.heap.size + 1, 3, none⟩ = some (.int .i64 (4 * m)) := PW.out.cell 3
        have HW1 := Lib.hid hW1
        have st := Lib.hid (show iv (upto k m 1) = iv (upto k m 0) ++ [.int .i64 0, .int .i64 (-4 * k), .int .i64 (3 * k + 3 * m), .int .i64 (4 * m), .int .i64 (-(3 * k + 3 * m)), .int .i64 (4 * m)] by simp [upto, lst, iv])
        have wb : IntKind.i64.wrap (0 + 1) = 1 := by rw [IntKind.wrap_i64]; omega
        have wc : IntKind.i64.wrap 1 = 1 := by rw [IntKind.wrap_i64]; omega
        clear PB hW1
        go_wp2_with fail
        rw [HW1.out]
        have hown2 := Lib.hid (fun o => (show (W1.drew.alloc o).ownsRow w.heap.size 50 6 _ 0 (iv (upto k m 0)) from O1.out.alloc o))
        have hnew := Lib.hid (show ∀ (q : Nat) (u : Value), ([.int .i64 0, .int .i64 (-4 * k), .int .i64 (3 * k + 3 * m), .int .i64 (4 * m), .int .i64 (-(3 * k + 3 * m)), .int .i64 (4 * m)] : List Value)[q]? = some u → (W1.drew.alloc (.cells #[.int .i64 0, .int .i64 (-4 * k), .int .i64 (3 * k + 3 * m), .int .i64 (4 * m), .int .i64 (-(3 * k + 3 * m)), .int .i64 (4 * m)] 50)).cell? ((⟨W1.heap.size, 0, none⟩ : Addr).add q) = some u from fun q u hu => by
          rw [add_zero_at]
          have := (Blk.new W1.drew 50 #[.int .i64 0, .int .i64 (-4 * k), .int .i64 (3 * k + 3 * m), .int .i64 (4 * m), .int .i64 (-(3 * k + 3 * m)), .int .i64 (4 * m)]).cell q
          exact this.trans (by simpa using hu))
        have hone := Lib.hid (show ∀ u ∈ ([.int .i64 0, .int .i64 (-4 * k), .int .i64 (3 * k + 3 * m), .int .i64 (4 * m), .int .i64 (-(3 * k + 3 * m)), .int .i64 (4 * m)] : List Value), u.oneCell' = true from fun u hu => by simp at hu; rcases hu with rfl | rfl | rfl | rfl | rfl | rfl <;> rfl)
        have hbs := Lib.hid B1.out.size
        go_region_law (refine step_append_lies _ rfl (.tmp 67) (.tmp 77) 22 rfl w.heap.size 50 i0 (.agg #[.int .i64 0, .int .i64 0, .int .i64 0, .int .i64 0, .int .i64 0, .int .i64 0]) 6 48 Try.underlying22 hi0 hz0 hz1 hz2 rfl (by decide) _ 0 (iv (upto k m 0)) (by simp [Act.eval]) (hown2.out _) ⟨W1.heap.size, 0, none⟩ 1 1 [.int .i64 0, .int .i64 (-4 * k), .int .i64 (3 * k + 3 * m), .int .i64 (4 * m), .int .i64 (-(3 * k + 3 * m)), .int .i64 (4 * m)] (by simp [Act.eval]) rfl hnew.out hone.out (by decide) (by simp [maxLen]) (by decide) (by have := hbs.out; simp; omega) _ rfl ?_; intro g cap w5 hown hgrow hat hlt; have HO5 := Lib.hid hown; have HG5 := Lib.hid hgrow; clear hown hgrow hat hlt)
        all_goals
          go_wp2
          go_roundw
          case rel => exact ⟨1, by omega, by go_num, by rw [st.out]; exact HO5.out, (PW.out.drew.alloc _).grown HG5.out (fun e => own_blk_ne (hown2.out (.cells #[.int .i64 0, .int .i64 (-4 * k), .int .i64 (3 * k + 3 * m), .int .i64 (4 * m), .int .i64 (-(3 * k + 3 * m)), .int .i64 (4 * m)] 50)) (PW.out.drew.alloc (.cells #[.int .i64 0, .int .i64 (-4 * k), .int .i64 (3 * k + 3 * m), .int .i64 (4 * m), .int .i64 (-(3 * k + 3 * m)), .int .i64 (4 * m)] 50)) (by decide) e.symm), ((below_drewN B1.out 1).alloc B1.out.size _).grown HG5.out (by have := hbs.out; simp; omega) (fun q hq => ((hown2.out (.cells #[.int .i64 0, .int .i64 (-4 * k), .int .i64 (3 * k + 3 * m), .int .i64 (4 * m), .int .i64 (-(3 * k + 3 * m)), .int .i64 (4 * m)] 50)).lt q hq).1)⟩
          case measure => simp [intOf]
      · have ix := cix1 0 (-4 * k) (-3 * k) 0 0 (4 * k) (3 * k) 0
        obtain ⟨W1, hW1⟩ : ∃ W1, wr.alloc (.cells #[.int .i64 (-3 * k), .int .i64 0] 46) = W1 := ⟨_, rfl⟩
        have PB := Blk.new wr 46 #[.int .i64 (-3 * k), .int .i64 0]
        rw [hW1] at PB
        have O1 := Lib.hid (show W1.ownsRow w.heap.size 50 6 _ 1 (iv (upto k m 1)) by rw [← hW1]; exact HO.out.alloc _)
        have PW := Lib.hid (show Blk W1 (w.heap.size + 1) 48 #[.int .i64 (3 * k + 3 * m), .int .i64 (4 * m), .int .i64 (-(3 * k + 3 * m)), .int .i64 (4 * m), .int .i64 (-(3 * k + 3 * m)), .int .i64 (-(4 * m)), .int .i64 (3 * k + 3 * m), .int .i64 (-(4 * m)), .int .i64 (3 * k + 3 * m), .int .i64 (4 * m)] by rw [← hW1]; exact HP.out.alloc _)
        have B1 := Lib.hid (show Below w.heap.size w W1 by rw [← hW1]; exact HB.out.alloc HB.out.size _)
        have c0 : W1.cell? ⟨wr.heap.size, 0, none⟩ = some (.int .i64 (-3 * k)) := PB.cell 0
        have c1 : W1.cell? ⟨wr.heap.size, 1, none⟩ = some (.int .i64 0) := PB.cell 1
        have d0 : W1.cell? ⟨w.heap.size + 1, 2, none⟩ = some (.int .i64 (-(3 * k + 3 * m))) := PW.out.cell 2
        have d1 : W1.cell? ⟨w.heap.size + 1, 3, none⟩ = some (.int .i64 (4 * m)) := PW.out.cell 3
        have d2 : W1.cell? ⟨w.heap.size + 1, 4, none⟩ = some (.int .i64 (-(3 * k + 3 * m))) := PW.out.cell 4
        have d3 : W1.cell? ⟨w.heap.size + 1, 5, none⟩ = some (.int .i64 (-(4 * m))) := PW.out.cell 5
        have HW1 := Lib.hid hW1
        have st := Lib.hid (show iv (upto k m 2) = iv (upto k m 1) ++ [.int .i64 (-3 * k), .int .i64 0, .int .i64 (-(3 * k + 3 * m)), .int .i64 (4 * m), .int .i64 (-(3 * k + 3 * m)), .int .i64 (-(4 * m))] by simp [upto, lst, iv])
        have wb : IntKind.i64.wrap (1 + 1) = 2 := by rw [IntKind.wrap_i64]; omega
        have wc : IntKind.i64.wrap 2 = 2 := by rw [IntKind.wrap_i64]; omega
        clear PB hW1
        go_wp2_with fail
        rw [HW1.out]
        have hown2 := Lib.hid (fun o => (show (W1.drew.alloc o).ownsRow w.heap.size 50 6 _ 1 (iv (upto k m 1)) from O1.out.alloc o))
        have hnew := Lib.hid (show ∀ (q : Nat) (u : Value), ([.int .i64 (-3 * k), .int .i64 0, .int .i64 (-(3 * k + 3 * m)), .int .i64 (4 * m), .int .i64 (-(3 * k + 3 * m)), .int .i64 (-(4 * m))] : List Value)[q]? = some u → (W1.drew.alloc (.cells #[.int .i64 (-3 * k), .int .i64 0, .int .i64 (-(3 * k + 3 * m)), .int .i64 (4 * m), .int .i64 (-(3 * k + 3 * m)), .int .i64 (-(4 * m))] 50)).cell? ((⟨W1.heap.size, 0, none⟩ : Addr).add q) = some u from fun q u hu => by
          rw [add_zero_at]
          have := (Blk.new W1.drew 50 #[.int .i64 (-3 * k), .int .i64 0, .int .i64 (-(3 * k + 3 * m)), .int .i64 (4 * m), .int .i64 (-(3 * k + 3 * m)), .int .i64 (-(4 * m))]).cell q
          exact this.trans (by simpa using hu))
        have hone := Lib.hid (show ∀ u ∈ ([.int .i64 (-3 * k), .int .i64 0, .int .i64 (-(3 * k + 3 * m)), .int .i64 (4 * m), .int .i64 (-(3 * k + 3 * m)), .int .i64 (-(4 * m))] : List Value), u.oneCell' = true from fun u hu => by simp at hu; rcases hu with rfl | rfl | rfl | rfl | rfl | rfl <;> rfl)
        have hbs := Lib.hid B1.out.size
        go_region_law (refine step_append_lies _ rfl (.tmp 67) (.tmp 77) 22 rfl w.heap.size 50 i0 (.agg #[.int .i64 0, .int .i64 0, .int .i64 0, .int .i64 0, .int .i64 0, .int .i64 0]) 6 48 Try.underlying22 hi0 hz0 hz1 hz2 rfl (by decide) _ 1 (iv (upto k m 1)) (by simp [Act.eval]) (hown2.out _) ⟨W1.heap.size, 0, none⟩ 1 1 [.int .i64 (-3 * k), .int .i64 0, .int .i64 (-(3 * k + 3 * m)), .int .i64 (4 * m), .int .i64 (-(3 * k + 3 * m)), .int .i64 (-(4 * m))] (by simp [Act.eval]) rfl hnew.out hone.out (by decide) (by simp [maxLen]) (by decide) (by have := hbs.out; simp; omega) _ rfl ?_; intro g cap w5 hown hgrow hat hlt; have HO5 := Lib.hid hown; have HG5 := Lib.hid hgrow; clear hown hgrow hat hlt)
        all_goals
          go_wp2
          go_roundw
          case rel => exact ⟨2, by omega, by go_num, by rw [st.out]; exact HO5.out, (PW.out.drew.alloc _).grown HG5.out (fun e => own_blk_ne (hown2.out (.cells #[.int .i64 (-3 * k), .int .i64 0, .int .i64 (-(3 * k + 3 * m)), .int .i64 (4 * m), .int .i64 (-(3 * k + 3 * m)), .int .i64 (-(4 * m))] 50)) (PW.out.drew.alloc (.cells #[.int .i64 (-3 * k), .int .i64 0, .int .i64 (-(3 * k + 3 * m)), .int .i64 (4 * m), .int .i64 (-(3 * k + 3 * m)), .int .i64 (-(4 * m))] 50)) (by decide) e.symm), ((below_drewN B1.out 1).alloc B1.out.size _).grown HG5.out (by have := hbs.out; simp; omega) (fun q hq => ((hown2.out (.cells #[.int .i64 (-3 * k), .int .i64 0, .int .i64 (-(3 * k + 3 * m)), .int .i64 (4 * m), .int .i64 (-(3 * k + 3 * m)), .int .i64 (-(4 * m))] 50)).lt q hq).1)⟩
          case measure => simp [intOf]
      · have ix := cix2 0 (-4 * k) (-3 * k) 0 0 (4 * k) (3 * k) 0
        obtain ⟨W1, hW1⟩ : ∃ W1, wr.alloc (.cells #[.int .i64 0, .int .i64 (4 * k)] 46) = W1 := ⟨_, rfl⟩
        have PB := Blk.new wr 46 #[.int .i64 0, .int .i64 (4 * k)]
        rw [hW1] at PB
        have O1 := Lib.hid (show W1.ownsRow w.heap.size 50 6 _ 2 (iv (upto k m 2)) by rw [← hW1]; exact HO.out.alloc _)
        have PW := Lib.hid (show Blk W1 (w.heap.size + 1) 48 #[.int .i64 (3 * k + 3 * m), .int .i64 (4 * m), .int .i64 (-(3 * k + 3 * m)), .int .i64 (4 * m), .int .i64 (-(3 * k + 3 * m)), .int .i64 (-(4 * m)), .int .i64 (3 * k + 3 * m), .int .i64 (-(4 * m)), .int .i64 (3 * k + 3 * m), .int .i64 (4 * m)] by rw [← hW1]; exact HP.out.alloc _)
        have B1 := Lib.hid (show Below w.heap.size w W1 by rw [← hW1]; exact HB.out.alloc HB.out.size _)
        have c0 : W1.cell? ⟨wr.heap.size, 0, none⟩ = some (.int .i64 0) := PB.cell 0
        have c1 : W1.cell? ⟨wr.heap.size, 1, none⟩ = some (.int .i64 (4 * k)) := PB.cell 1
        have d0 : W1.cell? ⟨w.heap.size + 1, 4, none⟩ = some (.int .i64 (-(3 * k + 3 * m))) := PW.out.cell 4
        have d1 : W1.cell? ⟨w.heap.size + 1, 5, none⟩ = some (.int .i64 (-(4 * m))) := PW.out.cell 5
        have d2 : W1.cell? ⟨w.heap.size + 1, 6, none⟩ = some (.int .i64 (3 * k + 3 * m)) := PW.out.cell 6
        have d3 : W1.cell? ⟨w.heap.size + 1, 7, none⟩ = some (.int .i64 (-(4 * m))) := PW.out.cell 7
        have HW1 := Lib.hid hW1
        have st := Lib.hid (show iv (upto k m 3) = iv (upto k m 2) ++ [.int .i64 0, .int .i64 (4 * k), .int .i64 (-(3 * k + 3 * m)), .int .i64 (-(4 * m)), .int .i64 (3 * k + 3 * m), .int .i64 (-(4 * m))] by simp [upto, lst, iv])
        have wb : IntKind.i64.wrap (2 + 1) = 3 := by rw [IntKind.wrap_i64]; omega
        have wc : IntKind.i64.wrap 3 = 3 := by rw [IntKind.wrap_i64]; omega
        clear PB hW1
        go_wp2_with fail
        rw [HW1.out]
        have hown2 := Lib.hid (fun o => (show (W1.drew.alloc o).ownsRow w.heap.size 50 6 _ 2 (iv (upto k m 2)) from O1.out.alloc o))
        have hnew := Lib.hid (show ∀ (q : Nat) (u : Value), ([.int .i64 0, .int .i64 (4 * k), .int .i64 (-(3 * k + 3 * m)), .int .i64 (-(4 * m)), .int .i64 (3 * k + 3 * m), .int .i64 (-(4 * m))] : List Value)[q]? = some u → (W1.drew.alloc (.cells #[.int .i64 0, .int .i64 (4 * k), .int .i64 (-(3 * k + 3 * m)), .int .i64 (-(4 * m)), .int .i64 (3 * k + 3 * m), .int .i64 (-(4 * m))] 50)).cell? ((⟨W1.heap.size, 0, none⟩ : Addr).add q) = some u from fun q u hu => by
          rw [add_zero_at]
          have := (Blk.new W1.drew 50 #[.int .i64 0, .int .i64 (4 * k), .int .i64 (-(3 * k + 3 * m)), .int .i64 (-(4 * m)), .int .i64 (3 * k + 3 * m), .int .i64 (-(4 * m))]).cell q
          exact this.trans (by simpa using hu))
        have hone := Lib.hid (show ∀ u ∈ ([.int .i64 0, .int .i64 (4 * k), .int .i64 (-(3 * k + 3 * m)), .int .i64 (-(4 * m)), .int .i64 (3 * k + 3 * m), .int .i64 (-(4 * m))] : List Value), u.oneCell' = true from fun u hu => by simp at hu; rcases hu with rfl | rfl | rfl | rfl | rfl | rfl <;> rfl)
        have hbs := Lib.hid B1.out.size
        go_region_law (refine step_append_lies _ rfl (.tmp 67) (.tmp 77) 22 rfl w.heap.size 50 i0 (.agg #[.int .i64 0, .int .i64 0, .int .i64 0, .int .i64 0, .int .i64 0, .int .i64 0]) 6 48 Try.underlying22 hi0 hz0 hz1 hz2 rfl (by decide) _ 2 (iv (upto k m 2)) (by simp [Act.eval]) (hown2.out _) ⟨W1.heap.size, 0, none⟩ 1 1 [.int .i64 0, .int .i64 (4 * k), .int .i64 (-(3 * k + 3 * m)), .int .i64 (-(4 * m)), .int .i64 (3 * k + 3 * m), .int .i64 (-(4 * m))] (by simp [Act.eval]) rfl hnew.out hone.out (by decide) (by simp [maxLen]) (by decide) (by have := hbs.out; simp; omega) _ rfl ?_; intro g cap w5 hown hgrow hat hlt; have HO5 := Lib.hid hown; have HG5 := Lib.hid hgrow; clear hown hgrow hat hlt)
        all_goals
          go_wp2
          go_roundw
          case rel => exact ⟨3, by omega, by go_num, by rw [st.out]; exact HO5.out, (PW.out.drew.alloc _).grown HG5.out (fun e => own_blk_ne (hown2.out (.cells #[.int .i64 0, .int .i64 (4 * k), .int .i64 (-(3 * k + 3 * m)), .int .i64 (-(4 * m)), .int .i64 (3 * k + 3 * m), .int .i64 (-(4 * m))] 50)) (PW.out.drew.alloc (.cells #[.int .i64 0, .int .i64 (4 * k), .int .i64 (-(3 * k + 3 * m)), .int .i64 (-(4 * m)), .int .i64 (3 * k + 3 * m), .int .i64 (-(4 * m))] 50)) (by decide) e.symm), ((below_drewN B1.out 1).alloc B1.out.size _).grown HG5.out (by have := hbs.out; simp; omega) (fun q hq => ((hown2.out (.cells #[.int .i64 0, .int .i64 (4 * k), .int .i64 (-(3 * k + 3 * m)), .int .i64 (-(4 * m)), .int .i64 (3 * k + 3 * m), .int .i64 (-(4 * m))] 50)).lt q hq).1)⟩
          case measure => simp [intOf]
      · have ix := cix3 0 (-4 * k) (-3 * k) 0 0 (4 * k) (3 * k) 0
        obtain ⟨W1, hW1⟩ : ∃ W1, wr.alloc (.cells #[.int .i64 (3 * k), .int .i64 0] 46) = W1 := ⟨_, rfl⟩
        have PB := Blk.new wr 46 #[.int .i64 (3 * k), .int .i64 0]
        rw [hW1] at PB
        have O1 := Lib.hid (show W1.ownsRow w.heap.size 50 6 _ 3 (iv (upto k m 3)) by rw [← hW1]; exact HO.out.alloc _)
        have PW := Lib.hid (show Blk W1 (w.heap.size + 1) 48 #[.int .i64 (3 * k + 3 * m), .int .i64 (4 * m), .int .i64 (-(3 * k + 3 * m)), .int .i64 (4 * m), .int .i64 (-(3 * k + 3 * m)), .int .i64 (-(4 * m)), .int .i64 (3 * k + 3 * m), .int .i64 (-(4 * m)), .int .i64 (3 * k + 3 * m), .int .i64 (4 * m)] by rw [← hW1]; exact HP.out.alloc _)
        have B1 := Lib.hid (show Below w.heap.size w W1 by rw [← hW1]; exact HB.out.alloc HB.out.size _)
        have c0 : W1.cell? ⟨wr.heap.size, 0, none⟩ = some (.int .i64 (3 * k)) := PB.cell 0
        have c1 : W1.cell? ⟨wr.heap.size, 1, none⟩ = some (.int .i64 0) := PB.cell 1
        have d0 : W1.cell? ⟨w.heap.size + 1, 6, none⟩ = some (.int .i64 (3 * k + 3 * m)) := PW.out.cell 6
        have d1 : W1.cell? ⟨w.heap.size + 1, 7, none⟩ = some (.int .i64 (-(4 * m))) := PW.out.cell 7
        have d2 : W1.cell? ⟨w.heap.size + 1, 8, none⟩ = some (.int .i64 (3 * k + 3 * m)) := PW.out.cell 8
        have d3 : W1.cell? ⟨w.heap.size + 1, 9, none⟩ = some (.int .i64 (4 * m)) := PW.out.cell 9
        have HW1 := Lib.hid hW1
        have st := Lib.hid (show iv (upto k m 4) = iv (upto k m 3) ++ [.int .i64 (3 * k), .int .i64 0, .int .i64 (3 * k + 3 * m), .int .i64 (-(4 * m)), .int .i64 (3 * k + 3 * m), .int .i64 (4 * m)] by simp [upto, lst, iv])
        have wb : IntKind.i64.wrap (3 + 1) = 4 := by rw [IntKind.wrap_i64]; omega
        have wc : IntKind.i64.wrap 4 = 4 := by rw [IntKind.wrap_i64]; omega
        clear PB hW1
        go_wp2_with fail
        rw [HW1.out]
        have hown2 := Lib.hid (fun o => (show (W1.drew.alloc o).ownsRow w.heap.size 50 6 _ 3 (iv (upto k m 3)) from O1.out.alloc o))
        have hnew := Lib.hid (show ∀ (q : Nat) (u : Value), ([.int .i64 (3 * k), .int .i64 0, .int .i64 (3 * k + 3 * m), .int .i64 (-(4 * m)), .int .i64 (3 * k + 3 * m), .int .i64 (4 * m)] : List Value)[q]? = some u → (W1.drew.alloc (.cells #[.int .i64 (3 * k), .int .i64 0, .int .i64 (3 * k + 3 * m), .int .i64 (-(4 * m)), .int .i64 (3 * k + 3 * m), .int .i64 (4 * m)] 50)).cell? ((⟨W1.heap.size, 0, none⟩ : Addr).add q) = some u from fun q u hu => by
          rw [add_zero_at]
          have := (Blk.new W1.drew 50 #[.int .i64 (3 * k), .int .i64 0, .int .i64 (3 * k + 3 * m), .int .i64 (-(4 * m)), .int .i64 (3 * k + 3 * m), .int .i64 (4 * m)]).cell q
          exact this.trans (by simpa using hu))
        have hone := Lib.hid (show ∀ u ∈ ([.int .i64 (3 * k), .int .i64 0, .int .i64 (3 * k + 3 * m), .int .i64 (-(4 * m)), .int .i64 (3 * k + 3 * m), .int .i64 (4 * m)] : List Value), u.oneCell' = true from fun u hu => by simp at hu; rcases hu with rfl | rfl | rfl | rfl | rfl | rfl <;> rfl)
        have hbs := Lib.hid B1.out.size
        go_region_law (refine step_append_lies _ rfl (.tmp 67) (.tmp 77) 22 rfl w.heap.size 50 i0 (.agg #[.int .i64 0, .int .i64 0, .int .i64 0, .int .i64 0, .int .i64 0, .int .i64 0]) 6 48 Try.underlying22 hi0 hz0 hz1 hz2 rfl (by decide) _ 3 (iv (upto k m 3)) (by simp [Act.eval]) (hown2.out _) ⟨W1.heap.size, 0, none⟩ 1 1 [.int .i64 (3 * k), .int .i64 0, .int .i64 (3 * k + 3 * m), .int .i64 (-(4 * m)), .int .i64 (3 * k + 3 * m), .int .i64 (4 * m)] (by simp [Act.eval]) rfl hnew.out hone.out (by decide) (by simp [maxLen]) (by decide) (by have := hbs.out; simp; omega) _ rfl ?_; intro g cap w5 hown hgrow hat hlt; have HO5 := Lib.hid hown; have HG5 := Lib.hid hgrow; clear hown hgrow hat hlt)
        all_goals
          go_wp2
          go_roundw
          case rel => exact ⟨4, by omega, by go_num, by rw [st.out]; exact HO5.out, (PW.out.drew.alloc _).grown HG5.out (fun e => own_blk_ne (hown2.out (.cells #[.int .i64 (3 * k), .int .i64 0, .int .i64 (3 * k + 3 * m), .int .i64 (-(4 * m)), .int .i64 (3 * k + 3 * m), .int .i64 (4 * m)] 50)) (PW.out.drew.alloc (.cells #[.int .i64 (3 * k), .int .i64 0, .int .i64 (3 * k + 3 * m), .int .i64 (-(4 * m)), .int .i64 (3 * k + 3 * m), .int .i64 (4 * m)] 50)) (by decide) e.symm), ((below_drewN B1.out 1).alloc B1.out.size _).grown HG5.out (by have := hbs.out; simp; omega) (fun q hq => ((hown2.out (.cells #[.int .i64 (3 * k), .int .i64 0, .int .i64 (3 * k + 3 * m), .int .i64 (-(4 * m)), .int .i64 (3 * k + 3 * m), .int .i64 (4 * m)] 50)).lt q hq).1)⟩
          case measure => simp [intOf]
      · go_wp2
        go_ret2
        exact ⟨_, ret_v (by simp [cod, hr.out]), by simpa [nres, rlst, hr.out, upto, lst] using HO.out, HB.out⟩

set_option maxHeartbeats 2000000 in
theorem walk (k m : Int) (w : World) (w0 : (Lit.int .i64 k).wf = true) (w1 : (Lit.int .i64 m).wf = true) :
    Calls Try.prog 3 #[.int .i64 k, .int .i64 m] w fun r w' => r = .returned (.bool true) ∧ Below w.heap.size w w' := by
  obtain ⟨NN, hNN⟩ : ∃ NN, nres k m = NN := ⟨_, rfl⟩
  obtain ⟨CC, hCC⟩ : ∃ CC, cod k m = CC := ⟨_, rfl⟩
  have ns := nres_le k m
  rw [hNN] at ns
  have SP := Lib.hid (fun W => specF_any k m W)
  have IP := Lib.hid (fun W => implF_any k m W)
  unfold Post at SP IP
  rw [hNN, hCC] at SP IP
  clear hNN hCC
  go_enter Try.func3, Try.ntmps3
  go_wp2_with fail
  refine (SP.out w).mono ?_
  rintro e v1 ⟨t1, rfl, o1, b1⟩
  obtain ⟨A1, c1, rfl⟩ := own_form o1
  have S := Lib.hid o1
  have K := Lib.hid b1
  have s1 := b1.size
  have st := Lib.hid (fun g hg => (o1.lt g hg))
  clear o1 b1
  go_wp2_with fail
  refine (IP.out v1).mono ?_
  rintro e v2 ⟨t2, rfl, o2, b2⟩
  obtain ⟨A2, c2, rfl⟩ := own_form o2
  have S := Lib.hid (own_below S.out b2)
  have Q := Lib.hid o2
  have K := Lib.hid (K.out.trans (b2.mono K.out.size))
  have s2 := b2.size
  have ne := Lib.hid (show (Value.slice A1 NN c1).ownBlock = none ∨ (Value.slice A1 NN c1).ownBlock ≠ (Value.slice A2 NN c2).ownBlock by
    cases e1 : (Value.slice A1 NN c1).ownBlock with
    | none => exact .inl rfl
    | some g => exact .inr fun e2 => by have h1 := (st.out g e1).2; have h2 := (Q.out.lt g e2.symm).1; omega)
  clear o2 b2
  go_wp2_with fail
  refine (eqArcS_any _ _ _ _ _ _ _ Q.out S.out ns).mono ?_
  rintro e v3 ⟨rfl, b3⟩
  have S := Lib.hid (own_below S.out b3)
  have Q := Lib.hid (own_below Q.out b3)
  have K := Lib.hid (K.out.trans (b3.mono K.out.size))
  have s3 := b3.size
  clear b3
  go_wp2_with fail
  refine (markArcS_any _ _ _ _ 1 _ Q.out ns (by omega) (by omega)).mono ?_
  rintro e v4 ⟨rfl, o4, y4⟩
  have S := Lib.hid (S.out.kept y4 ne.out)
  have K := Lib.hid (K.out.grown y4 K.out.size (fun q hq => by have := (Q.out.lt q hq).1; omega))
  have Q := Lib.hid o4
  clear o4 y4
  go_wp2_with fail
  refine (heldArcS_any _ _ _ 1 _ Q.out ns (by omega) (by omega)).mono ?_
  rintro e v5 ⟨rfl, rfl⟩
  go_wp2_with fail
  refine (IP.out v4).mono ?_
  rintro e v6 ⟨t6, rfl, o6, b6⟩
  obtain ⟨A6, c6, rfl⟩ := own_form o6
  have S := Lib.hid (own_below S.out b6)
  have Q := Lib.hid (own_below Q.out b6)
  have N := Lib.hid o6
  have K := Lib.hid (K.out.trans (b6.mono K.out.size))
  clear o6 b6
  go_wp2_with fail
  refine (eqArcS_any _ _ _ _ _ _ _ N.out S.out ns).mono ?_
  rintro e v7 ⟨rfl, b7⟩
  have Q := Lib.hid (own_below Q.out b7)
  have K := Lib.hid (K.out.trans (b7.mono K.out.size))
  clear b7
  go_wp2_with fail
  refine (heldArcS_any _ _ _ 1 _ Q.out ns (by omega) (by omega)).mono ?_
  rintro e v8 ⟨rfl, rfl⟩
  go_wp2
  go_ret
  exact ⟨rfl, K.out⟩

/-! ### The row's step -/
theorem own : ownKnob Try.prog.godebug = none := by kernel_rfl
theorem laidOut : laidOutB Try.prog = true := by kernel_rfl
set_option maxRecDepth 100000 in
theorem lifted (os : Os) (started : os.Started) (H : Type) (enc : TypeId × Value → H) :
    ReturnsInHanded {} Try.checked os 3 .any (Rows.fnExactOvalOutlineSpec.pre6 enc Try.prog Try.f3 Rows.fnExactOvalOutlineRow.domain false) (Rows.fnExactOvalOutlineSpec.post enc Try.prog Try.f3 false true false false) := by
  refine returnsInHanded_of_change (C := Try.checked) own started (by kernel_rfl) Try.func3
    (ChangeSpec.witness6 (enc := enc) (C := Try.checked) false ⟨#[], #[.int .i64 0, .int .i64 0], []⟩ 8 (by kernel_rfl) (by kernel_rfl) (by kernel_rfl) (by kernel_rfl)) ?_
  intro W base args ds gs before hval0 hW hcnd _
  have hval : ∀ (j : Nat) t v, Try.f3.params[j]? = some t → args[j]? = some v → Value.okWide Try.prog W .any base t v := hval0
  have hW' := hW
  obtain ⟨p, q, hA0, hV, rfl, hfz, hnd⟩ := hW
  have hA : DataW.TrodAll enc Try.prog W 0 (fun _ => true) true Try.f3.params.toList args.toList ds p := hA0
  rw [Try.params3] at hA hval
  obtain ⟨v0, vs0, d0, ds0, p0, q0, hargs, rfl, rfl, h0, r0⟩ := trodAll_cons hA
  obtain ⟨v1, vs1, d1, ds1, p1, q1, rfl, rfl, rfl, h1, r1⟩ := trodAll_cons r0
  obtain ⟨rfl, rfl, rfl⟩ := trodAll_nil r1
  obtain rfl : args = #[v0, v1] := by cases args; simp_all
  obtain ⟨rfl, rfl⟩ := trodVars_none hV
  have k0 := h0
  have lt0 : ∀ x ∈ p0, x.block < W.heap.size := by obtain ⟨m, hm⟩ := k0; exact DataW.trod_lt m _ _ _ hm
  obtain ⟨a0, rfl, rfl, rfl, w0⟩ := open_int Try.underlying2 (hval 0 2 v0 rfl rfl) h0
  have k1 := h1
  have lt1 : ∀ x ∈ p1, x.block < W.heap.size := by obtain ⟨m, hm⟩ := k1; exact DataW.trod_lt m _ _ _ hm
  obtain ⟨a1, rfl, rfl, rfl, w1⟩ := open_int Try.underlying2 (hval 1 2 v1 rfl rfl) h1
  clear hA0 hval0
  refine (walk a0 a1 W w0 w1).mono fun e W' ⟨he, bel⟩ => ?_
  subst he
  exact ⟨_, rfl, _, _, _, [], _, [], hW', trodAll_mk1 (shut_bool Try.underlying4 _), (trodAll_cons_mk (Below.trod laidOut (by kernel_rfl) (of_decide_eq_true (by kernel_rfl)) k0 bel lt0) (trodAll_cons_mk (Below.trod laidOut (by kernel_rfl) (of_decide_eq_true (by kernel_rfl)) k1 bel lt1) trodAll_mk0)), rfl, bel.frame _, fun h => by cases h⟩

theorem over : Rows.fnExactOvalOutlineRow.holds Try.pinned (OpenSpec.ofChange Rows.fnExactOvalOutlineSpec) :=
  OpenClaim.holds_of_wide 3 Try.f3 rfl rfl rfl rfl rfl rfl rfl ⟨rfl, rfl, rfl, rfl, rfl⟩ rfl rfl rfl rfl rfl (by kernel_rfl) Try.func3 (by kernel_rfl)
    (of_decide_eq_true (by kernel_rfl)) (by unfold Func.isWrapper; first | (rw [if_pos (by decide +kernel)]; kernel_rfl) | (rw [if_neg (by decide +kernel)]; exact ⟨rfl, rfl⟩))
    (fun os started H enc _ => lifted os started H enc)

/-- The given statement. -/
theorem proved : Rows.FnExactOvalOutlineSaid := over
#print axioms proved

end Go.Proofs.Ytfnlnkfihldoeaa.fnExactOvalOutline
