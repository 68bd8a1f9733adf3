/- For all arguments, the program's LightestFor returns what the reference's returns; lists whose length is beyond 2^20 the law lets pass. Conditions: none. -/
import Derived.Test.YtglhlbibaghpjaaPopen
import Derived.ProofKit
import Derived.OpenShut
import Derived.ShutString
import Derived.ChangeOld
import Derived.Below
namespace Go.Proofs.Ytglhlbibaghpjaa.fnExactLightestFor
open Go.ChangeShapes Go.WideShapes Go.ChangeAt Go.RowKit
open Go.ChangeMaps (open_string shut_string)
set_option linter.unusedVariables false
open Go.Sort

/-- one plank's turn in the search -/
def lightF (ps : List Pl) (x y z : Int) (k : Nat) (best : Int) : Int := if cutB (atP ps k) x y z && (decide (best < 0) || decide (dens (atP ps k) < dens (atP ps best.toNat))) then k else best
def lightN (ps : List Pl) (x y z : Int) : Nat → Int
  | 0 => -1
  | k + 1 => lightF ps x y z k (lightN ps x y z k)
theorem light_bd (ps : List Pl) (x y z : Int) : ∀ k, -1 ≤ lightN ps x y z k ∧ lightN ps x y z k < k
  | 0 => by simp [lightN]
  | k + 1 => by
    have := light_bd ps x y z k
    rw [lightN, lightF]; split <;> omega
def fin (b : Int) : Int × Int := if b < 0 then (0, 3) else (b, 0)
def ans (ps : List Pl) (x y z : Int) : Int × Int := if validL ps then (if pieceB x y z then fin (lightN ps x y z ps.length) else (0, 2)) else (0, 1)
def res (ps : List Pl) (x y z : Int) : Int := (ans ps x y z).1
def cod (ps : List Pl) (x y z : Int) : Int := (ans ps x y z).2
theorem ret_p {a b : Int} {q : Int × Int} (h : q = (a, b)) : Ending.returned (.tuple #[.int .i64 a, .int .i64 b]) = .returned (.tuple #[.int .i64 q.1, .int .i64 q.2]) := by rw [h]
theorem own_drewN {w : World} {B : Nat} {e : TypeId} {size n : Nat} {v : Value} {xs : List Value} (h : w.ownsRow B e size v n xs) (m : Nat) : (w.drewN m).ownsRow B e size v n xs := own_below h (below_drewN (Below.refl _ _) m)

set_option maxHeartbeats 4000000 in
theorem specF_any (B n : Nat) (v : Value) (ps : List Pl) (x y z : Int) (w : World) (hx : w.ownsRow B 37 6 v n (plv ps)) (hs : Short ps n) (hn : n ≤ 1048576) :
    Calls Try.prog 11 #[v, .int .i64 x, .int .i64 y, .int .i64 z] w fun r w' => r = .returned (.tuple #[.int .i64 (res ps x y z), .int .i64 (cod ps x y z)]) ∧ Below w.heap.size w w' := by
  have lp := Lib.hid (show ps.length = n by have := hx.1; rw [plv_len] at this; omega)
  have HX := Lib.hid hx
  have HS := Lib.hid hs
  clear hx hs
  cases h0 : validL ps
  · have hr := Lib.hid (show ans ps x y z = (0, 1) by simp [ans, h0])
    go_enter Try.func11, Try.ntmps11
    go_wp2_with fail
    refine (is_ofb (l03Ok_any B n v ps w HX.out HS.out hn) h0).mono ?_
    rintro e w1 ⟨rfl, b1⟩
    have B1 := Lib.hid b1
    clear b1
    go_wp2
    go_ret2
    exact ⟨ret_p hr.out, B1.out⟩
  cases h1 : pieceB x y z
  · have hr := Lib.hid (show ans ps x y z = (0, 2) by simp [ans, h0, h1])
    go_enter Try.func11, Try.ntmps11
    go_wp2_with fail
    refine (is_ofb (l03Ok_any B n v ps w HX.out HS.out hn) h0).mono ?_
    rintro e w1 ⟨rfl, b1⟩
    have B1 := Lib.hid b1
    clear b1
    go_wp2_with fail
    refine (is_of (l03Piece_any x y z _) h1).mono ?_
    rintro e w' ⟨rfl, rfl⟩
    go_wp2
    go_ret2
    exact ⟨ret_p hr.out, B1.out⟩
  have hr := Lib.hid (show ans ps x y z = fin (lightN ps x y z ps.length) by simp [ans, h0, h1])
  have VL := Lib.hid (validL_of h0)
  obtain ⟨A, c, rfl⟩ := own_form HX.out
  go_enter Try.func11, Try.ntmps11
  go_wp2_with fail
  refine (is_ofb (l03Ok_any B n _ ps w HX.out HS.out hn) h0).mono ?_
  rintro e w1 ⟨rfl, b1⟩
  have B1 := Lib.hid b1
  clear b1
  go_wp2_with fail
  refine (is_of (l03Piece_any x y z _) h1).mono ?_
  rintro e w' ⟨rfl, rfl⟩
  have n16 : n ≤ 16 := by have := VL.out.1; rw [lp.out] at this; exact this
  go_wp2_with fail
  go_loopw [10, 11] (fun b i wr => ∃ (k : Nat) (best : Int), k ≤ n ∧ lightN ps x y z k = best ∧ -1 ≤ best ∧ best < k ∧ b = .int .i64 best ∧ i = .int .i64 k ∧ Below w.heap.size w wr) (fun _ i _ => n - (intOf i).toNat)
  case atStart => exact ⟨0, -1, Nat.zero_le _, rfl, by omega, by omega, rfl, rfl, B1.out⟩
  case round =>
    obtain ⟨k, best, hk, ha, b0, b1, rfl, rfl, hb⟩ := hrel
    have HA := Lib.hid ha
    have HB := Lib.hid hb
    clear ha hb
    by_cases hlt : k < n
    · have ox := own_below HX.out HB.out
      obtain ⟨g, cap, hv, _, _⟩ := ox.form (by omega)
      obtain ⟨rfl, rfl⟩ : A = some ⟨g, 0, none⟩ ∧ c = cap := by simpa using hv
      have OX := Lib.hid ox
      have gk : (k : Int) < (n : Int) := by omega
      have fp := Lib.hid (validB_fits (VL.out.2 k (by rw [lp.out]; exact hlt)).1)
      have sp := Lib.hid (HS.out k hlt)
      obtain ⟨k0, k1, k2, k3, k4, k5⟩ := el_own ox hlt
      obtain ⟨p, hp⟩ : ∃ p, atP ps k = p := ⟨_, rfl⟩
      rw [hp] at fp sp k0 k1 k2 k3 k4 k5
      have st := Lib.hid (show lightN ps x y z (k + 1) = if cutB p x y z && (decide (best < 0) || decide (dens p < dens (atP ps best.toNat))) then (k : Int) else best by rw [lightN, HA.out, lightF, hp])
      clear hv ox hp
      have AP := Lib.hid (El.at_ ⟨k0, k1, k2, k3, k4, k5⟩ sp.out)
      have cf := fun W (hW : Below wr.heap.size wr W) => l03Fits_any p x y z g (k * 6) W (AP.out.below hW AP.out.lt)
      have dp : ∀ args W, args = #[.pointer (some ⟨g, k * 6, none⟩)] → Below wr.heap.size wr W → Calls Try.prog 23 args W fun e w' => e = .returned (.int .i64 (dens p)) ∧ Below W.heap.size W w' := fun args W ha hW => by subst ha; exact l03Density_any p g (k * 6) W (AP.out.below hW AP.out.lt) fp.out
      have DP := Lib.hid dp
      have CF := Lib.hid cf
      clear k0 k1 k2 k3 k4 k5 dp cf
      cases hc : cutB p x y z
      · have CF1 := Lib.hid (fun W hW => is_of (CF.out W hW) hc)
        go_wp2_with fail
        refine wp_region_quiet_below (by kernel_rfl) (by kernel_rfl) ?_; (repeat (go_big_quiet_step ((go_at_call 22; exact rg_same (CF1.out _ (below_regrown _ _ _)))))); refine wpQuiet_nil ?_; intro wq hwq; obtain ⟨⟨dq, osq⟩, hwq2⟩ := hwq; have bq := below_of hwq2; clear hwq2
        have BF := Lib.hid (HB.out.trans (bq.mono HB.out.size))
        clear bq
        go_wp2
        go_roundw
        case rel => exact ⟨k + 1, best, by omega, by rw [st.out, hc]; rfl, b0, by omega, rfl, by go_num, BF.out⟩
        case measure => simp [intOf]; omega
      obtain rfl | ⟨bn, rfl⟩ : best = -1 ∨ ∃ bn : Nat, best = bn := by
        by_cases e : best < 0
        · exact .inl (by omega)
        · exact .inr ⟨best.toNat, by omega⟩
      · have CF1 := Lib.hid (fun W hW => is_of (CF.out W hW) hc)
        go_wp2_with fail
        refine wp_region_quiet_below (by kernel_rfl) (by kernel_rfl) ?_; (repeat (go_big_quiet_step ((go_at_call 22; exact rg_same (CF1.out _ (below_regrown _ _ _)))))); refine wpQuiet_nil ?_; intro wq hwq; obtain ⟨⟨dq, osq⟩, hwq2⟩ := hwq; have bq := below_of hwq2; clear hwq2
        have BF := Lib.hid (HB.out.trans (bq.mono HB.out.size))
        clear bq
        go_wp2
        go_roundw
        case rel => exact ⟨k + 1, (k : Int), by omega, by rw [st.out, hc]; rfl, by omega, by omega, rfl, by go_num, BF.out⟩
        case measure => simp [intOf]; omega
      have hbn : bn < n := by omega
      have gb : (bn : Int) < (n : Int) := by omega
      have zb : decide ((bn : Int) < 0) = false := by rw [decide_eq_false_iff_not]; omega
      have fq := Lib.hid (validB_fits (VL.out.2 bn (by rw [lp.out]; exact hbn)).1)
      have sq := Lib.hid (HS.out bn hbn)
      obtain ⟨m0, m1, m2, m3, m4, m5⟩ := el_own OX.out hbn
      obtain ⟨q, hq⟩ : ∃ q, atP ps bn = q := ⟨_, rfl⟩
      rw [hq] at fq sq m0 m1 m2 m3 m4 m5
      have st2 := Lib.hid (show lightN ps x y z (k + 1) = if dens p < dens q then (k : Int) else bn by rw [st.out, hc, zb, Int.toNat_natCast, hq]; simp)
      clear hq
      have AQ := Lib.hid (El.at_ ⟨m0, m1, m2, m3, m4, m5⟩ sq.out)
      have dq : ∀ args W, args = #[.pointer (some ⟨g, bn * 6, none⟩)] → Below wr.heap.size wr W → Calls Try.prog 23 args W fun e w' => e = .returned (.int .i64 (dens q)) ∧ Below W.heap.size W w' := fun args W ha hW => by subst ha; exact l03Density_any q g (bn * 6) W (AQ.out.below hW AQ.out.lt) fq.out
      have DQ := Lib.hid dq
      clear m0 m1 m2 m3 m4 m5 dq
      by_cases hd : dens p < dens q
      · have CF1 := Lib.hid (fun W hW => is_of (CF.out W hW) hc)
        go_wp2_with fail
        refine wp_region_quiet_below (by kernel_rfl) (by kernel_rfl) ?_; (repeat (go_big_quiet_step (first | (go_at_call 22; exact rg_same (CF1.out _ (below_regrown _ _ _))) | (go_at_call 23; refine Calls.regrown_of (DP.out _ _ ?_ (below_regrown _ _ _)); rfl) | (go_at_call 23; refine Calls.regrown_of (DQ.out _ _ ?_ (below_regrown _ _ _)); rfl)))); refine wpQuiet_nil ?_; intro wq hwq; obtain ⟨⟨dq, osq⟩, hwq2⟩ := hwq; have bq := below_of hwq2; clear hwq2
        have BF := Lib.hid (HB.out.trans (bq.mono HB.out.size))
        clear bq
        go_wp2
        go_roundw
        case rel => exact ⟨k + 1, (k : Int), by omega, by rw [st2.out, if_pos hd], by omega, by omega, rfl, by go_num, BF.out⟩
        case measure => simp [intOf]; omega
      · have CF1 := Lib.hid (fun W hW => is_of (CF.out W hW) hc)
        go_wp2_with fail
        refine wp_region_quiet_below (by kernel_rfl) (by kernel_rfl) ?_; (repeat (go_big_quiet_step (first | (go_at_call 22; exact rg_same (CF1.out _ (below_regrown _ _ _))) | (go_at_call 23; refine Calls.regrown_of (DP.out _ _ ?_ (below_regrown _ _ _)); rfl) | (go_at_call 23; refine Calls.regrown_of (DQ.out _ _ ?_ (below_regrown _ _ _)); rfl)))); refine wpQuiet_nil ?_; intro wq hwq; obtain ⟨⟨dq, osq⟩, hwq2⟩ := hwq; have bq := below_of hwq2; clear hwq2
        have BF := Lib.hid (HB.out.trans (bq.mono HB.out.size))
        clear bq
        go_wp2
        go_roundw
        case rel => exact ⟨k + 1, (bn : Int), by omega, by rw [st2.out, if_neg (by omega)], by omega, by omega, rfl, by go_num, BF.out⟩
        case measure => simp [intOf]; omega
    · obtain rfl : k = n := by omega
      by_cases hneg : best < 0
      · have hf := Lib.hid (show ans ps x y z = (0, 3) by rw [hr.out, lp.out, HA.out, fin, if_pos hneg])
        go_wp2
        go_ret2
        exact ⟨ret_p hf.out, HB.out⟩
      · have hf := Lib.hid (show ans ps x y z = (best, 0) by rw [hr.out, lp.out, HA.out, fin, if_neg hneg])
        go_wp2
        go_ret2
        exact ⟨ret_p hf.out, HB.out⟩

set_option maxHeartbeats 4000000 in
theorem implF_any (B n : Nat) (v : Value) (ps : List Pl) (x y z : Int) (w : World) (hx : w.ownsRow B 37 6 v n (plv ps)) (hs : Short ps n) (hn : n ≤ 1048576) :
    Calls Try.prog 12 #[v, .int .i64 x, .int .i64 y, .int .i64 z] w fun r w' => r = .returned (.tuple #[.int .i64 (res ps x y z), .int .i64 (cod ps x y z)]) ∧ Below w.heap.size w w' := by
  have lp := Lib.hid (show ps.length = n by have := hx.1; rw [plv_len] at this; omega)
  have HX := Lib.hid hx
  have HS := Lib.hid hs
  clear hx hs
  cases h0 : validL ps
  · have hr := Lib.hid (show ans ps x y z = (0, 1) by simp [ans, h0])
    go_enter Try.func12, Try.ntmps12
    go_wp2_with fail
    refine (is_ofb (implValid_any B n v ps w HX.out HS.out hn) h0).mono ?_
    rintro e w1 ⟨rfl, b1⟩
    have B1 := Lib.hid b1
    clear b1
    go_wp2
    go_ret2
    exact ⟨ret_p hr.out, B1.out⟩
  cases h1 : pieceB x y z
  · have hr := Lib.hid (show ans ps x y z = (0, 2) by simp [ans, h0, h1])
    go_enter Try.func12, Try.ntmps12
    go_wp2_with fail
    refine (is_ofb (implValid_any B n v ps w HX.out HS.out hn) h0).mono ?_
    rintro e w1 ⟨rfl, b1⟩
    have B1 := Lib.hid b1
    clear b1
    go_wp2_with fail
    refine (is_of (isPiece_any x y z _) h1).mono ?_
    rintro e w' ⟨rfl, rfl⟩
    go_wp2
    go_ret2
    exact ⟨ret_p hr.out, B1.out⟩
  have hr := Lib.hid (show ans ps x y z = fin (lightN ps x y z ps.length) by simp [ans, h0, h1])
  have VL := Lib.hid (validL_of h0)
  obtain ⟨A, c, rfl⟩ := own_form HX.out
  go_enter Try.func12, Try.ntmps12
  go_wp2_with fail
  refine (is_ofb (implValid_any B n _ ps w HX.out HS.out hn) h0).mono ?_
  rintro e w1 ⟨rfl, b1⟩
  have B1 := Lib.hid b1
  clear b1
  go_wp2_with fail
  refine (is_of (isPiece_any x y z _) h1).mono ?_
  rintro e w' ⟨rfl, rfl⟩
  have n16 : n ≤ 16 := by have := VL.out.1; rw [lp.out] at this; exact this
  go_wp2_with fail
  go_loopw [10, 23] (fun b i wr => ∃ (k : Nat) (best : Int), k ≤ n ∧ lightN ps x y z k = best ∧ -1 ≤ best ∧ best < k ∧ b = .int .i64 best ∧ i = .int .i64 k ∧ Below w.heap.size w wr) (fun _ i _ => n - (intOf i).toNat)
  case atStart => exact ⟨0, -1, Nat.zero_le _, rfl, by omega, by omega, rfl, rfl, B1.out⟩
  case round =>
    obtain ⟨k, best, hk, ha, b0, b1, rfl, rfl, hb⟩ := hrel
    have HA := Lib.hid ha
    have HB := Lib.hid hb
    clear ha hb
    by_cases hlt : k < n
    · have ox := own_below HX.out HB.out
      obtain ⟨g, cap, hv, _, _⟩ := ox.form (by omega)
      obtain ⟨rfl, rfl⟩ : A = some ⟨g, 0, none⟩ ∧ c = cap := by simpa using hv
      have OX := Lib.hid ox
      have gk : (k : Int) < (n : Int) := by omega
      have fp := Lib.hid (validB_fits (VL.out.2 k (by rw [lp.out]; exact hlt)).1)
      have sp := Lib.hid (HS.out k hlt)
      obtain ⟨k0, k1, k2, k3, k4, k5⟩ := el_own ox hlt
      obtain ⟨p, hp⟩ : ∃ p, atP ps k = p := ⟨_, rfl⟩
      rw [hp] at fp sp k0 k1 k2 k3 k4 k5
      have st := Lib.hid (show lightN ps x y z (k + 1) = if cutB p x y z && (decide (best < 0) || decide (dens p < dens (atP ps best.toNat))) then (k : Int) else best by rw [lightN, HA.out, lightF, hp])
      clear hv ox hp
      obtain ⟨W1, hW1⟩ : ∃ W1, wr.alloc (.cells #[.string p.id, .int .i64 p.l, .int .i64 p.wd, .int .i64 p.t, .int .i64 p.m, .int .i64 p.r] 37) = W1 := ⟨_, rfl⟩
      have A1 := Lib.hid (show At W1 wr.heap.size 0 p by rw [← hW1]; exact at_new p wr _ sp.out)
      have BW := Lib.hid (show Below wr.heap.size wr W1 by rw [← hW1]; exact (Below.refl _ _).alloc (Nat.le_refl _) _)
      have BB := Lib.hid (HB.out.trans (BW.out.mono HB.out.size))
      have HW1 := Lib.hid hW1
      have cf := fun W => cuts_any p x y z W
      have dp : ∀ args W, args = #[.agg #[.string p.id, .int .i64 p.l, .int .i64 p.wd, .int .i64 p.t, .int .i64 p.m, .int .i64 p.r]] → Calls Try.prog 26 args W fun e w' => e = .returned (.int .i64 (dens p)) ∧ Below W.heap.size W w' := fun args W ha => by subst ha; exact density_any p W fp.out
      have DP := Lib.hid dp
      have CF := Lib.hid cf
      clear dp cf hW1
      cases hc : cutB p x y z
      · have CF1 := Lib.hid (fun W => is_ofb (CF.out W) hc)
        go_wp2_with fail
        rw [HW1.out]
        clear k0 k1 k2 k3 k4 k5
        obtain ⟨q0, q1, q2, q3, q4, q5⟩ := A1.out.rg
        refine wp_region_quiet_below (by kernel_rfl) (by kernel_rfl) ?_; (repeat (go_big_quiet_step ((go_at_call 25; exact Calls.regrown_of (CF1.out _))))); refine wpQuiet_nil ?_; intro wq hwq; obtain ⟨⟨dq, osq⟩, hwq2⟩ := hwq; have bq := below_of hwq2; clear hwq2
        clear q0 q1 q2 q3 q4 q5
        have BF := Lib.hid (BB.out.trans (bq.mono BB.out.size))
        clear bq
        go_wp2
        go_roundw
        case rel => exact ⟨k + 1, best, by omega, by rw [st.out, hc]; rfl, b0, by omega, rfl, by go_num, BF.out⟩
        case measure => simp [intOf]; omega
      obtain rfl | ⟨bn, rfl⟩ : best = -1 ∨ ∃ bn : Nat, best = bn := by
        by_cases e : best < 0
        · exact .inl (by omega)
        · exact .inr ⟨best.toNat, by omega⟩
      · have CF1 := Lib.hid (fun W => is_ofb (CF.out W) hc)
        go_wp2_with fail
        rw [HW1.out]
        clear k0 k1 k2 k3 k4 k5
        obtain ⟨q0, q1, q2, q3, q4, q5⟩ := A1.out.rg
        refine wp_region_quiet_below (by kernel_rfl) (by kernel_rfl) ?_; (repeat (go_big_quiet_step ((go_at_call 25; exact Calls.regrown_of (CF1.out _))))); refine wpQuiet_nil ?_; intro wq hwq; obtain ⟨⟨dq, osq⟩, hwq2⟩ := hwq; have bq := below_of hwq2; clear hwq2
        clear q0 q1 q2 q3 q4 q5
        have BF := Lib.hid (BB.out.trans (bq.mono BB.out.size))
        clear bq
        go_wp2
        go_roundw
        case rel => exact ⟨k + 1, (k : Int), by omega, by rw [st.out, hc]; rfl, by omega, by omega, rfl, by go_num, BF.out⟩
        case measure => simp [intOf]; omega
      have hbn : bn < n := by omega
      have gb : (bn : Int) < (n : Int) := by omega
      have zb : decide ((bn : Int) < 0) = false := by rw [decide_eq_false_iff_not]; omega
      have fq := Lib.hid (validB_fits (VL.out.2 bn (by rw [lp.out]; exact hbn)).1)
      have sq := Lib.hid (HS.out bn hbn)
      obtain ⟨m0, m1, m2, m3, m4, m5⟩ := el_own OX.out hbn
      obtain ⟨q, hq⟩ : ∃ q, atP ps bn = q := ⟨_, rfl⟩
      rw [hq] at fq sq m0 m1 m2 m3 m4 m5
      have st2 := Lib.hid (show lightN ps x y z (k + 1) = if dens p < dens q then (k : Int) else bn by rw [st.out, hc, zb, Int.toNat_natCast, hq]; simp)
      clear hq
      have n0 := Lib.hid (cell_regrown ((BW.out.cell (p := ⟨g, bn * 6, none⟩) (OX.out.lt g rfl).2).trans m0))
      have n1 := Lib.hid (cell_regrown ((BW.out.cell (p := ⟨g, bn * 6 + 1, none⟩) (OX.out.lt g rfl).2).trans m1))
      have n2 := Lib.hid (cell_regrown ((BW.out.cell (p := ⟨g, bn * 6 + 2, none⟩) (OX.out.lt g rfl).2).trans m2))
      have n3 := Lib.hid (cell_regrown ((BW.out.cell (p := ⟨g, bn * 6 + 3, none⟩) (OX.out.lt g rfl).2).trans m3))
      have n4 := Lib.hid (cell_regrown ((BW.out.cell (p := ⟨g, bn * 6 + 4, none⟩) (OX.out.lt g rfl).2).trans m4))
      have n5 := Lib.hid (cell_regrown ((BW.out.cell (p := ⟨g, bn * 6 + 5, none⟩) (OX.out.lt g rfl).2).trans m5))
      have dq : ∀ args W, args = #[.agg #[.string q.id, .int .i64 q.l, .int .i64 q.wd, .int .i64 q.t, .int .i64 q.m, .int .i64 q.r]] → Calls Try.prog 26 args W fun e w' => e = .returned (.int .i64 (dens q)) ∧ Below W.heap.size W w' := fun args W ha => by subst ha; exact density_any q W fq.out
      have DQ := Lib.hid dq
      clear m0 m1 m2 m3 m4 m5 dq
      by_cases hd : dens p < dens q
      · have CF1 := Lib.hid (fun W => is_ofb (CF.out W) hc)
        go_wp2_with fail
        rw [HW1.out]
        clear k0 k1 k2 k3 k4 k5
        obtain ⟨q0, q1, q2, q3, q4, q5⟩ := A1.out.rg
        have N0 := n0.out
        have N1 := n1.out
        have N2 := n2.out
        have N3 := n3.out
        have N4 := n4.out
        have N5 := n5.out
        refine wp_region_quiet_below (by kernel_rfl) (by kernel_rfl) ?_; (repeat (go_big_quiet_step (first | (go_at_call 25; exact Calls.regrown_of (CF1.out _)) | (go_at_call 26; refine Calls.regrown_of (DP.out _ _ ?_); rfl) | (go_at_call 26; refine Calls.regrown_of (DQ.out _ _ ?_); rfl)))); refine wpQuiet_nil ?_; intro wq hwq; obtain ⟨⟨dq, osq⟩, hwq2⟩ := hwq; have bq := below_of hwq2; clear hwq2
        clear q0 q1 q2 q3 q4 q5 N0 N1 N2 N3 N4 N5
        have BF := Lib.hid (BB.out.trans (bq.mono BB.out.size))
        clear bq
        go_wp2
        go_roundw
        case rel => exact ⟨k + 1, (k : Int), by omega, by rw [st2.out, if_pos hd], by omega, by omega, rfl, by go_num, BF.out⟩
        case measure => simp [intOf]; omega
      · have CF1 := Lib.hid (fun W => is_ofb (CF.out W) hc)
        go_wp2_with fail
        rw [HW1.out]
        clear k0 k1 k2 k3 k4 k5
        obtain ⟨q0, q1, q2, q3, q4, q5⟩ := A1.out.rg
        have N0 := n0.out
        have N1 := n1.out
        have N2 := n2.out
        have N3 := n3.out
        have N4 := n4.out
        have N5 := n5.out
        refine wp_region_quiet_below (by kernel_rfl) (by kernel_rfl) ?_; (repeat (go_big_quiet_step (first | (go_at_call 25; exact Calls.regrown_of (CF1.out _)) | (go_at_call 26; refine Calls.regrown_of (DP.out _ _ ?_); rfl) | (go_at_call 26; refine Calls.regrown_of (DQ.out _ _ ?_); rfl)))); refine wpQuiet_nil ?_; intro wq hwq; obtain ⟨⟨dq, osq⟩, hwq2⟩ := hwq; have bq := below_of hwq2; clear hwq2
        clear q0 q1 q2 q3 q4 q5 N0 N1 N2 N3 N4 N5
        have BF := Lib.hid (BB.out.trans (bq.mono BB.out.size))
        clear bq
        go_wp2
        go_roundw
        case rel => exact ⟨k + 1, (bn : Int), by omega, by rw [st2.out, if_neg (by omega)], by omega, by omega, rfl, by go_num, BF.out⟩
        case measure => simp [intOf]; omega
    · obtain rfl : k = n := by omega
      by_cases hneg : best < 0
      · have hf := Lib.hid (show ans ps x y z = (0, 3) by rw [hr.out, lp.out, HA.out, fin, if_pos hneg])
        go_wp2
        go_ret2
        exact ⟨ret_p hf.out, HB.out⟩
      · have hf := Lib.hid (show ans ps x y z = (best, 0) by rw [hr.out, lp.out, HA.out, fin, if_neg hneg])
        go_wp2
        go_ret2
        exact ⟨ret_p hf.out, HB.out⟩

set_option maxHeartbeats 1600000 in
theorem walk (A : Option Addr) (n c : Nat) (ps : List Pl) (x y z : Int) (w : World) (w0 : Reads w w.heap.size 6 A n (plv ps) ∧ Short ps n ∧ n ≤ 9223372036854775807) (w1 : (Lit.int .i64 x).wf = true) (w2 : (Lit.int .i64 y).wf = true) (w3 : (Lit.int .i64 z).wf = true) :
    Calls Try.prog 4 #[.slice A n c, .int .i64 x, .int .i64 y, .int .i64 z] w fun r w' => r = .returned (.bool true) ∧ Below w.heap.size w w' := by
  obtain ⟨hg, hs, hn⟩ := w0
  have K := Lib.hid (show KeepP w A n ps w from ⟨Below.refl _ _, hg⟩)
  have HS := Lib.hid hs
  clear hg hs
  go_enter Try.func4, Try.ntmps4
  go_wp2_with fail
  refine (szPlankS_any A n c _ ps 1048576 _ K.out.list K.out.old.size HS.out hn (by omega) (by omega)).mono ?_
  rintro e w1 ⟨r, rfl, r1, hs, b1⟩
  have K := Lib.hid (K.out.step b1)
  clear b1
  by_cases hr : r < 0
  · go_wp2
    go_ret
    exact ⟨rfl, K.out.old⟩
  · have hn2 : n ≤ 1048576 := by have := hs (by omega); omega
    clear hs
    go_wp2_with fail
    refine (toPlankS_any A n c _ ps _ K.out.list K.out.old.size hn2).mono ?_
    rintro e w2 ⟨rfl, o2, b2⟩
    have K := Lib.hid (K.out.step b2)
    have X := Lib.hid o2
    clear o2 b2
    go_wp2_with fail
    refine (specF_any _ n _ ps x y z _ X.out HS.out hn2).mono ?_
    rintro e w3 ⟨rfl, b3⟩
    have K := Lib.hid (K.out.step b3)
    clear b3 X
    go_wp2_with fail
    refine (toPlankS_any A n c _ ps _ K.out.list K.out.old.size hn2).mono ?_
    rintro e w4 ⟨rfl, o4, b4⟩
    have K := Lib.hid (K.out.step b4)
    have X := Lib.hid o4
    clear o4 b4
    go_wp2_with fail
    refine (implF_any _ n _ ps x y z _ X.out HS.out hn2).mono ?_
    rintro e w5 ⟨rfl, b5⟩
    have K := Lib.hid (K.out.step b5)
    have X := Lib.hid (own_below X.out b5)
    clear b5
    go_wp2_with fail
    refine (toPlankS_any A n c _ ps _ K.out.list K.out.old.size hn2).mono ?_
    rintro e w6 ⟨rfl, o6, b6⟩
    have K := Lib.hid (K.out.step b6)
    have X := Lib.hid (own_below X.out b6)
    have Y := Lib.hid o6
    clear o6 b6
    go_wp2_with fail
    refine (eqPlankS_any _ _ n _ _ ps _ X.out Y.out hn2).mono ?_
    rintro e w7 ⟨rfl, b7⟩
    have K := Lib.hid (K.out.step b7)
    clear b7
    go_wp2
    go_ret
    exact ⟨rfl, K.out.old⟩

/-! ### The row's step -/
theorem own : ownKnob Try.prog.godebug = none := by kernel_rfl
theorem laidOut : laidOutB Try.prog = true := by kernel_rfl
set_option maxRecDepth 100000 in
theorem lifted (os : Os) (started : os.Started) (H : Type) (enc : TypeId × Value → H) :
    ReturnsInHanded {} Try.checked os 4 .any (Rows.fnExactLightestForSpec.pre6 enc Try.prog Try.f4 Rows.fnExactLightestForRow.domain false) (Rows.fnExactLightestForSpec.post enc Try.prog Try.f4 false true false false) := by
  refine returnsInHanded_of_change (C := Try.checked) own started (by kernel_rfl) Try.func4
    (ChangeSpec.witness6 (enc := enc) (C := Try.checked) false ⟨#[], #[.slice none 0 0, .int .i64 0, .int .i64 0, .int .i64 0], []⟩ 8 (by kernel_rfl) (by kernel_rfl) (by kernel_rfl) (by kernel_rfl)) ?_
  intro W base args ds gs before hval0 hW hcnd _
  have hval : ∀ (j : Nat) t v, Try.f4.params[j]? = some t → args[j]? = some v → Value.okWide Try.prog W .any base t v := hval0
  have hW' := hW
  obtain ⟨p, q, hA0, hV, rfl, hfz, hnd⟩ := hW
  have hA : DataW.TrodAll enc Try.prog W 0 (fun _ => true) true Try.f4.params.toList args.toList ds p := hA0
  rw [Try.params4] at hA hval
  obtain ⟨v0, vs0, d0, ds0, p0, q0, hargs, rfl, rfl, h0, r0⟩ := trodAll_cons hA
  obtain ⟨v1, vs1, d1, ds1, p1, q1, rfl, rfl, rfl, h1, r1⟩ := trodAll_cons r0
  obtain ⟨v2, vs2, d2, ds2, p2, q2, rfl, rfl, rfl, h2, r2⟩ := trodAll_cons r1
  obtain ⟨v3, vs3, d3, ds3, p3, q3, rfl, rfl, rfl, h3, r3⟩ := trodAll_cons r2
  obtain ⟨rfl, rfl, rfl⟩ := trodAll_nil r3
  obtain rfl : args = #[v0, v1, v2, v3] := by cases args; simp_all
  obtain ⟨rfl, rfl⟩ := trodVars_none hV
  have k0 := h0
  have lt0 : ∀ x ∈ p0, x.block < W.heap.size := by obtain ⟨m, hm⟩ := k0; exact DataW.trod_lt m _ _ _ hm
  obtain ⟨a0, len0, cap0, rfl⟩ := okWide_slice Try.underlying22 (hval 0 22 v0 rfl rfl)
  obtain ⟨z0, w0⟩ : ∃ Z, Reads W W.heap.size 6 a0 len0 (plv Z) ∧ Short Z len0 ∧ len0 ≤ 9223372036854775807 := open_planks Try.underlying22 Try.underlying36 (by kernel_rfl) (by kernel_rfl) Try.underlying9 Try.underlying2 Try.underlying2 Try.underlying2 Try.underlying2 Try.underlying2 h0
  have k1 := h1
  have lt1 : ∀ x ∈ p1, x.block < W.heap.size := by obtain ⟨m, hm⟩ := k1; exact DataW.trod_lt m _ _ _ hm
  obtain ⟨a1, rfl, rfl, rfl, w1⟩ := open_int Try.underlying2 (hval 1 2 v1 rfl rfl) h1
  have k2 := h2
  have lt2 : ∀ x ∈ p2, x.block < W.heap.size := by obtain ⟨m, hm⟩ := k2; exact DataW.trod_lt m _ _ _ hm
  obtain ⟨a2, rfl, rfl, rfl, w2⟩ := open_int Try.underlying2 (hval 2 2 v2 rfl rfl) h2
  have k3 := h3
  have lt3 : ∀ x ∈ p3, x.block < W.heap.size := by obtain ⟨m, hm⟩ := k3; exact DataW.trod_lt m _ _ _ hm
  obtain ⟨a3, rfl, rfl, rfl, w3⟩ := open_int Try.underlying2 (hval 3 2 v3 rfl rfl) h3
  clear hA0 hval0
  refine (walk a0 len0 cap0 z0 a1 a2 a3 W w0 w1 w2 w3).mono fun e W' ⟨he, bel⟩ => ?_
  subst he
  exact ⟨_, rfl, _, _, _, [], _, [], hW', trodAll_mk1 (shut_bool Try.underlying4 _), (trodAll_cons_mk (Below.trod laidOut (by kernel_rfl) (of_decide_eq_true (by kernel_rfl)) k0 bel lt0) (trodAll_cons_mk (Below.trod laidOut (by kernel_rfl) (of_decide_eq_true (by kernel_rfl)) k1 bel lt1) (trodAll_cons_mk (Below.trod laidOut (by kernel_rfl) (of_decide_eq_true (by kernel_rfl)) k2 bel lt2) (trodAll_cons_mk (Below.trod laidOut (by kernel_rfl) (of_decide_eq_true (by kernel_rfl)) k3 bel lt3) trodAll_mk0)))), rfl, bel.frame _, fun h => by cases h⟩

theorem over : Rows.fnExactLightestForRow.holds Try.pinned (OpenSpec.ofChange Rows.fnExactLightestForSpec) :=
  OpenClaim.holds_of_wide 4 Try.f4 rfl rfl rfl rfl rfl rfl rfl ⟨rfl, rfl, rfl, rfl, rfl⟩ rfl rfl rfl rfl rfl (by kernel_rfl) Try.func4 (by kernel_rfl)
    (of_decide_eq_true (by kernel_rfl)) (by unfold Func.isWrapper; first | (rw [if_pos (by decide +kernel)]; kernel_rfl) | (rw [if_neg (by decide +kernel)]; exact ⟨rfl, rfl⟩))
    (fun os started H enc _ => lifted os started H enc)

/-- The given statement. -/
theorem proved : Rows.FnExactLightestForSaid := over
#print axioms proved

end Go.Proofs.Ytglhlbibaghpjaa.fnExactLightestFor
