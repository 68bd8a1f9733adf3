/- BestPair: the contracts of its law, for the law of woods. LightestFor: the contracts of its law, for the law of woods. PiecesOf: the contracts of its law, for the law of woods. FitsPiece: the contracts of its law, for the law of woods. DensityOf: the contracts of its law, for the law of woods. RingWidth: the contracts of its law, for the law of woods. PairGap: the contracts of its law, for the law of woods. Planks: gaps are the same both ways, the best pair has the least, the lightest plank the least density: plain law. -/
import Derived.Test.YtfmbmgdemdbpaaaGreatDoorPopen
import Derived.BigQuiet
import Derived.Test.YtfmbmgdemdbpaaaGreatDoorPlankC
import Derived.Test.YtfmbmgdemdbpaaaGreatDoorAgg
import Derived.Test.YtfmbmgdemdbpaaaGreatDoorGap
namespace Go.Proofs.YtfmbmgdemdbpaaaGreatDoor.wBest
open Go.RowKit Go.Proofs.YtfmbmgdemdbpaaaGreatDoor
set_option linter.unusedVariables false

open Go.Sort

/-- one pair's turn in the search -/
def step (ps : List Pl) (i k : Nat) (s : Nat × Nat) : Nat × Nat := if gapI (atP ps i) (atP ps k) < gapI (atP ps s.1) (atP ps s.2) then (i, k) else s
def inn (ps : List Pl) (i : Nat) : Nat → Nat × Nat → Nat × Nat
  | 0, s => s
  | m + 1, s => step ps i (i + 1 + m) (inn ps i m s)
def outr (ps : List Pl) (n : Nat) : Nat → Nat × Nat
  | 0 => (0, 1)
  | i + 1 => inn ps i (n - i - 1) (outr ps n i)
theorem inn_bd {ps : List Pl} {n i : Nat} {s : Nat × Nat} (h : s.1 < n ∧ s.2 < n) (hi : i < n) : ∀ m, i + 1 + m ≤ n → (inn ps i m s).1 < n ∧ (inn ps i m s).2 < n
  | 0, _ => h
  | m + 1, hm => by
    have := inn_bd (ps := ps) h hi m (by omega)
    rw [inn, step]; split
    · simp only; omega
    · exact this
theorem outr_bd {ps : List Pl} {n : Nat} (hn : 2 ≤ n) : ∀ i, i ≤ n → (outr ps n i).1 < n ∧ (outr ps n i).2 < n
  | 0, _ => by simp only [outr]; omega
  | i + 1, h => inn_bd (outr_bd hn i (by omega)) (by omega) _ (by omega)
def ans (ps : List Pl) : Int × Int × Int := if validL ps then (if ps.length < 2 then (0, 0, 3) else (((outr ps ps.length ps.length).1 : Int), ((outr ps ps.length ps.length).2 : Int), 0)) else (0, 0, 1)
def ra (ps : List Pl) : Int := (ans ps).1
def rb (ps : List Pl) : Int := (ans ps).2.1
def rc (ps : List Pl) : Int := (ans ps).2.2
theorem ret_q {a b c : Int} {q : Int × Int × Int} (h : q = (a, b, c)) : Ending.returned (.tuple #[.int .i64 a, .int .i64 b, .int .i64 c]) = .returned (.tuple #[.int .i64 q.1, .int .i64 q.2.1, .int .i64 q.2.2]) := by rw [h]
theorem step_f {ps : List Pl} {i k a b : Nat} (h : ¬ gapI (atP ps i) (atP ps k) < gapI (atP ps a) (atP ps b)) : step ps i k (a, b) = (a, b) := by rw [step, if_neg h]
theorem step_t {ps : List Pl} {i k a b : Nat} (h : gapI (atP ps i) (atP ps k) < gapI (atP ps a) (atP ps b)) : step ps i k (a, b) = (i, k) := by rw [step, if_pos h]
/-- how far the reference's search stands: nothing seen yet, or a pair -/
def Seen (ps : List Pl) (n i m : Nat) (s : Nat × Nat) (x y : Int) : Prop :=
  (((i = 0 ∧ m = 0) ∨ n < 2) ∧ x = -1 ∧ y = -1) ∨ ((0 < i ∨ 0 < m) ∧ 2 ≤ n ∧ x = (s.1 : Int) ∧ y = (s.2 : Int))

set_option maxHeartbeats 4000000 in
theorem implF_any (B n : Nat) (v : Value) (ps : List Pl) (w : World) (hx : w.ownsRow B 27 6 v n (plv ps)) (hs : Short ps n) (hn : n ≤ 1048576) :
    Calls Tryz.prog 12 #[v] w fun r w' => r = .returned (.tuple #[.int .i64 (ra ps), .int .i64 (rb ps), .int .i64 (rc ps)]) ∧ Below w.heap.size w w' := by
  have lp := Lib.hid (show ps.length = n by have := hx.1; rw [plv_len] at this; omega)
  have HX := Lib.hid hx
  have HS := Lib.hid hs
  clear hx hs
  cases h0 : validL ps
  · have hr := Lib.hid (show ans ps = (0, 0, 1) by simp [ans, h0])
    go_enter Tryz.func12, Tryz.ntmps12
    go_wp2_with fail
    refine (is_ofb (implValid_any B n v ps w HX.out HS.out hn) h0).mono ?_
    rintro e w1 ⟨rfl, b1⟩
    have B1 := Lib.hid b1
    clear b1
    go_wp2
    go_ret3
    exact ⟨ret_q hr.out, B1.out⟩
  have VL := Lib.hid (validL_of h0)
  have hr := Lib.hid (show ans ps = if n < 2 then (0, 0, 3) else (((outr ps n n).1 : Int), ((outr ps n n).2 : Int), 0) by simp [ans, h0, lp.out])
  obtain ⟨A, c, rfl⟩ := own_form HX.out
  have n16 : n ≤ 16 := by have := VL.out.1; rw [lp.out] at this; exact this
  have FT := Lib.hid (fun i (hi : i < n) => validB_fits (VL.out.2 i (by rw [lp.out]; exact hi)).1)
  go_enter Tryz.func12, Tryz.ntmps12
  go_wp2_with fail
  refine (is_ofb (implValid_any B n _ ps w HX.out HS.out hn) h0).mono ?_
  rintro e w1 ⟨rfl, b1⟩
  have B1 := Lib.hid b1
  clear b1
  by_cases hn2 : n < 2
  · have hf := Lib.hid (show ans ps = (0, 0, 3) by rw [hr.out, if_pos hn2])
    go_wp2
    go_ret3
    exact ⟨ret_q hf.out, B1.out⟩
  have h2 : 2 ≤ n := by omega
  have hf := Lib.hid (show ans ps = (((outr ps n n).1 : Int), ((outr ps n n).2 : Int), 0) by rw [hr.out, if_neg hn2])
  clear hn2
  go_wp2_with fail
  go_loopw [5, 6, 17] (fun x y i wr => ∃ (k a b : Nat), k ≤ n ∧ outr ps n k = (a, b) ∧ x = .int .i64 a ∧ y = .int .i64 b ∧ i = .int .i64 k ∧ Below w.heap.size w wr) (fun _ _ i _ => n - (intOf i).toNat)
  case atStart => exact ⟨0, 0, 1, Nat.zero_le _, rfl, rfl, rfl, rfl, B1.out⟩
  case round =>
    obtain ⟨i, a0, b0, hi, hs, rfl, rfl, rfl, hb⟩ := hrel
    have HSE := Lib.hid hs
    have HB := Lib.hid hb
    clear hs hb
    by_cases hlt : i < n
    · obtain ⟨wo, rfl⟩ : ∃ wo : World, wo = wr := ⟨_, rfl⟩
      go_wp2
      go_loopw [5, 6, 8] (fun x y k wi => ∃ (m a b : Nat), i + 1 + m ≤ n ∧ inn ps i m (outr ps n i) = (a, b) ∧ x = .int .i64 a ∧ y = .int .i64 b ∧ k = .int .i64 ((i + 1 + m : Nat) : Int) ∧ Below w.heap.size w wi) (fun _ _ k _ => n - (intOf k).toNat)
      case atStart => exact ⟨0, a0, b0, by omega, HSE.out, rfl, rfl, by simp, HB.out⟩
      case round =>
        obtain ⟨m, a, b, hm, hs2, rfl, rfl, rfl, hbi⟩ := hrel
        have HBI := Lib.hid hbi
        have HAB := Lib.hid hs2
        clear hbi
        by_cases hml : i + 1 + m < n
        · have ox := own_below HX.out HBI.out
          obtain ⟨g, cap, hv, _, _⟩ := ox.form (by omega)
          obtain ⟨rfl, rfl⟩ : A = some ⟨g, 0, none⟩ ∧ c = cap := by simpa using hv
          have OX := Lib.hid ox
          obtain ⟨k, hk⟩ : ∃ k, i + 1 + m = k := ⟨_, rfl⟩
          rw [hk] at hml
          have HK := Lib.hid hk
          have hst := Lib.hid (show inn ps i (m + 1) (outr ps n i) = step ps i k (a, b) by rw [inn, hk, hs2])
          have gi : (i : Int) < (n : Int) := by omega
          have gk : (k : Int) < (n : Int) := by omega
          have bd := inn_bd (ps := ps) (n := n) (s := outr ps n i) (outr_bd (ps := ps) h2 i (by omega)) hlt m (by omega)
          rw [hs2] at bd
          rw [hk]
          have ba : a < n := bd.1
          have bb : b < n := bd.2
          clear hv ox hk hm hs2 bd
          have ga : (a : Int) < (n : Int) := by omega
          have gb : (b : Int) < (n : Int) := by omega
          · skip
            obtain ⟨t0, t1, t2, t3, t4, t5⟩ := el_own OX.out hlt
            have Ft := Lib.hid (FT.out i hlt)
            have St := Lib.hid (HS.out i hlt)
            obtain ⟨pt, hpt⟩ : ∃ p, atP ps i = p := ⟨_, rfl⟩
            rw [hpt] at t0 t1 t2 t3 t4 t5 Ft St
            obtain ⟨u0, u1, u2, u3, u4, u5⟩ := el_own OX.out hml
            have Fu := Lib.hid (FT.out k hml)
            have Su := Lib.hid (HS.out k hml)
            obtain ⟨pu, hpu⟩ : ∃ p, atP ps k = p := ⟨_, rfl⟩
            rw [hpu] at u0 u1 u2 u3 u4 u5 Fu Su
            obtain ⟨r0, r1, r2, r3, r4, r5⟩ := el_own OX.out ba
            have Fr := Lib.hid (FT.out a ba)
            have Sr := Lib.hid (HS.out a ba)
            obtain ⟨pr, hpr⟩ : ∃ p, atP ps a = p := ⟨_, rfl⟩
            rw [hpr] at r0 r1 r2 r3 r4 r5 Fr Sr
            obtain ⟨s0, s1, s2, s3, s4, s5⟩ := el_own OX.out bb
            have Fs := Lib.hid (FT.out b bb)
            have Ss := Lib.hid (HS.out b bb)
            obtain ⟨pss, hps⟩ : ∃ p, atP ps b = p := ⟨_, rfl⟩
            rw [hps] at s0 s1 s2 s3 s4 s5 Fs Ss
            have g0 : ∀ args W, args = #[.agg #[.string pt.id, .int .i64 pt.l, .int .i64 pt.wd, .int .i64 pt.t, .int .i64 pt.m, .int .i64 pt.r], .agg #[.string pu.id, .int .i64 pu.l, .int .i64 pu.wd, .int .i64 pu.t, .int .i64 pu.m, .int .i64 pu.r]] → Calls Tryz.prog 31 args W fun e w' => e = .returned (.int .i64 (gapI pt pu)) ∧ Below W.heap.size W w' := fun args W ha => by
              subst ha
              exact gap_any pt pu W St.out Su.out Ft.out Fu.out
            have G0 := Lib.hid g0
            clear g0
            have g1 : ∀ args W, args = #[.agg #[.string pr.id, .int .i64 pr.l, .int .i64 pr.wd, .int .i64 pr.t, .int .i64 pr.m, .int .i64 pr.r], .agg #[.string pss.id, .int .i64 pss.l, .int .i64 pss.wd, .int .i64 pss.t, .int .i64 pss.m, .int .i64 pss.r]] → Calls Tryz.prog 31 args W fun e w' => e = .returned (.int .i64 (gapI pr pss)) ∧ Below W.heap.size W w' := fun args W ha => by
              subst ha
              exact gap_any pr pss W Sr.out Ss.out Fr.out Fs.out
            have G1 := Lib.hid g1
            clear g1
            have Kt0 := cell_regrown t0
            have Kt1 := cell_regrown t1
            have Kt2 := cell_regrown t2
            have Kt3 := cell_regrown t3
            have Kt4 := cell_regrown t4
            have Kt5 := cell_regrown t5
            have Ku0 := cell_regrown u0
            have Ku1 := cell_regrown u1
            have Ku2 := cell_regrown u2
            have Ku3 := cell_regrown u3
            have Ku4 := cell_regrown u4
            have Ku5 := cell_regrown u5
            have Kr0 := cell_regrown r0
            have Kr1 := cell_regrown r1
            have Kr2 := cell_regrown r2
            have Kr3 := cell_regrown r3
            have Kr4 := cell_regrown r4
            have Kr5 := cell_regrown r5
            have Ks0 := cell_regrown s0
            have Ks1 := cell_regrown s1
            have Ks2 := cell_regrown s2
            have Ks3 := cell_regrown s3
            have Ks4 := cell_regrown s4
            have Ks5 := cell_regrown s5
            clear t0 t1 t2 t3 t4 t5 u0 u1 u2 u3 u4 u5 r0 r1 r2 r3 r4 r5 s0 s1 s2 s3 s4 s5
            by_cases hd : gapI pt pu < gapI pr pss
            · have HS3 := Lib.hid (show inn ps i (m + 1) (outr ps n i) = (i, k) by rw [hst.out, step_t (by rw [hpt, hpu, hpr, hps]; exact hd)])
              clear hpt hpu hpr hps
              go_wp2_with fail
              refine wp_region_quiet_below (by kernel_rfl) (by kernel_rfl) ?_; (repeat (go_big_quiet_step (first | (go_at_call 31; refine Calls.regrown_of (G0.out _ _ ?_); rfl) | (go_at_call 31; refine Calls.regrown_of (G1.out _ _ ?_); rfl)))); refine wpQuiet_nil ?_; intro wq hwq; obtain ⟨⟨dq, osq⟩, hwq2⟩ := hwq; have bq := below_of hwq2; clear hwq2
              have BF := Lib.hid (HBI.out.trans (bq.mono HBI.out.size))
              clear bq Kt0 Kt1 Kt2 Kt3 Kt4 Kt5 Ku0 Ku1 Ku2 Ku3 Ku4 Ku5 Kr0 Kr1 Kr2 Kr3 Kr4 Kr5 Ks0 Ks1 Ks2 Ks3 Ks4 Ks5
              go_wp2
              go_roundw
              case rel => exact ⟨m + 1, i, k, by have := HK.out; omega, HS3.out, rfl, rfl, by have := HK.out; congr 1; omega, BF.out⟩
              case measure => simp [intOf]; omega
            · have HS3 := Lib.hid (show inn ps i (m + 1) (outr ps n i) = (a, b) by rw [hst.out, step_f (by rw [hpt, hpu, hpr, hps]; exact hd)])
              clear hpt hpu hpr hps
              go_wp2_with fail
              refine wp_region_quiet_below (by kernel_rfl) (by kernel_rfl) ?_; (repeat (go_big_quiet_step (first | (go_at_call 31; refine Calls.regrown_of (G0.out _ _ ?_); rfl) | (go_at_call 31; refine Calls.regrown_of (G1.out _ _ ?_); rfl)))); refine wpQuiet_nil ?_; intro wq hwq; obtain ⟨⟨dq, osq⟩, hwq2⟩ := hwq; have bq := below_of hwq2; clear hwq2
              have BF := Lib.hid (HBI.out.trans (bq.mono HBI.out.size))
              clear bq Kt0 Kt1 Kt2 Kt3 Kt4 Kt5 Ku0 Ku1 Ku2 Ku3 Ku4 Ku5 Kr0 Kr1 Kr2 Kr3 Kr4 Kr5 Ks0 Ks1 Ks2 Ks3 Ks4 Ks5
              go_wp2
              go_roundw
              case rel => exact ⟨m + 1, a, b, by have := HK.out; omega, HS3.out, rfl, rfl, by have := HK.out; congr 1; omega, BF.out⟩
              case measure => simp [intOf]; omega
        · have HS3 := Lib.hid (show outr ps n (i + 1) = (a, b) by
            have hmm : m = n - i - 1 := by omega
            rw [outr, ← hmm, hs2])
          clear hs2
          go_wp2
          go_roundw
          case rel => exact ⟨i + 1, a, b, by omega, HS3.out, rfl, rfl, by go_num, HBI.out⟩
          case measure => simp [intOf]; omega
    · obtain rfl : i = n := by omega
      have HF := Lib.hid (show ans ps = ((a0 : Int), (b0 : Int), 0) by rw [hf.out, HSE.out])
      go_wp2
      go_ret3
      exact ⟨ret_q HF.out, HB.out⟩

end Go.Proofs.YtfmbmgdemdbpaaaGreatDoor.wBest

namespace Go.Proofs.YtfmbmgdemdbpaaaGreatDoor.wLight
open Go.RowKit Go.Proofs.YtfmbmgdemdbpaaaGreatDoor
set_option linter.unusedVariables false

open Go.Sort

/-- one plank's turn in the search -/
def lightF (ps : List Pl) (x y z : Int) (k : Nat) (best : Int) : Int := if cutB (atP ps k) x y z && (decide (best < 0) || decide (dens (atP ps k) < dens (atP ps best.toNat))) then k else best
def lightN (ps : List Pl) (x y z : Int) : Nat → Int
  | 0 => -1
  | k + 1 => lightF ps x y z k (lightN ps x y z k)
theorem light_bd (ps : List Pl) (x y z : Int) : ∀ k, -1 ≤ lightN ps x y z k ∧ lightN ps x y z k < k
  | 0 => by simp [lightN]
  | k + 1 => by
    have := light_bd ps x y z k
    rw [lightN, lightF]; split <;> omega
def fin (b : Int) : Int × Int := if b < 0 then (0, 3) else (b, 0)
def ans (ps : List Pl) (x y z : Int) : Int × Int := if validL ps then (if pieceB x y z then fin (lightN ps x y z ps.length) else (0, 2)) else (0, 1)
def res (ps : List Pl) (x y z : Int) : Int := (ans ps x y z).1
def cod (ps : List Pl) (x y z : Int) : Int := (ans ps x y z).2
theorem ret_p {a b : Int} {q : Int × Int} (h : q = (a, b)) : Ending.returned (.tuple #[.int .i64 a, .int .i64 b]) = .returned (.tuple #[.int .i64 q.1, .int .i64 q.2]) := by rw [h]
theorem own_drewN {w : World} {B : Nat} {e : TypeId} {size n : Nat} {v : Value} {xs : List Value} (h : w.ownsRow B e size v n xs) (m : Nat) : (w.drewN m).ownsRow B e size v n xs := own_below h (below_drewN (Below.refl _ _) m)

set_option maxHeartbeats 4000000 in
theorem implF_any (B n : Nat) (v : Value) (ps : List Pl) (x y z : Int) (w : World) (hx : w.ownsRow B 27 6 v n (plv ps)) (hs : Short ps n) (hn : n ≤ 1048576) :
    Calls Tryz.prog 19 #[v, .int .i64 x, .int .i64 y, .int .i64 z] w fun r w' => r = .returned (.tuple #[.int .i64 (res ps x y z), .int .i64 (cod ps x y z)]) ∧ Below w.heap.size w w' := by
  have lp := Lib.hid (show ps.length = n by have := hx.1; rw [plv_len] at this; omega)
  have HX := Lib.hid hx
  have HS := Lib.hid hs
  clear hx hs
  cases h0 : validL ps
  · have hr := Lib.hid (show ans ps x y z = (0, 1) by simp [ans, h0])
    go_enter Tryz.func19, Tryz.ntmps19
    go_wp2_with fail
    refine (is_ofb (implValid_any B n v ps w HX.out HS.out hn) h0).mono ?_
    rintro e w1 ⟨rfl, b1⟩
    have B1 := Lib.hid b1
    clear b1
    go_wp2
    go_ret2
    exact ⟨ret_p hr.out, B1.out⟩
  cases h1 : pieceB x y z
  · have hr := Lib.hid (show ans ps x y z = (0, 2) by simp [ans, h0, h1])
    go_enter Tryz.func19, Tryz.ntmps19
    go_wp2_with fail
    refine (is_ofb (implValid_any B n v ps w HX.out HS.out hn) h0).mono ?_
    rintro e w1 ⟨rfl, b1⟩
    have B1 := Lib.hid b1
    clear b1
    go_wp2_with fail
    refine (is_of (isPiece_any x y z _) h1).mono ?_
    rintro e w' ⟨rfl, rfl⟩
    go_wp2
    go_ret2
    exact ⟨ret_p hr.out, B1.out⟩
  have hr := Lib.hid (show ans ps x y z = fin (lightN ps x y z ps.length) by simp [ans, h0, h1])
  have VL := Lib.hid (validL_of h0)
  obtain ⟨A, c, rfl⟩ := own_form HX.out
  go_enter Tryz.func19, Tryz.ntmps19
  go_wp2_with fail
  refine (is_ofb (implValid_any B n _ ps w HX.out HS.out hn) h0).mono ?_
  rintro e w1 ⟨rfl, b1⟩
  have B1 := Lib.hid b1
  clear b1
  go_wp2_with fail
  refine (is_of (isPiece_any x y z _) h1).mono ?_
  rintro e w' ⟨rfl, rfl⟩
  have n16 : n ≤ 16 := by have := VL.out.1; rw [lp.out] at this; exact this
  go_wp2_with fail
  go_loopw [10, 23] (fun b i wr => ∃ (k : Nat) (best : Int), k ≤ n ∧ lightN ps x y z k = best ∧ -1 ≤ best ∧ best < k ∧ b = .int .i64 best ∧ i = .int .i64 k ∧ Below w.heap.size w wr) (fun _ i _ => n - (intOf i).toNat)
  case atStart => exact ⟨0, -1, Nat.zero_le _, rfl, by omega, by omega, rfl, rfl, B1.out⟩
  case round =>
    obtain ⟨k, best, hk, ha, b0, b1, rfl, rfl, hb⟩ := hrel
    have HA := Lib.hid ha
    have HB := Lib.hid hb
    clear ha hb
    by_cases hlt : k < n
    · have ox := own_below HX.out HB.out
      obtain ⟨g, cap, hv, _, _⟩ := ox.form (by omega)
      obtain ⟨rfl, rfl⟩ : A = some ⟨g, 0, none⟩ ∧ c = cap := by simpa using hv
      have OX := Lib.hid ox
      have gk : (k : Int) < (n : Int) := by omega
      have fp := Lib.hid (validB_fits (VL.out.2 k (by rw [lp.out]; exact hlt)).1)
      have sp := Lib.hid (HS.out k hlt)
      obtain ⟨k0, k1, k2, k3, k4, k5⟩ := el_own ox hlt
      obtain ⟨p, hp⟩ : ∃ p, atP ps k = p := ⟨_, rfl⟩
      rw [hp] at fp sp k0 k1 k2 k3 k4 k5
      have st := Lib.hid (show lightN ps x y z (k + 1) = if cutB p x y z && (decide (best < 0) || decide (dens p < dens (atP ps best.toNat))) then (k : Int) else best by rw [lightN, HA.out, lightF, hp])
      clear hv ox hp
      obtain ⟨W1, hW1⟩ : ∃ W1, wr.alloc (.cells #[.string p.id, .int .i64 p.l, .int .i64 p.wd, .int .i64 p.t, .int .i64 p.m, .int .i64 p.r] 27) = W1 := ⟨_, rfl⟩
      have A1 := Lib.hid (show At W1 wr.heap.size 0 p by rw [← hW1]; exact at_new p wr _ sp.out)
      have BW := Lib.hid (show Below wr.heap.size wr W1 by rw [← hW1]; exact (Below.refl _ _).alloc (Nat.le_refl _) _)
      have BB := Lib.hid (HB.out.trans (BW.out.mono HB.out.size))
      have HW1 := Lib.hid hW1
      have cf := fun W => cuts_any p x y z W
      have dp : ∀ args W, args = #[.agg #[.string p.id, .int .i64 p.l, .int .i64 p.wd, .int .i64 p.t, .int .i64 p.m, .int .i64 p.r]] → Calls Tryz.prog 26 args W fun e w' => e = .returned (.int .i64 (dens p)) ∧ Below W.heap.size W w' := fun args W ha => by subst ha; exact density_any p W fp.out
      have DP := Lib.hid dp
      have CF := Lib.hid cf
      clear dp cf hW1
      cases hc : cutB p x y z
      · have CF1 := Lib.hid (fun W => is_ofb (CF.out W) hc)
        go_wp2_with fail
        rw [HW1.out]
        clear k0 k1 k2 k3 k4 k5
        obtain ⟨q0, q1, q2, q3, q4, q5⟩ := A1.out.rg
        refine wp_region_quiet_below (by kernel_rfl) (by kernel_rfl) ?_; (repeat (go_big_quiet_step ((go_at_call 35; exact Calls.regrown_of (CF1.out _))))); refine wpQuiet_nil ?_; intro wq hwq; obtain ⟨⟨dq, osq⟩, hwq2⟩ := hwq; have bq := below_of hwq2; clear hwq2
        clear q0 q1 q2 q3 q4 q5
        have BF := Lib.hid (BB.out.trans (bq.mono BB.out.size))
        clear bq
        go_wp2
        go_roundw
        case rel => exact ⟨k + 1, best, by omega, by rw [st.out, hc]; rfl, b0, by omega, rfl, by go_num, BF.out⟩
        case measure => simp [intOf]; omega
      obtain rfl | ⟨bn, rfl⟩ : best = -1 ∨ ∃ bn : Nat, best = bn := by
        by_cases e : best < 0
        · exact .inl (by omega)
        · exact .inr ⟨best.toNat, by omega⟩
      · have CF1 := Lib.hid (fun W => is_ofb (CF.out W) hc)
        go_wp2_with fail
        rw [HW1.out]
        clear k0 k1 k2 k3 k4 k5
        obtain ⟨q0, q1, q2, q3, q4, q5⟩ := A1.out.rg
        refine wp_region_quiet_below (by kernel_rfl) (by kernel_rfl) ?_; (repeat (go_big_quiet_step ((go_at_call 35; exact Calls.regrown_of (CF1.out _))))); refine wpQuiet_nil ?_; intro wq hwq; obtain ⟨⟨dq, osq⟩, hwq2⟩ := hwq; have bq := below_of hwq2; clear hwq2
        clear q0 q1 q2 q3 q4 q5
        have BF := Lib.hid (BB.out.trans (bq.mono BB.out.size))
        clear bq
        go_wp2
        go_roundw
        case rel => exact ⟨k + 1, (k : Int), by omega, by rw [st.out, hc]; rfl, by omega, by omega, rfl, by go_num, BF.out⟩
        case measure => simp [intOf]; omega
      have hbn : bn < n := by omega
      have gb : (bn : Int) < (n : Int) := by omega
      have zb : decide ((bn : Int) < 0) = false := by rw [decide_eq_false_iff_not]; omega
      have fq := Lib.hid (validB_fits (VL.out.2 bn (by rw [lp.out]; exact hbn)).1)
      have sq := Lib.hid (HS.out bn hbn)
      obtain ⟨m0, m1, m2, m3, m4, m5⟩ := el_own OX.out hbn
      obtain ⟨q, hq⟩ : ∃ q, atP ps bn = q := ⟨_, rfl⟩
      rw [hq] at fq sq m0 m1 m2 m3 m4 m5
      have st2 := Lib.hid (show lightN ps x y z (k + 1) = if dens p < dens q then (k : Int) else bn by rw [st.out, hc, zb, Int.toNat_natCast, hq]; simp)
      clear hq
      have n0 := Lib.hid (cell_regrown ((BW.out.cell (p := ⟨g, bn * 6, none⟩) (OX.out.lt g rfl).2).trans m0))
      have n1 := Lib.hid (cell_regrown ((BW.out.cell (p := ⟨g, bn * 6 + 1, none⟩) (OX.out.lt g rfl).2).trans m1))
      have n2 := Lib.hid (cell_regrown ((BW.out.cell (p := ⟨g, bn * 6 + 2, none⟩) (OX.out.lt g rfl).2).trans m2))
      have n3 := Lib.hid (cell_regrown ((BW.out.cell (p := ⟨g, bn * 6 + 3, none⟩) (OX.out.lt g rfl).2).trans m3))
      have n4 := Lib.hid (cell_regrown ((BW.out.cell (p := ⟨g, bn * 6 + 4, none⟩) (OX.out.lt g rfl).2).trans m4))
      have n5 := Lib.hid (cell_regrown ((BW.out.cell (p := ⟨g, bn * 6 + 5, none⟩) (OX.out.lt g rfl).2).trans m5))
      have dq : ∀ args W, args = #[.agg #[.string q.id, .int .i64 q.l, .int .i64 q.wd, .int .i64 q.t, .int .i64 q.m, .int .i64 q.r]] → Calls Tryz.prog 26 args W fun e w' => e = .returned (.int .i64 (dens q)) ∧ Below W.heap.size W w' := fun args W ha => by subst ha; exact density_any q W fq.out
      have DQ := Lib.hid dq
      clear m0 m1 m2 m3 m4 m5 dq
      by_cases hd : dens p < dens q
      · have CF1 := Lib.hid (fun W => is_ofb (CF.out W) hc)
        go_wp2_with fail
        rw [HW1.out]
        clear k0 k1 k2 k3 k4 k5
        obtain ⟨q0, q1, q2, q3, q4, q5⟩ := A1.out.rg
        have N0 := n0.out
        have N1 := n1.out
        have N2 := n2.out
        have N3 := n3.out
        have N4 := n4.out
        have N5 := n5.out
        refine wp_region_quiet_below (by kernel_rfl) (by kernel_rfl) ?_; (repeat (go_big_quiet_step (first | (go_at_call 35; exact Calls.regrown_of (CF1.out _)) | (go_at_call 26; refine Calls.regrown_of (DP.out _ _ ?_); rfl) | (go_at_call 26; refine Calls.regrown_of (DQ.out _ _ ?_); rfl)))); refine wpQuiet_nil ?_; intro wq hwq; obtain ⟨⟨dq, osq⟩, hwq2⟩ := hwq; have bq := below_of hwq2; clear hwq2
        clear q0 q1 q2 q3 q4 q5 N0 N1 N2 N3 N4 N5
        have BF := Lib.hid (BB.out.trans (bq.mono BB.out.size))
        clear bq
        go_wp2
        go_roundw
        case rel => exact ⟨k + 1, (k : Int), by omega, by rw [st2.out, if_pos hd], by omega, by omega, rfl, by go_num, BF.out⟩
        case measure => simp [intOf]; omega
      · have CF1 := Lib.hid (fun W => is_ofb (CF.out W) hc)
        go_wp2_with fail
        rw [HW1.out]
        clear k0 k1 k2 k3 k4 k5
        obtain ⟨q0, q1, q2, q3, q4, q5⟩ := A1.out.rg
        have N0 := n0.out
        have N1 := n1.out
        have N2 := n2.out
        have N3 := n3.out
        have N4 := n4.out
        have N5 := n5.out
        refine wp_region_quiet_below (by kernel_rfl) (by kernel_rfl) ?_; (repeat (go_big_quiet_step (first | (go_at_call 35; exact Calls.regrown_of (CF1.out _)) | (go_at_call 26; refine Calls.regrown_of (DP.out _ _ ?_); rfl) | (go_at_call 26; refine Calls.regrown_of (DQ.out _ _ ?_); rfl)))); refine wpQuiet_nil ?_; intro wq hwq; obtain ⟨⟨dq, osq⟩, hwq2⟩ := hwq; have bq := below_of hwq2; clear hwq2
        clear q0 q1 q2 q3 q4 q5 N0 N1 N2 N3 N4 N5
        have BF := Lib.hid (BB.out.trans (bq.mono BB.out.size))
        clear bq
        go_wp2
        go_roundw
        case rel => exact ⟨k + 1, (bn : Int), by omega, by rw [st2.out, if_neg (by omega)], by omega, by omega, rfl, by go_num, BF.out⟩
        case measure => simp [intOf]; omega
    · obtain rfl : k = n := by omega
      by_cases hneg : best < 0
      · have hf := Lib.hid (show ans ps x y z = (0, 3) by rw [hr.out, lp.out, HA.out, fin, if_pos hneg])
        go_wp2
        go_ret2
        exact ⟨ret_p hf.out, HB.out⟩
      · have hf := Lib.hid (show ans ps x y z = (best, 0) by rw [hr.out, lp.out, HA.out, fin, if_neg hneg])
        go_wp2
        go_ret2
        exact ⟨ret_p hf.out, HB.out⟩

end Go.Proofs.YtfmbmgdemdbpaaaGreatDoor.wLight

namespace Go.Proofs.YtfmbmgdemdbpaaaGreatDoor.wPieces
open Go.RowKit Go.Proofs.YtfmbmgdemdbpaaaGreatDoor
set_option linter.unusedVariables false


def many (p : Pl) (a b c : Int) : Int := p.l / a * (p.wd / b) * (p.t / c)
def res (p : Pl) (a b c : Int) : Int := if validB p && pieceB a b c then many p a b c else 0
def cod (p : Pl) (a b c : Int) : Int := if validB p then (if pieceB a b c then 0 else 2) else 1
theorem res_t {p : Pl} {a b c : Int} (h : validB p = true) (g : pieceB a b c = true) : res p a b c = many p a b c ∧ cod p a b c = 0 := by simp [res, cod, h, g]
theorem res_r {p : Pl} {a b c : Int} (h : validB p = true) (g : pieceB a b c = false) : res p a b c = 0 ∧ cod p a b c = 2 := by simp [res, cod, h, g]
theorem res_f {p : Pl} {a b c : Int} (h : validB p = false) : res p a b c = 0 ∧ cod p a b c = 1 := by simp [res, cod, h]
theorem quo_bd {x a : Int} (h1 : 1 ≤ x) (h2 : x ≤ 2000) (h3 : 1 ≤ a) : 0 ≤ x / a ∧ x / a ≤ 2000 := by
  refine ⟨Int.ediv_nonneg (by omega) (by omega), ?_⟩
  have := Int.ediv_le_self (a := x) a (by omega)
  omega

theorem impl_any (p : Pl) (a b c : Int) (w : World) (hs : p.id.size ≤ maxLen) :
    Calls Tryz.prog 17 #[.agg #[.string p.id, .int .i64 p.l, .int .i64 p.wd, .int .i64 p.t, .int .i64 p.m, .int .i64 p.r], .int .i64 a, .int .i64 b, .int .i64 c] w fun r w' => r = .returned (.tuple #[.int .i64 (res p a b c), .int .i64 (cod p a b c)]) ∧ Below w.heap.size w w' := by
  have K := Lib.hid (Keeps.start w p 27 hs)
  cases h : validB p
  · have hr := Lib.hid (res_f (a := a) (b := b) (c := c) h)
    go_enter Tryz.func17, Tryz.ntmps17
    go_wp2_with (go_at_call 25; refine (ValidPlank_any p _ hs).mono ?_; rintro e w1 ⟨rfl, b1⟩; have K := Lib.hid (K.out.step b1); obtain ⟨q0, q1, q2, q3, q4, q5⟩ := K.out.cells; clear b1)
    go_ret2
    exact ⟨ret_int2 hr.out.1.symm hr.out.2.symm, K.out.old⟩
  · cases g : pieceB a b c
    · have hr := Lib.hid (res_r h g)
      go_enter Tryz.func17, Tryz.ntmps17
      go_wp2_with (first | (go_at_call 25; refine (ValidPlank_any p _ hs).mono ?_; rintro e w1 ⟨rfl, b1⟩; have K := Lib.hid (K.out.step b1); obtain ⟨q0, q1, q2, q3, q4, q5⟩ := K.out.cells; clear b1) | (go_at_call 34; refine (isPiece_any _ _ _ _).mono ?_; rintro e w' ⟨rfl, rfl⟩))
      go_ret2
      exact ⟨ret_int2 hr.out.1.symm hr.out.2.symm, K.out.old⟩
    · have hr := Lib.hid (res_t h g)
      have hf := validB_fits h
      have hg := g
      simp only [pieceB, Bool.and_eq_true] at hg
      obtain ⟨g1, g2, g3⟩ := hg
      have a1 := (inB_t g1).1
      have a2 := (inB_t g2).1
      have a3 := (inB_t g3).1
      clear g1 g2 g3
      have x1 := quo_bd hf.l1 hf.l2 a1
      have x2 := quo_bd hf.w1 hf.w2 a2
      have x3 := quo_bd hf.t1 hf.t2 a3
      have y1 := mul_bd1 x1.1 x1.2 x2.1 x2.2
      have y2 := mul_bd1 y1.1 y1.2 x3.1 x3.2
      obtain ⟨l1, l2, w1, w2, t1, t2, m1, m2, r1, r2⟩ := hf
      have d1 : p.l.tdiv a = p.l / a := Int.tdiv_eq_ediv_of_nonneg (by omega)
      have d2 : p.wd.tdiv b = p.wd / b := Int.tdiv_eq_ediv_of_nonneg (by omega)
      have d3 : p.t.tdiv c = p.t / c := Int.tdiv_eq_ediv_of_nonneg (by omega)
      have e1 : IntKind.i64.wrap (p.l / a) = p.l / a := wrap_i64 (by omega) (by omega)
      have e2 : IntKind.i64.wrap (p.wd / b) = p.wd / b := wrap_i64 (by omega) (by omega)
      have e3 : IntKind.i64.wrap (p.t / c) = p.t / c := wrap_i64 (by omega) (by omega)
      have e4 : IntKind.i64.wrap (p.l / a * (p.wd / b)) = p.l / a * (p.wd / b) := wrap_i64 (by omega) (by omega)
      have e5 : IntKind.i64.wrap (p.l / a * (p.wd / b) * (p.t / c)) = p.l / a * (p.wd / b) * (p.t / c) := wrap_i64 (by omega) (by omega)
      have z1 : (a == 0) = false := by simp; omega
      have z2 : (b == 0) = false := by simp; omega
      have z3 : (c == 0) = false := by simp; omega
      go_enter Tryz.func17, Tryz.ntmps17
      go_wp2_with (first | (go_at_call 25; refine (ValidPlank_any p _ hs).mono ?_; rintro e w1 ⟨rfl, b1⟩; have K := Lib.hid (K.out.step b1); obtain ⟨q0, q1, q2, q3, q4, q5⟩ := K.out.cells; clear b1) | (go_at_call 34; refine (isPiece_any _ _ _ _).mono ?_; rintro e w' ⟨rfl, rfl⟩))
      go_quiet (fail)
      clear d1 d2 d3 e1 e2 e3 e4 e5 z1 z2 z3
      go_wp2
      go_ret2
      exact ⟨ret_int2 (by rw [hr.out.1]; rfl) hr.out.2.symm, below_drewN K.out.old _⟩

end Go.Proofs.YtfmbmgdemdbpaaaGreatDoor.wPieces

namespace Go.Proofs.YtfmbmgdemdbpaaaGreatDoor.wFits
open Go.RowKit Go.Proofs.YtfmbmgdemdbpaaaGreatDoor
set_option linter.unusedVariables false


def res (p : Pl) (a b c : Int) : Bool := validB p && (pieceB a b c && cutB p a b c)

theorem impl_any (p : Pl) (a b c : Int) (w : World) (hs : p.id.size ≤ maxLen) :
    Calls Tryz.prog 18 #[.agg #[.string p.id, .int .i64 p.l, .int .i64 p.wd, .int .i64 p.t, .int .i64 p.m, .int .i64 p.r], .int .i64 a, .int .i64 b, .int .i64 c] w fun r w' => r = .returned (.bool (res p a b c)) ∧ Below w.heap.size w w' := by
  have K := Lib.hid (Keeps.start w p 27 hs)
  cases h : validB p
  · have hr := Lib.hid (show res p a b c = false by simp [res, h])
    go_enter Tryz.func18, Tryz.ntmps18
    go_wp2_with (go_at_call 25; refine (ValidPlank_any p _ hs).mono ?_; rintro e w1 ⟨rfl, b1⟩; have K := Lib.hid (K.out.step b1); obtain ⟨q0, q1, q2, q3, q4, q5⟩ := K.out.cells; clear b1)
    go_ret
    exact ⟨ret_bool hr.out.symm, K.out.old⟩
  · cases g : pieceB a b c
    · have hr := Lib.hid (show res p a b c = false by simp [res, g])
      go_enter Tryz.func18, Tryz.ntmps18
      go_wp2_with (first | (go_at_call 25; refine (ValidPlank_any p _ hs).mono ?_; rintro e w1 ⟨rfl, b1⟩; have K := Lib.hid (K.out.step b1); obtain ⟨q0, q1, q2, q3, q4, q5⟩ := K.out.cells; clear b1) | (go_at_call 34; refine (isPiece_any _ _ _ _).mono ?_; rintro e w' ⟨rfl, rfl⟩))
      go_ret
      exact ⟨ret_bool hr.out.symm, K.out.old⟩
    · have hr := Lib.hid (show res p a b c = cutB p a b c by simp [res, h, g])
      go_enter Tryz.func18, Tryz.ntmps18
      go_wp2_with (first | (go_at_call 25; refine (ValidPlank_any p _ hs).mono ?_; rintro e w1 ⟨rfl, b1⟩; have K := Lib.hid (K.out.step b1); obtain ⟨q0, q1, q2, q3, q4, q5⟩ := K.out.cells; clear b1) | (go_at_call 34; refine (isPiece_any _ _ _ _).mono ?_; rintro e w' ⟨rfl, rfl⟩) | (go_at_call 35; refine (cuts_any p _ _ _ _).mono ?_; rintro e w1 ⟨rfl, b1⟩; have K := Lib.hid (K.out.step b1); obtain ⟨q0, q1, q2, q3, q4, q5⟩ := K.out.cells; clear b1))
      go_ret
      exact ⟨ret_bool hr.out.symm, K.out.old⟩

theorem spec_any (p : Pl) (a b c : Int) (w : World) (hs : p.id.size ≤ maxLen) :
    Calls Tryz.prog 20 #[.agg #[.string p.id, .int .i64 p.l, .int .i64 p.wd, .int .i64 p.t, .int .i64 p.m, .int .i64 p.r], .int .i64 a, .int .i64 b, .int .i64 c] w fun r w' => r = .returned (.bool (res p a b c)) ∧ Below w.heap.size w w' := by
  have K := Lib.hid (Keeps.start w p 27 hs)
  cases h : validB p
  · have hr := Lib.hid (show res p a b c = false by simp [res, h])
    go_enter Tryz.func20, Tryz.ntmps20
    go_wp2_with (go_at_call 32; refine (l03One_any p _ _ _ K.out.at_).mono ?_; rintro e w' ⟨rfl, rfl⟩)
    go_ret
    exact ⟨ret_bool hr.out.symm, K.out.old⟩
  · cases g : pieceB a b c
    · have hr := Lib.hid (show res p a b c = false by simp [res, g])
      go_enter Tryz.func20, Tryz.ntmps20
      go_wp2_with (first | (go_at_call 32; refine (l03One_any p _ _ _ K.out.at_).mono ?_; rintro e w' ⟨rfl, rfl⟩) | (go_at_call 36; refine (l03Piece_any _ _ _ _).mono ?_; rintro e w' ⟨rfl, rfl⟩))
      go_ret
      exact ⟨ret_bool hr.out.symm, K.out.old⟩
    · have hr := Lib.hid (show res p a b c = cutB p a b c by simp [res, h, g])
      go_enter Tryz.func20, Tryz.ntmps20
      go_wp2_with (first | (go_at_call 32; refine (l03One_any p _ _ _ K.out.at_).mono ?_; rintro e w' ⟨rfl, rfl⟩) | (go_at_call 36; refine (l03Piece_any _ _ _ _).mono ?_; rintro e w' ⟨rfl, rfl⟩) | (go_at_call 37; refine (l03Fits_any p _ _ _ _ _ _ K.out.at_).mono ?_; rintro e w' ⟨rfl, rfl⟩))
      go_ret
      exact ⟨ret_bool hr.out.symm, K.out.old⟩

end Go.Proofs.YtfmbmgdemdbpaaaGreatDoor.wFits

namespace Go.Proofs.YtfmbmgdemdbpaaaGreatDoor.wDens
open Go.RowKit Go.Proofs.YtfmbmgdemdbpaaaGreatDoor
set_option linter.unusedVariables false


def res (p : Pl) : Int := if validB p then dens p else 0
def cod (p : Pl) : Int := if validB p then 0 else 1
theorem res_t {p : Pl} (h : validB p = true) : res p = dens p ∧ cod p = 0 := by rw [res, cod, h]; exact ⟨rfl, rfl⟩
theorem res_f {p : Pl} (h : validB p = false) : res p = 0 ∧ cod p = 1 := by rw [res, cod, h]; exact ⟨rfl, rfl⟩

theorem impl_any (p : Pl) (w : World) (hs : p.id.size ≤ maxLen) :
    Calls Tryz.prog 7 #[.agg #[.string p.id, .int .i64 p.l, .int .i64 p.wd, .int .i64 p.t, .int .i64 p.m, .int .i64 p.r]] w fun r w' => r = .returned (.tuple #[.int .i64 (res p ), .int .i64 (cod p )]) ∧ Below w.heap.size w w' := by
  have K := Lib.hid (Keeps.start w p 27 hs)
  cases h : validB p
  · have hr := Lib.hid (res_f h)
    go_enter Tryz.func7, Tryz.ntmps7
    go_wp2_with (go_at_call 25; refine (ValidPlank_any p _ hs).mono ?_; rintro e w1 ⟨rfl, b1⟩; have K := Lib.hid (K.out.step b1); obtain ⟨q0, q1, q2, q3, q4, q5⟩ := K.out.cells; clear b1)
    go_ret2
    exact ⟨ret_int2 hr.out.1.symm hr.out.2.symm, K.out.old⟩
  · have hr := Lib.hid (res_t h)
    have hf := validB_fits h
    have hb := dens_bd hf
    go_enter Tryz.func7, Tryz.ntmps7
    go_wp2_with (first | (go_at_call 25; refine (ValidPlank_any p _ hs).mono ?_; rintro e w1 ⟨rfl, b1⟩; have K := Lib.hid (K.out.step b1); obtain ⟨q0, q1, q2, q3, q4, q5⟩ := K.out.cells; clear b1) | (go_at_call 26; refine (density_any p _ hf).mono ?_; rintro e w1 ⟨rfl, b1⟩; have K := Lib.hid (K.out.step b1); obtain ⟨q0, q1, q2, q3, q4, q5⟩ := K.out.cells; clear b1))
    go_ret2
    exact ⟨ret_int2 hr.out.1.symm hr.out.2.symm, K.out.old⟩

theorem spec_any (p : Pl) (w : World) (hs : p.id.size ≤ maxLen) :
    Calls Tryz.prog 21 #[.agg #[.string p.id, .int .i64 p.l, .int .i64 p.wd, .int .i64 p.t, .int .i64 p.m, .int .i64 p.r]] w fun r w' => r = .returned (.tuple #[.int .i64 (res p ), .int .i64 (cod p )]) ∧ Below w.heap.size w w' := by
  have K := Lib.hid (Keeps.start w p 27 hs)
  cases h : validB p
  · have hr := Lib.hid (res_f h)
    go_enter Tryz.func21, Tryz.ntmps21
    go_wp2_with (go_at_call 32; refine (l03One_any p _ _ _ K.out.at_).mono ?_; rintro e w' ⟨rfl, rfl⟩)
    go_ret2
    exact ⟨ret_int2 hr.out.1.symm hr.out.2.symm, K.out.old⟩
  · have hr := Lib.hid (res_t h)
    have hf := validB_fits h
    have hb := dens_bd hf
    go_enter Tryz.func21, Tryz.ntmps21
    go_wp2_with (first | (go_at_call 32; refine (l03One_any p _ _ _ K.out.at_).mono ?_; rintro e w' ⟨rfl, rfl⟩) | (go_at_call 38; refine (l03Density_any p _ _ _ K.out.at_ hf).mono ?_; rintro e w1 ⟨rfl, b1⟩; have K := Lib.hid (K.out.step b1); obtain ⟨q0, q1, q2, q3, q4, q5⟩ := K.out.cells; clear b1))
    go_ret2
    exact ⟨ret_int2 hr.out.1.symm hr.out.2.symm, K.out.old⟩

end Go.Proofs.YtfmbmgdemdbpaaaGreatDoor.wDens

namespace Go.Proofs.YtfmbmgdemdbpaaaGreatDoor.wRing
open Go.RowKit Go.Proofs.YtfmbmgdemdbpaaaGreatDoor
set_option linter.unusedVariables false


def res (p : Pl) : Int := if validB p then ring p else 0
def cod (p : Pl) : Int := if validB p then 0 else 1
theorem res_t {p : Pl} (h : validB p = true) : res p = ring p ∧ cod p = 0 := by rw [res, cod, h]; exact ⟨rfl, rfl⟩
theorem res_f {p : Pl} (h : validB p = false) : res p = 0 ∧ cod p = 1 := by rw [res, cod, h]; exact ⟨rfl, rfl⟩

theorem impl_any (p : Pl) (w : World) (hs : p.id.size ≤ maxLen) :
    Calls Tryz.prog 8 #[.agg #[.string p.id, .int .i64 p.l, .int .i64 p.wd, .int .i64 p.t, .int .i64 p.m, .int .i64 p.r]] w fun r w' => r = .returned (.tuple #[.int .i64 (res p ), .int .i64 (cod p )]) ∧ Below w.heap.size w w' := by
  have K := Lib.hid (Keeps.start w p 27 hs)
  cases h : validB p
  · have hr := Lib.hid (res_f h)
    go_enter Tryz.func8, Tryz.ntmps8
    go_wp2_with (go_at_call 25; refine (ValidPlank_any p _ hs).mono ?_; rintro e w1 ⟨rfl, b1⟩; have K := Lib.hid (K.out.step b1); obtain ⟨q0, q1, q2, q3, q4, q5⟩ := K.out.cells; clear b1)
    go_ret2
    exact ⟨ret_int2 hr.out.1.symm hr.out.2.symm, K.out.old⟩
  · have hr := Lib.hid (res_t h)
    have hf := validB_fits h
    have hb := ring_bd hf
    have f1 := hf.w1
    have f2 := hf.w2
    have f3 := hf.r1
    have f4 := hf.r2
    go_enter Tryz.func8, Tryz.ntmps8
    go_wp2_with (first | (go_at_call 25; refine (ValidPlank_any p _ hs).mono ?_; rintro e w1 ⟨rfl, b1⟩; have K := Lib.hid (K.out.step b1); obtain ⟨q0, q1, q2, q3, q4, q5⟩ := K.out.cells; clear b1) | (go_at_call 27; refine (rings_any p _ hf).mono ?_; rintro e w1 ⟨rfl, b1⟩; have K := Lib.hid (K.out.step b1); obtain ⟨q0, q1, q2, q3, q4, q5⟩ := K.out.cells; clear b1))
    go_ret2
    exact ⟨ret_int2 hr.out.1.symm hr.out.2.symm, K.out.old⟩

end Go.Proofs.YtfmbmgdemdbpaaaGreatDoor.wRing

namespace Go.Proofs.YtfmbmgdemdbpaaaGreatDoor.wGap
open Go.RowKit Go.Proofs.YtfmbmgdemdbpaaaGreatDoor
set_option linter.unusedVariables false

open Go.Sort

/-- what a law knows of its two boxed planks, call after call -/
structure Keeps2 (W : World) (b : Nat) (p : Pl) (c : Nat) (q : Pl) (w : World) : Prop where
  one : Keeps W b p w
  two : Keeps W c q w
theorem Keeps2.step {W w w' : World} {b c : Nat} {p q : Pl} (h : Keeps2 W b p c q w) (hb : Below w.heap.size w w') : Keeps2 W b p c q w' := ⟨h.one.step hb, h.two.step hb⟩
theorem Keeps2.start (W : World) (p q : Pl) (T : TypeId) (hp : p.id.size ≤ maxLen) (hq : q.id.size ≤ maxLen) : Keeps2 W W.heap.size p (W.heap.size + 1) q ((W.alloc (.cells #[.string p.id, .int .i64 p.l, .int .i64 p.wd, .int .i64 p.t, .int .i64 p.m, .int .i64 p.r] T)).alloc (.cells #[.string q.id, .int .i64 q.l, .int .i64 q.wd, .int .i64 q.t, .int .i64 q.m, .int .i64 q.r] T)) :=
  ⟨⟨((Below.refl _ _).alloc (Nat.le_refl _) _).alloc (by simp) _, by simp; omega, (two_new p q W T hp hq).1⟩, ⟨((Below.refl _ _).alloc (Nat.le_refl _) _).alloc (by simp) _, by simp, (two_new p q W T hp hq).2⟩⟩
theorem Keeps2.cells {W w : World} {b c : Nat} {p q : Pl} (h : Keeps2 W b p c q w) : (w.cell? ⟨b, 0, none⟩ = some (.string p.id) ∧ w.cell? ⟨b, 1, none⟩ = some (.int .i64 p.l) ∧ w.cell? ⟨b, 2, none⟩ = some (.int .i64 p.wd) ∧
    w.cell? ⟨b, 3, none⟩ = some (.int .i64 p.t) ∧ w.cell? ⟨b, 4, none⟩ = some (.int .i64 p.m) ∧ w.cell? ⟨b, 5, none⟩ = some (.int .i64 p.r)) ∧ w.cell? ⟨c, 0, none⟩ = some (.string q.id) ∧ w.cell? ⟨c, 1, none⟩ = some (.int .i64 q.l) ∧ w.cell? ⟨c, 2, none⟩ = some (.int .i64 q.wd) ∧
    w.cell? ⟨c, 3, none⟩ = some (.int .i64 q.t) ∧ w.cell? ⟨c, 4, none⟩ = some (.int .i64 q.m) ∧ w.cell? ⟨c, 5, none⟩ = some (.int .i64 q.r) := ⟨h.one.cells, h.two.cells⟩
theorem is_ofb {P : Program} {f : FuncId} {args : Array Value} {w : World} {b c : Bool} (h : Calls P f args w fun e w' => e = .returned (.bool b) ∧ Below w.heap.size w w') (hb : b = c) :
    Calls P f args w fun e w' => e = .returned (.bool c) ∧ Below w.heap.size w w' := by rw [← hb]; exact h

def res (p q : Pl) : Int := if validB p && validB q then gapI p q else 0
def cod (p q : Pl) : Int := if validB p && validB q then 0 else 1
theorem res_t {p q : Pl} (h : validB p = true) (g : validB q = true) : res p q = gapI p q ∧ cod p q = 0 := by simp [res, cod, h, g]
theorem res_1 {p q : Pl} (h : validB p = false) : res p q = 0 ∧ cod p q = 1 := by simp [res, cod, h]
theorem res_2 {p q : Pl} (g : validB q = false) : res p q = 0 ∧ cod p q = 1 := by simp [res, cod, g]

set_option maxHeartbeats 800000 in
theorem impl_any (p q : Pl) (w : World) (hp : p.id.size ≤ maxLen) (hq : q.id.size ≤ maxLen) :
    Calls Tryz.prog 14 #[.agg #[.string p.id, .int .i64 p.l, .int .i64 p.wd, .int .i64 p.t, .int .i64 p.m, .int .i64 p.r], .agg #[.string q.id, .int .i64 q.l, .int .i64 q.wd, .int .i64 q.t, .int .i64 q.m, .int .i64 q.r]] w fun r w' => r = .returned (.tuple #[.int .i64 (res p q), .int .i64 (cod p q)]) ∧ Below w.heap.size w w' := by
  have K := Lib.hid (Keeps2.start w p q 27 hp hq)
  cases h : validB p
  · have hr := Lib.hid (res_1 (q := q) h)
    go_enter Tryz.func14, Tryz.ntmps14
    go_wp2_with (go_at_call 25; refine (is_ofb (ValidPlank_any p _ hp) h).mono ?_; rintro e w1 ⟨rfl, b1⟩; have K := Lib.hid (K.out.step b1); obtain ⟨⟨q0, q1, q2, q3, q4, q5⟩, s0, s1, s2, s3, s4, s5⟩ := K.out.cells; clear b1)
    go_ret2
    exact ⟨ret_int2 hr.out.1.symm hr.out.2.symm, K.out.one.old⟩
  · cases g : validB q
    · have hr := Lib.hid (res_2 (p := p) g)
      go_enter Tryz.func14, Tryz.ntmps14
      go_wp2_with (first | (go_at_call_of 25 (Pl.l p); refine (is_ofb (ValidPlank_any p _ hp) h).mono ?_; rintro e w1 ⟨rfl, b1⟩; have K := Lib.hid (K.out.step b1); obtain ⟨⟨q0, q1, q2, q3, q4, q5⟩, s0, s1, s2, s3, s4, s5⟩ := K.out.cells; clear b1) | (go_at_call 25; refine (is_ofb (ValidPlank_any q _ hq) g).mono ?_; rintro e w1 ⟨rfl, b1⟩; have K := Lib.hid (K.out.step b1); obtain ⟨⟨q0, q1, q2, q3, q4, q5⟩, s0, s1, s2, s3, s4, s5⟩ := K.out.cells; clear b1))
      go_ret2
      exact ⟨ret_int2 hr.out.1.symm hr.out.2.symm, K.out.one.old⟩
    · have hr := Lib.hid (res_t h g)
      have f1 := validB_fits h
      have f2 := validB_fits g
      go_enter Tryz.func14, Tryz.ntmps14
      go_wp2_with (first | (go_at_call_of 25 (Pl.l p); refine (is_ofb (ValidPlank_any p _ hp) h).mono ?_; rintro e w1 ⟨rfl, b1⟩; have K := Lib.hid (K.out.step b1); obtain ⟨⟨q0, q1, q2, q3, q4, q5⟩, s0, s1, s2, s3, s4, s5⟩ := K.out.cells; clear b1) | (go_at_call 25; refine (is_ofb (ValidPlank_any q _ hq) g).mono ?_; rintro e w1 ⟨rfl, b1⟩; have K := Lib.hid (K.out.step b1); obtain ⟨⟨q0, q1, q2, q3, q4, q5⟩, s0, s1, s2, s3, s4, s5⟩ := K.out.cells; clear b1) | (go_at_call 31; refine (gap_any p q _ hp hq f1 f2).mono ?_; rintro e w1 ⟨rfl, b1⟩; have K := Lib.hid (K.out.step b1); obtain ⟨⟨q0, q1, q2, q3, q4, q5⟩, s0, s1, s2, s3, s4, s5⟩ := K.out.cells; clear b1))
      go_ret2
      exact ⟨ret_int2 hr.out.1.symm hr.out.2.symm, K.out.one.old⟩

set_option maxHeartbeats 800000 in
theorem spec_any (p q : Pl) (w : World) (hp : p.id.size ≤ maxLen) (hq : q.id.size ≤ maxLen) :
    Calls Tryz.prog 13 #[.agg #[.string p.id, .int .i64 p.l, .int .i64 p.wd, .int .i64 p.t, .int .i64 p.m, .int .i64 p.r], .agg #[.string q.id, .int .i64 q.l, .int .i64 q.wd, .int .i64 q.t, .int .i64 q.m, .int .i64 q.r]] w fun r w' => r = .returned (.tuple #[.int .i64 (res p q), .int .i64 (cod p q)]) ∧ Below w.heap.size w w' := by
  have K := Lib.hid (Keeps2.start w p q 27 hp hq)
  cases h : validB p
  · have hr := Lib.hid (res_1 (q := q) h)
    go_enter Tryz.func13, Tryz.ntmps13
    go_wp2_with (go_at_call 32; refine (is_of (l03One_any p _ _ _ K.out.one.at_) h).mono ?_; rintro e w' ⟨rfl, rfl⟩)
    go_ret2
    exact ⟨ret_int2 hr.out.1.symm hr.out.2.symm, K.out.one.old⟩
  · cases g : validB q
    · have hr := Lib.hid (res_2 (p := p) g)
      go_enter Tryz.func13, Tryz.ntmps13
      go_wp2_with fail
      refine (is_of (l03One_any p _ _ _ K.out.one.at_) h).mono ?_
      rintro e w' ⟨rfl, rfl⟩
      go_wp2_with fail
      refine (is_of (l03One_any q _ _ _ K.out.two.at_) g).mono ?_
      rintro e w' ⟨rfl, rfl⟩
      go_wp2
      go_ret2
      exact ⟨ret_int2 hr.out.1.symm hr.out.2.symm, K.out.one.old⟩
    · have hr := Lib.hid (res_t h g)
      have f1 := validB_fits h
      have f2 := validB_fits g
      go_enter Tryz.func13, Tryz.ntmps13
      go_wp2_with fail
      refine (is_of (l03One_any p _ _ _ K.out.one.at_) h).mono ?_
      rintro e w' ⟨rfl, rfl⟩
      go_wp2_with fail
      refine (is_of (l03One_any q _ _ _ K.out.two.at_) g).mono ?_
      rintro e w' ⟨rfl, rfl⟩
      go_wp2_with fail
      refine (l03Gap_any p q _ _ _ _ _ K.out.one.at_ K.out.two.at_ f1 f2).mono ?_
      rintro e w1 ⟨rfl, b1⟩
      have K := Lib.hid (K.out.step b1)
      clear b1
      go_wp2
      go_ret2
      exact ⟨ret_int2 hr.out.1.symm hr.out.2.symm, K.out.one.old⟩

end Go.Proofs.YtfmbmgdemdbpaaaGreatDoor.wGap

namespace Go.Proofs.YtfmbmgdemdbpaaaGreatDoor
open Go.RowKit

theorem dist_comm (a b : Int) : distI a b = distI b a := by unfold distI; split <;> split <;> omega
theorem gap_comm (p q : Pl) : gapI p q = gapI q p := by unfold gapI; rw [dist_comm (dens p), dist_comm (ring p)]
theorem gap_self (p : Pl) : gapI p p = 0 := by simp [gapI, distI]
theorem inn_least {ps : List Pl} {n i : Nat} {s : Nat × Nat} (hi : i < n) (h : s.1 < s.2 ∧ s.2 < n) (hs : ∀ p q, p < q → q < n → p < i → gapI (atP ps s.1) (atP ps s.2) ≤ gapI (atP ps p) (atP ps q)) :
    ∀ m, i + 1 + m ≤ n → ((wBest.inn ps i m s).1 < (wBest.inn ps i m s).2 ∧ (wBest.inn ps i m s).2 < n) ∧
      ∀ p q, p < q → q < n → (p < i ∨ (p = i ∧ q < i + 1 + m)) → gapI (atP ps (wBest.inn ps i m s).1) (atP ps (wBest.inn ps i m s).2) ≤ gapI (atP ps p) (atP ps q)
  | 0, _ => ⟨h, fun p q h1 h2 h3 => hs p q h1 h2 (by rcases h3 with h3 | ⟨rfl, h3⟩ <;> omega)⟩
  | m + 1, hm => by
    obtain ⟨h1, h2⟩ := inn_least hi h hs m (by omega)
    rw [wBest.inn, wBest.step]
    split
    · rename_i hlt
      refine ⟨⟨by simp only; omega, by simp only; omega⟩, fun p q k1 k2 k3 => ?_⟩
      simp only
      by_cases e : p = i ∧ q = i + 1 + m
      · rw [e.1, e.2]; exact Int.le_refl _
      · have := h2 p q k1 k2 (by omega)
        omega
    · rename_i hge
      refine ⟨h1, fun p q k1 k2 k3 => ?_⟩
      by_cases e : p = i ∧ q = i + 1 + m
      · rw [e.1, e.2]; omega
      · exact h2 p q k1 k2 (by omega)
theorem outr_least {ps : List Pl} {n : Nat} (hn : 2 ≤ n) : ∀ i, i ≤ n → ((wBest.outr ps n i).1 < (wBest.outr ps n i).2 ∧ (wBest.outr ps n i).2 < n) ∧
      ∀ p q, p < q → q < n → p < i → gapI (atP ps (wBest.outr ps n i).1) (atP ps (wBest.outr ps n i).2) ≤ gapI (atP ps p) (atP ps q)
  | 0, _ => ⟨⟨by simp [wBest.outr], by simp only [wBest.outr]; omega⟩, fun p q _ _ h => by omega⟩
  | i + 1, h => by
    obtain ⟨h1, h2⟩ := outr_least hn i (by omega)
    obtain ⟨k1, k2⟩ := inn_least (ps := ps) (n := n) (i := i) (by omega) h1 h2 (n - i - 1) (by omega)
    exact ⟨k1, fun p q l1 l2 l3 => k2 p q l1 l2 (by omega)⟩
/-- the best pair of a valid list of two planks at least -/
theorem best_least {ps : List Pl} (hv : validL ps = true) (hn : 2 ≤ ps.length) : ∃ i k : Nat, wBest.ra ps = i ∧ wBest.rb ps = k ∧ wBest.rc ps = 0 ∧ i < k ∧ k < ps.length ∧
    ∀ p q, p < ps.length → q < ps.length → p ≠ q → gapI (atP ps i) (atP ps k) ≤ gapI (atP ps p) (atP ps q) := by
  obtain ⟨⟨h1, h2⟩, h3⟩ := outr_least (ps := ps) hn ps.length (Nat.le_refl _)
  refine ⟨_, _, ?_, ?_, ?_, h1, h2, fun p q l1 l2 l3 => ?_⟩
  · rw [wBest.ra, wBest.ans, hv, if_pos rfl, if_neg (by omega)]
  · rw [wBest.rb, wBest.ans, hv, if_pos rfl, if_neg (by omega)]
  · rw [wBest.rc, wBest.ans, hv, if_pos rfl, if_neg (by omega)]
  · by_cases g : p < q
    · exact h3 p q g l2 l1
    · rw [gap_comm (atP ps p)]; exact h3 q p (by omega) l1 l2
theorem best_few {ps : List Pl} (hv : validL ps = true) (hn : ps.length < 2) : wBest.rc ps = 3 := by
  rw [wBest.rc, wBest.ans, hv, if_pos rfl, if_pos hn]

theorem light_least (ps : List Pl) (x y z : Int) : ∀ n, (wLight.lightN ps x y z n = -1 ∧ ∀ k, k < n → cutB (atP ps k) x y z = false) ∨
    (∃ b : Nat, wLight.lightN ps x y z n = b ∧ b < n ∧ cutB (atP ps b) x y z = true ∧ ∀ k, k < n → cutB (atP ps k) x y z = true → dens (atP ps b) ≤ dens (atP ps k))
  | 0 => .inl ⟨rfl, fun k h => by omega⟩
  | n + 1 => by
    rw [wLight.lightN, wLight.lightF]
    rcases light_least ps x y z n with ⟨e, h⟩ | ⟨b, e, hb, hc, h⟩
    · rw [e]
      cases hq : cutB (atP ps n) x y z with
      | true =>
        refine .inr ⟨n, by simp, by omega, hq, fun k hk hk2 => ?_⟩
        by_cases g : k = n
        · subst g; exact Int.le_refl _
        · rw [h k (by omega)] at hk2; cases hk2
      | false =>
        refine .inl ⟨by simp, fun k hk => ?_⟩
        by_cases g : k = n
        · subst g; exact hq
        · exact h k (by omega)
    · rw [e]
      cases hq : cutB (atP ps n) x y z with
      | true =>
        by_cases hd : dens (atP ps n) < dens (atP ps b)
        · refine .inr ⟨n, by simp [hd], by omega, hq, fun k hk hk2 => ?_⟩
          by_cases g : k = n
          · subst g; exact Int.le_refl _
          · have := h k (by omega) hk2
            omega
        · refine .inr ⟨b, by simp [hd]; omega, by omega, hc, fun k hk hk2 => ?_⟩
          by_cases g : k = n
          · subst g; omega
          · exact h k (by omega) hk2
      | false =>
        refine .inr ⟨b, by simp, by omega, hc, fun k hk hk2 => ?_⟩
        by_cases g : k = n
        · subst g; rw [hq] at hk2; cases hk2
        · exact h k (by omega) hk2
theorem many_pos {p : Pl} {a b c : Int} (a0 : 1 ≤ a) (b0 : 1 ≤ b) (c0 : 1 ≤ c) (l0 : 0 ≤ p.l) (w0 : 0 ≤ p.wd) (t0 : 0 ≤ p.t) : cutB p a b c = decide (0 < wPieces.many p a b c) := by
  have div0 : ∀ x y : Int, 1 ≤ y → 0 ≤ x → x < y → x / y = 0 := fun x y _ h1 h2 => Int.ediv_eq_zero_of_lt h1 h2
  have div1 : ∀ x y : Int, 1 ≤ y → y ≤ x → 1 ≤ x / y := fun x y h1 h2 => (Int.le_ediv_iff_mul_le (by omega)).2 (by omega)
  unfold wPieces.many cutB
  by_cases h1 : a ≤ p.l
  · by_cases h2 : b ≤ p.wd
    · by_cases h3 : c ≤ p.t
      · have k1 := div1 _ _ a0 h1
        have k2 := div1 _ _ b0 h2
        have k3 := div1 _ _ c0 h3
        have : 0 < p.l / a * (p.wd / b) * (p.t / c) := Int.mul_pos (Int.mul_pos (by omega) (by omega)) (by omega)
        simp [h1, h2, h3, this]
      · rw [div0 _ _ c0 t0 (by omega)]; simp [h3]
    · rw [div0 _ _ b0 w0 (by omega)]; simp [h2]
  · rw [div0 _ _ a0 l0 (by omega)]; simp [h1]
end Go.Proofs.YtfmbmgdemdbpaaaGreatDoor
