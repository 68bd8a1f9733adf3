/- For all arguments, the program's BestPair returns what the reference's returns; lists whose length is beyond 2^20 the law lets pass. Conditions: none. -/
import Derived.Test.YtglhlbibaghpjaaPopen
import Derived.ProofKit
import Derived.OpenShut
import Derived.ShutString
import Derived.ChangeOld
import Derived.Below
namespace Go.Proofs.Ytglhlbibaghpjaa.fnExactBestPair
open Go.ChangeShapes Go.WideShapes Go.ChangeAt Go.RowKit
open Go.ChangeMaps (open_string shut_string)
set_option linter.unusedVariables false
open Go.Sort

/-- one pair's turn in the search -/
def step (ps : List Pl) (i k : Nat) (s : Nat × Nat) : Nat × Nat := if gapI (atP ps i) (atP ps k) < gapI (atP ps s.1) (atP ps s.2) then (i, k) else s
def inn (ps : List Pl) (i : Nat) : Nat → Nat × Nat → Nat × Nat
  | 0, s => s
  | m + 1, s => step ps i (i + 1 + m) (inn ps i m s)
def outr (ps : List Pl) (n : Nat) : Nat → Nat × Nat
  | 0 => (0, 1)
  | i + 1 => inn ps i (n - i - 1) (outr ps n i)
theorem inn_bd {ps : List Pl} {n i : Nat} {s : Nat × Nat} (h : s.1 < n ∧ s.2 < n) (hi : i < n) : ∀ m, i + 1 + m ≤ n → (inn ps i m s).1 < n ∧ (inn ps i m s).2 < n
  | 0, _ => h
  | m + 1, hm => by
    have := inn_bd (ps := ps) h hi m (by omega)
    rw [inn, step]; split
    · simp only; omega
    · exact this
theorem outr_bd {ps : List Pl} {n : Nat} (hn : 2 ≤ n) : ∀ i, i ≤ n → (outr ps n i).1 < n ∧ (outr ps n i).2 < n
  | 0, _ => by simp only [outr]; omega
  | i + 1, h => inn_bd (outr_bd hn i (by omega)) (by omega) _ (by omega)
def ans (ps : List Pl) : Int × Int × Int := if validL ps then (if ps.length < 2 then (0, 0, 3) else (((outr ps ps.length ps.length).1 : Int), ((outr ps ps.length ps.length).2 : Int), 0)) else (0, 0, 1)
def ra (ps : List Pl) : Int := (ans ps).1
def rb (ps : List Pl) : Int := (ans ps).2.1
def rc (ps : List Pl) : Int := (ans ps).2.2
theorem ret_q {a b c : Int} {q : Int × Int × Int} (h : q = (a, b, c)) : Ending.returned (.tuple #[.int .i64 a, .int .i64 b, .int .i64 c]) = .returned (.tuple #[.int .i64 q.1, .int .i64 q.2.1, .int .i64 q.2.2]) := by rw [h]
theorem step_f {ps : List Pl} {i k a b : Nat} (h : ¬ gapI (atP ps i) (atP ps k) < gapI (atP ps a) (atP ps b)) : step ps i k (a, b) = (a, b) := by rw [step, if_neg h]
theorem step_t {ps : List Pl} {i k a b : Nat} (h : gapI (atP ps i) (atP ps k) < gapI (atP ps a) (atP ps b)) : step ps i k (a, b) = (i, k) := by rw [step, if_pos h]
/-- how far the reference's search stands: nothing seen yet, or a pair -/
def Seen (ps : List Pl) (n i m : Nat) (s : Nat × Nat) (x y : Int) : Prop :=
  (((i = 0 ∧ m = 0) ∨ n < 2) ∧ x = -1 ∧ y = -1) ∨ ((0 < i ∨ 0 < m) ∧ 2 ≤ n ∧ x = (s.1 : Int) ∧ y = (s.2 : Int))

set_option maxHeartbeats 4000000 in
theorem specF_any (B n : Nat) (v : Value) (ps : List Pl) (w : World) (hx : w.ownsRow B 37 6 v n (plv ps)) (hs : Short ps n) (hn : n ≤ 1048576) :
    Calls Try.prog 13 #[v] w fun r w' => r = .returned (.tuple #[.int .i64 (ra ps), .int .i64 (rb ps), .int .i64 (rc ps)]) ∧ Below w.heap.size w w' := by
  have lp := Lib.hid (show ps.length = n by have := hx.1; rw [plv_len] at this; omega)
  have HX := Lib.hid hx
  have HS := Lib.hid hs
  clear hx hs
  cases h0 : validL ps
  · have hr := Lib.hid (show ans ps = (0, 0, 1) by simp [ans, h0])
    go_enter Try.func13, Try.ntmps13
    go_wp2_with fail
    refine (is_ofb (l03Ok_any B n v ps w HX.out HS.out hn) h0).mono ?_
    rintro e w1 ⟨rfl, b1⟩
    have B1 := Lib.hid b1
    clear b1
    go_wp2
    go_ret3
    exact ⟨ret_q hr.out, B1.out⟩
  have VL := Lib.hid (validL_of h0)
  have hr := Lib.hid (show ans ps = if n < 2 then (0, 0, 3) else (((outr ps n n).1 : Int), ((outr ps n n).2 : Int), 0) by simp [ans, h0, lp.out])
  obtain ⟨A, c, rfl⟩ := own_form HX.out
  have n16 : n ≤ 16 := by have := VL.out.1; rw [lp.out] at this; exact this
  have FT := Lib.hid (fun i (hi : i < n) => validB_fits (VL.out.2 i (by rw [lp.out]; exact hi)).1)
  go_enter Try.func13, Try.ntmps13
  go_wp2_with fail
  refine (is_ofb (l03Ok_any B n _ ps w HX.out HS.out hn) h0).mono ?_
  rintro e w1 ⟨rfl, b1⟩
  have B1 := Lib.hid b1
  clear b1
  go_wp2_with fail
  go_loopw [5, 6, 7] (fun x y i wr => ∃ (k : Nat) (X Y : Int), k ≤ n ∧ Seen ps n k 0 (outr ps n k) X Y ∧ x = .int .i64 X ∧ y = .int .i64 Y ∧ i = .int .i64 k ∧ Below w.heap.size w wr) (fun _ _ i _ => n - (intOf i).toNat)
  case atStart => exact ⟨0, -1, -1, Nat.zero_le _, .inl ⟨.inl ⟨rfl, rfl⟩, rfl, rfl⟩, rfl, rfl, rfl, B1.out⟩
  case round =>
    obtain ⟨i, X, Y, hi, hs, rfl, rfl, rfl, hb⟩ := hrel
    have HSE := Lib.hid hs
    have HB := Lib.hid hb
    clear hs hb
    by_cases hlt : i < n
    · obtain ⟨wo, rfl⟩ : ∃ wo : World, wo = wr := ⟨_, rfl⟩
      go_wp2
      go_loopw [5, 6, 8] (fun x y k wi => ∃ (m : Nat) (X Y : Int), i + 1 + m ≤ n ∧ Seen ps n i m (inn ps i m (outr ps n i)) X Y ∧ x = .int .i64 X ∧ y = .int .i64 Y ∧ k = .int .i64 ((i + 1 + m : Nat) : Int) ∧ Below w.heap.size w wi) (fun _ _ k _ => n - (intOf k).toNat)
      case atStart => exact ⟨0, X, Y, by omega, HSE.out, rfl, rfl, by simp, HB.out⟩
      case round =>
        obtain ⟨m, X2, Y2, hm, hs2, rfl, rfl, rfl, hbi⟩ := hrel
        have HBI := Lib.hid hbi
        clear hbi
        by_cases hml : i + 1 + m < n
        · have ox := own_below HX.out HBI.out
          obtain ⟨g, cap, hv, _, _⟩ := ox.form (by omega)
          obtain ⟨rfl, rfl⟩ : A = some ⟨g, 0, none⟩ ∧ c = cap := by simpa using hv
          have OX := Lib.hid ox
          obtain ⟨k, hk⟩ : ∃ k, i + 1 + m = k := ⟨_, rfl⟩
          rw [hk] at hml
          have HK := Lib.hid hk
          have hst := Lib.hid (show inn ps i (m + 1) (outr ps n i) = step ps i k (inn ps i m (outr ps n i)) by rw [inn, hk])
          have gi : (i : Int) < (n : Int) := by omega
          have gk : (k : Int) < (n : Int) := by omega
          rw [hk]
          clear hv ox hk hm
          rcases hs2 with ⟨hz, rfl, rfl⟩ | ⟨hz, h2, rfl, rfl⟩
          · have hz2 : i = 0 ∧ m = 0 := by have := HK.out; omega
            have HS3 := Lib.hid (show Seen ps n i (m + 1) (inn ps i (m + 1) (outr ps n i)) (i : Int) (k : Int) from by
              obtain ⟨rfl, rfl⟩ := hz2
              have hk := HK.out
              refine .inr ⟨.inr (by omega), by omega, ?_, ?_⟩
              · rw [hst.out, ← hk]; simp only [inn, outr]; rw [step_f (Int.lt_irrefl _)]
              · rw [hst.out, ← hk]; simp only [inn, outr]; rw [step_f (Int.lt_irrefl _)])
            clear hz hz2
            go_wp2_with fail
            go_quiet (fail)
            go_wp2
            go_roundw
            case rel => exact ⟨m + 1, _, _, by have := HK.out; omega, HS3.out, rfl, rfl, by have := HK.out; congr 1; omega, below_drewN HBI.out _⟩
            case measure => simp [intOf]; omega
          · have bd := inn_bd (ps := ps) (n := n) (s := outr ps n i) (outr_bd (ps := ps) h2 i (by omega)) hlt m (by have := HK.out; omega)
            obtain ⟨⟨a, b⟩, hab⟩ : ∃ s, inn ps i m (outr ps n i) = s := ⟨_, rfl⟩
            rw [hab] at bd hst
            rw [hab]
            have ba : a < n := bd.1
            have bb : b < n := bd.2
            clear hab bd
            have ga : (a : Int) < (n : Int) := by omega
            have gb : (b : Int) < (n : Int) := by omega
            have za : decide ((a : Int) < 0) = false := by rw [decide_eq_false_iff_not]; omega
            obtain ⟨t0, t1, t2, t3, t4, t5⟩ := el_own OX.out hlt
            have Ft := Lib.hid (FT.out i hlt)
            have St := Lib.hid (HS.out i hlt)
            obtain ⟨pt, hpt⟩ : ∃ p, atP ps i = p := ⟨_, rfl⟩
            rw [hpt] at t0 t1 t2 t3 t4 t5 Ft St
            obtain ⟨u0, u1, u2, u3, u4, u5⟩ := el_own OX.out hml
            have Fu := Lib.hid (FT.out k hml)
            have Su := Lib.hid (HS.out k hml)
            obtain ⟨pu, hpu⟩ : ∃ p, atP ps k = p := ⟨_, rfl⟩
            rw [hpu] at u0 u1 u2 u3 u4 u5 Fu Su
            obtain ⟨r0, r1, r2, r3, r4, r5⟩ := el_own OX.out ba
            have Fr := Lib.hid (FT.out a ba)
            have Sr := Lib.hid (HS.out a ba)
            obtain ⟨pr, hpr⟩ : ∃ p, atP ps a = p := ⟨_, rfl⟩
            rw [hpr] at r0 r1 r2 r3 r4 r5 Fr Sr
            obtain ⟨s0, s1, s2, s3, s4, s5⟩ := el_own OX.out bb
            have Fs := Lib.hid (FT.out b bb)
            have Ss := Lib.hid (HS.out b bb)
            obtain ⟨pss, hps⟩ : ∃ p, atP ps b = p := ⟨_, rfl⟩
            rw [hps] at s0 s1 s2 s3 s4 s5 Fs Ss
            have g0 : ∀ args W, args = #[.pointer (some ⟨g, i * 6, none⟩), .pointer (some ⟨g, k * 6, none⟩)] → Below wr.heap.size wr W → Calls Try.prog 27 args W fun e w' => e = .returned (.int .i64 (gapI pt pu)) ∧ Below W.heap.size W w' := fun args W ha hW => by
              subst ha
              exact l03Gap_any pt pu _ _ _ _ W ((El.at_ ⟨t0, t1, t2, t3, t4, t5⟩ St.out).below hW (OX.out.lt g rfl).2) ((El.at_ ⟨u0, u1, u2, u3, u4, u5⟩ Su.out).below hW (OX.out.lt g rfl).2) Ft.out Fu.out
            have G0 := Lib.hid g0
            clear g0
            have g1 : ∀ args W, args = #[.pointer (some ⟨g, a * 6, none⟩), .pointer (some ⟨g, b * 6, none⟩)] → Below wr.heap.size wr W → Calls Try.prog 27 args W fun e w' => e = .returned (.int .i64 (gapI pr pss)) ∧ Below W.heap.size W w' := fun args W ha hW => by
              subst ha
              exact l03Gap_any pr pss _ _ _ _ W ((El.at_ ⟨r0, r1, r2, r3, r4, r5⟩ Sr.out).below hW (OX.out.lt g rfl).2) ((El.at_ ⟨s0, s1, s2, s3, s4, s5⟩ Ss.out).below hW (OX.out.lt g rfl).2) Fr.out Fs.out
            have G1 := Lib.hid g1
            clear g1
            clear t0 t1 t2 t3 t4 t5 u0 u1 u2 u3 u4 u5 r0 r1 r2 r3 r4 r5 s0 s1 s2 s3 s4 s5
            by_cases hd : gapI pt pu < gapI pr pss
            · have HS3 := Lib.hid (show Seen ps n i (m + 1) (inn ps i (m + 1) (outr ps n i)) (i : Int) (k : Int) from .inr ⟨.inr (by omega), h2, by rw [hst.out, step_t (by rw [hpt, hpu, hpr, hps]; exact hd)], by rw [hst.out, step_t (by rw [hpt, hpu, hpr, hps]; exact hd)]⟩)
              clear hpt hpu hpr hps hz
              go_wp2_with fail
              refine wp_region_quiet_below (by kernel_rfl) (by kernel_rfl) ?_; (repeat (go_big_quiet_step (first | (go_at_call 27; refine Calls.regrown_of (G0.out _ _ ?_ (below_regrown _ _ _)); rfl) | (go_at_call 27; refine Calls.regrown_of (G1.out _ _ ?_ (below_regrown _ _ _)); rfl)))); refine wpQuiet_nil ?_; intro wq hwq; obtain ⟨⟨dq, osq⟩, hwq2⟩ := hwq; have bq := below_of hwq2; clear hwq2
              have BF := Lib.hid (HBI.out.trans (bq.mono HBI.out.size))
              clear bq
              go_wp2
              go_roundw
              case rel => exact ⟨m + 1, _, _, by have := HK.out; omega, HS3.out, rfl, rfl, by have := HK.out; congr 1; omega, BF.out⟩
              case measure => simp [intOf]; omega
            · have HS3 := Lib.hid (show Seen ps n i (m + 1) (inn ps i (m + 1) (outr ps n i)) (a : Int) (b : Int) from .inr ⟨.inr (by omega), h2, by rw [hst.out, step_f (by rw [hpt, hpu, hpr, hps]; exact hd)], by rw [hst.out, step_f (by rw [hpt, hpu, hpr, hps]; exact hd)]⟩)
              clear hpt hpu hpr hps hz
              go_wp2_with fail
              refine wp_region_quiet_below (by kernel_rfl) (by kernel_rfl) ?_; (repeat (go_big_quiet_step (first | (go_at_call 27; refine Calls.regrown_of (G0.out _ _ ?_ (below_regrown _ _ _)); rfl) | (go_at_call 27; refine Calls.regrown_of (G1.out _ _ ?_ (below_regrown _ _ _)); rfl)))); refine wpQuiet_nil ?_; intro wq hwq; obtain ⟨⟨dq, osq⟩, hwq2⟩ := hwq; have bq := below_of hwq2; clear hwq2
              have BF := Lib.hid (HBI.out.trans (bq.mono HBI.out.size))
              clear bq
              go_wp2
              go_roundw
              case rel => exact ⟨m + 1, _, _, by have := HK.out; omega, HS3.out, rfl, rfl, by have := HK.out; congr 1; omega, BF.out⟩
              case measure => simp [intOf]; omega
        · have HS3 := Lib.hid (show Seen ps n (i + 1) 0 (outr ps n (i + 1)) X2 Y2 from by
            have hmm : m = n - i - 1 := by omega
            rw [outr, ← hmm]
            rcases hs2 with ⟨hz, h1, h2⟩ | ⟨hz, h1, h2, h3⟩
            · exact .inl ⟨.inr (by omega), h1, h2⟩
            · exact .inr ⟨.inl (by omega), h1, h2, h3⟩)
          clear hs2
          go_wp2
          go_roundw
          case rel => exact ⟨i + 1, X2, Y2, by omega, HS3.out, rfl, rfl, by go_num, HBI.out⟩
          case measure => simp [intOf]; omega
    · obtain rfl : i = n := by omega
      rcases HSE.out with ⟨hz, rfl, rfl⟩ | ⟨hz, h2, rfl, rfl⟩
      · have hf := Lib.hid (show ans ps = (0, 0, 3) by rw [hr.out, if_pos (by omega)])
        go_wp2
        go_ret3
        exact ⟨ret_q hf.out, HB.out⟩
      · have hf := Lib.hid (show ans ps = (((outr ps i i).1 : Int), ((outr ps i i).2 : Int), 0) by rw [hr.out, if_neg (by omega)])
        obtain ⟨⟨a, b⟩, hab⟩ : ∃ s, outr ps i i = s := ⟨_, rfl⟩
        rw [hab] at hf
        rw [hab]
        have HF := Lib.hid hf.out
        clear hab
        go_wp2
        go_ret3
        exact ⟨ret_q HF.out, HB.out⟩

set_option maxHeartbeats 4000000 in
theorem implF_any (B n : Nat) (v : Value) (ps : List Pl) (w : World) (hx : w.ownsRow B 37 6 v n (plv ps)) (hs : Short ps n) (hn : n ≤ 1048576) :
    Calls Try.prog 14 #[v] w fun r w' => r = .returned (.tuple #[.int .i64 (ra ps), .int .i64 (rb ps), .int .i64 (rc ps)]) ∧ Below w.heap.size w w' := by
  have lp := Lib.hid (show ps.length = n by have := hx.1; rw [plv_len] at this; omega)
  have HX := Lib.hid hx
  have HS := Lib.hid hs
  clear hx hs
  cases h0 : validL ps
  · have hr := Lib.hid (show ans ps = (0, 0, 1) by simp [ans, h0])
    go_enter Try.func14, Try.ntmps14
    go_wp2_with fail
    refine (is_ofb (implValid_any B n v ps w HX.out HS.out hn) h0).mono ?_
    rintro e w1 ⟨rfl, b1⟩
    have B1 := Lib.hid b1
    clear b1
    go_wp2
    go_ret3
    exact ⟨ret_q hr.out, B1.out⟩
  have VL := Lib.hid (validL_of h0)
  have hr := Lib.hid (show ans ps = if n < 2 then (0, 0, 3) else (((outr ps n n).1 : Int), ((outr ps n n).2 : Int), 0) by simp [ans, h0, lp.out])
  obtain ⟨A, c, rfl⟩ := own_form HX.out
  have n16 : n ≤ 16 := by have := VL.out.1; rw [lp.out] at this; exact this
  have FT := Lib.hid (fun i (hi : i < n) => validB_fits (VL.out.2 i (by rw [lp.out]; exact hi)).1)
  go_enter Try.func14, Try.ntmps14
  go_wp2_with fail
  refine (is_ofb (implValid_any B n _ ps w HX.out HS.out hn) h0).mono ?_
  rintro e w1 ⟨rfl, b1⟩
  have B1 := Lib.hid b1
  clear b1
  by_cases hn2 : n < 2
  · have hf := Lib.hid (show ans ps = (0, 0, 3) by rw [hr.out, if_pos hn2])
    go_wp2
    go_ret3
    exact ⟨ret_q hf.out, B1.out⟩
  have h2 : 2 ≤ n := by omega
  have hf := Lib.hid (show ans ps = (((outr ps n n).1 : Int), ((outr ps n n).2 : Int), 0) by rw [hr.out, if_neg hn2])
  clear hn2
  go_wp2_with fail
  go_loopw [5, 6, 17] (fun x y i wr => ∃ (k a b : Nat), k ≤ n ∧ outr ps n k = (a, b) ∧ x = .int .i64 a ∧ y = .int .i64 b ∧ i = .int .i64 k ∧ Below w.heap.size w wr) (fun _ _ i _ => n - (intOf i).toNat)
  case atStart => exact ⟨0, 0, 1, Nat.zero_le _, rfl, rfl, rfl, rfl, B1.out⟩
  case round =>
    obtain ⟨i, a0, b0, hi, hs, rfl, rfl, rfl, hb⟩ := hrel
    have HSE := Lib.hid hs
    have HB := Lib.hid hb
    clear hs hb
    by_cases hlt : i < n
    · obtain ⟨wo, rfl⟩ : ∃ wo : World, wo = wr := ⟨_, rfl⟩
      go_wp2
      go_loopw [5, 6, 8] (fun x y k wi => ∃ (m a b : Nat), i + 1 + m ≤ n ∧ inn ps i m (outr ps n i) = (a, b) ∧ x = .int .i64 a ∧ y = .int .i64 b ∧ k = .int .i64 ((i + 1 + m : Nat) : Int) ∧ Below w.heap.size w wi) (fun _ _ k _ => n - (intOf k).toNat)
      case atStart => exact ⟨0, a0, b0, by omega, HSE.out, rfl, rfl, by simp, HB.out⟩
      case round =>
        obtain ⟨m, a, b, hm, hs2, rfl, rfl, rfl, hbi⟩ := hrel
        have HBI := Lib.hid hbi
        have HAB := Lib.hid hs2
        clear hbi
        by_cases hml : i + 1 + m < n
        · have ox := own_below HX.out HBI.out
          obtain ⟨g, cap, hv, _, _⟩ := ox.form (by omega)
          obtain ⟨rfl, rfl⟩ : A = some ⟨g, 0, none⟩ ∧ c = cap := by simpa using hv
          have OX := Lib.hid ox
          obtain ⟨k, hk⟩ : ∃ k, i + 1 + m = k := ⟨_, rfl⟩
          rw [hk] at hml
          have HK := Lib.hid hk
          have hst := Lib.hid (show inn ps i (m + 1) (outr ps n i) = step ps i k (a, b) by rw [inn, hk, hs2])
          have gi : (i : Int) < (n : Int) := by omega
          have gk : (k : Int) < (n : Int) := by omega
          have bd := inn_bd (ps := ps) (n := n) (s := outr ps n i) (outr_bd (ps := ps) h2 i (by omega)) hlt m (by omega)
          rw [hs2] at bd
          rw [hk]
          have ba : a < n := bd.1
          have bb : b < n := bd.2
          clear hv ox hk hm hs2 bd
          have ga : (a : Int) < (n : Int) := by omega
          have gb : (b : Int) < (n : Int) := by omega
          · skip
            obtain ⟨t0, t1, t2, t3, t4, t5⟩ := el_own OX.out hlt
            have Ft := Lib.hid (FT.out i hlt)
            have St := Lib.hid (HS.out i hlt)
            obtain ⟨pt, hpt⟩ : ∃ p, atP ps i = p := ⟨_, rfl⟩
            rw [hpt] at t0 t1 t2 t3 t4 t5 Ft St
            obtain ⟨u0, u1, u2, u3, u4, u5⟩ := el_own OX.out hml
            have Fu := Lib.hid (FT.out k hml)
            have Su := Lib.hid (HS.out k hml)
            obtain ⟨pu, hpu⟩ : ∃ p, atP ps k = p := ⟨_, rfl⟩
            rw [hpu] at u0 u1 u2 u3 u4 u5 Fu Su
            obtain ⟨r0, r1, r2, r3, r4, r5⟩ := el_own OX.out ba
            have Fr := Lib.hid (FT.out a ba)
            have Sr := Lib.hid (HS.out a ba)
            obtain ⟨pr, hpr⟩ : ∃ p, atP ps a = p := ⟨_, rfl⟩
            rw [hpr] at r0 r1 r2 r3 r4 r5 Fr Sr
            obtain ⟨s0, s1, s2, s3, s4, s5⟩ := el_own OX.out bb
            have Fs := Lib.hid (FT.out b bb)
            have Ss := Lib.hid (HS.out b bb)
            obtain ⟨pss, hps⟩ : ∃ p, atP ps b = p := ⟨_, rfl⟩
            rw [hps] at s0 s1 s2 s3 s4 s5 Fs Ss
            have g0 : ∀ args W, args = #[.agg #[.string pt.id, .int .i64 pt.l, .int .i64 pt.wd, .int .i64 pt.t, .int .i64 pt.m, .int .i64 pt.r], .agg #[.string pu.id, .int .i64 pu.l, .int .i64 pu.wd, .int .i64 pu.t, .int .i64 pu.m, .int .i64 pu.r]] → Calls Try.prog 28 args W fun e w' => e = .returned (.int .i64 (gapI pt pu)) ∧ Below W.heap.size W w' := fun args W ha => by
              subst ha
              exact gap_any pt pu W St.out Su.out Ft.out Fu.out
            have G0 := Lib.hid g0
            clear g0
            have g1 : ∀ args W, args = #[.agg #[.string pr.id, .int .i64 pr.l, .int .i64 pr.wd, .int .i64 pr.t, .int .i64 pr.m, .int .i64 pr.r], .agg #[.string pss.id, .int .i64 pss.l, .int .i64 pss.wd, .int .i64 pss.t, .int .i64 pss.m, .int .i64 pss.r]] → Calls Try.prog 28 args W fun e w' => e = .returned (.int .i64 (gapI pr pss)) ∧ Below W.heap.size W w' := fun args W ha => by
              subst ha
              exact gap_any pr pss W Sr.out Ss.out Fr.out Fs.out
            have G1 := Lib.hid g1
            clear g1
            have Kt0 := cell_regrown t0
            have Kt1 := cell_regrown t1
            have Kt2 := cell_regrown t2
            have Kt3 := cell_regrown t3
            have Kt4 := cell_regrown t4
            have Kt5 := cell_regrown t5
            have Ku0 := cell_regrown u0
            have Ku1 := cell_regrown u1
            have Ku2 := cell_regrown u2
            have Ku3 := cell_regrown u3
            have Ku4 := cell_regrown u4
            have Ku5 := cell_regrown u5
            have Kr0 := cell_regrown r0
            have Kr1 := cell_regrown r1
            have Kr2 := cell_regrown r2
            have Kr3 := cell_regrown r3
            have Kr4 := cell_regrown r4
            have Kr5 := cell_regrown r5
            have Ks0 := cell_regrown s0
            have Ks1 := cell_regrown s1
            have Ks2 := cell_regrown s2
            have Ks3 := cell_regrown s3
            have Ks4 := cell_regrown s4
            have Ks5 := cell_regrown s5
            clear t0 t1 t2 t3 t4 t5 u0 u1 u2 u3 u4 u5 r0 r1 r2 r3 r4 r5 s0 s1 s2 s3 s4 s5
            by_cases hd : gapI pt pu < gapI pr pss
            · have HS3 := Lib.hid (show inn ps i (m + 1) (outr ps n i) = (i, k) by rw [hst.out, step_t (by rw [hpt, hpu, hpr, hps]; exact hd)])
              clear hpt hpu hpr hps
              go_wp2_with fail
              refine wp_region_quiet_below (by kernel_rfl) (by kernel_rfl) ?_; (repeat (go_big_quiet_step (first | (go_at_call 28; refine Calls.regrown_of (G0.out _ _ ?_); rfl) | (go_at_call 28; refine Calls.regrown_of (G1.out _ _ ?_); rfl)))); refine wpQuiet_nil ?_; intro wq hwq; obtain ⟨⟨dq, osq⟩, hwq2⟩ := hwq; have bq := below_of hwq2; clear hwq2
              have BF := Lib.hid (HBI.out.trans (bq.mono HBI.out.size))
              clear bq Kt0 Kt1 Kt2 Kt3 Kt4 Kt5 Ku0 Ku1 Ku2 Ku3 Ku4 Ku5 Kr0 Kr1 Kr2 Kr3 Kr4 Kr5 Ks0 Ks1 Ks2 Ks3 Ks4 Ks5
              go_wp2
              go_roundw
              case rel => exact ⟨m + 1, i, k, by have := HK.out; omega, HS3.out, rfl, rfl, by have := HK.out; congr 1; omega, BF.out⟩
              case measure => simp [intOf]; omega
            · have HS3 := Lib.hid (show inn ps i (m + 1) (outr ps n i) = (a, b) by rw [hst.out, step_f (by rw [hpt, hpu, hpr, hps]; exact hd)])
              clear hpt hpu hpr hps
              go_wp2_with fail
              refine wp_region_quiet_below (by kernel_rfl) (by kernel_rfl) ?_; (repeat (go_big_quiet_step (first | (go_at_call 28; refine Calls.regrown_of (G0.out _ _ ?_); rfl) | (go_at_call 28; refine Calls.regrown_of (G1.out _ _ ?_); rfl)))); refine wpQuiet_nil ?_; intro wq hwq; obtain ⟨⟨dq, osq⟩, hwq2⟩ := hwq; have bq := below_of hwq2; clear hwq2
              have BF := Lib.hid (HBI.out.trans (bq.mono HBI.out.size))
              clear bq Kt0 Kt1 Kt2 Kt3 Kt4 Kt5 Ku0 Ku1 Ku2 Ku3 Ku4 Ku5 Kr0 Kr1 Kr2 Kr3 Kr4 Kr5 Ks0 Ks1 Ks2 Ks3 Ks4 Ks5
              go_wp2
              go_roundw
              case rel => exact ⟨m + 1, a, b, by have := HK.out; omega, HS3.out, rfl, rfl, by have := HK.out; congr 1; omega, BF.out⟩
              case measure => simp [intOf]; omega
        · have HS3 := Lib.hid (show outr ps n (i + 1) = (a, b) by
            have hmm : m = n - i - 1 := by omega
            rw [outr, ← hmm, hs2])
          clear hs2
          go_wp2
          go_roundw
          case rel => exact ⟨i + 1, a, b, by omega, HS3.out, rfl, rfl, by go_num, HBI.out⟩
          case measure => simp [intOf]; omega
    · obtain rfl : i = n := by omega
      have HF := Lib.hid (show ans ps = ((a0 : Int), (b0 : Int), 0) by rw [hf.out, HSE.out])
      go_wp2
      go_ret3
      exact ⟨ret_q HF.out, HB.out⟩

set_option maxHeartbeats 1600000 in
theorem walk (A : Option Addr) (n c : Nat) (ps : List Pl) (w : World) (w0 : Reads w w.heap.size 6 A n (plv ps) ∧ Short ps n ∧ n ≤ 9223372036854775807) :
    Calls Try.prog 5 #[.slice A n c] w fun r w' => r = .returned (.bool true) ∧ Below w.heap.size w w' := by
  obtain ⟨hg, hs, hn⟩ := w0
  have K := Lib.hid (show KeepP w A n ps w from ⟨Below.refl _ _, hg⟩)
  have HS := Lib.hid hs
  clear hg hs
  go_enter Try.func5, Try.ntmps5
  go_wp2_with fail
  refine (szPlankS_any A n c _ ps 1048576 _ K.out.list K.out.old.size HS.out hn (by omega) (by omega)).mono ?_
  rintro e w1 ⟨r, rfl, r1, hs, b1⟩
  have K := Lib.hid (K.out.step b1)
  clear b1
  by_cases hr : r < 0
  · go_wp2
    go_ret
    exact ⟨rfl, K.out.old⟩
  · have hn2 : n ≤ 1048576 := by have := hs (by omega); omega
    clear hs
    go_wp2_with fail
    refine (toPlankS_any A n c _ ps _ K.out.list K.out.old.size hn2).mono ?_
    rintro e w2 ⟨rfl, o2, b2⟩
    have K := Lib.hid (K.out.step b2)
    have X := Lib.hid o2
    clear o2 b2
    go_wp2_with fail
    refine (specF_any _ n _ ps _ X.out HS.out hn2).mono ?_
    rintro e w3 ⟨rfl, b3⟩
    have K := Lib.hid (K.out.step b3)
    clear b3 X
    go_wp2_with fail
    refine (toPlankS_any A n c _ ps _ K.out.list K.out.old.size hn2).mono ?_
    rintro e w4 ⟨rfl, o4, b4⟩
    have K := Lib.hid (K.out.step b4)
    have X := Lib.hid o4
    clear o4 b4
    go_wp2_with fail
    refine (implF_any _ n _ ps _ X.out HS.out hn2).mono ?_
    rintro e w5 ⟨rfl, b5⟩
    have K := Lib.hid (K.out.step b5)
    have X := Lib.hid (own_below X.out b5)
    clear b5
    go_wp2_with fail
    refine (toPlankS_any A n c _ ps _ K.out.list K.out.old.size hn2).mono ?_
    rintro e w6 ⟨rfl, o6, b6⟩
    have K := Lib.hid (K.out.step b6)
    have X := Lib.hid (own_below X.out b6)
    have Y := Lib.hid o6
    clear o6 b6
    go_wp2_with fail
    refine (eqPlankS_any _ _ n _ _ ps _ X.out Y.out hn2).mono ?_
    rintro e w7 ⟨rfl, b7⟩
    have K := Lib.hid (K.out.step b7)
    clear b7
    go_wp2
    go_ret
    exact ⟨rfl, K.out.old⟩

/-! ### The row's step -/
theorem own : ownKnob Try.prog.godebug = none := by kernel_rfl
theorem laidOut : laidOutB Try.prog = true := by kernel_rfl
set_option maxRecDepth 100000 in
theorem lifted (os : Os) (started : os.Started) (H : Type) (enc : TypeId × Value → H) :
    ReturnsInHanded {} Try.checked os 5 .any (Rows.fnExactBestPairSpec.pre6 enc Try.prog Try.f5 Rows.fnExactBestPairRow.domain false) (Rows.fnExactBestPairSpec.post enc Try.prog Try.f5 false true false false) := by
  refine returnsInHanded_of_change (C := Try.checked) own started (by kernel_rfl) Try.func5
    (ChangeSpec.witness6 (enc := enc) (C := Try.checked) false ⟨#[], #[.slice none 0 0], []⟩ 8 (by kernel_rfl) (by kernel_rfl) (by kernel_rfl) (by kernel_rfl)) ?_
  intro W base args ds gs before hval0 hW hcnd _
  have hval : ∀ (j : Nat) t v, Try.f5.params[j]? = some t → args[j]? = some v → Value.okWide Try.prog W .any base t v := hval0
  have hW' := hW
  obtain ⟨p, q, hA0, hV, rfl, hfz, hnd⟩ := hW
  have hA : DataW.TrodAll enc Try.prog W 0 (fun _ => true) true Try.f5.params.toList args.toList ds p := hA0
  rw [Try.params5] at hA hval
  obtain ⟨v0, vs0, d0, ds0, p0, q0, hargs, rfl, rfl, h0, r0⟩ := trodAll_cons hA
  obtain ⟨rfl, rfl, rfl⟩ := trodAll_nil r0
  obtain rfl : args = #[v0] := by cases args; simp_all
  obtain ⟨rfl, rfl⟩ := trodVars_none hV
  have k0 := h0
  have lt0 : ∀ x ∈ p0, x.block < W.heap.size := by obtain ⟨m, hm⟩ := k0; exact DataW.trod_lt m _ _ _ hm
  obtain ⟨a0, len0, cap0, rfl⟩ := okWide_slice Try.underlying22 (hval 0 22 v0 rfl rfl)
  obtain ⟨z0, w0⟩ : ∃ Z, Reads W W.heap.size 6 a0 len0 (plv Z) ∧ Short Z len0 ∧ len0 ≤ 9223372036854775807 := open_planks Try.underlying22 Try.underlying36 (by kernel_rfl) (by kernel_rfl) Try.underlying9 Try.underlying2 Try.underlying2 Try.underlying2 Try.underlying2 Try.underlying2 h0
  clear hA0 hval0
  refine (walk a0 len0 cap0 z0 W w0).mono fun e W' ⟨he, bel⟩ => ?_
  subst he
  exact ⟨_, rfl, _, _, _, [], _, [], hW', trodAll_mk1 (shut_bool Try.underlying4 _), (trodAll_cons_mk (Below.trod laidOut (by kernel_rfl) (of_decide_eq_true (by kernel_rfl)) k0 bel lt0) trodAll_mk0), rfl, bel.frame _, fun h => by cases h⟩

theorem over : Rows.fnExactBestPairRow.holds Try.pinned (OpenSpec.ofChange Rows.fnExactBestPairSpec) :=
  OpenClaim.holds_of_wide 5 Try.f5 rfl rfl rfl rfl rfl rfl rfl ⟨rfl, rfl, rfl, rfl, rfl⟩ rfl rfl rfl rfl rfl (by kernel_rfl) Try.func5 (by kernel_rfl)
    (of_decide_eq_true (by kernel_rfl)) (by unfold Func.isWrapper; first | (rw [if_pos (by decide +kernel)]; kernel_rfl) | (rw [if_neg (by decide +kernel)]; exact ⟨rfl, rfl⟩))
    (fun os started H enc _ => lifted os started H enc)

/-- The given statement. -/
theorem proved : Rows.FnExactBestPairSaid := over
#print axioms proved

end Go.Proofs.Ytglhlbibaghpjaa.fnExactBestPair
