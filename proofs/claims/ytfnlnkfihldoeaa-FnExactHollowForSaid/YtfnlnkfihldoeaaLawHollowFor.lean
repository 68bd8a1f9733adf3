/- For all arguments, the program's HollowFor returns what the reference's returns, and memory of its own; grids of more than 2^20 cells the law lets pass. Conditions: none. -/
import Derived.Test.YtfnlnkfihldoeaaOG
import Derived.Test.YtfnlnkfihldoeaaOwnS
import Derived.Test.YtfnlnkfihldoeaaPlaces
import Derived.Deep.Matrix
import Derived.ProofKit
import Derived.OpenShut
import Derived.ShutString
import Derived.ChangeOld
import Derived.Below
namespace Go.Proofs.Ytfnlnkfihldoeaa.fnExactHollowFor
open Go.ChangeShapes Go.WideShapes Go.ChangeAt Go.RowKit
open Go.ChangeMaps (open_string shut_string)
set_option linter.unusedVariables false
open Go.Sort

def hrow (Z : List (List Int)) (m : Nat) (h : Int) (i : Nat) : List Int := (List.range m).map (fun k => V Z i k - h)
/-- is the wood everywhere at least so thick? -/
def okH (Z : List (List Int)) (h : Int) : Bool := decide (∀ i, i < Z.length → ∀ k, k < (rowZ Z 0).length → h ≤ V Z i k)
def cod (Z : List (List Int)) (h : Int) : Int := if archB Z then (if inB h 0 1000 then (if okH Z h then 0 else 6) else 2) else 1
def nres (Z : List (List Int)) (h : Int) : Nat := if archB Z && (inB h 0 1000 && okH Z h) then Z.length else 0
def rres (Z : List (List Int)) (h : Int) : Nat → List Int := hrow Z (rowZ Z 0).length h
theorem res_t {Z : List (List Int)} {h : Int} (a : archB Z = true) (b : inB h 0 1000 = true) (c : okH Z h = true) : nres Z h = Z.length ∧ cod Z h = 0 := by simp [nres, cod, a, b, c]
theorem res_k {Z : List (List Int)} {h : Int} (a : archB Z = true) (b : inB h 0 1000 = true) (c : okH Z h = false) : nres Z h = 0 ∧ cod Z h = 6 := by simp [nres, cod, a, b, c]
theorem res_r {Z : List (List Int)} {h : Int} (a : archB Z = true) (b : inB h 0 1000 = false) : nres Z h = 0 ∧ cod Z h = 2 := by simp [nres, cod, a, b]
theorem res_f {Z : List (List Int)} {h : Int} (a : archB Z = false) : nres Z h = 0 ∧ cod Z h = 1 := by simp [nres, cod, a]
theorem hrow_len (Z : List (List Int)) (m : Nat) (h : Int) (i : Nat) : (hrow Z m h i).length = m := by simp [hrow]
theorem hrow_at (Z : List (List Int)) {m k : Nat} (h : Int) (i : Nat) (hk : k < m) : (hrow Z m h i).getD k 0 = V Z i k - h := by
  rw [List.getD_eq_getElem?_getD, hrow, List.getElem?_map, List.getElem?_range hk]; rfl
theorem nres_le (Z : List (List Int)) (h : Int) : nres Z h ≤ 1048576 := by
  unfold nres
  split
  · rename_i e
    have := (arch_of (Bool.and_eq_true_iff.1 e).1).2.1
    omega
  · omega
theorem nres_arch {Z : List (List Int)} {h : Int} {i : Nat} (hi : i < nres Z h) : Arch Z ∧ i < Z.length := by
  unfold nres at hi
  split at hi
  · rename_i e
    exact ⟨arch_of (Bool.and_eq_true_iff.1 e).1, hi⟩
  · omega
theorem rres_le (Z : List (List Int)) (h : Int) : ∀ i, i < nres Z h → (rres Z h i).length ≤ 9223372036854775807 := fun i hi => by
  obtain ⟨g1, g2, g3⟩ := (nres_arch hi).1
  have := (g3 0 (by omega)).2.2.1
  rw [rres, hrow_len]; omega
theorem rtot_le (Z : List (List Int)) (h : Int) : totN (rres Z h) (nres Z h) ≤ 1099511627776 := by
  have h1 := totN_le (R := rres Z h) (n := nres Z h) (m := 10) (fun i hi => by
    obtain ⟨g1, g2, g3⟩ := (nres_arch hi).1
    have := (g3 0 (by omega)).2.2.1
    rw [rres, hrow_len]; omega)
  have h2 := nres_le Z h
  omega
theorem is_ofb {P : Program} {f : FuncId} {args : Array Value} {w : World} {b c : Bool} (h : Calls P f args w fun e w' => e = .returned (.bool b) ∧ Below w.heap.size w w') (hb : b = c) :
    Calls P f args w fun e w' => e = .returned (.bool c) ∧ Below w.heap.size w w' := by rw [← hb]; exact h
theorem ret_v {v : Value} {a b : Int} (h : a = b) : Ending.returned (.tuple #[v, .int .i64 a]) = .returned (.tuple #[v, .int .i64 b]) := by rw [h]
theorem isRise_any (n : Int) (w : World) :
    Calls Try.prog 56 #[.int .i64 n] w fun e w' => e = .returned (.bool (inB n 0 1000)) ∧ w = w' := by
  go_enter Try.func56, Try.ntmps56
  go_wp2_with (go_at_call 43; refine (within_any _ _ _ _).mono ?_; rintro e w' ⟨rfl, rfl⟩)
  go_ret
  exact ⟨rfl, rfl⟩
def Post (Z : List (List Int)) (h : Int) (w : World) (e : Ending) (w' : World) : Prop :=
  ∃ v H, e = .returned (.tuple #[v, .int .i64 (cod Z h)]) ∧ OG w.heap.size w'.heap.size w' v (nres Z h) (rres Z h) H ∧ Below w.heap.size w w'
theorem post_nil {Z : List (List Int)} {h c : Int} {w w' : World} (hn : nres Z h = 0) (hc : cod Z h = c) (hb : Below w.heap.size w w') : Post Z h w (.returned (.tuple #[.slice none 0 0, .int .i64 c])) w' :=
  ⟨_, fun _ => .bool false, ret_v hc.symm, by rw [hn]; exact OG.nil _ _ _ _ _, hb⟩

/-! ### The reference's -/
def hol (Z : List (List Int)) (m : Nat) (h : Int) (t i : Nat) : List Int := (List.range m).map (fun k => if i * m + k < t then V Z i k - h else V Z i k)
theorem hol_at (Z : List (List Int)) {m k : Nat} (h : Int) (t i : Nat) (hk : k < m) : (hol Z m h t i)[k]? = some (if i * m + k < t then V Z i k - h else V Z i k) := by
  rw [hol, List.getElem?_map, List.getElem?_range hk]; rfl
theorem hol_len (Z : List (List Int)) (m : Nat) (h : Int) (t i : Nat) : (hol Z m h t i).length = m := by simp [hol]
theorem hol_zero {Z : List (List Int)} {m i : Nat} {h : Int} (hl : (rowZ Z i).length = m) : rowZ Z i = hol Z m h 0 i := by
  apply List.ext_getElem?
  intro k
  by_cases hk : k < m
  · rw [hol_at Z h 0 i hk, List.getElem?_eq_getElem (by omega)]
    simp [V, List.getD_eq_getElem?_getD, List.getElem?_eq_getElem (show k < (rowZ Z i).length by omega)]
  · rw [List.getElem?_eq_none (by omega), List.getElem?_eq_none (by rw [hol_len]; omega)]
theorem hol_end {Z : List (List Int)} {m n i : Nat} {h : Int} (hi : i < n) : hol Z m h (n * m) i = hrow Z m h i := by
  unfold hol hrow
  refine List.map_congr_left fun k hk => ?_
  have hk := List.mem_range.1 hk
  have h1 : i * m + m ≤ n * m := by rw [row_end]; exact Nat.mul_le_mul_right m hi
  rw [if_pos (by omega)]
theorem hol_step {Z : List (List Int)} {m k x j : Nat} {h : Int} (hx : x < m) : (if j = k then (hol Z m h (k * m + x) k).set x (V Z k x - h) else hol Z m h (k * m + x) j) = hol Z m h (k * m + (x + 1)) j := by
  by_cases e : j = k
  · subst e
    rw [if_pos rfl]
    apply List.ext_getElem?
    intro y
    by_cases hy : y < m
    · rw [List.getElem?_set, hol_at Z h _ j hy, hol_at Z h _ j hy]
      by_cases e2 : x = y
      · subst e2
        rw [if_pos rfl, if_pos (by rw [hol_len]; exact hx), if_pos (by omega)]
      · rw [if_neg e2]
        congr 1
        by_cases h3 : y < x
        · rw [if_pos (by omega), if_pos (by omega)]
        · rw [if_neg (by omega), if_neg (by omega)]
    · rw [List.getElem?_eq_none (by simp [hol_len]; omega), List.getElem?_eq_none (by rw [hol_len]; omega)]
  · rw [if_neg e]
    unfold hol
    refine List.map_congr_left fun y hy => ?_
    have hy := List.mem_range.1 hy
    have hne : j * m + y ≠ k * m + x := fun h3 => e (by rw [← div_row (i := j) hy, h3, div_row hx])
    by_cases h3 : j * m + y < k * m + x
    · rw [if_pos h3, if_pos (by omega)]
    · rw [if_neg h3, if_neg (by omega)]

set_option maxHeartbeats 4000000 in
theorem specF_any (A : Option Addr) (n c b : Nat) (Z : List (List Int)) (h : Int) (w : World) (hg : Grid w b A n Z) (hb0 : b ≤ w.heap.size) (hn : n ≤ 1048576) :
    Calls Try.prog 35 #[.slice A n c, .int .i64 h] w (Post Z h w) := by
  have HG := Lib.hid hg
  have HL := Lib.hid hg.len
  clear hg
  cases h0 : archB Z
  · have hr := Lib.hid (res_f (h := h) h0)
    go_enter Try.func35, Try.ntmps35
    go_wp2_with (go_at_call 46; refine (is_ofb (l07Ok_any A n c b Z _ HG.out hb0 hn) h0).mono ?_; rintro e w1 ⟨rfl, b1⟩; have B1 := Lib.hid b1; clear b1)
    go_ret2
    exact post_nil hr.out.1 hr.out.2 B1.out
  cases h1 : inB h 0 1000
  · have hr := Lib.hid (res_r h0 h1)
    go_enter Try.func35, Try.ntmps35
    go_wp2_with (first | (go_at_call 46; refine (is_ofb (l07Ok_any A n c b Z _ HG.out hb0 hn) h0).mono ?_; rintro e w1 ⟨rfl, b1⟩; have B1 := Lib.hid b1; clear b1) | (go_at_call 55; refine (is_of (isRise_in _ _) h1).mono ?_; rintro e w' ⟨rfl, rfl⟩))
    go_ret2
    exact post_nil hr.out.1 hr.out.2 B1.out
  · have hh := inB_t h1
    have RT := Lib.hid (fun c => res_t h0 h1 (c := c))
    have RK := Lib.hid (fun c => res_k h0 h1 (c := c))
    have AR := Lib.hid (arch_of h0)
    obtain ⟨ad, rfl, M⟩ := Mat.of HG.out h0
    obtain ⟨m, hm⟩ : ∃ m, (rowZ Z 0).length = m := ⟨_, rfl⟩
    rw [hm] at M
    have HM := Lib.hid M
    have HMM := Lib.hid hm
    have n1 := M.n1
    have n2 := M.n2
    have m1 := M.m1
    have m2 := M.m2
    have hnm : n * m ≤ 100 := Nat.mul_le_mul n2 m2
    have HRL := Lib.hid (show ∀ i, i < n → (rowZ Z i).length = m from fun i hi => by rw [(AR.out.2.2 i (by rw [HL.out]; exact hi)).1, hm])
    clear M hm
    go_enter Try.func35, Try.ntmps35
    go_wp2_with (first | (go_at_call 46; refine (is_ofb (l07Ok_any (some ad) n c b Z _ HG.out hb0 hn) h0).mono ?_; rintro e w1 ⟨rfl, b1⟩; have B1 := Lib.hid b1; clear b1) | (go_at_call 55; refine (is_of (isRise_in _ _) h1).mono ?_; rintro e w' ⟨rfl, rfl⟩))
    refine (l07Own_any (some ad) n c b Z _ (HG.out.below (B1.out.mono hb0)) (Nat.le_trans hb0 B1.out.size) hn (fun i hi => by rw [HRL.out i hi]; omega)).mono ?_
    rintro e w2 ⟨v2, H, rfl, o2, b2⟩
    obtain ⟨g, c2, hv, _, _⟩ := o2.heads.form (by omega)
    subst hv
    have O2 := Lib.hid (o2.congr fun i hi => hol_zero (h := h) (HRL.out i hi))
    have B2 := Lib.hid (B1.out.trans (b2.mono B1.out.size))
    have S2 := Lib.hid b2.size
    clear o2 b2
    go_wp2_with fail
    go_loopw [7] (fun i wr => ∃ k : Nat, k ≤ n ∧ (∀ i, i < k → ∀ y, y < m → h ≤ V Z i y) ∧ i = .int .i64 k ∧ OG w1.heap.size w2.heap.size wr (.slice (some ⟨g, 0, none⟩) n c2) n (hol Z m h (k * m)) H ∧ w2.heap.size ≤ wr.heap.size ∧ Below w.heap.size w wr) (fun i _ => n - (intOf i).toNat)
    case atStart => exact ⟨0, Nat.zero_le _, fun i hi => by omega, rfl, by rw [Nat.zero_mul]; exact O2.out, Nat.le_refl _, B2.out⟩
    case round =>
      obtain ⟨k, hk, hs, rfl, ho, hsz, hb⟩ := hrel
      have HS := Lib.hid hs
      have HO := Lib.hid ho
      have HB := Lib.hid hb
      clear hs ho hb
      by_cases hlt : k < n
      · obtain ⟨wo, rfl⟩ : ∃ wo : World, wo = wr := ⟨_, rfl⟩
        go_wp2
        go_loopw [8] (fun j wi => ∃ x : Nat, x ≤ m ∧ (∀ y, y < x → h ≤ V Z k y) ∧ j = .int .i64 x ∧ OG w1.heap.size w2.heap.size wi (.slice (some ⟨g, 0, none⟩) n c2) n (hol Z m h (k * m + x)) H ∧ w2.heap.size ≤ wi.heap.size ∧ Below w.heap.size w wi) (fun j _ => m - (intOf j).toNat)
        case atStart => exact ⟨0, Nat.zero_le _, fun y hy => by omega, rfl, HO.out, hsz, HB.out⟩
        case round =>
          obtain ⟨x, hx, hs, rfl, hoi, hsi, hbi⟩ := hrel
          have HS2 := Lib.hid hs
          have HOI := Lib.hid hoi
          have HBI := Lib.hid hbi
          clear hs hoi hbi
          have hrow := HOI.out.row k hlt
          rw [hol_len] at hrow
          obtain ⟨gk, ck, hH, _, hgl⟩ := hrow.form (by omega)
          have hc1 : wr.cell? ⟨g, k, none⟩ = some (.slice (some ⟨gk, 0, none⟩) m ck) := by
            have := HOI.out.heads.cellAt k (by omega)
            rw [this, List.getElem?_map, List.getElem?_range hlt, ← hH]; rfl
          have HH := Lib.hid hH
          rw [hH] at hrow
          have HROW := Lib.hid hrow
          clear hH hrow
          by_cases hxl : x < m
          · have hc2 : wr.cell? ⟨gk, x, none⟩ = some (.int .i64 (V Z k x)) := by
              rw [HROW.out.cellAt x (by omega), iv, List.getElem?_map, hol_at Z h _ k hxl, if_neg (by omega)]; rfl
            have hf : wr.frozen? ⟨gk, x, none⟩ = false := HROW.out.frozenAt x
            obtain ⟨p, hp⟩ : ∃ p, V Z k x = p := ⟨_, rfl⟩
            have vb := HM.out.bd k hlt x hxl
            have HP := Lib.hid hp
            rw [hp] at hc2 vb
            clear hp
            by_cases hph : p < h
            · have hko := Lib.hid (show okH Z h = false by
                unfold okH
                rw [decide_eq_false_iff_not]
                intro h3
                have := h3 k (by rw [HL.out]; exact hlt) x (by rw [HMM.out]; exact hxl)
                rw [HP.out] at this; omega)
              go_wp2
              go_ret2
              exact post_nil (RK.out hko.out).1 (RK.out hko.out).2 HBI.out
            · have st := Lib.hid (HOI.out.store (x := x) hlt HH.out (V Z k x - h))
              rw [HP.out] at st
              have hwb := Lib.hid (HROW.out.lt gk rfl).1
              have HW1 := Lib.hid (show w.heap.size ≤ w1.heap.size from B1.out.size)
              have hs3 : Hid (∀ y, y < x + 1 → h ≤ V Z k y) := fun y hy => by
                by_cases e : y = x
                · subst e; rw [HP.out]; omega
                · exact HS2.out y (by omega)
              go_wp2
              go_roundw
              case rel =>
                refine ⟨x + 1, by omega, hs3.out, by go_num, st.out.congr fun j hj => ?_, by simpa using hsi, HBI.out.setCell (Nat.le_trans HW1.out hwb.out) _⟩
                have := hol_step (Z := Z) (k := k) (j := j) (h := h) hxl
                rw [HP.out] at this
                exact this
              case measure => simp [intOf]; omega
          · have hx2 := Lib.hid (show k * m + x = (k + 1) * m by rw [show x = m by omega, row_end])
            have hs3 : Hid (∀ i, i < k + 1 → ∀ y, y < m → h ≤ V Z i y) := fun i hi y hy => by
              by_cases e : i = k
              · subst e; exact HS2.out y (by omega)
              · exact HS.out i (by omega) y hy
            go_wp2
            go_roundw
            case rel => exact ⟨k + 1, by omega, hs3.out, by go_num, by rw [← hx2.out]; exact HOI.out, hsi, HBI.out⟩
            case measure => simp [intOf]; omega
      · obtain rfl : k = n := by omega
        have hko := Lib.hid (show okH Z h = true by
          unfold okH
          rw [decide_eq_true_iff]
          intro i hi x hx
          rw [HL.out] at hi
          rw [HMM.out] at hx
          exact HS.out i hi x hx)
        go_wp2
        go_ret2
        have hr := RT.out hko.out
        exact ⟨_, H, ret_v hr.2.symm, by rw [hr.1, HL.out, rres, HMM.out]; exact ((HO.out.congr fun i hi => hol_end hi).more hsz).base B1.out.size, HB.out⟩

/-! ### The program's -/
theorem clo_any (ad f1 f2 : Addr) (n m c b i k : Nat) (Z : List (List Int)) (h : Int) (w : World) (hM : Mat w b ad n m Z) (hb0 : b ≤ w.heap.size) (hi : i < n) (hk : k < m) (hh : 0 ≤ h ∧ h ≤ 1000)
    (c1 : w.cell? f1 = some (.slice (some ad) n c)) (c2 : w.cell? f2 = some (.int .i64 h)) (l1 : f1.block < w.heap.size) (l2 : f2.block < w.heap.size) :
    Calls Try.prog 65 #[.agg #[.int .i64 (i : Int), .int .i64 (k : Int)], .pointer (some f1), .pointer (some f2)] w fun e w' => e = .returned (.int .i64 (V Z i k - h)) ∧ Below w.heap.size w w' := by
  obtain ⟨W0, hW0⟩ : ∃ W0, w.alloc (.cells #[.int .i64 (i : Int), .int .i64 (k : Int)] 59) = W0 := ⟨_, rfl⟩
  have PB := Lib.hid (show Blk W0 w.heap.size 59 #[.int .i64 (i : Int), .int .i64 (k : Int)] by rw [← hW0]; exact Blk.new _ _ _)
  have MW := Lib.hid (show Mat W0 b ad n m Z by rw [← hW0]; exact hM.below ((Below.refl _ _).alloc hb0 _))
  have BW := Lib.hid (show Below w.heap.size w W0 by rw [← hW0]; exact (Below.refl _ _).alloc (Nat.le_refl _) _)
  have k1 := cell_regrown (PB.out.cell 0)
  have k2 := cell_regrown (PB.out.cell 1)
  have k3 := cell_regrown ((BW.out.cell l1).trans c1)
  have k4 := cell_regrown ((BW.out.cell l2).trans c2)
  have vb := hM.bd i hi k hk
  have wz : IntKind.i64.wrap (V Z i k - h) = V Z i k - h := by rw [IntKind.wrap_i64]; omega
  have ofp : ∀ W, Below W0.heap.size W0 W → Calls Try.prog 54 #[.agg #[.int .i64 (i : Int), .int .i64 (k : Int)], .slice (some ad) n c] W fun e' w' => e' = .returned (.int .i64 (V Z i k)) ∧ Below W.heap.size W w' := fun W hW =>
    of_any ad n m c b i k Z W (MW.out.below (hW.mono (Nat.le_trans hb0 BW.out.size))) (Nat.le_trans (Nat.le_trans hb0 BW.out.size) hW.size) hi hk
  have OFP := Lib.hid ofp
  have HW := Lib.hid hW0
  clear hM c1 c2 ofp hW0
  go_enter Try.func65, Try.ntmps65
  go_wp2_with fail
  rw [HW.out]
  refine wp_region_quiet_below (by kernel_rfl) (by kernel_rfl) ?_; (repeat (quiet_step ((go_at_call 54; exact Calls.regrown_of (OFP.out _ (below_regrown _ _ _)))))); refine wpQuiet_nil ?_; intro wq hwq; obtain ⟨⟨dq, osq⟩, hwq2⟩ := hwq; have bq := below_of hwq2; clear hwq2
  clear k1 k2 k3 k4
  go_wp2
  go_ret
  exact ⟨rfl, BW.out.trans (bq.mono BW.out.size)⟩

set_option maxHeartbeats 4000000 in
theorem mapped_any (ad f1 f2 : Addr) (n m c b : Nat) (Z : List (List Int)) (F : Nat → Nat → Int) (w : World) (hM : Mat w b ad n m Z) (hb0 : b ≤ w.heap.size)
    (hf : ∀ W i k, Below w.heap.size w W → i < n → k < m → Calls Try.prog 65 #[.agg #[.int .i64 (i : Int), .int .i64 (k : Int)], .pointer (some f1), .pointer (some f2)] W fun e w' => e = .returned (.int .i64 (F i k)) ∧ Below W.heap.size W w') :
    Calls Try.prog 64 #[.slice (some ad) n c, .func (.func 65) #[] #[.pointer (some f1), .pointer (some f2)]] w
      fun e w' => ∃ v H, e = .returned v ∧ OG w.heap.size w'.heap.size w' v n (fun i => (List.range m).map (F i)) H ∧ Below w.heap.size w w' := by
  obtain ⟨i0, hi0, hz0, hz1, hz2⟩ := info_parts infoR
  obtain ⟨j0, hj0, hy0, hy1, hy2⟩ := info_parts infoI
  have h0 := Lib.hid (World.ownsRow_lit (base := w.heap.size) (e := 53) (size := 1) w #[] 0 (Nat.le_refl _) (by simp [maxLen]) rfl)
  have HF := Lib.hid hf
  have HM := Lib.hid hM
  have n1 := hM.n1
  have n2 := hM.n2
  have m1 := hM.m1
  have m2 := hM.m2
  clear hM hf
  go_enter Try.func64, Try.ntmps64
  go_wp2_with fail
  go_loopw [5, 13] (fun v i wr => ∃ (k : Nat) (H : Nat → Value), k ≤ n ∧ i = .int .i64 k ∧ OG w.heap.size wr.heap.size wr v k (fun i => (List.range m).map (F i)) H ∧ Below w.heap.size w wr) (fun _ i _ => n - (intOf i).toNat)
  case atStart => exact ⟨0, fun _ => .bool false, Nat.zero_le _, rfl, ⟨by simpa using h0.out, fun i hi => by omega, fun i j g _ hj => by omega, fun g hg => (h0.out.lt g hg).2, fun i g hi => by omega⟩, (Below.refl _ _).alloc (Nat.le_refl _) _⟩
  case round =>
    obtain ⟨k, H, hk, rfl, ho, hb⟩ := hrel
    have HR := Lib.hid ho
    have HB := Lib.hid hb
    clear ho hb
    by_cases hlt : k < n
    · obtain ⟨ai, ci, r1, r2, r3⟩ := HM.out.rows k hlt
      have hcr := (HB.out.cell (p := ad.add k) (by rw [block_of_add]; exact Nat.lt_of_lt_of_le HM.out.blk hb0)).trans r1
      clear r1 r2 r3
      obtain ⟨wo, hwo⟩ : ∃ wo : World, wo = wr := ⟨_, rfl⟩
      have g0 := Lib.hid (World.ownsRow_lit (base := wr.heap.size) (e := 2) (size := 1) wr #[] 0 (Nat.le_refl _) (by simp [maxLen]) rfl)
      have BO := Lib.hid (show Below wo.heap.size wo wr by rw [hwo]; exact Below.refl _ _)
      rw [← hwo] at HR HB g0
      have HRW := Lib.hid hwo
      clear hwo
      go_wp2
      rw [← HRW.out]
      go_loopw [8, 21] (fun v j wi => ∃ x : Nat, x ≤ m ∧ j = .int .i64 x ∧ wi.ownsRow wo.heap.size 2 1 v x (iv ((List.range x).map (F k))) ∧ Below wo.heap.size wo wi) (fun _ j _ => m - (intOf j).toNat)
      case atStart => exact ⟨0, Nat.zero_le _, rfl, by simpa [iv] using g0.out, (Below.refl _ _).alloc (Nat.le_refl _) _⟩
      case round =>
        obtain ⟨x, hx, rfl, hoi, hbi⟩ := hrel
        have HRI := Lib.hid hoi
        have HBI := Lib.hid hbi
        clear hoi hbi
        by_cases hxl : x < m
        · have st := Lib.hid (show iv ((List.range (x + 1)).map (F k)) = iv ((List.range x).map (F k)) ++ [.int .i64 (F k x)] by simp [List.range_succ, iv])
          have BW := Lib.hid (HB.out.trans (HBI.out.mono HB.out.size))
          go_wp2_with fail
          refine (HF.out _ k x BW.out hlt hxl).mono ?_
          rintro e w1 ⟨rfl, b1⟩
          have B1 := Lib.hid b1
          have O1 := Lib.hid (own_below HRI.out b1)
          clear b1
          go_wp2_with (at_builtin; refine wpList_append_own _ rfl _ _ 53 rfl wo.heap.size 2 j0 (.int .i64 0) 1 8 Try.underlying53 hj0 hy0 hy1 hy2 rfl (by decide) _ _ _ rfl (O1.out.alloc _) ⟨w1.heap.size, 0, none⟩ 1 1 [.int .i64 (F k x)] rfl rfl ?c1 ?c2 ?c3 ?c4 ?c5 ?_)
          case c1 => exact cell_one_new _ _ _
          case c2 => intro u hu; simp at hu; subst hu; rfl
          case c3 => unfold maxLen; omega
          case c4 => omega
          case c5 => have := HBI.out.size; have := B1.out.size; simp; omega
          · intro v' w2 hown' hgrow _
            have HO := Lib.hid hown'
            have HG := Lib.hid (below_own O1.out (HBI.out.trans (B1.out.mono HBI.out.size)) hgrow (Nat.le_trans HBI.out.size B1.out.size))
            clear hown' hgrow
            go_wp2
            go_roundw
            case rel => exact ⟨x + 1, by omega, by go_num, by rw [st.out]; exact HO.out, HG.out⟩
            case measure => simp [intOf]; omega
        · obtain rfl : x = m := by omega
          obtain ⟨Al, cl, hAl⟩ := own_form HRI.out
          subst hAl
          have BW := Lib.hid (HB.out.trans (HBI.out.mono HB.out.size))
          go_wp2_with (at_builtin; refine wpList_append_own _ rfl _ _ 28 rfl w.heap.size 53 i0 (.slice none 0 0) 1 24 Try.underlying28 hi0 hz0 hz1 hz2 rfl (by decide) _ _ _ rfl ((own_below HR.out.heads HBI.out).alloc _) ⟨wr.heap.size, 0, none⟩ 1 1 [.slice Al x cl] rfl rfl ?c1 ?c2 ?c3 ?c4 ?c5 ?_)
          case c1 => exact cell_one_new _ _ _
          case c2 => intro u hu; simp at hu; subst hu; rfl
          case c3 => unfold maxLen; omega
          case c4 => omega
          case c5 => have := BW.out.size; simp; omega
          · intro v' w2 hown' hgrow _
            have HP := Lib.hid (HR.out.push (r := (List.range x).map (F k)) HB.out.size HBI.out (by simpa using HRI.out) hown' hgrow)
            have HB2 := Lib.hid (below_own2 HR.out HB.out HBI.out hgrow HB.out.size)
            clear hown' hgrow
            go_wp2
            go_roundw
            case rel => exact ⟨k + 1, _, by omega, by go_num, HP.out.congr fun i hi => (by by_cases e : i = k <;> simp [e]), HB2.out⟩
            case measure => simp [intOf]; omega
    · obtain rfl : k = n := by omega
      go_wp2
      go_ret
      exact ⟨_, H, rfl, HR.out, HB.out⟩

theorem arch_hrow {Z : List (List Int)} {n m : Nat} {h : Int} (hl : Z.length = n) (hm : (rowZ Z 0).length = m) (n1 : 1 ≤ n) (n2 : n ≤ 10) (m1 : 1 ≤ m) (m2 : m ≤ 10) (hh : 0 ≤ h) (bd : ∀ i, i < n → ∀ k, k < m → 0 ≤ V Z i k ∧ V Z i k ≤ 1000) :
    archB ((List.range n).map (hrow Z m h)) = okH Z h := by
  have hR : ∀ i, i < n → rowZ ((List.range n).map (hrow Z m h)) i = hrow Z m h i := fun i hi => by
    unfold rowZ; rw [List.getD_eq_getElem?_getD, List.getElem?_map, List.getElem?_range hi]; rfl
  unfold archB okH
  rw [decide_eq_decide]
  constructor
  · rintro ⟨a1, a2, a3⟩ i hi k hk
    rw [hl] at hi
    rw [hm] at hk
    have := (a3 i (by simpa using hi)).2.2.2 k (by rw [hR i hi, hrow_len]; exact hk)
    rw [hR i hi, hrow_at Z h i hk] at this
    have := inB_t this
    omega
  · intro g
    refine ⟨by simpa using n1, by simpa using n2, fun i hi => ?_⟩
    have hi' : i < n := by simpa using hi
    rw [hR i hi', hR 0 (by omega)]
    refine ⟨by rw [hrow_len, hrow_len], by rw [hrow_len]; exact m1, by rw [hrow_len]; exact m2, fun k hk => ?_⟩
    rw [hrow_len] at hk
    rw [hrow_at Z h i hk]
    have h1 := g i (by omega) k (by omega)
    have h2 := bd i hi' k hk
    unfold inB
    rw [Bool.and_eq_true_iff, decide_eq_true_iff, decide_eq_true_iff]
    omega

set_option maxHeartbeats 4000000 in
theorem implF_any (A : Option Addr) (n c b : Nat) (Z : List (List Int)) (h : Int) (w : World) (hg : Grid w b A n Z) (hb0 : b ≤ w.heap.size) (hn : n ≤ 1048576) :
    Calls Try.prog 36 #[.slice A n c, .int .i64 h] w (Post Z h w) := by
  obtain ⟨W0, hW0⟩ : ∃ W0, (w.alloc (.cells #[.slice A n c] 28)).alloc (.cells #[.int .i64 h] 2) = W0 := ⟨_, rfl⟩
  have BW := Lib.hid (show Below w.heap.size w W0 by rw [← hW0]; exact ((Below.refl _ _).alloc (Nat.le_refl _) _).alloc (by simp) _)
  have P1 := Lib.hid (show Blk W0 w.heap.size 28 #[.slice A n c] by rw [← hW0]; exact (Blk.new _ _ _).alloc _)
  have P2 := Lib.hid (show Blk W0 (w.heap.size + 1) 2 #[.int .i64 h] by rw [← hW0]; simpa using Blk.new (w.alloc (.cells #[.slice A n c] 28)) 2 #[.int .i64 h])
  have hs : W0.heap.size = w.heap.size + 2 := by rw [← hW0]; simp
  have HW := Lib.hid hW0
  have HS := Lib.hid hs
  have HG := Lib.hid (hg.below (BW.out.mono hb0))
  have hb := Lib.hid (Nat.le_trans hb0 BW.out.size)
  have HL := Lib.hid hg.len
  clear hg hW0 hs
  cases h0 : archB Z
  · have hr := Lib.hid (res_f (h := h) h0)
    have k1 := P1.out.cell 0
    go_enter Try.func36, Try.ntmps36
    go_wp2_with fail
    rw [HW.out]
    go_wp2_with (go_at_call 21; refine (is_ofb (implArch_any A n c b Z _ HG.out hb.out hn) h0).mono ?_; rintro e w1 ⟨rfl, b1⟩; have B1 := Lib.hid (BW.out.trans (b1.mono BW.out.size)); clear b1)
    go_ret2
    exact post_nil hr.out.1 hr.out.2 B1.out
  obtain ⟨ad, rfl, M⟩ := Mat.of HG.out h0
  obtain ⟨m, hm⟩ : ∃ m, (rowZ Z 0).length = m := ⟨_, rfl⟩
  rw [hm] at M
  have HM := Lib.hid M
  have HMM := Lib.hid hm
  have n1 := M.n1
  have n2 := M.n2
  have m1 := M.m1
  have m2 := M.m2
  clear M hm
  have RR := Lib.hid (fun c => res_r (h := h) h0 c)
  have RT := Lib.hid (fun b c => res_t (h := h) h0 b c)
  have RK := Lib.hid (fun b c => res_k (h := h) h0 b c)
  have k1 := P1.out.cell 0
  go_enter Try.func36, Try.ntmps36
  go_wp2_with fail
  rw [HW.out]
  refine (is_ofb (implArch_any (some ad) n c b Z _ HG.out hb.out hn) h0).mono ?_
  rintro e w1 ⟨rfl, b1⟩
  have B1 := Lib.hid b1
  have c1 : w1.cell? ⟨w.heap.size, 0, none⟩ = some (.slice (some ad) n c) := (b1.cell (p := ⟨w.heap.size, 0, none⟩) (by have := HS.out; simp; omega)).trans (P1.out.cell 0)
  have c2 : w1.cell? ⟨w.heap.size + 1, 0, none⟩ = some (.int .i64 h) := (b1.cell (p := ⟨w.heap.size + 1, 0, none⟩) (by have := HS.out; simp; omega)).trans (P2.out.cell 0)
  have BB := Lib.hid (BW.out.trans (b1.mono BW.out.size))
  clear b1 k1
  cases h1 : inB h 0 1000
  · have hr := Lib.hid (RR.out h1)
    go_wp2_with (go_at_call 56; refine (is_of (isRise_any _ _) h1).mono ?_; rintro e w' ⟨rfl, rfl⟩)
    go_ret2
    exact post_nil hr.out.1 hr.out.2 BB.out
  · have hh := inB_t h1
    have C1 := Lib.hid c1
    have C2 := Lib.hid c2
    have M1 := Lib.hid (HM.out.below (B1.out.mono hb.out))
    have hs1 := Lib.hid (Nat.le_trans hb.out B1.out.size)
    have hl := Lib.hid (show w.heap.size + 1 < w1.heap.size by have := HS.out; have := B1.out.size; omega)
    go_wp2_with (go_at_call 56; refine (is_of (isRise_any _ _) h1).mono ?_; rintro e w' ⟨rfl, rfl⟩)
    clear c1 c2
    refine (mapped_any ad ⟨w.heap.size, 0, none⟩ ⟨w.heap.size + 1, 0, none⟩ n m c b Z (fun i k => V Z i k - h) w1 M1.out hs1.out (fun W i k hW hi hk => clo_any ad _ _ n m c b i k Z h W (M1.out.below (hW.mono hs1.out)) (Nat.le_trans hs1.out hW.size) hi hk hh ((hW.cell (p := ⟨w.heap.size, 0, none⟩) (by have := hl.out; simp; omega)).trans C1.out) ((hW.cell (p := ⟨w.heap.size + 1, 0, none⟩) hl.out).trans C2.out) (by have := hl.out; have := hW.size; simp; omega) (Nat.lt_of_lt_of_le hl.out hW.size))).mono ?_
    rintro e w2 ⟨v2, H, rfl, o2, b2⟩
    obtain ⟨A2, c2, rfl⟩ := o2.form
    have O2 := Lib.hid o2
    have BB := Lib.hid (BB.out.trans (b2.mono BB.out.size))
    have S2 := Lib.hid (show w.heap.size ≤ w1.heap.size by have := hl.out; omega)
    have AH := Lib.hid (arch_hrow (h := h) HL.out HMM.out n1 n2 m1 m2 hh.1 HM.out.bd)
    clear o2 b2
    go_wp2_with fail
    cases h2 : okH Z h
    all_goals
      refine (is_ofb (implArch_any A2 n c2 _ _ _ (O2.out.grid (fun i hi => by simp; omega)) (Nat.le_refl _) hn) (AH.out.trans h2)).mono ?_
      rintro e w3 ⟨rfl, b3⟩
      have B3 := Lib.hid b3
      clear b3
    · have hr := Lib.hid (RK.out h1 h2)
      go_wp2
      go_ret2
      exact post_nil hr.out.1 hr.out.2 (BB.out.trans (B3.out.mono BB.out.size))
    · have hr := Lib.hid (RT.out h1 h2)
      go_wp2
      go_ret2
      exact ⟨_, H, ret_v hr.out.2.symm, by rw [hr.out.1, HL.out, rres, HMM.out]; exact ((O2.out.below B3.out).more B3.out.size).base S2.out, BB.out.trans (B3.out.mono BB.out.size)⟩

set_option maxHeartbeats 4000000 in
theorem walk (A0 : Option Addr) (n0 c0 : Nat) (Z0 : List (List Int)) (h : Int) (w : World) (w0 : Grid w w.heap.size A0 n0 Z0 ∧ n0 ≤ 9223372036854775807) (w1 : (Lit.int .i64 h).wf = true) :
    Calls Try.prog 11 #[.slice A0 n0 c0, .int .i64 h] w fun r w' => r = .returned (.bool true) ∧ Below w.heap.size w w' := by
  obtain ⟨hg0, hn0⟩ := w0
  have K0 := Lib.hid (show KeepG w A0 n0 Z0 w from ⟨Below.refl _ _, hg0⟩)
  have HL0 := Lib.hid hg0.len
  clear hg0
  go_enter Try.func11, Try.ntmps11
  go_wp2_with fail
  refine (szInt64SS_any A0 n0 c0 _ Z0 1048576 _ K0.out.grid hn0 (by omega) (by omega)).mono ?_
  rintro e v11 ⟨r0, rfl, rb0, hs0, b11⟩
  have HS0 := Lib.hid hs0
  have s11 := b11.size
  have K0 := Lib.hid (K0.out.step b11)
  clear hs0 b11
  by_cases hr0 : r0 < 0
  · go_wp2
    go_ret
    exact ⟨rfl, K0.out.old⟩
  have hp0 : 0 ≤ r0 := by omega
  have HN0 : Hid (n0 ≤ 1048576) := by have := (HS0.out hp0).1; rw [HL0.out] at this; show n0 ≤ 1048576; omega
  have HM0 : Hid (∀ i, i < n0 → (rowZ Z0 i).length ≤ 1048576) := fun i hi => by have := (HS0.out hp0).2 i (by rw [HL0.out]; exact hi); omega
  clear hr0
  go_wp2_with fail
  refine (toInt64SS_any A0 n0 c0 _ Z0 _ K0.out.grid K0.out.old.size HN0.out HM0.out).mono ?_
  rintro e v12 ⟨g12, z12, rfl, hz12, o12, b12⟩
  have s12 := b12.size
  have K0 := Lib.hid (K0.out.step b12)
  have P0 := Lib.hid (o12.og hz12)
  clear o12 hz12 b12
  go_wp2_with fail
  refine (specF_any _ n0 n0 _ Z0 h _ (og_grid P0.out HL0.out HM0.out) (Nat.le_refl _) HN0.out).mono ?_
  rintro e v13 ⟨t13, H13, rfl, o13, b13⟩
  obtain ⟨A13, c13, rfl⟩ := o13.form
  have s13 := b13.size
  have K0 := Lib.hid (K0.out.step b13)
  have P0 := Lib.hid (P0.out.below b13)
  have S := Lib.hid o13
  clear o13 b13
  go_wp2_with fail
  refine (toInt64SS_any A0 n0 c0 _ Z0 _ K0.out.grid K0.out.old.size HN0.out HM0.out).mono ?_
  rintro e v14 ⟨g14, z14, rfl, hz14, o14, b14⟩
  have s14 := b14.size
  have K0 := Lib.hid (K0.out.step b14)
  have S := Lib.hid (S.out.below b14)
  have X0 := Lib.hid (o14.og hz14)
  clear o14 hz14 b14
  go_wp2_with fail
  refine (implF_any _ n0 n0 _ Z0 h _ (og_grid X0.out HL0.out HM0.out) (Nat.le_refl _) HN0.out).mono ?_
  rintro e v15 ⟨t15, H15, rfl, o15, b15⟩
  obtain ⟨A15, c15, rfl⟩ := o15.form
  have s15 := b15.size
  have K0 := Lib.hid (K0.out.step b15)
  have S := Lib.hid (S.out.below b15)
  have X0 := Lib.hid (X0.out.below b15)
  have Q := Lib.hid o15
  clear o15 b15
  go_wp2_with fail
  refine (eqInt64SS_any _ _ _ _ _ _ _ _ _ (Q.out.grid (rres_le Z0 h)) (S.out.grid (rres_le Z0 h)) (Nat.le_refl _) (Nat.le_refl _) (nres_le Z0 h)).mono ?_
  rintro e v16 ⟨rfl, b16⟩
  have s16 := b16.size
  have K0 := Lib.hid (K0.out.step b16)
  have S := Lib.hid (S.out.below b16)
  have X0 := Lib.hid (X0.out.below b16)
  have Q := Lib.hid (Q.out.below b16)
  clear b16
  go_wp2_with fail
  refine (toInt64SS_any A0 n0 c0 _ Z0 _ K0.out.grid K0.out.old.size HN0.out HM0.out).mono ?_
  rintro e v17 ⟨g17, z17, rfl, hz17, o17, b17⟩
  have s17 := b17.size
  have K0 := Lib.hid (K0.out.step b17)
  have S := Lib.hid (S.out.below b17)
  have X0 := Lib.hid (X0.out.below b17)
  have Q := Lib.hid (Q.out.below b17)
  have Y0 := Lib.hid (o17.og hz17)
  clear o17 hz17 b17
  go_wp2_with fail
  refine (eqInt64SS_any _ _ _ _ _ _ _ _ _ (og_grid X0.out HL0.out HM0.out) (og_grid Y0.out HL0.out HM0.out) (Nat.le_refl _) (Nat.le_refl _) HN0.out).mono ?_
  rintro e v18 ⟨rfl, b18⟩
  have s18 := b18.size
  have K0 := Lib.hid (K0.out.step b18)
  have S := Lib.hid (S.out.below b18)
  have X0 := Lib.hid (X0.out.below b18)
  have Q := Lib.hid (Q.out.below b18)
  have Y0 := Lib.hid (Y0.out.below b18)
  clear b18
  go_wp2_with fail
  refine (markInt64SS_any _ n0 n0 _ _ _ _ _ _ X0.out HN0.out (by omega) (by have := tot_le HN0.out HM0.out; omega)).mono ?_
  rintro e v19 ⟨rfl, o19, y19⟩
  have s19 := y19.size
  have K0 := Lib.hid (K0.out.only_ y19 (by omega))
  have S := Lib.hid (S.out.only y19 (by omega))
  have Q := Lib.hid (Q.out.only y19 (by omega))
  have X0 := Lib.hid o19
  clear o19 y19
  have tl0 := tot_le (Z := Z0) HN0.out HM0.out
  go_wp2_with fail
  refine (eqInt64SS_any _ _ _ _ _ _ _ _ _ (Q.out.grid (rres_le Z0 h)) (S.out.grid (rres_le Z0 h)) (Nat.le_refl _) (Nat.le_refl _) (nres_le Z0 h)).mono ?_
  rintro e v21 ⟨rfl, b21⟩
  have s21 := b21.size
  have K0 := Lib.hid (K0.out.step b21)
  have S := Lib.hid (S.out.below b21)
  have Q := Lib.hid (Q.out.below b21)
  clear b21
  go_wp2_with fail
  refine (markInt64SS_any _ _ _ _ _ _ _ 1 _ Q.out (nres_le Z0 h) (by omega) (by have := rtot_le Z0 h; omega)).mono ?_
  rintro e v22 ⟨rfl, o22, y22⟩
  have s22 := y22.size
  have K0 := Lib.hid (K0.out.only_ y22 (by omega))
  have S := Lib.hid (S.out.only y22 (by omega))
  have Q := Lib.hid o22
  clear o22 y22
  have rl := rtot_le Z0 h
  go_wp2_with fail
  refine (heldInt64SS_any _ _ _ _ _ _ _ 1 _ Q.out (nres_le Z0 h) (by omega) (by have := rtot_le Z0 h; omega)).mono ?_
  rintro e v23 ⟨rfl, rfl⟩
  go_wp2_with fail
  refine (toInt64SS_any A0 n0 c0 _ Z0 _ K0.out.grid K0.out.old.size HN0.out HM0.out).mono ?_
  rintro e v24 ⟨g24, z24, rfl, hz24, o24, b24⟩
  have s24 := b24.size
  have K0 := Lib.hid (K0.out.step b24)
  have S := Lib.hid (S.out.below b24)
  have Q := Lib.hid (Q.out.below b24)
  have V0 := Lib.hid (o24.og hz24)
  clear o24 hz24 b24
  go_wp2_with fail
  refine (implF_any _ n0 n0 _ Z0 h _ (og_grid V0.out HL0.out HM0.out) (Nat.le_refl _) HN0.out).mono ?_
  rintro e v25 ⟨t25, H25, rfl, o25, b25⟩
  obtain ⟨A25, c25, rfl⟩ := o25.form
  have s25 := b25.size
  have K0 := Lib.hid (K0.out.step b25)
  have S := Lib.hid (S.out.below b25)
  have Q := Lib.hid (Q.out.below b25)
  have V0 := Lib.hid (V0.out.below b25)
  have N := Lib.hid o25
  clear o25 b25
  go_wp2_with fail
  refine (eqInt64SS_any _ _ _ _ _ _ _ _ _ (N.out.grid (rres_le Z0 h)) (S.out.grid (rres_le Z0 h)) (Nat.le_refl _) (Nat.le_refl _) (nres_le Z0 h)).mono ?_
  rintro e v26 ⟨rfl, b26⟩
  have s26 := b26.size
  have K0 := Lib.hid (K0.out.step b26)
  have S := Lib.hid (S.out.below b26)
  have Q := Lib.hid (Q.out.below b26)
  have N := Lib.hid (N.out.below b26)
  clear b26
  go_wp2_with fail
  refine (heldInt64SS_any _ _ _ _ _ _ _ 1 _ Q.out (nres_le Z0 h) (by omega) (by have := rtot_le Z0 h; omega)).mono ?_
  rintro e v27 ⟨rfl, rfl⟩
  go_wp2
  go_ret
  exact ⟨rfl, K0.out.old⟩

/-! ### The row's step -/
theorem own : ownKnob Try.prog.godebug = none := by kernel_rfl
theorem laidOut : laidOutB Try.prog = true := by kernel_rfl
set_option maxRecDepth 100000 in
theorem lifted (os : Os) (started : os.Started) (H : Type) (enc : TypeId × Value → H) :
    ReturnsInHanded {} Try.checked os 11 .any (Rows.fnExactHollowForSpec.pre6 enc Try.prog Try.f11 Rows.fnExactHollowForRow.domain false) (Rows.fnExactHollowForSpec.post enc Try.prog Try.f11 false true false false) := by
  refine returnsInHanded_of_change (C := Try.checked) own started (by kernel_rfl) Try.func11
    (ChangeSpec.witness6 (enc := enc) (C := Try.checked) false ⟨#[], #[.slice none 0 0, .int .i64 0], []⟩ 8 (by kernel_rfl) (by kernel_rfl) (by kernel_rfl) (by kernel_rfl)) ?_
  intro W base args ds gs before hval0 hW hcnd _
  have hval : ∀ (j : Nat) t v, Try.f11.params[j]? = some t → args[j]? = some v → Value.okWide Try.prog W .any base t v := hval0
  have hW' := hW
  obtain ⟨p, q, hA0, hV, rfl, hfz, hnd⟩ := hW
  have hA : DataW.TrodAll enc Try.prog W 0 (fun _ => true) true Try.f11.params.toList args.toList ds p := hA0
  rw [Try.params11] at hA hval
  obtain ⟨v0, vs0, d0, ds0, p0, q0, hargs, rfl, rfl, h0, r0⟩ := trodAll_cons hA
  obtain ⟨v1, vs1, d1, ds1, p1, q1, rfl, rfl, rfl, h1, r1⟩ := trodAll_cons r0
  obtain ⟨rfl, rfl, rfl⟩ := trodAll_nil r1
  obtain rfl : args = #[v0, v1] := by cases args; simp_all
  obtain ⟨rfl, rfl⟩ := trodVars_none hV
  have k0 := h0
  have lt0 : ∀ x ∈ p0, x.block < W.heap.size := by obtain ⟨m, hm⟩ := k0; exact DataW.trod_lt m _ _ _ hm
  obtain ⟨a0, len0, cap0, rfl⟩ := okWide_slice Try.underlying28 (hval 0 28 v0 rfl rfl)
  obtain ⟨z0, w0⟩ : ∃ Z, Grid W W.heap.size a0 len0 Z ∧ len0 ≤ 9223372036854775807 := by
    obtain ⟨fuel, hf⟩ := h0
    rcases Deep.open_int_rows Try.underlying28 Try.underlying53 Try.underlying2 (by kernel_rfl) (by kernel_rfl) hf with ⟨hcs, _⟩ | ⟨x, l, c, A, L, C, ZZ, hcs, _, hl, hm, _, hrow⟩
    · simp [Value.cells] at hcs
      obtain ⟨rfl, rfl, rfl⟩ := hcs
      exact ⟨[], grid_nil _ _ _, by omega⟩
    · simp [Value.cells] at hcs
      obtain ⟨rfl, rfl, rfl⟩ := hcs
      exact ⟨_, grid_of_rows hl hrow, by unfold maxLen at hm; omega⟩
  have k1 := h1
  have lt1 : ∀ x ∈ p1, x.block < W.heap.size := by obtain ⟨m, hm⟩ := k1; exact DataW.trod_lt m _ _ _ hm
  obtain ⟨a1, rfl, rfl, rfl, w1⟩ := open_int Try.underlying2 (hval 1 2 v1 rfl rfl) h1
  clear hA0 hval0
  refine (walk a0 len0 cap0 z0 a1 W w0 w1).mono fun e W' ⟨he, bel⟩ => ?_
  subst he
  exact ⟨_, rfl, _, _, _, [], _, [], hW', trodAll_mk1 (shut_bool Try.underlying4 _), (trodAll_cons_mk (Below.trod laidOut (by kernel_rfl) (of_decide_eq_true (by kernel_rfl)) k0 bel lt0) (trodAll_cons_mk (Below.trod laidOut (by kernel_rfl) (of_decide_eq_true (by kernel_rfl)) k1 bel lt1) trodAll_mk0)), rfl, bel.frame _, fun h => by cases h⟩

theorem over : Rows.fnExactHollowForRow.holds Try.pinned (OpenSpec.ofChange Rows.fnExactHollowForSpec) :=
  OpenClaim.holds_of_wide 11 Try.f11 rfl rfl rfl rfl rfl rfl rfl ⟨rfl, rfl, rfl, rfl, rfl⟩ rfl rfl rfl rfl rfl (by kernel_rfl) Try.func11 (by kernel_rfl)
    (of_decide_eq_true (by kernel_rfl)) (by unfold Func.isWrapper; first | (rw [if_pos (by decide +kernel)]; kernel_rfl) | (rw [if_neg (by decide +kernel)]; exact ⟨rfl, rfl⟩))
    (fun os started H enc _ => lifted os started H enc)

/-- The given statement. -/
theorem proved : Rows.FnExactHollowForSaid := over
#print axioms proved

end Go.Proofs.Ytfnlnkfihldoeaa.fnExactHollowFor
