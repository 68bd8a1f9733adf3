/- For all arguments, the program's ThinPlaces returns what the reference's returns, and memory of its own; grids of more than 2^20 cells the law lets pass. Conditions: none. -/
import Derived.Test.YtfnlnkfihldoeaaOG
import Derived.Test.YtfnlnkfihldoeaaOwnS
import Derived.Test.YtfnlnkfihldoeaaPlaces
import Derived.Deep.Matrix
import Derived.ProofKit
import Derived.OpenShut
import Derived.ShutString
import Derived.ChangeOld
import Derived.Below
namespace Go.Proofs.Ytfnlnkfihldoeaa.fnExactThinPlaces
open Go.ChangeShapes Go.WideShapes Go.ChangeAt Go.RowKit
open Go.ChangeMaps (open_string shut_string)
set_option linter.unusedVariables false
open Go.Sort

/-- the places that are chosen -/
def pick (B : Nat → Nat → Bool) (m : Nat) (t : Nat) (l : List (List Int)) : List (List Int) := if B (t / m) (t % m) then l ++ [[((t / m : Nat) : Int), ((t % m : Nat) : Int)]] else l
def thinB (Z Y : List (List Int)) (h : Int) (i k : Nat) : Bool := decide (V Z i k - V Y i k < h)
def lst (Z Y : List (List Int)) (h : Int) : List (List Int) := foldN (pick (thinB Z Y h) (rowZ Z 0).length) [] (Z.length * (rowZ Z 0).length)
def sameB (Z Y : List (List Int)) : Bool := decide (Z.length = Y.length ∧ (rowZ Z 0).length = (rowZ Y 0).length)
def okB (Z Y : List (List Int)) (h : Int) : Bool := (archB Z && archB Y) && (inB h 0 1000 && sameB Z Y)
def cod (Z Y : List (List Int)) (h : Int) : Int := if archB Z && archB Y then (if inB h 0 1000 then (if sameB Z Y then 0 else 7) else 2) else 1
def nres (Z Y : List (List Int)) (h : Int) : Nat := if okB Z Y h then (lst Z Y h).length else 0
def rres (Z Y : List (List Int)) (h : Int) : Nat → List Int := fun i => (lst Z Y h).getD i []
theorem res_t {Z Y : List (List Int)} {h : Int} (a : archB Z = true) (a' : archB Y = true) (b : inB h 0 1000 = true) (c : sameB Z Y = true) : nres Z Y h = (lst Z Y h).length ∧ cod Z Y h = 0 := by simp [nres, okB, cod, a, a', b, c]
theorem res_s {Z Y : List (List Int)} {h : Int} (a : archB Z = true) (a' : archB Y = true) (b : inB h 0 1000 = true) (c : sameB Z Y = false) : nres Z Y h = 0 ∧ cod Z Y h = 7 := by simp [nres, okB, cod, a, a', b, c]
theorem res_r {Z Y : List (List Int)} {h : Int} (a : archB Z = true) (a' : archB Y = true) (b : inB h 0 1000 = false) : nres Z Y h = 0 ∧ cod Z Y h = 2 := by simp [nres, okB, cod, a, a', b]
theorem res_f {Z Y : List (List Int)} {h : Int} (a : archB Z = false) : nres Z Y h = 0 ∧ cod Z Y h = 1 := by simp [nres, okB, cod, a]
theorem res_g {Z Y : List (List Int)} {h : Int} (a : archB Y = false) : nres Z Y h = 0 ∧ cod Z Y h = 1 := by simp [nres, okB, cod, a]
theorem pick_len (B : Nat → Nat → Bool) (m : Nat) : ∀ t, (foldN (pick B m) [] t).length ≤ t
  | 0 => by simp [foldN]
  | t + 1 => by
    have := pick_len B m t
    rw [foldN, pick]; split <;> simp <;> omega
theorem pick_two (B : Nat → Nat → Bool) (m : Nat) : ∀ t i, i < (foldN (pick B m) [] t).length → ((foldN (pick B m) [] t).getD i []).length = 2
  | 0, i, h => by simp [foldN] at h
  | t + 1, i, h => by
    rw [foldN, pick] at h ⊢
    split
    · rename_i e
      rw [if_pos e] at h
      by_cases e2 : i < (foldN (pick B m) [] t).length
      · rw [List.getD_eq_getElem?_getD, List.getElem?_append_left e2, ← List.getD_eq_getElem?_getD]; exact pick_two B m t i e2
      · rw [List.getD_eq_getElem?_getD, List.getElem?_append_right (by omega)]
        simp at h
        simp [show i - (foldN (pick B m) [] t).length = 0 by omega]
    · rename_i e
      rw [if_neg e] at h
      exact pick_two B m t i h
theorem nres_arch {Z Y : List (List Int)} {h : Int} {i : Nat} (hi : i < nres Z Y h) : Arch Z ∧ i < (lst Z Y h).length := by
  unfold nres okB at hi
  split at hi
  · rename_i e
    exact ⟨arch_of (Bool.and_eq_true_iff.1 (Bool.and_eq_true_iff.1 e).1).1, hi⟩
  · omega
theorem nres_le (Z Y : List (List Int)) (h : Int) : nres Z Y h ≤ 1048576 := by
  by_cases h0 : 0 < nres Z Y h
  · obtain ⟨⟨g1, g2, g3⟩, _⟩ := nres_arch h0
    have m2 := (g3 0 (by omega)).2.2.1
    have h1 := pick_len (thinB Z Y h) (rowZ Z 0).length (Z.length * (rowZ Z 0).length)
    have h2 : Z.length * (rowZ Z 0).length ≤ 10 * 10 := Nat.mul_le_mul g2 m2
    have h3 : nres Z Y h ≤ (lst Z Y h).length := by unfold nres; split <;> omega
    unfold lst at h3
    omega
  · omega
theorem rres_two {Z Y : List (List Int)} {h : Int} {i : Nat} (hi : i < nres Z Y h) : (rres Z Y h i).length = 2 := pick_two _ _ _ i (nres_arch hi).2
theorem rres_le (Z Y : List (List Int)) (h : Int) : ∀ i, i < nres Z Y h → (rres Z Y h i).length ≤ 9223372036854775807 := fun i hi => by rw [rres_two hi]; omega
theorem rtot_le (Z Y : List (List Int)) (h : Int) : totN (rres Z Y h) (nres Z Y h) ≤ 1099511627776 := by
  have h1 := totN_le (R := rres Z Y h) (n := nres Z Y h) (m := 2) (fun i hi => by rw [rres_two hi]; omega)
  have h2 := nres_le Z Y h
  omega
theorem push_R {l : List (List Int)} {r : List Int} {i : Nat} (hi : i < l.length + 1) : (if i = l.length then r else l.getD i []) = (l ++ [r]).getD i [] := by
  by_cases e : i = l.length
  · subst e; rw [if_pos rfl, List.getD_eq_getElem?_getD, List.getElem?_append_right (by omega)]; simp
  · rw [if_neg e, List.getD_eq_getElem?_getD, List.getD_eq_getElem?_getD, List.getElem?_append_left (by omega)]
theorem is_ofb {P : Program} {f : FuncId} {args : Array Value} {w : World} {b c : Bool} (h : Calls P f args w fun e w' => e = .returned (.bool b) ∧ Below w.heap.size w w') (hb : b = c) :
    Calls P f args w fun e w' => e = .returned (.bool c) ∧ Below w.heap.size w w' := by rw [← hb]; exact h
theorem ret_v {v : Value} {a b : Int} (h : a = b) : Ending.returned (.tuple #[v, .int .i64 a]) = .returned (.tuple #[v, .int .i64 b]) := by rw [h]
theorem isRise_any (n : Int) (w : World) :
    Calls Try.prog 56 #[.int .i64 n] w fun e w' => e = .returned (.bool (inB n 0 1000)) ∧ w = w' := by
  go_enter Try.func56, Try.ntmps56
  go_wp2_with (go_at_call 43; refine (within_any _ _ _ _).mono ?_; rintro e w' ⟨rfl, rfl⟩)
  go_ret
  exact ⟨rfl, rfl⟩
def Post (Z Y : List (List Int)) (h : Int) (w : World) (e : Ending) (w' : World) : Prop :=
  ∃ v H, e = .returned (.tuple #[v, .int .i64 (cod Z Y h)]) ∧ OG w.heap.size w'.heap.size w' v (nres Z Y h) (rres Z Y h) H ∧ Below w.heap.size w w'
theorem post_nil {Z Y : List (List Int)} {h c : Int} {w w' : World} (hn : nres Z Y h = 0) (hc : cod Z Y h = c) (hb : Below w.heap.size w w') : Post Z Y h w (.returned (.tuple #[.slice none 0 0, .int .i64 c])) w' :=
  ⟨_, fun _ => .bool false, ret_v hc.symm, by rw [hn]; exact OG.nil _ _ _ _ _, hb⟩

/-! ### The reference's -/
set_option maxHeartbeats 4000000 in
theorem specF_any (A : Option Addr) (n c b0 : Nat) (Z : List (List Int)) (A1 : Option Addr) (n1 c1 b1 : Nat) (Y : List (List Int)) (h : Int) (w : World) (hg : Grid w b0 A n Z) (hb0 : b0 ≤ w.heap.size) (hn : n ≤ 1048576) (hg1 : Grid w b1 A1 n1 Y) (hb1 : b1 ≤ w.heap.size) (hn1 : n1 ≤ 1048576) :
    Calls Try.prog 39 #[.slice A n c, .slice A1 n1 c1, .int .i64 h] w (Post Z Y h w) := by
  have HG := Lib.hid hg
  have HL := Lib.hid hg.len
  have HG1 := Lib.hid hg1
  have HL1 := Lib.hid hg1.len
  clear hg hg1
  cases h0 : archB Z
  · have hr := Lib.hid (res_f (h := h) (Y := Y) h0)
    go_enter Try.func39, Try.ntmps39
    go_wp2_with (go_at_call 46; refine (is_ofb (l07Ok_any A n c b0 Z _ HG.out hb0 hn) h0).mono ?_; rintro e w1 ⟨rfl, x1⟩; have B1 := Lib.hid x1; clear x1)
    go_ret2
    exact post_nil hr.out.1 hr.out.2 B1.out
  cases h1 : archB Y
  · have hr := Lib.hid (res_g (h := h) (Z := Z) h1)
    go_enter Try.func39, Try.ntmps39
    go_wp2_with fail
    refine (is_ofb (l07Ok_any A n c b0 Z _ HG.out hb0 hn) h0).mono ?_
    rintro e w1 ⟨rfl, x1⟩
    have B1 := Lib.hid x1
    clear x1
    go_wp2_with (go_at_call 46; refine (is_ofb (l07Ok_any A1 n1 c1 b1 Y _ (HG1.out.below (B1.out.mono hb1)) (Nat.le_trans hb1 B1.out.size) hn1) h1).mono ?_; rintro e w2 ⟨rfl, x2⟩; have B2 := Lib.hid (B1.out.trans (x2.mono B1.out.size)); clear x2)
    go_ret2
    exact post_nil hr.out.1 hr.out.2 B2.out
  obtain ⟨ad, rfl, M⟩ := Mat.of HG.out h0
  obtain ⟨ad1, rfl, M1⟩ := Mat.of HG1.out h1
  have AR := Lib.hid (arch_of h0)
  obtain ⟨m, hm⟩ : ∃ m, (rowZ Z 0).length = m := ⟨_, rfl⟩
  obtain ⟨m1, hm1⟩ : ∃ m1, (rowZ Y 0).length = m1 := ⟨_, rfl⟩
  rw [hm] at M
  rw [hm1] at M1
  have HM := Lib.hid M
  have HM1 := Lib.hid M1
  have HMM := Lib.hid hm
  have HMM1 := Lib.hid hm1
  have na := M.n1
  have nb := M.n2
  have ma := M.m1
  have mb := M.m2
  have na1 := M1.n1
  have nb1 := M1.n2
  have ma1 := M1.m1
  have mb1 := M1.m2
  have RR := Lib.hid (fun b => res_r (h := h) h0 h1 b)
  have RS := Lib.hid (fun b c => res_s (h := h) h0 h1 b c)
  have RT := Lib.hid (fun b c => res_t (h := h) h0 h1 b c)
  clear M M1 hm hm1
  go_enter Try.func39, Try.ntmps39
  go_wp2_with fail
  refine (is_ofb (l07Ok_any (some ad) n c b0 Z _ HG.out hb0 hn) h0).mono ?_
  rintro e w1 ⟨rfl, x1⟩
  have B1 := Lib.hid x1
  clear x1
  go_wp2_with fail
  refine (is_ofb (l07Ok_any (some ad1) n1 c1 b1 Y _ (HG1.out.below (B1.out.mono hb1)) (Nat.le_trans hb1 B1.out.size) hn1) h1).mono ?_
  rintro e w2 ⟨rfl, x2⟩
  have B2 := Lib.hid (B1.out.trans (x2.mono B1.out.size))
  clear x2
  go_wp2_with fail
  cases h2 : inB h 0 1000
  · refine (is_of (isRise_in _ _) h2).mono ?_
    rintro e w' ⟨rfl, rfl⟩
    have hr := Lib.hid (RR.out h2)
    go_wp2
    go_ret2
    exact post_nil hr.out.1 hr.out.2 B2.out
  refine (is_of (isRise_in _ _) h2).mono ?_
  rintro e w' ⟨rfl, rfl⟩
  have hh := inB_t h2
  obtain ⟨ai0, ci0, r1, r2, r3⟩ := HM.out.rows 0 (by omega)
  obtain ⟨ai1, ci1, s1, s2, s3⟩ := HM1.out.rows 0 (by omega)
  have k1 : w2.cell? ad = some (.slice (some ai0) m ci0) := (B2.out.cell (p := ad) (Nat.lt_of_lt_of_le HM.out.blk hb0)).trans (by simpa [Addr.add] using r1)
  have k2 : w2.cell? ad1 = some (.slice (some ai1) m1 ci1) := (B2.out.cell (p := ad1) (Nat.lt_of_lt_of_le HM1.out.blk hb1)).trans (by simpa [Addr.add] using s1)
  have q0 : (0 : Int) < (n : Int) := by omega
  have q1 : (0 : Int) < (n1 : Int) := by omega
  clear r1 r2 r3 s1 s2 s3
  by_cases e1 : n = n1
  rotate_left 1
  · have z1 : ((n : Int) != (n1 : Int)) = true := by simp; omega
    have hr := Lib.hid (RS.out h2 (by unfold sameB; rw [decide_eq_false_iff_not]; intro g; exact e1 (by have := g.1; rw [HL.out, HL1.out] at this; exact this)))
    clear e1
    go_wp2_with fail
    go_quiet (fail)
    go_wp2
    go_ret2
    exact post_nil hr.out.1 hr.out.2 (below_drewN B2.out _)
  have z1 : ((n : Int) != (n1 : Int)) = false := by simp; omega
  by_cases e2 : m = m1
  rotate_left 1
  · have z2 : ((m : Int) != (m1 : Int)) = true := by simp; omega
    have hr := Lib.hid (RS.out h2 (by unfold sameB; rw [decide_eq_false_iff_not]; intro g; exact e2 (by have := g.2; rw [HMM.out, HMM1.out] at this; exact this)))
    clear e1 e2
    go_wp2_with fail
    go_quiet (fail)
    go_wp2
    go_ret2
    exact post_nil hr.out.1 hr.out.2 (below_drewN B2.out _)
  have z2 : ((m : Int) != (m1 : Int)) = false := by simp; omega
  have hr := Lib.hid (RT.out h2 (by unfold sameB; rw [decide_eq_true_iff, HL.out, HL1.out, HMM.out, HMM1.out]; exact ⟨e1, e2⟩))
  have E1 := Lib.hid e1
  have E2 := Lib.hid e2
  clear e1 e2
  obtain ⟨i0, hi0, hz0, hz1, hz2⟩ := info_parts infoR
  have hnm : n * m ≤ 100 := Nat.mul_le_mul nb mb
  go_wp2_with fail
  go_quiet (fail)
  have BD := Lib.hid (below_drewN B2.out nq)
  obtain ⟨wd, hwd⟩ : ∃ wd : World, wd = w2.drewN nq := ⟨_, rfl⟩
  rw [← hwd] at BD ⊢
  have g0 := Lib.hid (World.ownsRow_lit (base := w.heap.size) (e := 53) (size := 1) wd #[] 0 BD.out.size (by simp [maxLen]) rfl)
  clear k1 k2 z1 z2 hwd
  go_wp2_with fail
  go_loopw [8, 9] (fun v i wr => ∃ (k : Nat) (L : List (List Int)) (H : Nat → Value), k ≤ n ∧ foldN (pick (thinB Z Y h) m) [] (k * m) = L ∧ i = .int .i64 k ∧ OG w.heap.size wr.heap.size wr v L.length (fun i => L.getD i []) H ∧ Below w.heap.size w wr) (fun _ i _ => n - (intOf i).toNat)
  case atStart => exact ⟨0, [], fun _ => .bool false, Nat.zero_le _, by simp [foldN], rfl, ⟨by simpa using g0.out, fun i hi => by simp at hi, fun i j g _ hj => by simp at hj, fun g hg => (g0.out.lt g hg).2, fun i g hi => by simp at hi⟩, BD.out.alloc BD.out.size _⟩
  case round =>
    obtain ⟨k, L, H, hk, ha, rfl, ho, hb⟩ := hrel
    have HA := Lib.hid ha
    have HO := Lib.hid ho
    have HB := Lib.hid hb
    clear ha ho hb
    by_cases hlt : k < n
    · obtain ⟨ai, ci, r1, r2, r3⟩ := HM.out.rows k hlt
      obtain ⟨aj, cj, s1, s2, s3⟩ := HM1.out.rows k (by have := E1.out; omega)
      have hc0 := Lib.hid r1
      have R3 := Lib.hid r3
      have hd0 := Lib.hid s1
      have S3 := Lib.hid s3
      clear r1 r3 s1 s3
      obtain ⟨wo, rfl⟩ : ∃ wo : World, wo = wr := ⟨_, rfl⟩
      go_wp2
      go_loopw [8, 10] (fun v j wi => ∃ (x : Nat) (L : List (List Int)) (H : Nat → Value), x ≤ m ∧ foldN (pick (thinB Z Y h) m) [] (k * m + x) = L ∧ j = .int .i64 x ∧ OG w.heap.size wi.heap.size wi v L.length (fun i => L.getD i []) H ∧ Below w.heap.size w wi) (fun _ j _ => m - (intOf j).toNat)
      case atStart => exact ⟨0, L, H, Nat.zero_le _, HA.out, rfl, HO.out, HB.out⟩
      case round =>
        obtain ⟨x, L2, H2, hx, ha2, rfl, hoi, hbi⟩ := hrel
        have HA2 := Lib.hid ha2
        have HOI := Lib.hid hoi
        have HBI := Lib.hid hbi
        clear ha2 hoi hbi
        have hc1 := (HBI.out.cell (p := ad.add k) (by rw [block_of_add]; exact Nat.lt_of_lt_of_le HM.out.blk hb0)).trans hc0.out
        by_cases hxl : x < m
        · have v1 := HM.out.bd k hlt x hxl
          have v2 := HM1.out.bd k (by have := E1.out; omega) x (by have := E2.out; omega)
          have hc2 := (HBI.out.cell (p := ai.add x) (by rw [block_of_add]; exact Nat.lt_of_lt_of_le r2 hb0)).trans (R3.out x hxl)
          have hc3 := (HBI.out.cell (p := ad1.add k) (by rw [block_of_add]; exact Nat.lt_of_lt_of_le HM1.out.blk hb1)).trans hd0.out
          have hc4 := (HBI.out.cell (p := aj.add x) (by rw [block_of_add]; exact Nat.lt_of_lt_of_le s2 hb1)).trans (S3.out x (by have := E2.out; omega))
          have hkx : k * m + x < 100 := by
            have h1 : k * m + m ≤ n * m := by rw [row_end]; exact Nat.mul_le_mul_right m hlt
            omega
          have st := Lib.hid (show foldN (pick (thinB Z Y h) m) [] (k * m + (x + 1)) = if thinB Z Y h k x then L2 ++ [[(k : Int), (x : Int)]] else L2 by rw [show k * m + (x + 1) = k * m + x + 1 from rfl, foldN, HA2.out, pick, div_row hxl, mod_row hxl])
          have LL := Lib.hid (show L2.length < 100 by have := pick_len (thinB Z Y h) m (k * m + x); rw [HA2.out] at this; omega)
          obtain ⟨p, hp⟩ : ∃ p, V Z k x = p := ⟨_, rfl⟩
          obtain ⟨q, hq⟩ : ∃ q, V Y k x = q := ⟨_, rfl⟩
          rw [hp] at hc2 v1
          rw [hq] at hc4 v2
          have qa : (k : Int) < (n : Int) := by omega
          have qb : (k : Int) < (n1 : Int) := by have := E1.out; omega
          have qc : (x : Int) < (m : Int) := by omega
          have qd : (x : Int) < (m1 : Int) := by have := E2.out; omega
          have wz : IntKind.i64.wrap (p - q) = p - q := by rw [IntKind.wrap_i64]; omega
          by_cases hc : p - q < h
          · have hB := Lib.hid (show thinB Z Y h k x = true by unfold thinB; rw [decide_eq_true_iff, hp, hq]; exact hc)
            clear hp hq hkx
            go_wp2_with fail
            go_quiet (fail)
            obtain ⟨wq, hwq⟩ : ∃ wq : World, wq = wr.drewN nq := ⟨_, rfl⟩
            have BQ := Lib.hid (show Below wr.heap.size wr wq by rw [hwq]; exact below_drewN (Below.refl _ _) nq)
            have OQ := Lib.hid ((HOI.out.below BQ.out).more BQ.out.size)
            have BWQ := Lib.hid (show Below w.heap.size w wq by rw [hwq]; exact below_drewN HBI.out nq)
            rw [← hwq]
            clear hwq hc1 hc2 hc3 hc4 wz
            have gl := Lib.hid (World.ownsRow_lit (base := wq.heap.size) (e := 2) (size := 1) wq #[.int .i64 (k : Int), .int .i64 (x : Int)] 2 (Nat.le_refl _) (by simp [maxLen]) rfl)
            have BL := Lib.hid ((Below.refl wq.heap.size wq).alloc (Nat.le_refl _) (.cells #[.int .i64 (k : Int), .int .i64 (x : Int)] 2))
            have hsq := Lib.hid (show (wq.alloc (.cells #[.int .i64 (k : Int), .int .i64 (x : Int)] 2)).heap.size = wq.heap.size + 1 by simp)
            go_wp2_with (at_builtin; refine wpList_append_own _ rfl _ _ 28 rfl w.heap.size 53 i0 (.slice none 0 0) 1 24 Try.underlying28 hi0 hz0 hz1 hz2 rfl (by decide) _ _ _ rfl ((own_below OQ.out.heads BL.out).alloc _) ⟨wq.heap.size + 1, 0, none⟩ 1 1 [.slice (some ⟨wq.heap.size, 0, none⟩) 2 2] rfl rfl ?c1 ?c2 ?c3 ?c4 ?c5 ?_)
            case c2 => rfl
            case c3 => have := LL.out; unfold maxLen; omega
            case c4 => have := LL.out; omega
            case c5 => have := BWQ.out.size; simp; omega
            · intro v' w5 hown' hgrow _
              have HP := Lib.hid (OQ.out.push (r := [(k : Int), (x : Int)]) BWQ.out.size BL.out (by simpa [iv] using gl.out) hown' hgrow)
              have HB2 := Lib.hid (below_own2 OQ.out BWQ.out BL.out hgrow BWQ.out.size)
              clear hown' hgrow
              go_wp2
              go_roundw
              case rel => exact ⟨x + 1, _, _, by omega, by rw [st.out, if_pos hB.out], by go_num, by rw [List.length_append]; exact HP.out.congr fun i hi => push_R hi, HB2.out⟩
              case measure => simp [intOf]; omega
          · have hB := Lib.hid (show ¬ thinB Z Y h k x = true by unfold thinB; rw [decide_eq_true_iff, hp, hq]; exact hc)
            clear hp hq hkx
            go_wp2_with fail
            go_quiet (fail)
            go_wp2
            go_roundw
            case rel => exact ⟨x + 1, L2, H2, by omega, by rw [st.out, if_neg hB.out], by go_num, (HOI.out.below (below_drewN (Below.refl wr.heap.size wr) nq)).more (below_drewN (Below.refl wr.heap.size wr) nq).size, below_drewN HBI.out _⟩
            case measure => simp [intOf]; omega
        · have hx2 := Lib.hid (show k * m + x = (k + 1) * m by rw [show x = m by omega, row_end])
          go_wp2
          go_roundw
          case rel => exact ⟨k + 1, L2, H2, by omega, by rw [← hx2.out]; exact HA2.out, by go_num, HOI.out, HBI.out⟩
          case measure => simp [intOf]; omega
    · have hk2 := Lib.hid (show k = n by omega)
      have hL := Lib.hid (show lst Z Y h = L by rw [lst, HL.out, HMM.out, ← hk2.out]; exact HA.out)
      go_wp2
      go_ret2
      exact ⟨_, H, ret_v hr.out.2.symm, by rw [hr.out.1, show rres Z Y h = fun i => (lst Z Y h).getD i [] from rfl, hL.out]; exact HO.out, HB.out⟩

/-! ### The program's -/
theorem pair_any (i k : Nat) (w : World) :
    Calls Try.prog 75 #[.agg #[.int .i64 (i : Int), .int .i64 (k : Int)]] w fun e w' => ∃ v, e = .returned v ∧ w'.ownsRow w.heap.size 2 1 v 2 (iv [(i : Int), (k : Int)]) ∧ Below w.heap.size w w' := by
  have BL := Lib.hid ((Below.refl w.heap.size w).alloc (Nat.le_refl _) (.cells #[.int .i64 (i : Int), .int .i64 (k : Int)] 59))
  have gl := Lib.hid (World.ownsRow_lit (base := w.heap.size) (e := 2) (size := 1) (w.alloc (.cells #[.int .i64 (i : Int), .int .i64 (k : Int)] 59)) #[.int .i64 (i : Int), .int .i64 (k : Int)] 2 (by simp) (by simp [maxLen]) rfl)
  go_enter Try.func75, Try.ntmps75
  go_wp2
  go_ret
  exact ⟨_, rfl, by simpa [iv] using gl.out, BL.out.alloc (by simp) _⟩

set_option maxHeartbeats 2000000 in
theorem sameSize_any (ad ad1 : Addr) (n m c b0 n1 m1 c1 b1 : Nat) (Z Y : List (List Int)) (w : World) (hM : Mat w b0 ad n m Z) (hM1 : Mat w b1 ad1 n1 m1 Y) :
    Calls Try.prog 68 #[.slice (some ad) n c, .slice (some ad1) n1 c1] w fun e w' => e = .returned (.bool (decide (n = n1 ∧ m = m1))) ∧ Below w.heap.size w w' := by
  have na := hM.n1
  have na1 := hM1.n1
  obtain ⟨ai0, ci0, r1, r2, r3⟩ := hM.rows 0 (by omega)
  obtain ⟨ai1, ci1, s1, s2, s3⟩ := hM1.rows 0 (by omega)
  have k1 : w.cell? ad = some (.slice (some ai0) m ci0) := by simpa [Addr.add] using r1
  have k2 : w.cell? ad1 = some (.slice (some ai1) m1 ci1) := by simpa [Addr.add] using s1
  have q0 : (0 : Int) < (n : Int) := by omega
  have q1 : (0 : Int) < (n1 : Int) := by omega
  clear r1 r2 r3 s1 s2 s3 hM hM1
  by_cases e1 : n = n1
  rotate_left 1
  · have z1 : ((n : Int) == (n1 : Int)) = false := by simp; omega
    have hr := Lib.hid (show decide (n = n1 ∧ m = m1) = false by rw [decide_eq_false_iff_not]; exact fun g => e1 g.1)
    clear e1
    go_enter Try.func68, Try.ntmps68
    go_wp2_with fail
    go_quiet (fail)
    go_wp2
    go_ret
    exact ⟨ret_bool hr.out.symm, below_drewN (Below.refl _ _) _⟩
  have z1 : ((n : Int) == (n1 : Int)) = true := by rw [beq_iff_eq]; omega
  by_cases e2 : m = m1
  · have z2 : ((m : Int) == (m1 : Int)) = true := by rw [beq_iff_eq]; omega
    have hr := Lib.hid (show decide (n = n1 ∧ m = m1) = true by rw [decide_eq_true_iff]; exact ⟨e1, e2⟩)
    clear e1 e2
    go_enter Try.func68, Try.ntmps68
    go_wp2_with fail
    go_quiet (fail)
    go_wp2
    go_ret
    exact ⟨ret_bool hr.out.symm, below_drewN (Below.refl _ _) _⟩
  · have z2 : ((m : Int) == (m1 : Int)) = false := by simp; omega
    have hr := Lib.hid (show decide (n = n1 ∧ m = m1) = false by rw [decide_eq_false_iff_not]; exact fun g => e2 g.2)
    clear e1 e2
    go_enter Try.func68, Try.ntmps68
    go_wp2_with fail
    go_quiet (fail)
    go_wp2
    go_ret
    exact ⟨ret_bool hr.out.symm, below_drewN (Below.refl _ _) _⟩

set_option maxHeartbeats 2000000 in
theorem clo_any (ad ad1 f1 f2 f3 : Addr) (n m c b0 c1 b1 i k : Nat) (Z Y : List (List Int)) (h : Int) (w : World) (hM : Mat w b0 ad n m Z) (hb0 : b0 ≤ w.heap.size) (hM1 : Mat w b1 ad1 n m Y) (hb1 : b1 ≤ w.heap.size) (hi : i < n) (hk : k < m)
    (c1' : w.cell? f1 = some (.slice (some ad) n c)) (c2' : w.cell? f2 = some (.slice (some ad1) n c1)) (c3' : w.cell? f3 = some (.int .i64 h)) (l1 : f1.block < w.heap.size) (l2 : f2.block < w.heap.size) (l3 : f3.block < w.heap.size) :
    Calls Try.prog 70 #[.agg #[.int .i64 (i : Int), .int .i64 (k : Int)], .pointer (some f1), .pointer (some f2), .pointer (some f3)] w fun e w' => e = .returned (.bool (thinB Z Y h i k)) ∧ Below w.heap.size w w' := by
  obtain ⟨W0, hW0⟩ : ∃ W0, w.alloc (.cells #[.int .i64 (i : Int), .int .i64 (k : Int)] 59) = W0 := ⟨_, rfl⟩
  have PB := Lib.hid (show Blk W0 w.heap.size 59 #[.int .i64 (i : Int), .int .i64 (k : Int)] by rw [← hW0]; exact Blk.new _ _ _)
  have MW := Lib.hid (show Mat W0 b0 ad n m Z by rw [← hW0]; exact hM.below ((Below.refl _ _).alloc hb0 _))
  have MV := Lib.hid (show Mat W0 b1 ad1 n m Y by rw [← hW0]; exact hM1.below ((Below.refl _ _).alloc hb1 _))
  have BW := Lib.hid (show Below w.heap.size w W0 by rw [← hW0]; exact (Below.refl _ _).alloc (Nat.le_refl _) _)
  have k1 := cell_regrown (PB.out.cell 0)
  have k2 := cell_regrown (PB.out.cell 1)
  have k3 := cell_regrown ((BW.out.cell l1).trans c1')
  have k4 := cell_regrown ((BW.out.cell l2).trans c2')
  have k5 := cell_regrown ((BW.out.cell l3).trans c3')
  have vb := hM.bd i hi k hk
  have vc := hM1.bd i hi k hk
  have wz : IntKind.i64.wrap (V Z i k - V Y i k) = V Z i k - V Y i k := by rw [IntKind.wrap_i64]; omega
  have of0 : ∀ args W, args = #[.agg #[.int .i64 (i : Int), .int .i64 (k : Int)], .slice (some ad) n c] → Below W0.heap.size W0 W → Calls Try.prog 54 args W fun e' w' => e' = .returned (.int .i64 (V Z i k)) ∧ Below W.heap.size W w' := fun args W ha hW => by
    subst ha
    exact of_any ad n m c b0 i k Z W (MW.out.below (hW.mono (Nat.le_trans hb0 BW.out.size))) (Nat.le_trans (Nat.le_trans hb0 BW.out.size) hW.size) hi hk
  have of1 : ∀ args W, args = #[.agg #[.int .i64 (i : Int), .int .i64 (k : Int)], .slice (some ad1) n c1] → Below W0.heap.size W0 W → Calls Try.prog 54 args W fun e' w' => e' = .returned (.int .i64 (V Y i k)) ∧ Below W.heap.size W w' := fun args W ha hW => by
    subst ha
    exact of_any ad1 n m c1 b1 i k Y W (MV.out.below (hW.mono (Nat.le_trans hb1 BW.out.size))) (Nat.le_trans (Nat.le_trans hb1 BW.out.size) hW.size) hi hk
  have OF0 := Lib.hid of0
  have OF1 := Lib.hid of1
  have HW := Lib.hid hW0
  clear hM hM1 c1' c2' c3' of0 of1 hW0
  go_enter Try.func70, Try.ntmps70
  go_wp2_with fail
  rw [HW.out]
  refine wp_region_quiet_below (by kernel_rfl) (by kernel_rfl) ?_; (repeat (quiet_step (first | (go_at_call 54; refine Calls.regrown_of (OF0.out _ _ ?_ (below_regrown _ _ _)); rfl) | (go_at_call 54; refine Calls.regrown_of (OF1.out _ _ ?_ (below_regrown _ _ _)); rfl)))); refine wpQuiet_nil ?_; intro wq hwq; obtain ⟨⟨dq, osq⟩, hwq2⟩ := hwq; have bq := below_of hwq2; clear hwq2
  clear k1 k2 k3 k4 k5
  go_wp2
  go_ret
  exact ⟨rfl, BW.out.trans (bq.mono BW.out.size)⟩

set_option maxHeartbeats 4000000 in
theorem chosen_any (ad f1 f2 f3 : Addr) (n m c b : Nat) (Z : List (List Int)) (F : Nat → Nat → Bool) (w : World) (hM : Mat w b ad n m Z) (hb0 : b ≤ w.heap.size)
    (hf : ∀ W i k, Below w.heap.size w W → i < n → k < m → Calls Try.prog 70 #[.agg #[.int .i64 (i : Int), .int .i64 (k : Int)], .pointer (some f1), .pointer (some f2), .pointer (some f3)] W fun e w' => e = .returned (.bool (F i k)) ∧ Below W.heap.size W w') :
    Calls Try.prog 69 #[.slice (some ad) n c, .func (.func 70) #[] #[.pointer (some f1), .pointer (some f2), .pointer (some f3)]] w
      fun e w' => ∃ v H, e = .returned v ∧ OG w.heap.size w'.heap.size w' v (foldN (pick F m) [] (n * m)).length (fun i => (foldN (pick F m) [] (n * m)).getD i []) H ∧ Below w.heap.size w w' := by
  obtain ⟨i0, hi0, hz0, hz1, hz2⟩ := info_parts infoR
  have HF := Lib.hid hf
  have HM := Lib.hid hM
  have n1 := hM.n1
  have n2 := hM.n2
  have m1 := hM.m1
  have m2 := hM.m2
  have hnm : n * m ≤ 100 := Nat.mul_le_mul n2 m2
  have m0 : 0 < m := m1
  have g0 := Lib.hid (World.ownsRow_lit (base := w.heap.size) (e := 53) (size := 1) w #[] 0 (Nat.le_refl _) (by simp [maxLen]) rfl)
  have OG0 := Lib.hid (show OG w.heap.size (w.alloc (.cells #[] 53)).heap.size (w.alloc (.cells #[] 53)) (.slice (some ⟨w.heap.size, 0, none⟩) 0 0) 0 (fun i => ([] : List (List Int)).getD i []) (fun _ => .bool false) from ⟨by simpa using g0.out, fun i hi => by omega, fun i j g _ hj => by omega, fun g hg => (g0.out.lt g hg).2, fun i g hi => by omega⟩)
  have B0 := Lib.hid ((Below.refl w.heap.size w).alloc (Nat.le_refl _) (.cells #[] 53))
  obtain ⟨W0, hW0⟩ : ∃ W0, w.alloc (.cells #[] 53) = W0 := ⟨_, rfl⟩
  rw [hW0] at OG0 B0
  have HW := Lib.hid hW0
  clear hM hf g0 hW0
  go_enter Try.func69, Try.ntmps69
  go_wp2_with fail
  rw [HW.out]
  refine (places_any ad n m c b Z _ (HM.out.below (B0.out.mono hb0)) (Nat.le_trans hb0 B0.out.size)).mono ?_
  rintro e w2 ⟨g, cap, rfl, o2, b2⟩
  have B2 := Lib.hid (B0.out.trans (b2.mono B0.out.size))
  have OG2 := Lib.hid ((OG0.out.below b2).more b2.size)
  have O2 := Lib.hid o2
  have G2 := Lib.hid (own_lt o2)
  clear o2 b2
  go_wp2_with fail
  go_loopw [5, 12] (fun v y wr => ∃ (t : Nat) (L : List (List Int)) (H : Nat → Value), t ≤ n * m ∧ foldN (pick F m) [] t = L ∧ y = .int .i64 t ∧ OG w.heap.size wr.heap.size wr v L.length (fun i => L.getD i []) H ∧ wr.ownsRow W0.heap.size 59 2 (.slice (some ⟨g, 0, none⟩) (n * m) cap) (n * m) (plc m (n * m)) ∧ Below w.heap.size w wr) (fun _ y _ => n * m - (intOf y).toNat)
  case atStart => exact ⟨0, [], _, Nat.zero_le _, by simp [foldN], rfl, OG2.out, O2.out, B2.out⟩
  case round =>
    obtain ⟨t, L, H, ht, ha, rfl, ho, hp, hb⟩ := hrel
    have HA := Lib.hid ha
    have HO := Lib.hid ho
    have HP := Lib.hid hp
    have HB := Lib.hid hb
    clear ha ho hp hb
    by_cases hlt : t < n * m
    · have hi : t / m < n := Nat.div_lt_of_lt_mul (by rw [Nat.mul_comm]; exact hlt)
      have hkm : t % m < m := Nat.mod_lt _ m1
      have pa := plc_at (m := m) hlt
      have hc1 : wr.cell? ⟨g, t * 2, none⟩ = some (.int .i64 ((t / m : Nat) : Int)) := (HP.out.cellAt (t * 2) (by omega)).trans pa.1
      have hc2 : wr.cell? ⟨g, t * 2 + 1, none⟩ = some (.int .i64 ((t % m : Nat) : Int)) := (HP.out.cellAt (t * 2 + 1) (by omega)).trans pa.2
      have LL := Lib.hid (show L.length ≤ t by have := pick_len F m t; rw [HA.out] at this; exact this)
      have st := Lib.hid (show foldN (pick F m) [] (t + 1) = if F (t / m) (t % m) then L ++ [[((t / m : Nat) : Int), ((t % m : Nat) : Int)]] else L by rw [foldN, HA.out, pick])
      obtain ⟨i, hi2⟩ : ∃ i, t / m = i := ⟨_, rfl⟩
      obtain ⟨k, hk2⟩ : ∃ k, t % m = k := ⟨_, rfl⟩
      rw [hi2] at hc1 hi st
      rw [hk2] at hc2 hkm st
      clear pa hi2 hk2
      obtain ⟨W1, hW1⟩ : ∃ W1, wr.alloc (.cells #[.int .i64 (i : Int), .int .i64 (k : Int)] 59) = W1 := ⟨_, rfl⟩
      have PB := Lib.hid (show Blk W1 wr.heap.size 59 #[.int .i64 (i : Int), .int .i64 (k : Int)] by rw [← hW1]; exact Blk.new _ _ _)
      have hs1 : W1.heap.size = wr.heap.size + 1 := by rw [← hW1]; simp
      have BW1 := Lib.hid (show Below wr.heap.size wr W1 by rw [← hW1]; exact (Below.refl wr.heap.size wr).alloc (Nat.le_refl _) _)
      have HS1 := Lib.hid hs1
      have HW1 := Lib.hid hW1
      clear hW1 hs1
      go_wp2_with fail
      rw [HW1.out]
      have ca := HF.out W1 i k (HB.out.trans (BW1.out.mono HB.out.size)) hi hkm
      cases hF : F i k
      all_goals
        rw [hF] at ca
        refine ca.mono ?_
        rintro e w5 ⟨rfl, b5⟩
        have B5 := Lib.hid (BW1.out.trans (b5.mono BW1.out.size))
        have PB5 := Lib.hid (PB.out.below b5 (by have := HS1.out; omega))
        clear b5 ca
      · go_wp2
        go_roundw
        case rel => exact ⟨t + 1, L, H, by omega, by rw [st.out, hF]; rfl, by go_num, (HO.out.below B5.out).more B5.out.size, own_below HP.out B5.out, HB.out.trans (B5.out.mono HB.out.size)⟩
        case measure => simp [intOf]; omega
      · have k1 := PB5.out.cell 0
        have k2 := PB5.out.cell 1
        go_wp2_with fail
        refine (pair_any i k w5).mono ?_
        rintro e w6 ⟨line, rfl, o6, b6⟩
        obtain ⟨Al, cl, rfl⟩ := own_form o6
        have O6 := Lib.hid o6
        have B6 := Lib.hid (B5.out.trans (b6.mono B5.out.size))
        have S6 := Lib.hid B5.out.size
        clear o6 b6 k1 k2 hc1 hc2
        go_wp2_with (at_builtin; refine wpList_append_own _ rfl _ _ 28 rfl w.heap.size 53 i0 (.slice none 0 0) 1 24 Try.underlying28 hi0 hz0 hz1 hz2 rfl (by decide) _ _ _ rfl ((own_below HO.out.heads B6.out).alloc _) ⟨w6.heap.size, 0, none⟩ 1 1 [.slice Al 2 cl] rfl rfl ?c1 ?c2 ?c3 ?c4 ?c5 ?_)
        case c1 => exact cell_one_new _ _ _
        case c2 => intro u hu; simp at hu; subst hu; rfl
        case c3 => have := LL.out; unfold maxLen; omega
        case c4 => have := LL.out; omega
        case c5 => have := HB.out.size; have := B6.out.size; simp; omega
        · intro v' w7 hown' hgrow _
          have HPU := Lib.hid (HO.out.push (r := [(i : Int), (k : Int)]) HB.out.size B6.out (by simpa using own_base O6.out S6.out) hown' hgrow)
          have HB2 := Lib.hid (below_own2 HO.out HB.out B6.out hgrow HB.out.size)
          have HP2 := Lib.hid (((own_below HP.out B6.out).alloc _).kept hgrow (by
            refine .inr (fun e2 => ?_)
            exact own_apart ((own_below HP.out B6.out).alloc (.cells #[.slice Al 2 cl] 53)) ((own_below HO.out.heads B6.out).alloc _) (by decide) g rfl e2.symm))
          clear hown' hgrow
          go_wp2
          go_roundw
          case rel => exact ⟨t + 1, L ++ [[(i : Int), (k : Int)]], _, by omega, by rw [st.out, hF]; rfl, by go_num, by rw [List.length_append]; exact HPU.out.congr fun i hi => push_R hi, HP2.out, HB2.out⟩
          case measure => simp [intOf]; omega
    · have hk2 := Lib.hid (show t = n * m by omega)
      go_wp2
      go_ret
      exact ⟨_, H, rfl, by rw [← hk2.out, HA.out]; exact HO.out, HB.out⟩

set_option maxHeartbeats 4000000 in
theorem implF_any (A : Option Addr) (n c b0 : Nat) (Z : List (List Int)) (A1 : Option Addr) (n1 c1 b1 : Nat) (Y : List (List Int)) (h : Int) (w : World) (hg : Grid w b0 A n Z) (hb0 : b0 ≤ w.heap.size) (hn : n ≤ 1048576) (hg1 : Grid w b1 A1 n1 Y) (hb1 : b1 ≤ w.heap.size) (hn1 : n1 ≤ 1048576) :
    Calls Try.prog 40 #[.slice A n c, .slice A1 n1 c1, .int .i64 h] w (Post Z Y h w) := by
  obtain ⟨W0, hW0⟩ : ∃ W0, ((w.alloc (.cells #[.slice A n c] 28)).alloc (.cells #[.slice A1 n1 c1] 28)).alloc (.cells #[.int .i64 h] 2) = W0 := ⟨_, rfl⟩
  have BW := Lib.hid (show Below w.heap.size w W0 by rw [← hW0]; exact (((Below.refl _ _).alloc (Nat.le_refl _) _).alloc (by simp) _).alloc (by simp; omega) _)
  have P1 := Lib.hid (show Blk W0 w.heap.size 28 #[.slice A n c] by rw [← hW0]; exact ((Blk.new _ _ _).alloc _).alloc _)
  have P2 := Lib.hid (show Blk W0 (w.heap.size + 1) 28 #[.slice A1 n1 c1] by rw [← hW0]; exact (show Blk _ (w.heap.size + 1) _ _ by simpa using Blk.new (w.alloc (.cells #[.slice A n c] 28)) 28 #[.slice A1 n1 c1]).alloc _)
  have P3 := Lib.hid (show Blk W0 (w.heap.size + 2) 2 #[.int .i64 h] by rw [← hW0]; simpa using Blk.new ((w.alloc (.cells #[.slice A n c] 28)).alloc (.cells #[.slice A1 n1 c1] 28)) 2 #[.int .i64 h])
  have hs : W0.heap.size = w.heap.size + 3 := by rw [← hW0]; simp
  have HW := Lib.hid hW0
  have HS := Lib.hid hs
  have HG := Lib.hid (hg.below (BW.out.mono hb0))
  have hbz := Lib.hid (Nat.le_trans hb0 BW.out.size)
  have HL := Lib.hid hg.len
  have HG1 := Lib.hid (hg1.below (BW.out.mono hb1))
  have hbz1 := Lib.hid (Nat.le_trans hb1 BW.out.size)
  have HL1 := Lib.hid hg1.len
  clear hg hg1 hW0 hs
  cases h0 : archB Z
  · have hr := Lib.hid (res_f (h := h) (Y := Y) h0)
    have k1 := P1.out.cell 0
    go_enter Try.func40, Try.ntmps40
    go_wp2_with fail
    rw [HW.out]
    go_wp2_with (go_at_call 21; refine (is_ofb (implArch_any A n c b0 Z _ HG.out hbz.out hn) h0).mono ?_; rintro e w1 ⟨rfl, x1⟩; have B1 := Lib.hid (BW.out.trans (x1.mono BW.out.size)); clear x1)
    go_ret2
    exact post_nil hr.out.1 hr.out.2 B1.out
  cases h1 : archB Y
  · have hr := Lib.hid (res_g (h := h) (Z := Z) h1)
    have k1 := P1.out.cell 0
    go_enter Try.func40, Try.ntmps40
    go_wp2_with fail
    rw [HW.out]
    refine (is_ofb (implArch_any A n c b0 Z _ HG.out hbz.out hn) h0).mono ?_
    rintro e w1 ⟨rfl, x1⟩
    have B1 := Lib.hid x1
    have k2 : w1.cell? ⟨w.heap.size + 1, 0, none⟩ = some (.slice A1 n1 c1) := (x1.cell (p := ⟨w.heap.size + 1, 0, none⟩) (by have := HS.out; simp; omega)).trans (P2.out.cell 0)
    clear x1 k1
    go_wp2_with (go_at_call 21; refine (is_ofb (implArch_any A1 n1 c1 b1 Y _ (HG1.out.below (B1.out.mono hbz1.out)) (Nat.le_trans hbz1.out B1.out.size) hn1) h1).mono ?_; rintro e w2 ⟨rfl, x2⟩; have B2 := Lib.hid (BW.out.trans ((B1.out.trans (x2.mono B1.out.size)).mono BW.out.size)); clear x2)
    go_ret2
    exact post_nil hr.out.1 hr.out.2 B2.out
  obtain ⟨ad, rfl, M⟩ := Mat.of HG.out h0
  obtain ⟨ad1, rfl, M1⟩ := Mat.of HG1.out h1
  have AR := Lib.hid (arch_of h0)
  obtain ⟨m, hm⟩ : ∃ m, (rowZ Z 0).length = m := ⟨_, rfl⟩
  obtain ⟨m1, hm1⟩ : ∃ m1, (rowZ Y 0).length = m1 := ⟨_, rfl⟩
  rw [hm] at M
  rw [hm1] at M1
  have HM := Lib.hid M
  have HM1 := Lib.hid M1
  have HMM := Lib.hid hm
  have HMM1 := Lib.hid hm1
  have na := M.n1
  have nb := M.n2
  have ma := M.m1
  have mb := M.m2
  have na1 := M1.n1
  have nb1 := M1.n2
  have ma1 := M1.m1
  have mb1 := M1.m2
  have RR := Lib.hid (fun b => res_r (h := h) h0 h1 b)
  have RS := Lib.hid (fun b c => res_s (h := h) h0 h1 b c)
  have RT := Lib.hid (fun b c => res_t (h := h) h0 h1 b c)
  clear M M1 hm hm1
  have k1 := P1.out.cell 0
  go_enter Try.func40, Try.ntmps40
  go_wp2_with fail
  rw [HW.out]
  refine (is_ofb (implArch_any (some ad) n c b0 Z _ HG.out hbz.out hn) h0).mono ?_
  rintro e w1 ⟨rfl, x1⟩
  have B1 := Lib.hid x1
  have k2 : w1.cell? ⟨w.heap.size + 1, 0, none⟩ = some (.slice (some ad1) n1 c1) := (x1.cell (p := ⟨w.heap.size + 1, 0, none⟩) (by have := HS.out; simp; omega)).trans (P2.out.cell 0)
  clear x1 k1
  go_wp2_with fail
  refine (is_ofb (implArch_any (some ad1) n1 c1 b1 Y _ (HG1.out.below (B1.out.mono hbz1.out)) (Nat.le_trans hbz1.out B1.out.size) hn1) h1).mono ?_
  rintro e w2 ⟨rfl, x2⟩
  have B2 := Lib.hid (B1.out.trans (x2.mono B1.out.size))
  have hl := Lib.hid (show w.heap.size + 2 < w2.heap.size by have := HS.out; have := B2.out.size; omega)
  have j1 : w2.cell? ⟨w.heap.size, 0, none⟩ = some (.slice (some ad) n c) := (B2.out.cell (p := ⟨w.heap.size, 0, none⟩) (by have := HS.out; simp; omega)).trans (P1.out.cell 0)
  have j2 : w2.cell? ⟨w.heap.size + 1, 0, none⟩ = some (.slice (some ad1) n1 c1) := (B2.out.cell (p := ⟨w.heap.size + 1, 0, none⟩) (by have := HS.out; simp; omega)).trans (P2.out.cell 0)
  have j3 : w2.cell? ⟨w.heap.size + 2, 0, none⟩ = some (.int .i64 h) := (B2.out.cell (p := ⟨w.heap.size + 2, 0, none⟩) (by have := HS.out; simp; omega)).trans (P3.out.cell 0)
  have BB := Lib.hid (BW.out.trans (B2.out.mono BW.out.size))
  clear x2 k2
  go_wp2_with fail
  cases h2 : inB h 0 1000
  · refine (is_of (isRise_any _ _) h2).mono ?_
    rintro e w' ⟨rfl, rfl⟩
    have hr := Lib.hid (RR.out h2)
    go_wp2
    go_ret2
    exact post_nil hr.out.1 hr.out.2 BB.out
  refine (is_of (isRise_any _ _) h2).mono ?_
  rintro e w' ⟨rfl, rfl⟩
  have hh := inB_t h2
  have MA := Lib.hid (HM.out.below (B2.out.mono hbz.out))
  have MB := Lib.hid (HM1.out.below (B2.out.mono hbz1.out))
  have hz0 := Lib.hid (Nat.le_trans hbz.out B2.out.size)
  have hz1 := Lib.hid (Nat.le_trans hbz1.out B2.out.size)
  go_wp2_with fail
  have cs := sameSize_any ad ad1 n m c b0 n1 m1 c1 b1 Z Y w2 MA.out MB.out
  by_cases he : n = n1 ∧ m = m1
  rotate_left 1
  · rw [show decide (n = n1 ∧ m = m1) = false by simpa using he] at cs
    have hr := Lib.hid (RS.out h2 (by unfold sameB; rw [decide_eq_false_iff_not]; intro g; exact he (by rw [HL.out, HL1.out, HMM.out, HMM1.out] at g; exact g)))
    clear he
    refine cs.mono ?_
    rintro e w3 ⟨rfl, b3⟩
    have B3 := Lib.hid (BB.out.trans (b3.mono BB.out.size))
    clear b3 cs
    go_wp2
    go_ret2
    exact post_nil hr.out.1 hr.out.2 B3.out
  rw [show decide (n = n1 ∧ m = m1) = true by simpa using he] at cs
  have hr := Lib.hid (RT.out h2 (by unfold sameB; rw [decide_eq_true_iff, HL.out, HL1.out, HMM.out, HMM1.out]; exact he))
  obtain ⟨rfl, rfl⟩ := he
  refine cs.mono ?_
  rintro e w3 ⟨rfl, b3⟩
  have B3 := Lib.hid b3
  have J1 := Lib.hid ((b3.cell (p := ⟨w.heap.size, 0, none⟩) (by have := hl.out; simp; omega)).trans j1)
  have J2 := Lib.hid ((b3.cell (p := ⟨w.heap.size + 1, 0, none⟩) (by have := hl.out; simp; omega)).trans j2)
  have J3 := Lib.hid ((b3.cell (p := ⟨w.heap.size + 2, 0, none⟩) (by have := hl.out; simp; omega)).trans j3)
  have j4 := J1.out
  have MA := Lib.hid (MA.out.below (b3.mono hz0.out))
  have MB := Lib.hid (MB.out.below (b3.mono hz1.out))
  have hz0 := Lib.hid (Nat.le_trans hz0.out b3.size)
  have hz1 := Lib.hid (Nat.le_trans hz1.out b3.size)
  have hl := Lib.hid (Nat.lt_of_lt_of_le hl.out b3.size)
  clear b3 cs j1 j2 j3
  go_wp2_with fail
  refine (chosen_any ad ⟨w.heap.size, 0, none⟩ ⟨w.heap.size + 1, 0, none⟩ ⟨w.heap.size + 2, 0, none⟩ n m c b0 Z (thinB Z Y h) w3 MA.out hz0.out (fun W i k hW hi hk => clo_any ad ad1 _ _ _ n m c b0 c1 b1 i k Z Y h W (MA.out.below (hW.mono hz0.out)) (Nat.le_trans hz0.out hW.size) (MB.out.below (hW.mono hz1.out)) (Nat.le_trans hz1.out hW.size) hi hk
    ((hW.cell (p := ⟨w.heap.size, 0, none⟩) (by have := hl.out; simp; omega)).trans J1.out) ((hW.cell (p := ⟨w.heap.size + 1, 0, none⟩) (by have := hl.out; simp; omega)).trans J2.out) ((hW.cell (p := ⟨w.heap.size + 2, 0, none⟩) hl.out).trans J3.out) (by have := hl.out; have := hW.size; simp; omega) (by have := hl.out; have := hW.size; simp; omega) (Nat.lt_of_lt_of_le hl.out hW.size))).mono ?_
  rintro e w4 ⟨v4, H, rfl, o4, b4⟩
  have O4 := Lib.hid o4
  have B4 := Lib.hid b4
  have BF := Lib.hid (BB.out.trans ((B3.out.trans (b4.mono B3.out.size)).mono BB.out.size))
  have S4 := Lib.hid (show w.heap.size ≤ w3.heap.size by have := hl.out; omega)
  have hL := Lib.hid (show lst Z Y h = foldN (pick (thinB Z Y h) m) [] (n * m) by rw [lst, HL.out, HMM.out])
  clear o4 b4 j4
  go_wp2
  go_ret2
  exact ⟨_, H, ret_v hr.out.2.symm, by rw [hr.out.1, show rres Z Y h = fun i => (lst Z Y h).getD i [] from rfl, hL.out]; exact O4.out.base S4.out, BF.out⟩


set_option maxHeartbeats 4000000 in
theorem walk (A0 : Option Addr) (n0 c0 : Nat) (Z0 : List (List Int)) (A1 : Option Addr) (n1 c1 : Nat) (Z1 : List (List Int)) (h : Int) (w : World) (w0 : Grid w w.heap.size A0 n0 Z0 ∧ n0 ≤ 9223372036854775807) (w1 : Grid w w.heap.size A1 n1 Z1 ∧ n1 ≤ 9223372036854775807) (w2 : (Lit.int .i64 h).wf = true) :
    Calls Try.prog 12 #[.slice A0 n0 c0, .slice A1 n1 c1, .int .i64 h] w fun r w' => r = .returned (.bool true) ∧ Below w.heap.size w w' := by
  obtain ⟨hg0, hn0⟩ := w0
  obtain ⟨hg1, hn1⟩ := w1
  have K0 := Lib.hid (show KeepG w A0 n0 Z0 w from ⟨Below.refl _ _, hg0⟩)
  have K1 := Lib.hid (show KeepG w A1 n1 Z1 w from ⟨Below.refl _ _, hg1⟩)
  have HL0 := Lib.hid hg0.len
  have HL1 := Lib.hid hg1.len
  clear hg0 hg1
  go_enter Try.func12, Try.ntmps12
  go_wp2_with fail
  refine (szInt64SS_any A0 n0 c0 _ Z0 1048576 _ K0.out.grid hn0 (by omega) (by omega)).mono ?_
  rintro e v11 ⟨r0, rfl, rb0, hs0, b11⟩
  have HS0 := Lib.hid hs0
  have s11 := b11.size
  have K0 := Lib.hid (K0.out.step b11)
  have K1 := Lib.hid (K1.out.step b11)
  clear hs0 b11
  by_cases hr0 : r0 < 0
  · go_wp2
    go_ret
    exact ⟨rfl, K0.out.old⟩
  have hp0 : 0 ≤ r0 := by omega
  go_wp2_with fail
  refine (szInt64SS_any A1 n1 c1 _ Z1 r0 _ K1.out.grid hn1 (by omega) (by omega)).mono ?_
  rintro e v12 ⟨r1, rfl, rb1, hs1, b12⟩
  have HS1 := Lib.hid hs1
  have s12 := b12.size
  have K0 := Lib.hid (K0.out.step b12)
  have K1 := Lib.hid (K1.out.step b12)
  clear hs1 b12
  by_cases hr1 : r1 < 0
  · go_wp2
    go_ret
    exact ⟨rfl, K0.out.old⟩
  have hp1 : 0 ≤ r1 := by omega
  have HN0 : Hid (n0 ≤ 1048576) := by have := (HS0.out hp0).1; rw [HL0.out] at this; show n0 ≤ 1048576; omega
  have HM0 : Hid (∀ i, i < n0 → (rowZ Z0 i).length ≤ 1048576) := fun i hi => by have := (HS0.out hp0).2 i (by rw [HL0.out]; exact hi); omega
  have HN1 : Hid (n1 ≤ 1048576) := by have := (HS1.out hp1).1; rw [HL1.out] at this; show n1 ≤ 1048576; omega
  have HM1 : Hid (∀ i, i < n1 → (rowZ Z1 i).length ≤ 1048576) := fun i hi => by have := (HS1.out hp1).2 i (by rw [HL1.out]; exact hi); omega
  clear hr0 hr1
  go_wp2_with fail
  refine (toInt64SS_any A0 n0 c0 _ Z0 _ K0.out.grid K0.out.old.size HN0.out HM0.out).mono ?_
  rintro e v13 ⟨g13, z13, rfl, hz13, o13, b13⟩
  have s13 := b13.size
  have K0 := Lib.hid (K0.out.step b13)
  have K1 := Lib.hid (K1.out.step b13)
  have P0 := Lib.hid (o13.og hz13)
  clear o13 hz13 b13
  go_wp2_with fail
  refine (toInt64SS_any A1 n1 c1 _ Z1 _ K1.out.grid K1.out.old.size HN1.out HM1.out).mono ?_
  rintro e v14 ⟨g14, z14, rfl, hz14, o14, b14⟩
  have s14 := b14.size
  have K0 := Lib.hid (K0.out.step b14)
  have K1 := Lib.hid (K1.out.step b14)
  have P0 := Lib.hid (P0.out.below b14)
  have P1 := Lib.hid (o14.og hz14)
  clear o14 hz14 b14
  go_wp2_with fail
  refine (specF_any _ n0 n0 _ Z0 _ n1 n1 _ Z1 h _ (og_grid P0.out HL0.out HM0.out) (Nat.le_refl _) HN0.out (og_grid P1.out HL1.out HM1.out) (Nat.le_refl _) HN1.out).mono ?_
  rintro e v15 ⟨t15, H15, rfl, o15, b15⟩
  obtain ⟨A15, c15, rfl⟩ := o15.form
  have s15 := b15.size
  have K0 := Lib.hid (K0.out.step b15)
  have K1 := Lib.hid (K1.out.step b15)
  have P0 := Lib.hid (P0.out.below b15)
  have P1 := Lib.hid (P1.out.below b15)
  have S := Lib.hid o15
  clear o15 b15
  go_wp2_with fail
  refine (toInt64SS_any A0 n0 c0 _ Z0 _ K0.out.grid K0.out.old.size HN0.out HM0.out).mono ?_
  rintro e v16 ⟨g16, z16, rfl, hz16, o16, b16⟩
  have s16 := b16.size
  have K0 := Lib.hid (K0.out.step b16)
  have K1 := Lib.hid (K1.out.step b16)
  have S := Lib.hid (S.out.below b16)
  have X0 := Lib.hid (o16.og hz16)
  clear o16 hz16 b16
  go_wp2_with fail
  refine (toInt64SS_any A1 n1 c1 _ Z1 _ K1.out.grid K1.out.old.size HN1.out HM1.out).mono ?_
  rintro e v17 ⟨g17, z17, rfl, hz17, o17, b17⟩
  have s17 := b17.size
  have K0 := Lib.hid (K0.out.step b17)
  have K1 := Lib.hid (K1.out.step b17)
  have S := Lib.hid (S.out.below b17)
  have X0 := Lib.hid (X0.out.below b17)
  have X1 := Lib.hid (o17.og hz17)
  clear o17 hz17 b17
  go_wp2_with fail
  refine (implF_any _ n0 n0 _ Z0 _ n1 n1 _ Z1 h _ (og_grid X0.out HL0.out HM0.out) (Nat.le_refl _) HN0.out (og_grid X1.out HL1.out HM1.out) (Nat.le_refl _) HN1.out).mono ?_
  rintro e v18 ⟨t18, H18, rfl, o18, b18⟩
  obtain ⟨A18, c18, rfl⟩ := o18.form
  have s18 := b18.size
  have K0 := Lib.hid (K0.out.step b18)
  have K1 := Lib.hid (K1.out.step b18)
  have S := Lib.hid (S.out.below b18)
  have X0 := Lib.hid (X0.out.below b18)
  have X1 := Lib.hid (X1.out.below b18)
  have Q := Lib.hid o18
  clear o18 b18
  go_wp2_with fail
  refine (eqInt64SS_any _ _ _ _ _ _ _ _ _ (Q.out.grid (rres_le Z0 Z1 h)) (S.out.grid (rres_le Z0 Z1 h)) (Nat.le_refl _) (Nat.le_refl _) (nres_le Z0 Z1 h)).mono ?_
  rintro e v19 ⟨rfl, b19⟩
  have s19 := b19.size
  have K0 := Lib.hid (K0.out.step b19)
  have K1 := Lib.hid (K1.out.step b19)
  have S := Lib.hid (S.out.below b19)
  have X0 := Lib.hid (X0.out.below b19)
  have X1 := Lib.hid (X1.out.below b19)
  have Q := Lib.hid (Q.out.below b19)
  clear b19
  go_wp2_with fail
  refine (toInt64SS_any A0 n0 c0 _ Z0 _ K0.out.grid K0.out.old.size HN0.out HM0.out).mono ?_
  rintro e v20 ⟨g20, z20, rfl, hz20, o20, b20⟩
  have s20 := b20.size
  have K0 := Lib.hid (K0.out.step b20)
  have K1 := Lib.hid (K1.out.step b20)
  have S := Lib.hid (S.out.below b20)
  have X0 := Lib.hid (X0.out.below b20)
  have X1 := Lib.hid (X1.out.below b20)
  have Q := Lib.hid (Q.out.below b20)
  have Y0 := Lib.hid (o20.og hz20)
  clear o20 hz20 b20
  go_wp2_with fail
  refine (eqInt64SS_any _ _ _ _ _ _ _ _ _ (og_grid X0.out HL0.out HM0.out) (og_grid Y0.out HL0.out HM0.out) (Nat.le_refl _) (Nat.le_refl _) HN0.out).mono ?_
  rintro e v21 ⟨rfl, b21⟩
  have s21 := b21.size
  have K0 := Lib.hid (K0.out.step b21)
  have K1 := Lib.hid (K1.out.step b21)
  have S := Lib.hid (S.out.below b21)
  have X0 := Lib.hid (X0.out.below b21)
  have X1 := Lib.hid (X1.out.below b21)
  have Q := Lib.hid (Q.out.below b21)
  have Y0 := Lib.hid (Y0.out.below b21)
  clear b21
  go_wp2_with fail
  refine (toInt64SS_any A1 n1 c1 _ Z1 _ K1.out.grid K1.out.old.size HN1.out HM1.out).mono ?_
  rintro e v22 ⟨g22, z22, rfl, hz22, o22, b22⟩
  have s22 := b22.size
  have K0 := Lib.hid (K0.out.step b22)
  have K1 := Lib.hid (K1.out.step b22)
  have S := Lib.hid (S.out.below b22)
  have X0 := Lib.hid (X0.out.below b22)
  have X1 := Lib.hid (X1.out.below b22)
  have Q := Lib.hid (Q.out.below b22)
  have Y1 := Lib.hid (o22.og hz22)
  clear o22 hz22 b22
  go_wp2_with fail
  refine (eqInt64SS_any _ _ _ _ _ _ _ _ _ (og_grid X1.out HL1.out HM1.out) (og_grid Y1.out HL1.out HM1.out) (Nat.le_refl _) (Nat.le_refl _) HN1.out).mono ?_
  rintro e v23 ⟨rfl, b23⟩
  have s23 := b23.size
  have K0 := Lib.hid (K0.out.step b23)
  have K1 := Lib.hid (K1.out.step b23)
  have S := Lib.hid (S.out.below b23)
  have X0 := Lib.hid (X0.out.below b23)
  have X1 := Lib.hid (X1.out.below b23)
  have Q := Lib.hid (Q.out.below b23)
  have Y1 := Lib.hid (Y1.out.below b23)
  clear b23
  go_wp2_with fail
  refine (markInt64SS_any _ n0 n0 _ _ _ _ _ _ X0.out HN0.out (by omega) (by have := tot_le HN0.out HM0.out; omega)).mono ?_
  rintro e v24 ⟨rfl, o24, y24⟩
  have s24 := y24.size
  have K0 := Lib.hid (K0.out.only_ y24 (by omega))
  have K1 := Lib.hid (K1.out.only_ y24 (by omega))
  have S := Lib.hid (S.out.only y24 (by omega))
  have X1 := Lib.hid (X1.out.only y24 (by omega))
  have Q := Lib.hid (Q.out.only y24 (by omega))
  have X0 := Lib.hid o24
  clear o24 y24
  go_wp2_with fail
  refine (markInt64SS_any _ n1 n1 _ _ _ _ _ _ X1.out HN1.out (by have := tot_le HN0.out HM0.out; omega) (by have := tot_le HN0.out HM0.out; have := tot_le HN1.out HM1.out; omega)).mono ?_
  rintro e v25 ⟨rfl, o25, y25⟩
  have s25 := y25.size
  have K0 := Lib.hid (K0.out.only_ y25 (by omega))
  have K1 := Lib.hid (K1.out.only_ y25 (by omega))
  have S := Lib.hid (S.out.only y25 (by omega))
  have X0 := Lib.hid (X0.out.only y25 (by omega))
  have Q := Lib.hid (Q.out.only y25 (by omega))
  have X1 := Lib.hid o25
  clear o25 y25
  have tl0 := tot_le (Z := Z0) HN0.out HM0.out
  have tl1 := tot_le (Z := Z1) HN1.out HM1.out
  go_wp2_with fail
  refine (eqInt64SS_any _ _ _ _ _ _ _ _ _ (Q.out.grid (rres_le Z0 Z1 h)) (S.out.grid (rres_le Z0 Z1 h)) (Nat.le_refl _) (Nat.le_refl _) (nres_le Z0 Z1 h)).mono ?_
  rintro e v27 ⟨rfl, b27⟩
  have s27 := b27.size
  have K0 := Lib.hid (K0.out.step b27)
  have K1 := Lib.hid (K1.out.step b27)
  have S := Lib.hid (S.out.below b27)
  have Q := Lib.hid (Q.out.below b27)
  clear b27
  go_wp2_with fail
  refine (markInt64SS_any _ _ _ _ _ _ _ 1 _ Q.out (nres_le Z0 Z1 h) (by omega) (by have := rtot_le Z0 Z1 h; omega)).mono ?_
  rintro e v28 ⟨rfl, o28, y28⟩
  have s28 := y28.size
  have K0 := Lib.hid (K0.out.only_ y28 (by omega))
  have K1 := Lib.hid (K1.out.only_ y28 (by omega))
  have S := Lib.hid (S.out.only y28 (by omega))
  have Q := Lib.hid o28
  clear o28 y28
  have rl := rtot_le Z0 Z1 h
  go_wp2_with fail
  refine (heldInt64SS_any _ _ _ _ _ _ _ 1 _ Q.out (nres_le Z0 Z1 h) (by omega) (by have := rtot_le Z0 Z1 h; omega)).mono ?_
  rintro e v29 ⟨rfl, rfl⟩
  go_wp2_with fail
  refine (toInt64SS_any A0 n0 c0 _ Z0 _ K0.out.grid K0.out.old.size HN0.out HM0.out).mono ?_
  rintro e v30 ⟨g30, z30, rfl, hz30, o30, b30⟩
  have s30 := b30.size
  have K0 := Lib.hid (K0.out.step b30)
  have K1 := Lib.hid (K1.out.step b30)
  have S := Lib.hid (S.out.below b30)
  have Q := Lib.hid (Q.out.below b30)
  have V0 := Lib.hid (o30.og hz30)
  clear o30 hz30 b30
  go_wp2_with fail
  refine (toInt64SS_any A1 n1 c1 _ Z1 _ K1.out.grid K1.out.old.size HN1.out HM1.out).mono ?_
  rintro e v31 ⟨g31, z31, rfl, hz31, o31, b31⟩
  have s31 := b31.size
  have K0 := Lib.hid (K0.out.step b31)
  have K1 := Lib.hid (K1.out.step b31)
  have S := Lib.hid (S.out.below b31)
  have Q := Lib.hid (Q.out.below b31)
  have V0 := Lib.hid (V0.out.below b31)
  have V1 := Lib.hid (o31.og hz31)
  clear o31 hz31 b31
  go_wp2_with fail
  refine (implF_any _ n0 n0 _ Z0 _ n1 n1 _ Z1 h _ (og_grid V0.out HL0.out HM0.out) (Nat.le_refl _) HN0.out (og_grid V1.out HL1.out HM1.out) (Nat.le_refl _) HN1.out).mono ?_
  rintro e v32 ⟨t32, H32, rfl, o32, b32⟩
  obtain ⟨A32, c32, rfl⟩ := o32.form
  have s32 := b32.size
  have K0 := Lib.hid (K0.out.step b32)
  have K1 := Lib.hid (K1.out.step b32)
  have S := Lib.hid (S.out.below b32)
  have Q := Lib.hid (Q.out.below b32)
  have V0 := Lib.hid (V0.out.below b32)
  have V1 := Lib.hid (V1.out.below b32)
  have N := Lib.hid o32
  clear o32 b32
  go_wp2_with fail
  refine (eqInt64SS_any _ _ _ _ _ _ _ _ _ (N.out.grid (rres_le Z0 Z1 h)) (S.out.grid (rres_le Z0 Z1 h)) (Nat.le_refl _) (Nat.le_refl _) (nres_le Z0 Z1 h)).mono ?_
  rintro e v33 ⟨rfl, b33⟩
  have s33 := b33.size
  have K0 := Lib.hid (K0.out.step b33)
  have K1 := Lib.hid (K1.out.step b33)
  have S := Lib.hid (S.out.below b33)
  have Q := Lib.hid (Q.out.below b33)
  have N := Lib.hid (N.out.below b33)
  clear b33
  go_wp2_with fail
  refine (heldInt64SS_any _ _ _ _ _ _ _ 1 _ Q.out (nres_le Z0 Z1 h) (by omega) (by have := rtot_le Z0 Z1 h; omega)).mono ?_
  rintro e v34 ⟨rfl, rfl⟩
  go_wp2
  go_ret
  exact ⟨rfl, K0.out.old⟩

/-! ### The row's step -/
theorem own : ownKnob Try.prog.godebug = none := by kernel_rfl
theorem laidOut : laidOutB Try.prog = true := by kernel_rfl
set_option maxRecDepth 100000 in
theorem lifted (os : Os) (started : os.Started) (H : Type) (enc : TypeId × Value → H) :
    ReturnsInHanded {} Try.checked os 12 .any (Rows.fnExactThinPlacesSpec.pre6 enc Try.prog Try.f12 Rows.fnExactThinPlacesRow.domain false) (Rows.fnExactThinPlacesSpec.post enc Try.prog Try.f12 false true false false) := by
  refine returnsInHanded_of_change (C := Try.checked) own started (by kernel_rfl) Try.func12
    (ChangeSpec.witness6 (enc := enc) (C := Try.checked) false ⟨#[], #[.slice none 0 0, .slice none 0 0, .int .i64 0], []⟩ 8 (by kernel_rfl) (by kernel_rfl) (by kernel_rfl) (by kernel_rfl)) ?_
  intro W base args ds gs before hval0 hW hcnd _
  have hval : ∀ (j : Nat) t v, Try.f12.params[j]? = some t → args[j]? = some v → Value.okWide Try.prog W .any base t v := hval0
  have hW' := hW
  obtain ⟨p, q, hA0, hV, rfl, hfz, hnd⟩ := hW
  have hA : DataW.TrodAll enc Try.prog W 0 (fun _ => true) true Try.f12.params.toList args.toList ds p := hA0
  rw [Try.params12] at hA hval
  obtain ⟨v0, vs0, d0, ds0, p0, q0, hargs, rfl, rfl, h0, r0⟩ := trodAll_cons hA
  obtain ⟨v1, vs1, d1, ds1, p1, q1, rfl, rfl, rfl, h1, r1⟩ := trodAll_cons r0
  obtain ⟨v2, vs2, d2, ds2, p2, q2, rfl, rfl, rfl, h2, r2⟩ := trodAll_cons r1
  obtain ⟨rfl, rfl, rfl⟩ := trodAll_nil r2
  obtain rfl : args = #[v0, v1, v2] := by cases args; simp_all
  obtain ⟨rfl, rfl⟩ := trodVars_none hV
  have k0 := h0
  have lt0 : ∀ x ∈ p0, x.block < W.heap.size := by obtain ⟨m, hm⟩ := k0; exact DataW.trod_lt m _ _ _ hm
  obtain ⟨a0, len0, cap0, rfl⟩ := okWide_slice Try.underlying28 (hval 0 28 v0 rfl rfl)
  obtain ⟨z0, w0⟩ : ∃ Z, Grid W W.heap.size a0 len0 Z ∧ len0 ≤ 9223372036854775807 := by
    obtain ⟨fuel, hf⟩ := h0
    rcases Deep.open_int_rows Try.underlying28 Try.underlying53 Try.underlying2 (by kernel_rfl) (by kernel_rfl) hf with ⟨hcs, _⟩ | ⟨x, l, c, A, L, C, ZZ, hcs, _, hl, hm, _, hrow⟩
    · simp [Value.cells] at hcs
      obtain ⟨rfl, rfl, rfl⟩ := hcs
      exact ⟨[], grid_nil _ _ _, by omega⟩
    · simp [Value.cells] at hcs
      obtain ⟨rfl, rfl, rfl⟩ := hcs
      exact ⟨_, grid_of_rows hl hrow, by unfold maxLen at hm; omega⟩
  have k1 := h1
  have lt1 : ∀ x ∈ p1, x.block < W.heap.size := by obtain ⟨m, hm⟩ := k1; exact DataW.trod_lt m _ _ _ hm
  obtain ⟨a1, len1, cap1, rfl⟩ := okWide_slice Try.underlying28 (hval 1 28 v1 rfl rfl)
  obtain ⟨z1, w1⟩ : ∃ Z, Grid W W.heap.size a1 len1 Z ∧ len1 ≤ 9223372036854775807 := by
    obtain ⟨fuel, hf⟩ := h1
    rcases Deep.open_int_rows Try.underlying28 Try.underlying53 Try.underlying2 (by kernel_rfl) (by kernel_rfl) hf with ⟨hcs, _⟩ | ⟨x, l, c, A, L, C, ZZ, hcs, _, hl, hm, _, hrow⟩
    · simp [Value.cells] at hcs
      obtain ⟨rfl, rfl, rfl⟩ := hcs
      exact ⟨[], grid_nil _ _ _, by omega⟩
    · simp [Value.cells] at hcs
      obtain ⟨rfl, rfl, rfl⟩ := hcs
      exact ⟨_, grid_of_rows hl hrow, by unfold maxLen at hm; omega⟩
  have k2 := h2
  have lt2 : ∀ x ∈ p2, x.block < W.heap.size := by obtain ⟨m, hm⟩ := k2; exact DataW.trod_lt m _ _ _ hm
  obtain ⟨a2, rfl, rfl, rfl, w2⟩ := open_int Try.underlying2 (hval 2 2 v2 rfl rfl) h2
  clear hA0 hval0
  refine (walk a0 len0 cap0 z0 a1 len1 cap1 z1 a2 W w0 w1 w2).mono fun e W' ⟨he, bel⟩ => ?_
  subst he
  exact ⟨_, rfl, _, _, _, [], _, [], hW', trodAll_mk1 (shut_bool Try.underlying4 _), (trodAll_cons_mk (Below.trod laidOut (by kernel_rfl) (of_decide_eq_true (by kernel_rfl)) k0 bel lt0) (trodAll_cons_mk (Below.trod laidOut (by kernel_rfl) (of_decide_eq_true (by kernel_rfl)) k1 bel lt1) (trodAll_cons_mk (Below.trod laidOut (by kernel_rfl) (of_decide_eq_true (by kernel_rfl)) k2 bel lt2) trodAll_mk0))), rfl, bel.frame _, fun h => by cases h⟩

theorem over : Rows.fnExactThinPlacesRow.holds Try.pinned (OpenSpec.ofChange Rows.fnExactThinPlacesSpec) :=
  OpenClaim.holds_of_wide 12 Try.f12 rfl rfl rfl rfl rfl rfl rfl ⟨rfl, rfl, rfl, rfl, rfl⟩ rfl rfl rfl rfl rfl (by kernel_rfl) Try.func12 (by kernel_rfl)
    (of_decide_eq_true (by kernel_rfl)) (by unfold Func.isWrapper; first | (rw [if_pos (by decide +kernel)]; kernel_rfl) | (rw [if_neg (by decide +kernel)]; exact ⟨rfl, rfl⟩))
    (fun os started H enc _ => lifted os started H enc)

/-- The given statement. -/
theorem proved : Rows.FnExactThinPlacesSaid := over
#print axioms proved

end Go.Proofs.Ytfnlnkfihldoeaa.fnExactThinPlaces
