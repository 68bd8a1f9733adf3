/- Lists of planks: what they are in memory; the law's own functions on them. -/
import Derived.Test.YtglhlbibaghpjaaGap
import Derived.Test.YtglhlbibaghpjaaPlankC
import Derived.Test.YtglhlbibaghpjaaWords
import Derived.Laws.MakeOwn
namespace Go.Proofs.Ytglhlbibaghpjaa
open Go.RowKit Go.Sort

def cells6 (p : Pl) : List Value := [.string p.id, .int .i64 p.l, .int .i64 p.wd, .int .i64 p.t, .int .i64 p.m, .int .i64 p.r]
def plv (ps : List Pl) : List Value := ps.flatMap cells6
def pl0 : Pl := ⟨ByteArray.empty, 0, 0, 0, 0, 0⟩
def atP (ps : List Pl) (k : Nat) : Pl := ps.getD k pl0
theorem plv_len : ∀ ps : List Pl, (plv ps).length = ps.length * 6
  | [] => rfl
  | p :: ps => by
    have := plv_len ps
    simp only [plv, List.flatMap_cons, List.length_append, List.length_cons] at this ⊢
    rw [this]; simp [cells6]; omega
theorem plv_at : ∀ {ps : List Pl} {k j : Nat}, k < ps.length → j < 6 → (plv ps)[k * 6 + j]? = (cells6 (atP ps k))[j]?
  | p :: ps, 0, j, _, hj => by
    rw [plv, List.flatMap_cons, Nat.zero_mul, Nat.zero_add, List.getElem?_append_left (by simpa [cells6] using hj)]; rfl
  | p :: ps, k + 1, j, h, hj => by
    have ih := plv_at (ps := ps) (k := k) (j := j) (by simpa using h) hj
    rw [plv, List.flatMap_cons, List.getElem?_append_right (by simp [cells6]; omega)]
    have e : (k + 1) * 6 + j - (cells6 p).length = k * 6 + j := by simp [cells6]; omega
    rw [e]
    exact ih
theorem own_below {w w' : World} {B : Nat} {e : TypeId} {size n : Nat} {v : Value} {xs : List Value} (h : w.ownsRow B e size v n xs) (hb : Below w.heap.size w w') : w'.ownsRow B e size v n xs := by
  refine ⟨h.1, ?_⟩
  rcases h.2 with h0 | ⟨g, cap, cur, hv, hbg, hh, h1, h2, h3, h4⟩
  · exact .inl h0
  · have hlt : g < w.heap.size := (Array.getElem?_eq_some_iff.1 hh).1
    exact .inr ⟨g, cap, cur, hv, hbg, (hb.block g hlt).trans hh, h1, h2, h3, h4⟩
theorem own_form {w : World} {b : Nat} {e : TypeId} {size n : Nat} {v : Value} {xs : List Value} (h : w.ownsRow b e size v n xs) : ∃ A c, v = .slice A n c := by
  rcases h.2 with ⟨rfl, rfl⟩ | ⟨g, cap, cur, rfl, _⟩
  · exact ⟨_, _, rfl⟩
  · exact ⟨_, _, rfl⟩
theorem addr_at (a : Addr) {j : Nat} (hj : 0 < j) : (⟨a.block, a.off + j, none⟩ : Addr) = a.add j := by unfold Addr.add; rw [if_neg (by omega)]

/-- element k of a list that reads so, cell by cell, in the walk's own words -/
structure El (w : World) (a : Addr) (p : Pl) : Prop where
  c0 : w.cell? a = some (.string p.id)
  c1 : w.cell? ⟨a.block, a.off + 1, none⟩ = some (.int .i64 p.l)
  c2 : w.cell? ⟨a.block, a.off + 2, none⟩ = some (.int .i64 p.wd)
  c3 : w.cell? ⟨a.block, a.off + 3, none⟩ = some (.int .i64 p.t)
  c4 : w.cell? ⟨a.block, a.off + 4, none⟩ = some (.int .i64 p.m)
  c5 : w.cell? ⟨a.block, a.off + 5, none⟩ = some (.int .i64 p.r)
theorem el_of {w : World} {b n k : Nat} {ad : Addr} {ps : List Pl} (hx : Reads w b 6 (some ad) n (plv ps)) (hk : k < n) : El w (ad.add (k * 6)) (atP ps k) := by
  have lx : ps.length = n := by have := hx.1; rw [plv_len] at this; omega
  obtain ⟨ad', e, hb, hc⟩ := hx.2 (by omega)
  injection e with e
  subst e
  have g : ∀ j, j < 6 → ∀ u, (cells6 (atP ps k))[j]? = some u → w.cell? (ad.add (k * 6 + j)) = some u := fun j hj u hu => hc _ u (by rw [plv_at (by omega) hj]; exact hu)
  refine ⟨by simpa using g 0 (by omega) _ rfl, ?_, ?_, ?_, ?_, ?_⟩
  · rw [addr_at _ (by omega), add_of_add]; exact g 1 (by omega) _ rfl
  · rw [addr_at _ (by omega), add_of_add]; exact g 2 (by omega) _ rfl
  · rw [addr_at _ (by omega), add_of_add]; exact g 3 (by omega) _ rfl
  · rw [addr_at _ (by omega), add_of_add]; exact g 4 (by omega) _ rfl
  · rw [addr_at _ (by omega), add_of_add]; exact g 5 (by omega) _ rfl
theorem El.at_ {w : World} {g k : Nat} {p : Pl} (h : El w ⟨g, k, none⟩ p) (hs : p.id.size ≤ maxLen) : At w g k p := ⟨h.c0, h.c1, h.c2, h.c3, h.c4, h.c5, hs⟩
theorem El.below {w w' : World} {B : Nat} {a : Addr} {p : Pl} (h : El w a p) (hb : Below B w w') (hlt : a.block < B) : El w' a p :=
  ⟨(hb.cell (p := a) hlt).trans h.c0, (hb.cell (p := ⟨a.block, _, none⟩) hlt).trans h.c1, (hb.cell (p := ⟨a.block, _, none⟩) hlt).trans h.c2, (hb.cell (p := ⟨a.block, _, none⟩) hlt).trans h.c3, (hb.cell (p := ⟨a.block, _, none⟩) hlt).trans h.c4, (hb.cell (p := ⟨a.block, _, none⟩) hlt).trans h.c5⟩
/-- element k of an own list -/
theorem el_own {w : World} {B n k g c : Nat} {T : TypeId} {ps : List Pl} (hx : w.ownsRow B T 6 (.slice (some ⟨g, 0, none⟩) n c) n (plv ps)) (hk : k < n) : El w ⟨g, k * 6, none⟩ (atP ps k) := by
  have := el_of (Reads.of_own hx) hk
  have e : ((⟨g, 0, none⟩ : Addr).add (k * 6)) = ⟨g, k * 6, none⟩ := by unfold Addr.add; split <;> simp_all
  rwa [e] at this
/-- what is asked of a list's names -/
def Short (ps : List Pl) (n : Nat) : Prop := ∀ k, k < n → (atP ps k).id.size ≤ maxLen

def SzPost (n : Nat) (l : Int) (w : World) (e : Ending) (w' : World) : Prop :=
  ∃ r : Int, e = .returned (.int .i64 r) ∧ r ≤ 1048576 ∧ (0 ≤ r → (n : Int) ≤ l) ∧ Below w.heap.size w w'

set_option maxHeartbeats 1000000 in
theorem szPlankS_any (A : Option Addr) (n c b : Nat) (ps : List Pl) (l : Int) (w : World) (hx : Reads w b 6 A n (plv ps)) (hb0 : b ≤ w.heap.size) (hs : Short ps n) (hn : n ≤ 9223372036854775807) (l0 : 0 ≤ l) (l1 : l ≤ 1048576) :
    Calls Try.prog 6 #[.slice A n c, .int .i64 l] w (SzPost n l w) := by
  have HX := Lib.hid hx
  have HS := Lib.hid hs
  clear hx hs
  by_cases h : l < n
  · go_enter Try.func6, Try.ntmps6
    go_wp2
    go_ret
    exact ⟨-1, rfl, by omega, fun h => by omega, Below.refl _ _⟩
  · go_enter Try.func6, Try.ntmps6
    go_wp2_with fail
    go_loopw [1, 5] (fun m i wr => ∃ (k : Nat) (r : Int), k ≤ n ∧ 0 ≤ r ∧ r ≤ l ∧ m = .int .i64 r ∧ i = .int .i64 k ∧ Below w.heap.size w wr) (fun _ i _ => n - (intOf i).toNat)
    case atStart => exact ⟨0, l - n, Nat.zero_le _, by omega, by omega, rfl, rfl, Below.refl _ _⟩
    case round =>
      obtain ⟨k, r, hk, r0, r1, rfl, rfl, hb⟩ := hrel
      have HB := Lib.hid hb
      clear hb
      by_cases hlt : k < n
      · obtain ⟨ad, rfl, hbl, _⟩ := HX.out.2 (by omega)
        obtain ⟨k0, k1, k2, k3, k4, k5⟩ := el_of ((HX.out.more hb0).below HB.out) hlt
        obtain ⟨p, hp⟩ : ∃ p, atP ps k = p := ⟨_, rfl⟩
        have hs := HS.out k hlt
        rw [hp] at k0 k1 k2 k3 k4 k5 hs
        have HP := Lib.hid hs
        clear hp hs
        obtain ⟨r', hr'⟩ : ∃ r', lessI r p.id.size = r' := ⟨_, rfl⟩
        have r2 : r' ≤ r := by rw [← hr']; unfold lessI; split <;> omega
        have HR := Lib.hid hr'
        clear hr'
        by_cases hc : r' < 0
        · go_wp2_with (go_at_call 15; refine (szPlank_any p _ _ HP.out r0 (by omega)).mono ?_; rw [HR.out]; rintro e w1 ⟨rfl, b1⟩; have B1 := Lib.hid (HB.out.trans (b1.mono HB.out.size)); clear b1)
          go_ret
          exact ⟨-1, rfl, by omega, fun h => by omega, B1.out⟩
        · go_wp2_with (go_at_call 15; refine (szPlank_any p _ _ HP.out r0 (by omega)).mono ?_; rw [HR.out]; rintro e w1 ⟨rfl, b1⟩; have B1 := Lib.hid (HB.out.trans (b1.mono HB.out.size)); clear b1)
          go_roundw
          case rel => exact ⟨k + 1, r', by omega, by omega, by omega, rfl, by go_num, B1.out⟩
          case measure => simp [intOf]; omega
      · obtain rfl : k = n := by omega
        go_wp2
        go_ret
        exact ⟨r, rfl, by omega, fun _ => by omega, HB.out⟩

set_option maxHeartbeats 1000000 in
theorem eqPlank_any (p : Pl) (w : World) :
    Calls Try.prog 20 #[.agg #[.string p.id, .int .i64 p.l, .int .i64 p.wd, .int .i64 p.t, .int .i64 p.m, .int .i64 p.r], .agg #[.string p.id, .int .i64 p.l, .int .i64 p.wd, .int .i64 p.t, .int .i64 p.m, .int .i64 p.r]] w fun e w' => e = .returned (.bool true) ∧ Below w.heap.size w w' := by
  have h1 : (p.l != p.l) = false := by simp
  have h2 : (p.wd != p.wd) = false := by simp
  have h3 : (p.t != p.t) = false := by simp
  have h4 : (p.m != p.m) = false := by simp
  have h5 : (p.r != p.r) = false := by simp
  have b := Lib.hid (fun o o' => ((Below.refl w.heap.size w).alloc (Nat.le_refl _) o).alloc (by simp) o')
  go_enter Try.func20, Try.ntmps20
  go_wp2
  go_ret
  exact ⟨rfl, b.out _ _⟩

set_option maxHeartbeats 1000000 in
theorem eqPlankS_any (B B' n : Nat) (v v' : Value) (ps : List Pl) (w : World) (hx : w.ownsRow B 37 6 v n (plv ps)) (hy : w.ownsRow B' 37 6 v' n (plv ps)) (hn : n ≤ 1048576) :
    Calls Try.prog 10 #[v, v'] w fun e w' => e = .returned (.bool true) ∧ Below w.heap.size w w' := by
  obtain ⟨A, c, rfl⟩ := own_form hx
  obtain ⟨A', c', rfl⟩ := own_form hy
  have HX := Lib.hid hx
  have HY := Lib.hid hy
  clear hx hy
  go_enter Try.func10, Try.ntmps10
  go_wp2_with fail
  go_loopw [5] (fun i wr => ∃ k : Nat, k ≤ n ∧ i = .int .i64 k ∧ Below w.heap.size w wr) (fun i _ => n - (intOf i).toNat)
  case atStart => exact ⟨0, Nat.zero_le _, rfl, Below.refl _ _⟩
  case round =>
    obtain ⟨k, hk, rfl, hb⟩ := hrel
    have HB := Lib.hid hb
    clear hb
    by_cases hlt : k < n
    · have ox := own_below HX.out HB.out
      have oy := own_below HY.out HB.out
      obtain ⟨g, cap, hv, _, _⟩ := ox.form (by omega)
      obtain ⟨rfl, rfl⟩ : A = some ⟨g, 0, none⟩ ∧ c = cap := by simpa using hv
      obtain ⟨g', cap', hv', _, _⟩ := oy.form (by omega)
      obtain ⟨rfl, rfl⟩ : A' = some ⟨g', 0, none⟩ ∧ c' = cap' := by simpa using hv'
      obtain ⟨k0, k1, k2, k3, k4, k5⟩ := el_own ox hlt
      obtain ⟨m0, m1, m2, m3, m4, m5⟩ := el_own oy hlt
      obtain ⟨p, hp⟩ : ∃ p, atP ps k = p := ⟨_, rfl⟩
      rw [hp] at k0 k1 k2 k3 k4 k5 m0 m1 m2 m3 m4 m5
      have K0 := cell_regrown k0
      have M0 := cell_regrown m0
      have K1 := cell_regrown k1
      have M1 := cell_regrown m1
      have K2 := cell_regrown k2
      have M2 := cell_regrown m2
      have K3 := cell_regrown k3
      have M3 := cell_regrown m3
      have K4 := cell_regrown k4
      have M4 := cell_regrown m4
      have K5 := cell_regrown k5
      have M5 := cell_regrown m5
      have g1 : (k : Int) < (n : Int) := by omega
      have g0 : (0 : Int) ≤ (k : Int) := by omega
      clear ox oy hv hv' hp k0 k1 k2 k3 k4 k5 m0 m1 m2 m3 m4 m5
      go_wp2_with fail
      refine wp_region_quiet_below (by kernel_rfl) (by kernel_rfl) ?_; (repeat (quiet_step ((go_at_call 20; exact Calls.regrown_of (eqPlank_any _ _))))); refine wpQuiet_nil ?_; intro wq hwq; obtain ⟨⟨dq, osq⟩, hwq2⟩ := hwq; have bq := below_of hwq2; clear hwq2
      clear K0 K1 K2 K3 K4 K5 M0 M1 M2 M3 M4 M5
      have HB1 := Lib.hid (HB.out.trans (bq.mono HB.out.size))
      clear bq
      go_wp2
      go_roundw
      case rel => exact ⟨k + 1, by omega, by go_num, HB1.out⟩
      case measure => simp [intOf]; omega
    · obtain rfl : k = n := by omega
      go_wp2
      go_ret
      exact ⟨rfl, HB.out⟩

/-! ### Copies -/
theorem run_make_rowN {P : Program} (t e : TypeId) (i : TypeInfo) (z : Value) (ht : P.underlying t = some (.slice e)) (hi : P.info? e = some i) (hz : i.zero = some z)
    (kl kc : IntKind) (n c : Nat) (hnc : n ≤ c) (hbytes : i.bytes * c ≤ 281474976710656) (h63 : c ≤ 9223372036854775807) (w : World) :
    (Instr.makeSlice t (.int kl (n : Int)) (.int kc (c : Int))).run P w = .ok (.slice (some ⟨w.heap.size, 0, none⟩) n c) (w.alloc (.cells (madeCells z.cells (c * i.size)) e)) := by
  have hb : (i.bytes : Int) * (c : Int) ≤ 281474976710656 := by
    have h : ((i.bytes * c : Nat) : Int) ≤ 281474976710656 := by omega
    rwa [Int.natCast_mul] at h
  have hr := run_make (P := P) w t e i z ht hi hz kl kc n c (by omega) (by omega) hb (by omega)
  simp only [Int.toNat_natCast] at hr
  exact hr
def mixC (cs xs : List Value) (k : Nat) : List Value := cs.take k ++ xs.drop k
theorem mixC_zero (cs xs : List Value) : mixC cs xs 0 = xs := by simp [mixC]
theorem mixC_end {cs xs : List Value} {n : Nat} (h : cs.length = n) (h2 : xs.length = n) : mixC cs xs n = cs := by simp [mixC, ← h, List.drop_of_length_le (show xs.length ≤ cs.length by omega)]
theorem mixC_set {cs xs : List Value} {k : Nat} {v : Value} (h : k < xs.length) (hv : cs[k]? = some v) : (mixC cs xs k).set k v = mixC cs xs (k + 1) := by
  have h2 : k < cs.length := (List.getElem?_eq_some_iff.1 hv).1
  unfold mixC
  rw [List.set_append_right _ _ (by simp; omega)]
  rw [show k - (cs.take k).length = 0 by simp; omega]
  rw [List.drop_eq_getElem_cons h, List.set_cons_zero, List.take_add_one, hv]
  simp
theorem infoPl : (Try.prog.info? 37).map (fun i => (i.zero, i.size, i.bytes)) = some (some (.agg #[.string ByteArray.empty, .int .i64 0, .int .i64 0, .int .i64 0, .int .i64 0, .int .i64 0]), 6, 56) := by kernel_rfl

def CopyPost (w : World) (n : Nat) (ps : List Pl) (e : Ending) (w' : World) : Prop :=
  e = .returned (.slice (some ⟨w.heap.size, 0, none⟩) n n) ∧ w'.ownsRow w.heap.size 37 6 (.slice (some ⟨w.heap.size, 0, none⟩) n n) n (plv ps) ∧ Below w.heap.size w w'

set_option maxHeartbeats 2000000 in
theorem toPlankS_any (A : Option Addr) (n c b : Nat) (ps : List Pl) (w : World) (hx : Reads w b 6 A n (plv ps)) (hb0 : b ≤ w.heap.size) (hn : n ≤ 1048576) :
    Calls Try.prog 8 #[.slice A n c] w (CopyPost w n ps) := by
  obtain ⟨i0, hi, hz0, hz1, hz2⟩ := info_parts infoPl
  have hmk := run_make_rowN (P := Try.prog) 25 37 i0 _ Try.underlying25 hi hz0 .i64 .i64 n n (Nat.le_refl _) (by rw [hz2]; omega) (by omega)
  rw [hz1] at hmk
  obtain ⟨ZS, hZS⟩ : ∃ ZS, madeCells (Value.agg #[.string ByteArray.empty, .int .i64 0, .int .i64 0, .int .i64 0, .int .i64 0, .int .i64 0]).cells (n * 6) = ZS := ⟨_, rfl⟩
  have hzs : ZS.size = n * 6 := by rw [← hZS]; exact size_madeCells _ _
  rw [hZS] at hmk
  have HO := Lib.hid (World.ownsRow_lit (base := w.heap.size) (e := 37) (size := 6) w ZS n (Nat.le_refl _) (by unfold maxLen; omega) hzs)
  have HZ := Lib.hid (show ZS.toList.length = n * 6 by rw [Array.length_toList]; exact hzs)
  have lx := Lib.hid (show (plv ps).length = n * 6 by have := hx.1; omega)
  have lp := Lib.hid (show ps.length = n by have := hx.1; rw [plv_len] at this; omega)
  have HX := Lib.hid hx
  clear hx hz0 hz1 hz2 hi hZS hzs
  go_enter Try.func8, Try.ntmps8
  go_wp2_with fail
  go_loopw [4] (fun i wr => ∃ k : Nat, k ≤ n ∧ i = .int .i64 k ∧ wr.ownsRow w.heap.size 37 6 (.slice (some ⟨w.heap.size, 0, none⟩) n n) n (mixC (plv ps) ZS.toList (k * 6)) ∧ Below w.heap.size w wr ∧ w.heap.size < wr.heap.size) (fun i _ => n - (intOf i).toNat)
  case atStart => exact ⟨0, Nat.zero_le _, rfl, by rw [Nat.zero_mul, mixC_zero]; exact HO.out, (Below.refl _ _).alloc (Nat.le_refl _) _, by simp⟩
  case round =>
    obtain ⟨k, hk, rfl, ho, hb, hl⟩ := hrel
    have HR := Lib.hid ho
    have HB := Lib.hid hb
    have HLT := Lib.hid hl
    clear ho hb hl
    by_cases hlt : k < n
    · obtain ⟨ad, rfl, hbl, _⟩ := HX.out.2 (by omega)
      obtain ⟨k0, k1, k2, k3, k4, k5⟩ := el_of ((HX.out.more hb0).below HB.out) hlt
      obtain ⟨p, hp⟩ : ∃ p, atP ps k = p := ⟨_, rfl⟩
      rw [hp] at k0 k1 k2 k3 k4 k5
      have HP := Lib.hid hp
      clear hp
      go_wp2_with fail
      refine (toPlank_any p _).mono ?_
      rintro e w1 ⟨rfl, b1⟩
      have O1 := Lib.hid (own_below HR.out b1)
      have B1 := Lib.hid (HB.out.trans (b1.mono HB.out.size))
      have L1 := Lib.hid (Nat.lt_of_lt_of_le HLT.out b1.size)
      clear b1 k0 k1 k2 k3 k4 k5
      have lm : (mixC (plv ps) ZS.toList (k * 6)).length = n * 6 := O1.out.1
      have c0 : w1.cell? ⟨w.heap.size, k * 6, none⟩ = some ((mixC (plv ps) ZS.toList (k * 6))[k * 6]'(by omega)) := by rw [O1.out.cellAt (k * 6) (by omega), List.getElem?_eq_getElem]
      have f0 : w1.frozen? ⟨w.heap.size, k * 6, none⟩ = false := O1.out.frozenAt _
      obtain ⟨u0, hu0⟩ : ∃ u, (mixC (plv ps) ZS.toList (k * 6))[k * 6]'(by omega) = u := ⟨_, rfl⟩
      rw [hu0] at c0
      have c1 : w1.cell? ⟨w.heap.size, k * 6 + 1, none⟩ = some ((mixC (plv ps) ZS.toList (k * 6))[k * 6 + 1]'(by omega)) := by rw [O1.out.cellAt (k * 6 + 1) (by omega), List.getElem?_eq_getElem]
      have f1 : w1.frozen? ⟨w.heap.size, k * 6 + 1, none⟩ = false := O1.out.frozenAt _
      obtain ⟨u1, hu1⟩ : ∃ u, (mixC (plv ps) ZS.toList (k * 6))[k * 6 + 1]'(by omega) = u := ⟨_, rfl⟩
      rw [hu1] at c1
      have c2 : w1.cell? ⟨w.heap.size, k * 6 + 2, none⟩ = some ((mixC (plv ps) ZS.toList (k * 6))[k * 6 + 2]'(by omega)) := by rw [O1.out.cellAt (k * 6 + 2) (by omega), List.getElem?_eq_getElem]
      have f2 : w1.frozen? ⟨w.heap.size, k * 6 + 2, none⟩ = false := O1.out.frozenAt _
      obtain ⟨u2, hu2⟩ : ∃ u, (mixC (plv ps) ZS.toList (k * 6))[k * 6 + 2]'(by omega) = u := ⟨_, rfl⟩
      rw [hu2] at c2
      have c3 : w1.cell? ⟨w.heap.size, k * 6 + 3, none⟩ = some ((mixC (plv ps) ZS.toList (k * 6))[k * 6 + 3]'(by omega)) := by rw [O1.out.cellAt (k * 6 + 3) (by omega), List.getElem?_eq_getElem]
      have f3 : w1.frozen? ⟨w.heap.size, k * 6 + 3, none⟩ = false := O1.out.frozenAt _
      obtain ⟨u3, hu3⟩ : ∃ u, (mixC (plv ps) ZS.toList (k * 6))[k * 6 + 3]'(by omega) = u := ⟨_, rfl⟩
      rw [hu3] at c3
      have c4 : w1.cell? ⟨w.heap.size, k * 6 + 4, none⟩ = some ((mixC (plv ps) ZS.toList (k * 6))[k * 6 + 4]'(by omega)) := by rw [O1.out.cellAt (k * 6 + 4) (by omega), List.getElem?_eq_getElem]
      have f4 : w1.frozen? ⟨w.heap.size, k * 6 + 4, none⟩ = false := O1.out.frozenAt _
      obtain ⟨u4, hu4⟩ : ∃ u, (mixC (plv ps) ZS.toList (k * 6))[k * 6 + 4]'(by omega) = u := ⟨_, rfl⟩
      rw [hu4] at c4
      have c5 : w1.cell? ⟨w.heap.size, k * 6 + 5, none⟩ = some ((mixC (plv ps) ZS.toList (k * 6))[k * 6 + 5]'(by omega)) := by rw [O1.out.cellAt (k * 6 + 5) (by omega), List.getElem?_eq_getElem]
      have f5 : w1.frozen? ⟨w.heap.size, k * 6 + 5, none⟩ = false := O1.out.frozenAt _
      obtain ⟨u5, hu5⟩ : ∃ u, (mixC (plv ps) ZS.toList (k * 6))[k * 6 + 5]'(by omega) = u := ⟨_, rfl⟩
      rw [hu5] at c5
      have s0 := O1.out.stored (k * 6) (.string p.id)
      rw [mixC_set (by rw [HZ.out]; omega) (by rw [show (plv ps)[k * 6]? = (plv ps)[k * 6 + 0]? from rfl, plv_at (ps := ps) (k := k) (j := 0) (by rw [lp.out]; exact hlt) (by omega), HP.out]; rfl)] at s0
      have s1 := s0.1.stored (k * 6 + 1) (.int .i64 p.l)
      rw [mixC_set (by rw [HZ.out]; omega) (by rw [plv_at (ps := ps) (k := k) (j := 1) (by rw [lp.out]; exact hlt) (by omega), HP.out]; rfl)] at s1
      have s2 := s1.1.stored (k * 6 + 2) (.int .i64 p.wd)
      rw [mixC_set (by rw [HZ.out]; omega) (by rw [plv_at (ps := ps) (k := k) (j := 2) (by rw [lp.out]; exact hlt) (by omega), HP.out]; rfl)] at s2
      have s3 := s2.1.stored (k * 6 + 3) (.int .i64 p.t)
      rw [mixC_set (by rw [HZ.out]; omega) (by rw [plv_at (ps := ps) (k := k) (j := 3) (by rw [lp.out]; exact hlt) (by omega), HP.out]; rfl)] at s3
      have s4 := s3.1.stored (k * 6 + 4) (.int .i64 p.m)
      rw [mixC_set (by rw [HZ.out]; omega) (by rw [plv_at (ps := ps) (k := k) (j := 4) (by rw [lp.out]; exact hlt) (by omega), HP.out]; rfl)] at s4
      have s5 := s4.1.stored (k * 6 + 5) (.int .i64 p.r)
      rw [mixC_set (by rw [HZ.out]; omega) (by rw [plv_at (ps := ps) (k := k) (j := 5) (by rw [lp.out]; exact hlt) (by omega), HP.out]; rfl)] at s5
      have e6 := s5.1
      rw [show k * 6 + 1 + 1 + 1 + 1 + 1 + 1 = (k + 1) * 6 by omega] at e6
      have ST := Lib.hid e6
      clear e6 lm hu0 s0 hu1 s1 hu2 s2 hu3 s3 hu4 s4 hu5 s5
      go_wp2

      go_roundw
      case rel => exact ⟨k + 1, by omega, by go_num, ST.out, (((((B1.out.setCell (by simp) _).setCell (by simp) _).setCell (by simp) _).setCell (by simp) _).setCell (by simp) _).setCell (by simp) _, by simpa using L1.out⟩
      case measure => simp [intOf]; omega
    · obtain rfl : k = n := by omega
      have me := Lib.hid (mixC_end (cs := plv ps) (xs := ZS.toList) lx.out HZ.out)
      go_wp2
      go_ret
      exact ⟨rfl, by rw [← me.out]; exact HR.out, HB.out⟩
end Go.Proofs.Ytglhlbibaghpjaa
