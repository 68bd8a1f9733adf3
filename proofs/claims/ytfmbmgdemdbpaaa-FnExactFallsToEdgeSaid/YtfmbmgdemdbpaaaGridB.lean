/- Grids: the law's copies of slices and of grids, and equality of grids. -/
import Derived.Test.YtfmbmgdemdbpaaaGridA
namespace Go.Proofs.Ytfmbmgdemdbpaaa
open Go.RowKit Go.Sort

theorem run_make_rowN {P : Program} (t e : TypeId) (i : TypeInfo) (z : Value) (ht : P.underlying t = some (.slice e)) (hi : P.info? e = some i) (hz : i.zero = some z)
    (kl kc : IntKind) (n c : Nat) (hnc : n ≤ c) (hbytes : i.bytes * c ≤ 281474976710656) (h63 : c ≤ 9223372036854775807) (w : World) :
    (Instr.makeSlice t (.int kl (n : Int)) (.int kc (c : Int))).run P w = .ok (.slice (some ⟨w.heap.size, 0, none⟩) n c) (w.alloc (.cells (madeCells z.cells (c * i.size)) e)) := by
  have hb : (i.bytes : Int) * (c : Int) ≤ 281474976710656 := by
    have h : ((i.bytes * c : Nat) : Int) ≤ 281474976710656 := by omega
    rwa [Int.natCast_mul] at h
  have hr := run_make (P := P) w t e i z ht hi hz kl kc n c (by omega) (by omega) hb (by omega)
  simp only [Int.toNat_natCast] at hr
  exact hr

/-- k cells of one list, then what was there -/
def mixC (cs xs : List Value) (k : Nat) : List Value := cs.take k ++ xs.drop k
theorem mixC_zero (cs xs : List Value) : mixC cs xs 0 = xs := by simp [mixC]
theorem mixC_end {cs xs : List Value} {n : Nat} (h : cs.length = n) (h2 : xs.length = n) : mixC cs xs n = cs := by simp [mixC, ← h, List.drop_of_length_le (show xs.length ≤ cs.length by omega)]
theorem mixC_at {cs xs : List Value} {k : Nat} (h : k < xs.length) (h2 : k < cs.length) : ∃ u, (mixC cs xs k)[k]? = some u := by
  refine ⟨xs[k], ?_⟩
  unfold mixC
  rw [List.getElem?_append_right (by simp; omega)]
  simp [List.length_take, Nat.min_eq_left (Nat.le_of_lt h2), h]
theorem mixC_set {cs xs : List Value} {k : Nat} {v : Value} (h : k < xs.length) (hv : cs[k]? = some v) : (mixC cs xs k).set k v = mixC cs xs (k + 1) := by
  have h2 : k < cs.length := (List.getElem?_eq_some_iff.1 hv).1
  unfold mixC
  rw [List.set_append_right _ _ (by simp; omega)]
  rw [show k - (cs.take k).length = 0 by simp; omega]
  rw [List.drop_eq_getElem_cons h, List.set_cons_zero, List.take_add_one, hv]
  simp

theorem infoI : (Try.prog.info? 2).map (fun i => (i.zero, i.size, i.bytes)) = some (some (.int .i64 0), 1, 8) := by kernel_rfl
theorem infoR : (Try.prog.info? 28).map (fun i => (i.zero, i.size, i.bytes)) = some (some (.slice none 0 0), 1, 24) := by kernel_rfl

/-- a made row is owned -/
theorem own_made (w : World) (z : Value) (e : TypeId) (n : Nat) (hn : n ≤ 1048576) :
    (w.alloc (.cells (madeCells z.cells (n * 1)) e)).ownsRow w.heap.size e 1 (.slice (some ⟨w.heap.size, 0, none⟩) n n) n (madeCells z.cells (n * 1)).toList ∧ (madeCells z.cells (n * 1)).toList.length = n :=
  ⟨World.ownsRow_lit w _ n (Nat.le_refl _) (by unfold maxLen; omega) (size_madeCells _ _), by rw [Array.length_toList, size_madeCells]; omega⟩

def CopyPost (w : World) (n : Nat) (xs : List Int) (e : Ending) (w' : World) : Prop :=
  e = .returned (.slice (some ⟨w.heap.size, 0, none⟩) n n) ∧ w'.ownsRow w.heap.size 2 1 (.slice (some ⟨w.heap.size, 0, none⟩) n n) n (iv xs) ∧ Below w.heap.size w w'

set_option maxHeartbeats 1000000 in
theorem toInt64S_any (A : Option Addr) (n c b : Nat) (xs : List Int) (w : World) (hx : Reads w b 1 A n (iv xs)) (hb0 : b ≤ w.heap.size) (hn : n ≤ 1048576) :
    Calls Try.prog 12 #[.slice A n c] w (CopyPost w n xs) := by
  obtain ⟨i0, hi, hz0, hz1, hz2⟩ := info_parts infoI
  have hmk := run_make_rowN (P := Try.prog) 28 2 i0 (.int .i64 0) Try.underlying28 hi hz0 .i64 .i64 n n (Nat.le_refl _) (by rw [hz2]; omega) (by omega)
  rw [hz1] at hmk
  obtain ⟨hown, hzl⟩ := own_made w (.int .i64 0) 2 n hn
  obtain ⟨ZS, hZS⟩ : ∃ ZS, madeCells (Value.int .i64 0).cells (n * 1) = ZS := ⟨_, rfl⟩
  rw [hZS] at hmk hown hzl
  have HO := Lib.hid hown
  have HZ := Lib.hid hzl
  have lx := Lib.hid (show (iv xs).length = n by have := hx.1; omega)
  have HX := Lib.hid hx
  clear hown hzl hx hz0 hz1 hz2 hi hZS
  go_enter Try.func12, Try.ntmps12
  go_wp2_with fail
  go_loopw [4] (fun i wr => ∃ k : Nat, k ≤ n ∧ i = .int .i64 k ∧ wr.ownsRow w.heap.size 2 1 (.slice (some ⟨w.heap.size, 0, none⟩) n n) n (mixC (iv xs) ZS.toList k) ∧ Below w.heap.size w wr) (fun i _ => n - (intOf i).toNat)
  case atStart => exact ⟨0, Nat.zero_le _, rfl, by rw [mixC_zero]; exact HO.out, (Below.refl _ _).alloc (Nat.le_refl _) _⟩
  case round =>
    obtain ⟨k, hk, rfl, ho, hb⟩ := hrel
    have HR := Lib.hid ho
    have HB := Lib.hid hb
    clear ho hb
    by_cases hlt : k < n
    · obtain ⟨a1, u1, rfl, hbl1, hu1, hc1⟩ := ((HX.out.more hb0).below HB.out).at_ hlt
      have hu := Lib.hid hu1
      obtain rfl := iv_at hu1
      obtain ⟨x, hx⟩ : ∃ x, xs.getD k 0 = x := ⟨_, rfl⟩
      rw [hx] at hc1 hu
      obtain ⟨u, hv⟩ := mixC_at (cs := iv xs) (xs := ZS.toList) (k := k) (by rw [HZ.out]; exact hlt) (by rw [lx.out]; exact hlt)
      have hc : wr.cell? ⟨w.heap.size, k, none⟩ = some u := (HR.out.cellAt k (by omega)).trans hv
      have hf := HR.out.frozenAt k
      have st := Lib.hid (HR.out.stored k (.int .i64 x))
      have ms := Lib.hid (mixC_set (cs := iv xs) (xs := ZS.toList) (k := k) (by rw [HZ.out]; exact hlt) hu.out)
      clear hu1 hbl1 hv hx
      go_wp2
      go_roundw
      case rel => exact ⟨k + 1, by omega, by go_num, by rw [← ms.out]; exact st.out.1, HB.out.setCell (by simp) _⟩
      case measure => simp [intOf]; omega
    · obtain rfl : k = n := by omega
      have me := Lib.hid (mixC_end (cs := iv xs) (xs := ZS.toList) lx.out HZ.out)
      go_wp2
      go_ret
      exact ⟨rfl, by rw [← me.out]; exact HR.out, HB.out⟩
end Go.Proofs.Ytfmbmgdemdbpaaa
