/- The places of an arching, as the program lists them, and the number of a place. -/
import Derived.Test.YtfmbmgdemdbpaaaMat
namespace Go.Proofs.Ytfmbmgdemdbpaaa
open Go.RowKit Go.Sort

/-- the cells of the first t places, row by row -/
def plc (m : Nat) : Nat → List Value
  | 0 => []
  | t + 1 => plc m t ++ [.int .i64 ((t / m : Nat) : Int), .int .i64 ((t % m : Nat) : Int)]
theorem plc_len (m t : Nat) : (plc m t).length = t * 2 := by
  induction t with
  | zero => rfl
  | succ t ih => simp [plc, ih]; omega
theorem plc_at {m t : Nat} : ∀ {n : Nat}, t < n → (plc m n)[t * 2]? = some (.int .i64 ((t / m : Nat) : Int)) ∧ (plc m n)[t * 2 + 1]? = some (.int .i64 ((t % m : Nat) : Int))
  | n + 1, h => by
    by_cases e : t = n
    · subst e
      rw [plc, List.getElem?_append_right (by rw [plc_len]; omega), List.getElem?_append_right (by rw [plc_len]; omega), plc_len]
      simp
    · have ih := plc_at (m := m) (show t < n by omega)
      rw [plc, List.getElem?_append_left (by rw [plc_len]; omega), List.getElem?_append_left (by rw [plc_len]; omega)]
      exact ih
theorem infoP : (Try.prog.info? 34).map (fun i => (i.zero, i.size, i.bytes)) = some (some (.agg #[.int .i64 0, .int .i64 0]), 2, 16) := by kernel_rfl

/-- behind an append onto a row of the call's own -/
theorem below_own {w wr w1 : World} {B : Nat} {e : TypeId} {size n : Nat} {v : Value} {xs : List Value} {o : Obj} (ho : wr.ownsRow B e size v n xs) (hb : Below B w wr) (hg : (wr.alloc o).grownBy w1 v.ownBlock) (hB : B ≤ wr.heap.size) : Below B w w1 := by
  refine (hb.alloc hB o).grown hg (by simp; omega) (fun k hk => ?_)
  rcases ho.2 with ⟨rfl, _⟩ | ⟨g, cap, cur, rfl, hbg, _⟩
  · simp [Value.ownBlock] at hk
  · have : g = k := by simpa [Value.ownBlock] using hk
    omega

def PlacesPost (n m : Nat) (w : World) (e : Ending) (w' : World) : Prop :=
  ∃ g cap : Nat, e = .returned (.slice (some ⟨g, 0, none⟩) (n * m) cap) ∧ w'.ownsRow w.heap.size 34 2 (.slice (some ⟨g, 0, none⟩) (n * m) cap) (n * m) (plc m (n * m)) ∧ Below w.heap.size w w'

set_option maxHeartbeats 2000000 in
theorem places_any (ad : Addr) (n m c b : Nat) (Z : List (List Int)) (w : World) (hM : Mat w b ad n m Z) (hb0 : b ≤ w.heap.size) :
    Calls Try.prog 14 #[.slice (some ad) n c] w (PlacesPost n m w) := by
  have n1 := hM.n1
  have n2 := hM.n2
  have m1 := hM.m1
  have m2 := hM.m2
  have HM := Lib.hid hM
  clear hM
  obtain ⟨i0, hi, hz0, hz1, hz2⟩ := info_parts infoP
  have hnm : n * m ≤ 100 := Nat.mul_le_mul n2 m2
  have hpos : 1 ≤ n * m := Nat.mul_le_mul n1 m1
  go_enter Try.func14, Try.ntmps14
  go_wp2_with fail
  go_loopw [3, 10] (fun v i wr => ∃ k : Nat, k ≤ n ∧ i = .int .i64 k ∧ wr.ownsRow w.heap.size 34 2 v (k * m) (plc m (k * m)) ∧ Below w.heap.size w wr) (fun _ i _ => n - (intOf i).toNat)
  case atStart => exact ⟨0, Nat.zero_le _, rfl, by simpa [plc] using World.ownsRow_lit (base := w.heap.size) (e := 34) (size := 2) w #[] 0 (Nat.le_refl _) (by simp [maxLen]) rfl, (Below.refl _ _).alloc (Nat.le_refl _) _⟩
  case round =>
    obtain ⟨k, hk, rfl, ho, hb⟩ := hrel
    have HR := Lib.hid ho
    have HB := Lib.hid hb
    clear ho hb
    by_cases hlt : k < n
    · obtain ⟨ai, ci, r1, r2, r3⟩ := HM.out.rows k hlt
      have hcr := (HB.out.cell (p := ad.add k) (by rw [block_of_add]; exact Nat.lt_of_lt_of_le HM.out.blk hb0)).trans r1
      clear r1 r2 r3
      obtain ⟨wo, rfl⟩ : ∃ wo : World, wo = wr := ⟨_, rfl⟩
      go_wp2
      go_loopw [3, 17] (fun v j wi => ∃ x : Nat, x ≤ m ∧ j = .int .i64 x ∧ wi.ownsRow w.heap.size 34 2 v (k * m + x) (plc m (k * m + x)) ∧ Below w.heap.size w wi) (fun _ j _ => m - (intOf j).toNat)
      case atStart => exact ⟨0, Nat.zero_le _, rfl, HR.out, HB.out⟩
      case round =>
        obtain ⟨x, hx, rfl, hoi, hbi⟩ := hrel
        have HRI := Lib.hid hoi
        have HBI := Lib.hid hbi
        clear hoi hbi
        by_cases hxl : x < m
        · have hkm : k * m + x < 100 := by
            have h1 : k * m + m ≤ n * m := by rw [row_end]; exact Nat.mul_le_mul_right m hlt
            omega
          have st := Lib.hid (show plc m (k * m + (x + 1)) = plc m (k * m + x) ++ [.int .i64 (k : Int), .int .i64 (x : Int)] by rw [show k * m + (x + 1) = k * m + x + 1 from rfl, plc, div_row hxl, mod_row hxl])
          go_wp2_with (at_builtin; refine wpList_append_own _ rfl _ _ 31 rfl w.heap.size 34 i0 (.agg #[.int .i64 0, .int .i64 0]) 2 16 Try.underlying31 hi hz0 hz1 hz2 rfl (by decide) _ _ _ rfl (HRI.out.alloc _) ⟨wr.heap.size, 0, none⟩ 1 1 [.int .i64 (k : Int), .int .i64 (x : Int)] rfl rfl ?c1 ?c2 ?c3 ?c4 ?c5 ?_)
          case c1 => exact cell_two_new _ _ _ _
          case c2 => intro u hu; simp at hu; rcases hu with rfl | rfl <;> rfl
          case c3 => unfold maxLen; omega
          case c4 => omega
          case c5 => have := HBI.out.size; simp; omega
          · intro v' w1 hown' hgrow _
            have HO := Lib.hid hown'
            have HG := Lib.hid (below_own HRI.out HBI.out hgrow HBI.out.size)
            clear hown' hgrow
            go_wp2
            go_roundw
            case rel => exact ⟨x + 1, by omega, by go_num, by rw [st.out]; exact HO.out, HG.out⟩
            case measure => simp [intOf]; omega
        · have hx2 := Lib.hid (show k * m + x = (k + 1) * m by rw [show x = m by omega, row_end])
          go_wp2
          go_roundw
          case rel => exact ⟨k + 1, by omega, by go_num, by rw [← hx2.out]; exact HRI.out, HBI.out⟩
          case measure => simp [intOf]; omega
    · have hk2 := Lib.hid (show k = n by omega)
      go_wp2
      go_ret
      have ho := HR.out
      rw [hk2.out] at ho
      obtain ⟨g, cap, hv, _, _⟩ := ho.form (by omega)
      exact ⟨g, cap, by rw [hv]; rfl, by rw [← hv]; exact ho, HB.out⟩

theorem of_any (ad : Addr) (n m c b i k : Nat) (Z : List (List Int)) (w : World) (hM : Mat w b ad n m Z) (hb0 : b ≤ w.heap.size) (hi : i < n) (hk : k < m) :
    Calls Try.prog 17 #[.agg #[.int .i64 i, .int .i64 k], .slice (some ad) n c] w fun e w' => e = .returned (.int .i64 (V Z i k)) ∧ Below w.heap.size w w' := by
  obtain ⟨ai, ci, r1, r2, r3⟩ := hM.rows i hi
  have hc := r3 k hk
  have q1 : (i : Int) < (n : Int) := by omega
  have q2 : (k : Int) < (m : Int) := by omega
  have q3 : (0 : Int) ≤ (i : Int) := by omega
  have q4 : (0 : Int) ≤ (k : Int) := by omega
  have bl := Nat.lt_of_lt_of_le hM.blk hb0
  have bl2 := Nat.lt_of_lt_of_le r2 hb0
  have c1 : (w.alloc (.cells #[.int .i64 (i : Int), .int .i64 (k : Int)] 34)).cell? (ad.add i) = some (.slice (some ai) m ci) := (World.cell?_alloc_lt w _ _ (by rw [block_of_add]; exact bl)).trans r1
  have c2 : (w.alloc (.cells #[.int .i64 (i : Int), .int .i64 (k : Int)] 34)).cell? (ai.add k) = some (.int .i64 (V Z i k)) := (World.cell?_alloc_lt w _ _ (by rw [block_of_add]; exact bl2)).trans hc
  obtain ⟨z, hz⟩ : ∃ z, V Z i k = z := ⟨_, rfl⟩
  rw [hz] at c2
  rw [hz]
  clear r1 r3 hc hz
  go_enter Try.func17, Try.ntmps17
  go_wp2_with fail
  go_quiet (fail)
  go_wp2
  go_ret
  exact ⟨rfl, below_drewN ((Below.refl _ _).alloc (Nat.le_refl _) _) _⟩
end Go.Proofs.Ytfmbmgdemdbpaaa
