/- The neighbours of a place, as the program lists them. -/
import Derived.Test.YtfmbmgdemdbpaaaEdge
namespace Go.Proofs.Ytfmbmgdemdbpaaa
open Go.RowKit Go.Sort

/-- the j-th neighbour, where there is one: above, left, right, below -/
def nbAt (n m i k : Nat) : Nat → List (Nat × Nat)
  | 0 => if 0 < i then [(i - 1, k)] else []
  | 1 => if 0 < k then [(i, k - 1)] else []
  | 2 => if k + 1 < m then [(i, k + 1)] else []
  | _ => if i + 1 < n then [(i + 1, k)] else []
def nb (n m i k : Nat) : Nat → List (Nat × Nat)
  | 0 => []
  | j + 1 => nb n m i k j ++ nbAt n m i k j
def pcs (l : List (Nat × Nat)) : List Value := l.flatMap (fun q => [.int .i64 (q.1 : Int), .int .i64 (q.2 : Int)])
theorem pcs_append (a b : List (Nat × Nat)) : pcs (a ++ b) = pcs a ++ pcs b := by simp [pcs]
theorem pcs_at : ∀ {l : List (Nat × Nat)} {x : Nat}, x < l.length → ∀ q, l[x]? = some q → (pcs l)[x * 2]? = some (.int .i64 (q.1 : Int)) ∧ (pcs l)[x * 2 + 1]? = some (.int .i64 (q.2 : Int))
  | a :: l, 0, _, q, h => by simp at h; subst h; exact ⟨rfl, rfl⟩
  | a :: l, x + 1, hx, q, h => by
    have ih := pcs_at (l := l) (x := x) (by simpa using hx) q (by simpa using h)
    have e : pcs (a :: l) = [.int .i64 (a.1 : Int), .int .i64 (a.2 : Int)] ++ pcs l := rfl
    rw [e, show (x + 1) * 2 = x * 2 + 2 by omega]
    exact ih
theorem nb_len (n m i k : Nat) : ∀ j, (nb n m i k j).length ≤ j
  | 0 => by simp [nb]
  | j + 1 => by
    have := nb_len n m i k j
    have h2 : (nbAt n m i k j).length ≤ 1 := by unfold nbAt; split <;> split <;> simp
    simp [nb]; omega
theorem nbAt_in {n m i k j : Nat} (hi : i < n) (hk : k < m) : ∀ q ∈ nbAt n m i k j, q.1 < n ∧ q.2 < m := by
  intro q hq
  unfold nbAt at hq
  split at hq <;> split at hq <;> simp at hq <;> subst hq <;> simp <;> omega
theorem nb_in {n m i k : Nat} (hi : i < n) (hk : k < m) : ∀ j, ∀ q ∈ nb n m i k j, q.1 < n ∧ q.2 < m
  | 0, q, h => by simp [nb] at h
  | j + 1, q, h => by
    rw [nb, List.mem_append] at h
    rcases h with h | h
    · exact nb_in hi hk j q h
    · exact nbAt_in hi hk q h

theorem nix0 (a b c d e f g h : Int) (w : World) : (Instr.index 42 (.agg #[.int .i64 a, .int .i64 b, .int .i64 c, .int .i64 d, .int .i64 e, .int .i64 f, .int .i64 g, .int .i64 h]) (.int .i64 0)).run Try.prog w = .ok (.agg #[.int .i64 a, .int .i64 b]) w := by kernel_rfl
theorem nix1 (a b c d e f g h : Int) (w : World) : (Instr.index 42 (.agg #[.int .i64 a, .int .i64 b, .int .i64 c, .int .i64 d, .int .i64 e, .int .i64 f, .int .i64 g, .int .i64 h]) (.int .i64 1)).run Try.prog w = .ok (.agg #[.int .i64 c, .int .i64 d]) w := by kernel_rfl
theorem nix2 (a b c d e f g h : Int) (w : World) : (Instr.index 42 (.agg #[.int .i64 a, .int .i64 b, .int .i64 c, .int .i64 d, .int .i64 e, .int .i64 f, .int .i64 g, .int .i64 h]) (.int .i64 2)).run Try.prog w = .ok (.agg #[.int .i64 e, .int .i64 f]) w := by kernel_rfl
theorem nix3 (a b c d e f g h : Int) (w : World) : (Instr.index 42 (.agg #[.int .i64 a, .int .i64 b, .int .i64 c, .int .i64 d, .int .i64 e, .int .i64 f, .int .i64 g, .int .i64 h]) (.int .i64 3)).run Try.prog w = .ok (.agg #[.int .i64 g, .int .i64 h]) w := by kernel_rfl

def NearPost (n m i k : Nat) (w : World) (e : Ending) (w' : World) : Prop :=
  ∃ v : Value, e = .returned v ∧ w'.ownsRow w.heap.size 34 2 v (nb n m i k 4).length (pcs (nb n m i k 4)) ∧ Below w.heap.size w w'

set_option maxHeartbeats 4000000 in
theorem near_any (ad : Addr) (n m c b i k : Nat) (Z : List (List Int)) (w : World) (hM : Mat w b ad n m Z) (hb0 : b ≤ w.heap.size) (hi : i < n) (hk : k < m) :
    Calls Try.prog 16 #[.agg #[.int .i64 i, .int .i64 k], .slice (some ad) n c] w (NearPost n m i k w) := by
  obtain ⟨ai, ci, r1, r2, r3⟩ := hM.rows 0 (by omega)
  have n2 := hM.n2
  have m2 := hM.m2
  have bl := Nat.lt_of_lt_of_le hM.blk hb0
  have hc0 := Lib.hid (show w.cell? ad = some (.slice (some ai) m ci) by simpa [Addr.add] using r1)
  have HM := Lib.hid hM
  obtain ⟨i0, hi0, hz0, hz1, hz2⟩ := info_parts infoP
  clear r1 r3 hM
  go_enter Try.func16, Try.ntmps16
  go_wp2_with fail
  go_loopw [5, 34] (fun v x wr => ∃ j : Nat, j ≤ 4 ∧ x = .int .i64 j ∧ wr.ownsRow w.heap.size 34 2 v (nb n m i k j).length (pcs (nb n m i k j)) ∧ Below w.heap.size w wr) (fun _ x _ => 4 - (intOf x).toNat)
  case atStart => exact ⟨0, Nat.zero_le _, rfl, by simpa [nb, pcs] using World.ownsRow_lit (base := w.heap.size) (e := 34) (size := 2) (w.alloc (.cells #[.int .i64 (i : Int), .int .i64 (k : Int)] 34)) #[] 0 (by simp) (by simp [maxLen]) rfl, ((Below.refl _ _).alloc (Nat.le_refl _) _).alloc (by simp) _⟩
  case round =>
    obtain ⟨j, hj, rfl, ho, hb⟩ := hrel
    have HR := Lib.hid ho
    have HB := Lib.hid hb
    have cz := (HB.out.cell (p := ad) bl).trans hc0.out
    clear ho hb
    have qa2 : decide ((i : Int) < (n : Int)) = true := by rw [decide_eq_true_iff]; omega
    have qb2 : decide ((k : Int) < (m : Int)) = true := by rw [decide_eq_true_iff]; omega
    obtain rfl | rfl | rfl | rfl | rfl : j = 0 ∨ j = 1 ∨ j = 2 ∨ j = 3 ∨ j = 4 := by omega
    · have ix := nix0 ((i : Int) - 1) (k : Int) (i : Int) ((k : Int) - 1) (i : Int) ((k : Int) + 1) ((i : Int) + 1) (k : Int)
      have c1 : (wr.alloc (.cells #[.int .i64 ((i : Int) - 1), .int .i64 (k : Int)] 34)).cell? ad = some (.slice (some ai) m ci) := (World.cell?_alloc_lt wr _ _ (Nat.lt_of_lt_of_le bl HB.out.size)).trans cz
      have qa : (i : Int) < (n : Int) := by omega
      have qb : (k : Int) < (m : Int) := by omega
      have q0 : (0 : Int) < (n : Int) := by omega
      have y1 : decide ((i : Int) - 1 < (n : Int)) = true := by rw [decide_eq_true_iff]; omega
      by_cases h : 0 < i
      · have z1 : decide ((1 : Int) ≤ (i : Int)) = true := by rw [decide_eq_true_iff]; omega
        have st := Lib.hid (show nb n m i k 1 = nb n m i k 0 ++ [(i - 1, k)] by simp [nb, nbAt, h])
        have hx := Lib.hid (show [.int .i64 ((i : Int) - 1), .int .i64 (k : Int)] = pcs [(i - 1, k)] by simp [pcs]; try omega)
        have hln := Lib.hid (nb_len n m i k 0)
        have OW := Lib.hid (HR.out.alloc (.cells #[.int .i64 ((i : Int) - 1), .int .i64 (k : Int)] 34))
        have BW := Lib.hid (HB.out.alloc HB.out.size (.cells #[.int .i64 ((i : Int) - 1), .int .i64 (k : Int)] 34))
        clear h cz
        go_wp2_with fail
        go_quiet (fail)
        obtain ⟨wd, hwd⟩ : ∃ wd : World, wd = (wr.alloc (.cells #[.int .i64 ((i : Int) - 1), .int .i64 (k : Int)] 34)).drewN nq := ⟨_, rfl⟩
        have BD := Lib.hid (show Below w.heap.size w wd by rw [hwd]; exact below_drewN BW.out nq)
        have OD := Lib.hid (show wd.ownsRow w.heap.size 34 2 _ _ _ by rw [hwd]; exact OW.out)
        have k1 : wd.cell? ⟨wr.heap.size, 0, none⟩ = some (.int .i64 ((i : Int) - 1)) := by rw [hwd]; exact (Blk.new wr 34 #[.int .i64 ((i : Int) - 1), .int .i64 (k : Int)]).cell 0
        have k2 : wd.cell? ⟨wr.heap.size, 1, none⟩ = some (.int .i64 (k : Int)) := by rw [hwd]; exact (Blk.new wr 34 #[.int .i64 ((i : Int) - 1), .int .i64 (k : Int)]).cell 1
        rw [← hwd]
        clear hwd c1 y1 z1 ix
        go_wp2_with (at_builtin; refine wpList_append_own _ rfl _ _ 31 rfl w.heap.size 34 i0 (.agg #[.int .i64 0, .int .i64 0]) 2 16 Try.underlying31 hi0 hz0 hz1 hz2 rfl (by decide) _ _ _ rfl (OD.out.alloc _) ⟨wd.heap.size, 0, none⟩ 1 1 [.int .i64 ((i : Int) - 1), .int .i64 (k : Int)] rfl rfl ?c1 ?c2 ?c3 ?c4 ?c5 ?_)
        case c1 => exact cell_two_new _ _ _ _
        case c2 => intro u hu; simp at hu; rcases hu with rfl | rfl <;> rfl
        case c3 => have := hln.out; unfold maxLen; omega
        case c4 => have := hln.out; omega
        case c5 => have := BD.out.size; simp; omega
        · intro v' w1 hown' hgrow _
          have HO := Lib.hid hown'
          have HG := Lib.hid (below_own OD.out BD.out hgrow BD.out.size)
          clear hown' hgrow
          go_wp2
          go_roundw
          case rel => exact ⟨1, by omega, rfl, by rw [st.out, pcs_append, List.length_append, ← hx.out]; exact HO.out, HG.out⟩
          case measure => simp [intOf]
      · have z1 : decide ((1 : Int) ≤ (i : Int)) = false := by rw [decide_eq_false_iff_not]; omega
        have st := Lib.hid (show nb n m i k 1 = nb n m i k 0 by simp [nb, nbAt, h])
        have BW := Lib.hid (HB.out.alloc HB.out.size (.cells #[.int .i64 ((i : Int) - 1), .int .i64 (k : Int)] 34))
        clear h cz
        go_wp2_with fail
        go_quiet (fail)
        have BD := Lib.hid (below_drewN BW.out nq)
        go_wp2
        go_roundw
        case rel => exact ⟨1, by omega, rfl, by rw [st.out]; exact HR.out.alloc _, BD.out⟩
        case measure => simp [intOf]
    · have ix := nix1 ((i : Int) - 1) (k : Int) (i : Int) ((k : Int) - 1) (i : Int) ((k : Int) + 1) ((i : Int) + 1) (k : Int)
      have c1 : (wr.alloc (.cells #[.int .i64 (i : Int), .int .i64 ((k : Int) - 1)] 34)).cell? ad = some (.slice (some ai) m ci) := (World.cell?_alloc_lt wr _ _ (Nat.lt_of_lt_of_le bl HB.out.size)).trans cz
      have qa : (i : Int) < (n : Int) := by omega
      have qb : (k : Int) < (m : Int) := by omega
      have q0 : (0 : Int) < (n : Int) := by omega
      have y1 : decide ((k : Int) - 1 < (m : Int)) = true := by rw [decide_eq_true_iff]; omega
      by_cases h : 0 < k
      · have z1 : decide ((1 : Int) ≤ (k : Int)) = true := by rw [decide_eq_true_iff]; omega
        have st := Lib.hid (show nb n m i k 2 = nb n m i k 1 ++ [(i, k - 1)] by simp [nb, nbAt, h])
        have hx := Lib.hid (show [.int .i64 (i : Int), .int .i64 ((k : Int) - 1)] = pcs [(i, k - 1)] by simp [pcs]; try omega)
        have hln := Lib.hid (nb_len n m i k 1)
        have OW := Lib.hid (HR.out.alloc (.cells #[.int .i64 (i : Int), .int .i64 ((k : Int) - 1)] 34))
        have BW := Lib.hid (HB.out.alloc HB.out.size (.cells #[.int .i64 (i : Int), .int .i64 ((k : Int) - 1)] 34))
        clear h cz
        go_wp2_with fail
        go_quiet (fail)
        obtain ⟨wd, hwd⟩ : ∃ wd : World, wd = (wr.alloc (.cells #[.int .i64 (i : Int), .int .i64 ((k : Int) - 1)] 34)).drewN nq := ⟨_, rfl⟩
        have BD := Lib.hid (show Below w.heap.size w wd by rw [hwd]; exact below_drewN BW.out nq)
        have OD := Lib.hid (show wd.ownsRow w.heap.size 34 2 _ _ _ by rw [hwd]; exact OW.out)
        have k1 : wd.cell? ⟨wr.heap.size, 0, none⟩ = some (.int .i64 (i : Int)) := by rw [hwd]; exact (Blk.new wr 34 #[.int .i64 (i : Int), .int .i64 ((k : Int) - 1)]).cell 0
        have k2 : wd.cell? ⟨wr.heap.size, 1, none⟩ = some (.int .i64 ((k : Int) - 1)) := by rw [hwd]; exact (Blk.new wr 34 #[.int .i64 (i : Int), .int .i64 ((k : Int) - 1)]).cell 1
        rw [← hwd]
        clear hwd c1 y1 z1 ix
        go_wp2_with (at_builtin; refine wpList_append_own _ rfl _ _ 31 rfl w.heap.size 34 i0 (.agg #[.int .i64 0, .int .i64 0]) 2 16 Try.underlying31 hi0 hz0 hz1 hz2 rfl (by decide) _ _ _ rfl (OD.out.alloc _) ⟨wd.heap.size, 0, none⟩ 1 1 [.int .i64 (i : Int), .int .i64 ((k : Int) - 1)] rfl rfl ?c1 ?c2 ?c3 ?c4 ?c5 ?_)
        case c1 => exact cell_two_new _ _ _ _
        case c2 => intro u hu; simp at hu; rcases hu with rfl | rfl <;> rfl
        case c3 => have := hln.out; unfold maxLen; omega
        case c4 => have := hln.out; omega
        case c5 => have := BD.out.size; simp; omega
        · intro v' w1 hown' hgrow _
          have HO := Lib.hid hown'
          have HG := Lib.hid (below_own OD.out BD.out hgrow BD.out.size)
          clear hown' hgrow
          go_wp2
          go_roundw
          case rel => exact ⟨2, by omega, rfl, by rw [st.out, pcs_append, List.length_append, ← hx.out]; exact HO.out, HG.out⟩
          case measure => simp [intOf]
      · have z1 : decide ((1 : Int) ≤ (k : Int)) = false := by rw [decide_eq_false_iff_not]; omega
        have st := Lib.hid (show nb n m i k 2 = nb n m i k 1 by simp [nb, nbAt, h])
        have BW := Lib.hid (HB.out.alloc HB.out.size (.cells #[.int .i64 (i : Int), .int .i64 ((k : Int) - 1)] 34))
        clear h cz
        go_wp2_with fail
        go_quiet (fail)
        have BD := Lib.hid (below_drewN BW.out nq)
        go_wp2
        go_roundw
        case rel => exact ⟨2, by omega, rfl, by rw [st.out]; exact HR.out.alloc _, BD.out⟩
        case measure => simp [intOf]
    · have ix := nix2 ((i : Int) - 1) (k : Int) (i : Int) ((k : Int) - 1) (i : Int) ((k : Int) + 1) ((i : Int) + 1) (k : Int)
      have c1 : (wr.alloc (.cells #[.int .i64 (i : Int), .int .i64 ((k : Int) + 1)] 34)).cell? ad = some (.slice (some ai) m ci) := (World.cell?_alloc_lt wr _ _ (Nat.lt_of_lt_of_le bl HB.out.size)).trans cz
      have qa : (i : Int) < (n : Int) := by omega
      have qb : (k : Int) < (m : Int) := by omega
      have q0 : (0 : Int) < (n : Int) := by omega
      have y1 : decide (0 ≤ (k : Int) + 1) = true := by rw [decide_eq_true_iff]; omega
      by_cases h : k + 1 < m
      · have z1 : decide ((k : Int) + 1 < (m : Int)) = true := by rw [decide_eq_true_iff]; omega
        have st := Lib.hid (show nb n m i k 3 = nb n m i k 2 ++ [(i, k + 1)] by simp [nb, nbAt, h])
        have hx := Lib.hid (show [.int .i64 (i : Int), .int .i64 ((k : Int) + 1)] = pcs [(i, k + 1)] by simp [pcs]; try omega)
        have hln := Lib.hid (nb_len n m i k 2)
        have OW := Lib.hid (HR.out.alloc (.cells #[.int .i64 (i : Int), .int .i64 ((k : Int) + 1)] 34))
        have BW := Lib.hid (HB.out.alloc HB.out.size (.cells #[.int .i64 (i : Int), .int .i64 ((k : Int) + 1)] 34))
        clear h cz
        go_wp2_with fail
        go_quiet (fail)
        obtain ⟨wd, hwd⟩ : ∃ wd : World, wd = (wr.alloc (.cells #[.int .i64 (i : Int), .int .i64 ((k : Int) + 1)] 34)).drewN nq := ⟨_, rfl⟩
        have BD := Lib.hid (show Below w.heap.size w wd by rw [hwd]; exact below_drewN BW.out nq)
        have OD := Lib.hid (show wd.ownsRow w.heap.size 34 2 _ _ _ by rw [hwd]; exact OW.out)
        have k1 : wd.cell? ⟨wr.heap.size, 0, none⟩ = some (.int .i64 (i : Int)) := by rw [hwd]; exact (Blk.new wr 34 #[.int .i64 (i : Int), .int .i64 ((k : Int) + 1)]).cell 0
        have k2 : wd.cell? ⟨wr.heap.size, 1, none⟩ = some (.int .i64 ((k : Int) + 1)) := by rw [hwd]; exact (Blk.new wr 34 #[.int .i64 (i : Int), .int .i64 ((k : Int) + 1)]).cell 1
        rw [← hwd]
        clear hwd c1 y1 z1 ix
        go_wp2_with (at_builtin; refine wpList_append_own _ rfl _ _ 31 rfl w.heap.size 34 i0 (.agg #[.int .i64 0, .int .i64 0]) 2 16 Try.underlying31 hi0 hz0 hz1 hz2 rfl (by decide) _ _ _ rfl (OD.out.alloc _) ⟨wd.heap.size, 0, none⟩ 1 1 [.int .i64 (i : Int), .int .i64 ((k : Int) + 1)] rfl rfl ?c1 ?c2 ?c3 ?c4 ?c5 ?_)
        case c1 => exact cell_two_new _ _ _ _
        case c2 => intro u hu; simp at hu; rcases hu with rfl | rfl <;> rfl
        case c3 => have := hln.out; unfold maxLen; omega
        case c4 => have := hln.out; omega
        case c5 => have := BD.out.size; simp; omega
        · intro v' w1 hown' hgrow _
          have HO := Lib.hid hown'
          have HG := Lib.hid (below_own OD.out BD.out hgrow BD.out.size)
          clear hown' hgrow
          go_wp2
          go_roundw
          case rel => exact ⟨3, by omega, rfl, by rw [st.out, pcs_append, List.length_append, ← hx.out]; exact HO.out, HG.out⟩
          case measure => simp [intOf]
      · have z1 : decide ((k : Int) + 1 < (m : Int)) = false := by rw [decide_eq_false_iff_not]; omega
        have st := Lib.hid (show nb n m i k 3 = nb n m i k 2 by simp [nb, nbAt, h])
        have BW := Lib.hid (HB.out.alloc HB.out.size (.cells #[.int .i64 (i : Int), .int .i64 ((k : Int) + 1)] 34))
        clear h cz
        go_wp2_with fail
        go_quiet (fail)
        have BD := Lib.hid (below_drewN BW.out nq)
        go_wp2
        go_roundw
        case rel => exact ⟨3, by omega, rfl, by rw [st.out]; exact HR.out.alloc _, BD.out⟩
        case measure => simp [intOf]
    · have ix := nix3 ((i : Int) - 1) (k : Int) (i : Int) ((k : Int) - 1) (i : Int) ((k : Int) + 1) ((i : Int) + 1) (k : Int)
      have c1 : (wr.alloc (.cells #[.int .i64 ((i : Int) + 1), .int .i64 (k : Int)] 34)).cell? ad = some (.slice (some ai) m ci) := (World.cell?_alloc_lt wr _ _ (Nat.lt_of_lt_of_le bl HB.out.size)).trans cz
      have qa : (i : Int) < (n : Int) := by omega
      have qb : (k : Int) < (m : Int) := by omega
      have q0 : (0 : Int) < (n : Int) := by omega
      have y1 : decide (0 ≤ (i : Int) + 1) = true := by rw [decide_eq_true_iff]; omega
      by_cases h : i + 1 < n
      · have z1 : decide ((i : Int) + 1 < (n : Int)) = true := by rw [decide_eq_true_iff]; omega
        have st := Lib.hid (show nb n m i k 4 = nb n m i k 3 ++ [(i + 1, k)] by simp [nb, nbAt, h])
        have hx := Lib.hid (show [.int .i64 ((i : Int) + 1), .int .i64 (k : Int)] = pcs [(i + 1, k)] by simp [pcs]; try omega)
        have hln := Lib.hid (nb_len n m i k 3)
        have OW := Lib.hid (HR.out.alloc (.cells #[.int .i64 ((i : Int) + 1), .int .i64 (k : Int)] 34))
        have BW := Lib.hid (HB.out.alloc HB.out.size (.cells #[.int .i64 ((i : Int) + 1), .int .i64 (k : Int)] 34))
        clear h cz
        go_wp2_with fail
        go_quiet (fail)
        obtain ⟨wd, hwd⟩ : ∃ wd : World, wd = (wr.alloc (.cells #[.int .i64 ((i : Int) + 1), .int .i64 (k : Int)] 34)).drewN nq := ⟨_, rfl⟩
        have BD := Lib.hid (show Below w.heap.size w wd by rw [hwd]; exact below_drewN BW.out nq)
        have OD := Lib.hid (show wd.ownsRow w.heap.size 34 2 _ _ _ by rw [hwd]; exact OW.out)
        have k1 : wd.cell? ⟨wr.heap.size, 0, none⟩ = some (.int .i64 ((i : Int) + 1)) := by rw [hwd]; exact (Blk.new wr 34 #[.int .i64 ((i : Int) + 1), .int .i64 (k : Int)]).cell 0
        have k2 : wd.cell? ⟨wr.heap.size, 1, none⟩ = some (.int .i64 (k : Int)) := by rw [hwd]; exact (Blk.new wr 34 #[.int .i64 ((i : Int) + 1), .int .i64 (k : Int)]).cell 1
        rw [← hwd]
        clear hwd c1 y1 z1 ix
        go_wp2_with (at_builtin; refine wpList_append_own _ rfl _ _ 31 rfl w.heap.size 34 i0 (.agg #[.int .i64 0, .int .i64 0]) 2 16 Try.underlying31 hi0 hz0 hz1 hz2 rfl (by decide) _ _ _ rfl (OD.out.alloc _) ⟨wd.heap.size, 0, none⟩ 1 1 [.int .i64 ((i : Int) + 1), .int .i64 (k : Int)] rfl rfl ?c1 ?c2 ?c3 ?c4 ?c5 ?_)
        case c1 => exact cell_two_new _ _ _ _
        case c2 => intro u hu; simp at hu; rcases hu with rfl | rfl <;> rfl
        case c3 => have := hln.out; unfold maxLen; omega
        case c4 => have := hln.out; omega
        case c5 => have := BD.out.size; simp; omega
        · intro v' w1 hown' hgrow _
          have HO := Lib.hid hown'
          have HG := Lib.hid (below_own OD.out BD.out hgrow BD.out.size)
          clear hown' hgrow
          go_wp2
          go_roundw
          case rel => exact ⟨4, by omega, rfl, by rw [st.out, pcs_append, List.length_append, ← hx.out]; exact HO.out, HG.out⟩
          case measure => simp [intOf]
      · have z1 : decide ((i : Int) + 1 < (n : Int)) = false := by rw [decide_eq_false_iff_not]; omega
        have st := Lib.hid (show nb n m i k 4 = nb n m i k 3 by simp [nb, nbAt, h])
        have BW := Lib.hid (HB.out.alloc HB.out.size (.cells #[.int .i64 ((i : Int) + 1), .int .i64 (k : Int)] 34))
        clear h cz
        go_wp2_with fail
        go_quiet (fail)
        have BD := Lib.hid (below_drewN BW.out nq)
        go_wp2
        go_roundw
        case rel => exact ⟨4, by omega, rfl, by rw [st.out]; exact HR.out.alloc _, BD.out⟩
        case measure => simp [intOf]
    · go_wp2
      go_ret
      exact ⟨_, rfl, HR.out, HB.out⟩
end Go.Proofs.Ytfmbmgdemdbpaaa
