/- ReadDate: the program's side. Conditions: the text has at most 2^20 bytes. -/
import Derived.Test.YtemloifpcjphkaaDoorReadE
namespace Go.Proofs.YtemloifpcjphkaaDoor
open Go.RowKit Go.Sort
set_option linter.unusedVariables false

theorem tv_of (X : List ByteArray) : X.map Value.string = tv (X.map (·.data.toList)) := by
  rw [tv, List.map_map]; rfl
theorem Split_any (s : ByteArray) (c : UInt8) (w : World) (hs : s.size ≤ 1048576) (hm : MaxL w) :
    Calls Tryd.prog 58 #[.string s, .string ⟨#[c]⟩] w fun e w' => ∃ v, e = .returned v ∧ w'.ownsRow w.heap.size 9 1 v (spl c s.data.toList).length (tv (spl c s.data.toList)) ∧ Below w.heap.size w w' := by
  obtain ⟨m, hm⟩ := hm
  have hX := split_spl c ⟨#[c]⟩ rfl _ s rfl
  have hlen := Lib.splitB_all ⟨#[c]⟩ (Nat.le_refl _) 0 _ s rfl
  have h20 := spl_len c s.data.toList
  refine (Tryd.strings_Split s ⟨#[c]⟩ m w (by omega) hm (Nat.le_refl _)).mono ?_
  rintro e w' ⟨rfl, rfl⟩
  have hl2 : Lib.countB s ⟨#[c]⟩ + 1 = (spl c s.data.toList).length := by rw [← hX, List.length_map, hlen]
  refine ⟨_, rfl, ?_, (Below.refl _ _).alloc (Nat.le_refl _) _⟩
  rw [hl2, tv_of, hX]
  have := World.ownsRow_lit (base := w.heap.size) (e := 9) (size := 1) w (tv (spl c s.data.toList)).toArray (spl c s.data.toList).length (Nat.le_refl _) (by rw [len_data] at h20; unfold maxLen; omega) (by simp [tv_len])
  simpa using this
def upto (k j : Nat) (x : Int) : Int := if j < k then x else 0

set_option maxRecDepth 100000 in
set_option maxHeartbeats 1600000 in
theorem implReadDate_any (s : ByteArray) (w : World) (hs : s.size ≤ 1048576) (tab : PowTab w) (mx : MaxL w) :
    Calls Tryd.prog 32 #[.string s] w fun e w' => RdPost dateX dateR s.data.toList e ∧ Below w.heap.size w w' := by
  have hl := len_data s
  have F := Lib.hid (Split_any s 45 w hs mx)
  have SM : ∀ p ∈ spl 45 s.data.toList, p.length ≤ 1048576 := fun p hp => by have := spl_part 45 _ p hp; omega
  have TB := Lib.hid tab
  have LK := Lib.hid (show ∀ v, dateR v → s.data.toList = dateX v → ∃ y m d, IsDate y m d ∧ dnum y m d = v ∧ spl 45 s.data.toList = [Lib.itoa y, two m, two d] ∧ (digR (Lib.itoa y)).1 = y ∧ (digR (two m)).1 = m ∧ (digR (two d)).1 = d from fun v hv e => by
    obtain ⟨y, m, d, h, k, r1, r2, r3, r4, _⟩ := dateX_read hv e
    exact ⟨y, m, d, h, k, r1, r2, r3, r4⟩)
  obtain ⟨ps, hps⟩ : ∃ ps, spl 45 s.data.toList = ps := ⟨_, rfl⟩
  have LK := LK.out
  rw [hps] at LK
  have F := F.out
  rw [hps] at F
  rw [hps] at SM
  have LK := Lib.hid LK
  have F := Lib.hid F
  clear tab mx
  by_cases h3 : ps.length = 3
  · obtain ⟨p0, p1, p2, rfl⟩ : ∃ p0 p1 p2, ps = [p0, p1, p2] := by
      rcases ps with _ | ⟨a, _ | ⟨b, _ | ⟨c, _ | ⟨d, r⟩⟩⟩⟩
      · simp at h3
      · simp at h3
      · simp at h3
      · exact ⟨a, b, c, rfl⟩
      · simp at h3
    have F := F.out
    rw [show [p0, p1, p2].length = 3 from rfl] at F
    rw [show tv [p0, p1, p2] = [.string ⟨p0.toArray⟩, .string ⟨p1.toArray⟩, .string ⟨p2.toArray⟩] from rfl] at F
    have G0 := fun W => digitsOf_any ⟨p0.toArray⟩ W (by have := SM p0 (by simp); rw [str_size]; unfold maxLen; omega)
    have G1 := fun W => digitsOf_any ⟨p1.toArray⟩ W (by have := SM p1 (by simp); rw [str_size]; unfold maxLen; omega)
    have G2 := fun W => digitsOf_any ⟨p2.toArray⟩ W (by have := SM p2 (by simp); rw [str_size]; unfold maxLen; omega)
    rw [show (⟨p0.toArray⟩ : ByteArray).data.toList = p0 from rfl] at G0
    rw [show (⟨p1.toArray⟩ : ByteArray).data.toList = p1 from rfl] at G1
    rw [show (⟨p2.toArray⟩ : ByteArray).data.toList = p2 from rfl] at G2
    obtain ⟨x0, hx0⟩ : ∃ x, (digR p0).1 = x := ⟨_, rfl⟩
    obtain ⟨x1, hx1⟩ : ∃ x, (digR p1).1 = x := ⟨_, rfl⟩
    obtain ⟨x2, hx2⟩ : ∃ x, (digR p2).1 = x := ⟨_, rfl⟩
    obtain ⟨o0, ho0⟩ : ∃ x, (digR p0).2 = x := ⟨_, rfl⟩
    obtain ⟨o1, ho1⟩ : ∃ x, (digR p1).2 = x := ⟨_, rfl⟩
    obtain ⟨o2, ho2⟩ : ∃ x, (digR p2).2 = x := ⟨_, rfl⟩
    rw [hx0, ho0] at G0
    rw [hx1, ho1] at G1
    rw [hx2, ho2] at G2
    have LK := Lib.hid (show ∀ v, dateR v → s.data.toList = dateX v → IsDate x0 x1 x2 ∧ dnum x0 x1 x2 = v from fun v hv e => by
      obtain ⟨y, m, d, h, k, r1, r2, r3, r4⟩ := LK.out v hv e
      simp only [List.cons.injEq, and_true] at r1
      obtain ⟨q0, q1, q2⟩ := r1
      rw [q0, r2] at hx0
      rw [q1, r3] at hx1
      rw [q2, r4] at hx2
      rw [← hx0, ← hx1, ← hx2]
      exact ⟨h, k⟩)
    obtain ⟨t0, ht0⟩ : ∃ t, (⟨p0.toArray⟩ : ByteArray) = t := ⟨_, rfl⟩
    obtain ⟨t1, ht1⟩ : ∃ t, (⟨p1.toArray⟩ : ByteArray) = t := ⟨_, rfl⟩
    obtain ⟨t2, ht2⟩ : ∃ t, (⟨p2.toArray⟩ : ByteArray) = t := ⟨_, rfl⟩
    rw [ht0, ht1, ht2] at F
    rw [ht0] at G0
    rw [ht1] at G1
    rw [ht2] at G2
    have F := Lib.hid F
    have G0 := Lib.hid G0
    have G1 := Lib.hid G1
    have G2 := Lib.hid G2
    clear SM hps hx0 hx1 hx2 ho0 ho1 ho2 ht0 ht1 ht2 h3 hl
    go_enter Tryd.func32, Tryd.ntmps32
    go_wp2_with fail
    refine F.out.mono ?_
    rintro e w1 ⟨v, rfl, ho, b1⟩
    obtain ⟨g, c, rfl, _, hgl⟩ := ho.form (by omega)
    have c0 : w1.cell? ⟨g, 0, none⟩ = some (.string t0) := (ho.cellAt 0 (by omega)).trans rfl
    have c1 : w1.cell? ⟨g, 1, none⟩ = some (.string t1) := (ho.cellAt 1 (by omega)).trans rfl
    have c2 : w1.cell? ⟨g, 2, none⟩ = some (.string t2) := (ho.cellAt 2 (by omega)).trans rfl
    have C := Lib.hid (And.intro c0 (And.intro c1 (And.intro c2 hgl)))
    have B1 := Lib.hid b1
    clear ho b1 hgl c0 c1 c2
    go_wp2_with fail
    go_loopw [17] (fun z wr => ∃ k : Nat, k ≤ 3 ∧ z = .int .i64 (k : Int) ∧ Blk wr w1.heap.size 48 #[.int .i64 (upto k 0 x0), .int .i64 (upto k 1 x1), .int .i64 (upto k 2 x2)] ∧ Below w1.heap.size w1 wr) (fun z _ => (3 - intOf z).toNat)
    case atStart => exact ⟨0, by omega, rfl, Blk.new _ _ _, (Below.refl _ _).alloc (Nat.le_refl _) _⟩
    case round =>
      obtain ⟨k, hk, rfl, hblk, hbw⟩ := hrel
      have HB := Lib.hid hblk
      have HW := Lib.hid hbw
      clear hblk hbw
      rcases (show k = 0 ∨ k = 1 ∨ k = 2 ∨ k = 3 by omega) with rfl | rfl | rfl | rfl
      · have k0 : wr.cell? ⟨w1.heap.size, 0, none⟩ = some (.int .i64 0) := (HB.out.cell 0).trans rfl
        have f0 : wr.frozen? ⟨w1.heap.size, 0, none⟩ = false := HB.out.frozen 0
        have cc : wr.cell? ⟨g, 0, none⟩ = some (.string t0) := (HW.out.cell (p := ⟨g, 0, none⟩) C.out.2.2.2).trans C.out.1
        go_wp2_with fail
        refine (G0.out wr).mono ?_
        rintro e w2 ⟨rfl, rfl⟩
        go_wp2
        go_roundw
        case rel => exact ⟨1, by omega, rfl, HB.out.set_ 0 _, HW.out.setCell (Nat.le_refl _) _⟩
        case measure => simp [intOf]
      · have k0 : wr.cell? ⟨w1.heap.size, 1, none⟩ = some (.int .i64 0) := (HB.out.cell 1).trans rfl
        have f0 : wr.frozen? ⟨w1.heap.size, 1, none⟩ = false := HB.out.frozen 1
        have cc : wr.cell? ⟨g, 1, none⟩ = some (.string t1) := (HW.out.cell (p := ⟨g, 1, none⟩) C.out.2.2.2).trans C.out.2.1
        go_wp2_with fail
        refine (G1.out wr).mono ?_
        rintro e w2 ⟨rfl, rfl⟩
        go_wp2
        go_roundw
        case rel => exact ⟨2, by omega, rfl, HB.out.set_ 1 _, HW.out.setCell (Nat.le_refl _) _⟩
        case measure => simp [intOf]
      · have k0 : wr.cell? ⟨w1.heap.size, 2, none⟩ = some (.int .i64 0) := (HB.out.cell 2).trans rfl
        have f0 : wr.frozen? ⟨w1.heap.size, 2, none⟩ = false := HB.out.frozen 2
        have cc : wr.cell? ⟨g, 2, none⟩ = some (.string t2) := (HW.out.cell (p := ⟨g, 2, none⟩) C.out.2.2.2).trans C.out.2.2.1
        go_wp2_with fail
        refine (G2.out wr).mono ?_
        rintro e w2 ⟨rfl, rfl⟩
        go_wp2
        go_roundw
        case rel => exact ⟨3, by omega, rfl, HB.out.set_ 2 _, HW.out.setCell (Nat.le_refl _) _⟩
        case measure => simp [intOf]
      · have k0 : wr.cell? ⟨w1.heap.size, 0, none⟩ = some (.int .i64 x0) := (HB.out.cell 0).trans rfl
        have k1 : wr.cell? ⟨w1.heap.size, 1, none⟩ = some (.int .i64 x1) := (HB.out.cell 1).trans rfl
        have k2 : wr.cell? ⟨w1.heap.size, 2, none⟩ = some (.int .i64 x2) := (HB.out.cell 2).trans rfl
        have BW := Lib.hid (B1.out.trans (HW.out.mono B1.out.size))
        have NUM := Lib.hid (fun W => DayNumber_any x0 x1 x2 W)
        cases hdb : dateB x0 x1 x2 with
        | false =>
          have HN := Lib.hid (show ∀ v, dateR v → s.data.toList ≠ dateX v from fun v hv e => by
            obtain ⟨⟨a1, a2, a3, a4, a5, a6⟩, _⟩ := LK.out v hv e
            rw [dateB, inB_mk a1 a2, inB_mk a3 a4, inB_mk a5 a6] at hdb
            cases hdb)
          have ec : codOf x0 x1 x2 = 2 := by rw [codOf, hdb]; rfl
          have NUM := Lib.hid (fun W => by have := NUM.out W; rw [ec] at this; exact this)
          go_wp2_with fail
          refine (NUM.out _).mono ?_
          rintro e w2 ⟨rfl, rfl⟩
          go_wp2
          go_ret2
          exact ⟨.inr ⟨HN.out, rfl⟩, BW.out⟩
        | true =>
          have hI := dateB_t hdb
          have ec : codOf x0 x1 x2 = 0 := by rw [codOf, hdb]; rfl
          have en : numOf x0 x1 x2 = dnum x0 x1 x2 := by rw [numOf, hdb]; rfl
          have NUM := Lib.hid (fun W => by have := NUM.out W; rw [ec, en] at this; exact this)
          have HI := Lib.hid hI
          obtain ⟨day, hday⟩ : ∃ d, dnum x0 x1 x2 = d := ⟨_, rfl⟩
          have NUM := Lib.hid (fun W => by have := NUM.out W; rw [hday] at this; exact this)
          have X := fun W ht => implDateText_any day W ht
          have hu := (show (⟨(dateX day).toArray⟩ : ByteArray).toList = dateX day from Lib.toList_data _)
          obtain ⟨u, hu2⟩ : ∃ u, (⟨(dateX day).toArray⟩ : ByteArray) = u := ⟨_, rfl⟩
          rw [hu2] at X hu
          have X := Lib.hid X
          have HD := Lib.hid hday
          clear hu2 ec en hdb hday hI
          by_cases he : dateX day = s.data.toList
          · have q : (u.toList == s.toList) = true := by rw [beq_iff_eq, hu, Lib.toList_data, he]
            have HE := Lib.hid he.symm
            clear he hu
            go_wp2_with fail
            refine (NUM.out _).mono ?_
            rintro e w2 ⟨rfl, rfl⟩
            go_wp2_with fail
            refine (X.out _ (tab_below TB.out BW.out)).mono ?_
            rintro e w3 ⟨rfl, b3⟩
            have B3 := Lib.hid (BW.out.trans (b3.mono BW.out.size))
            clear b3
            go_wp2
            go_ret2
            exact ⟨.inl ⟨day, ⟨x0, x1, x2, HI.out, HD.out⟩, HE.out, rfl⟩, B3.out⟩
          · have q : (u.toList == s.toList) = false := by rw [beq_eq_false_iff_ne, hu, Lib.toList_data]; exact he
            have HN := Lib.hid (show ∀ v, dateR v → s.data.toList ≠ dateX v from fun v hv e => by
              have := (LK.out v hv e).2
              rw [HD.out] at this
              rw [← this] at e
              exact he e.symm)
            clear he hu
            go_wp2_with fail
            refine (NUM.out _).mono ?_
            rintro e w2 ⟨rfl, rfl⟩
            go_wp2_with fail
            refine (X.out _ (tab_below TB.out BW.out)).mono ?_
            rintro e w3 ⟨rfl, b3⟩
            have B3 := Lib.hid (BW.out.trans (b3.mono BW.out.size))
            clear b3
            go_wp2
            go_ret2
            exact ⟨.inr ⟨HN.out, rfl⟩, B3.out⟩
  · have q : ((ps.length : Int) == 3) = false := by rw [beq_eq_false_iff_ne]; omega
    have HN := Lib.hid (show ∀ v, dateR v → s.data.toList ≠ dateX v from fun v hv e => by
      obtain ⟨y, m, d, _, _, r, _⟩ := LK.out v hv e
      rw [r] at h3
      exact h3 rfl)
    clear LK SM hl
    go_enter Tryd.func32, Tryd.ntmps32
    go_wp2_with fail
    refine F.out.mono ?_
    rintro e w1 ⟨v, rfl, ho, b1⟩
    obtain ⟨A, c, rfl⟩ := own_form ho
    have B1 := Lib.hid b1
    clear ho b1
    go_wp2
    go_ret2
    exact ⟨.inr ⟨HN.out, rfl⟩, B1.out⟩
end Go.Proofs.YtemloifpcjphkaaDoor
