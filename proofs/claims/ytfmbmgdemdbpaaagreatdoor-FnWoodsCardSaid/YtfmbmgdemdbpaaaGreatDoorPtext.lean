/- The text of a plank: what the program and the reference write. -/
import Derived.Test.YtfmbmgdemdbpaaaGreatDoorLtextB
import Derived.Test.YtfmbmgdemdbpaaaGreatDoorPlank
import Derived.BigQuiet
import Derived.Deep.RegionHeld3
namespace Go.Proofs.YtfmbmgdemdbpaaaGreatDoor
open Go.RowKit Go.Sort

theorem ret_sb {a b : ByteArray} (h : a = b) : Ending.returned (.string a) = .returned (.string b) := by rw [h]
def nums (p : Pl) : List Int := [p.l, p.wd, p.t, p.m, p.r]
def ptxt (p : Pl) : ByteArray := p.id ++ ⟨#[32]⟩ ++ ⟨(ltxt (nums p)).toArray⟩
theorem reads_lit (w : World) (p : Pl) (T : TypeId) : Reads (w.alloc (.cells #[.int .i64 p.l, .int .i64 p.wd, .int .i64 p.t, .int .i64 p.m, .int .i64 p.r] T)).drew (w.heap.size + 1) 1 (some ⟨w.heap.size, 0, none⟩) 5 (iv (nums p)) := by
  have h := World.ownsRow_lit (base := w.heap.size) (e := T) (size := 1) w #[.int .i64 p.l, .int .i64 p.wd, .int .i64 p.t, .int .i64 p.m, .int .i64 p.r] 5 (Nat.le_refl _) (by simp [maxLen]) rfl
  have := Reads.of_own h
  rw [World.size_alloc] at this
  exact this.drew
theorem reads_lit0 (w : World) (p : Pl) (T : TypeId) : Reads (w.alloc (.cells #[.int .i64 p.l, .int .i64 p.wd, .int .i64 p.t, .int .i64 p.m, .int .i64 p.r] T)) (w.heap.size + 1) 1 (some ⟨w.heap.size, 0, none⟩) 5 (iv (nums p)) := reads_lit w p T
theorem below_lit (w : World) (o : Obj) : Below w.heap.size w (w.alloc o).drew := ((Below.refl _ _).alloc (Nat.le_refl _) o).trans ⟨rfl, rfl, rfl, Nat.le_refl _, fun _ _ => rfl⟩
theorem name_short {p : Pl} (h : validB p = true) : p.id.size ≤ 10 := by
  unfold validB at h
  rw [Bool.and_eq_true] at h
  have := (of_decide_eq_true h.1 : _ ∧ _ ∧ _).2.1
  rw [Array.length_toList] at this
  exact this
theorem nums_ok {p : Pl} (h : validB p = true) : okL (nums p) = true := by
  unfold validB at h
  rw [Bool.and_eq_true, Bool.and_eq_true, Bool.and_eq_true] at h
  obtain ⟨_, hp, h4, h5⟩ := h
  unfold pieceB at hp
  rw [Bool.and_eq_true, Bool.and_eq_true] at hp
  obtain ⟨h1, h2, h3⟩ := hp
  have b1 := inB_t h1
  have b2 := inB_t h2
  have b3 := inB_t h3
  have b4 := inB_t h4
  have b5 := inB_t h5
  simp only [okL, nums, List.all_cons, List.all_nil, okV, Bool.and_true, List.length_cons, List.length_nil]
  rw [inB_mk (by omega) (by omega), inB_mk (by omega) (by omega), inB_mk (by omega) (by omega), inB_mk (by omega) (by omega), inB_mk (by omega) (by omega)]
  rfl
theorem ltxt_len {p : Pl} (h : validB p = true) : (ltxt (nums p)).length ≤ 110 := by
  have hk := (okL_all (nums_ok h)).1
  have := jpre_len (nums p) (fun x hx => by
    obtain ⟨i, hi', rfl⟩ := List.getElem_of_mem hx
    have := hk i hi'
    rw [List.getD_eq_getElem?_getD, List.getElem?_eq_getElem hi'] at this
    exact itoa_short this)
  exact this
theorem named_any (s : ByteArray) (A : Option Addr) (n c b : Nat) (xs : List Int) (w : World) (hx : Reads w b 1 A n (iv xs)) (hb0 : b ≤ w.heap.size) (hn : n ≤ 64) (tab : PowTab w) (hs : s.size ≤ 1048576) (hl : (ltext xs).length ≤ 2000) :
    Calls Tryz.prog 29 #[.string s, .slice A n c] w fun e w' => e = .returned (.string (s ++ ⟨#[32]⟩ ++ ⟨(ltext xs).toArray⟩)) ∧ Below w.heap.size w w' := by
  have hcat1 := fun W => run_string_add_sum (P := Tryz.prog) W s ⟨#[32]⟩ (by show s.size + 1 ≤ _; omega)
  have F := Lib.hid (implList_any A n c b xs w hx hb0 (by omega) tab)
  obtain ⟨y, hy⟩ : ∃ y, s ++ (⟨#[32]⟩ : ByteArray) = y := ⟨_, rfl⟩
  obtain ⟨t, ht⟩ : ∃ t, (⟨(ltext xs).toArray⟩ : ByteArray) = t := ⟨_, rfl⟩
  have ys : y.size ≤ 1048577 := by rw [← hy, ByteArray.size_append']; show s.size + 1 ≤ _; omega
  have tz : t.size ≤ 2000 := by rw [← ht]; exact hl
  rw [hy] at hcat1 ⊢
  rw [ht] at F ⊢
  have hcat2 := fun W => run_string_add_sum (P := Tryz.prog) W y t (by omega)
  obtain ⟨z, hz⟩ : ∃ z, y ++ t = z := ⟨_, rfl⟩
  rw [hz] at hcat2 ⊢
  clear hy ht hz ys tz hl hs hn tab hx
  go_enter Tryz.func29, Tryz.ntmps29
  go_wp2_with fail
  refine F.out.mono ?_
  rintro e w1 ⟨rfl, b1⟩
  have B1 := Lib.hid b1
  clear b1
  go_wp2
  go_ret
  exact ⟨rfl, B1.out⟩

set_option maxRecDepth 100000 in
set_option maxHeartbeats 1600000 in
theorem implPtext_any (p : Pl) (w : World) (hs : p.id.size ≤ maxLen) (tab : PowTab w) :
    Calls Tryz.prog 10 #[.agg #[.string p.id, .int .i64 p.l, .int .i64 p.wd, .int .i64 p.t, .int .i64 p.m, .int .i64 p.r]] w fun e w' => e = .returned (.string (if validB p then ptxt p else ⟨#[]⟩)) ∧ Below w.heap.size w w' := by
  have F := Lib.hid (fun W => ValidPlank_any p W hs)
  obtain ⟨W0, hW0⟩ : ∃ W0, w.alloc (.cells #[.string p.id, .int .i64 p.l, .int .i64 p.wd, .int .i64 p.t, .int .i64 p.m, .int .i64 p.r] 27) = W0 := ⟨_, rfl⟩
  have AT := at_new p w 27 hs
  rw [hW0] at AT
  obtain ⟨c0, c1, c2, c3, c4, c5, _⟩ := AT
  simp only [Nat.zero_add] at c1 c2 c3 c4 c5
  have B0 := Lib.hid (show Below w.heap.size w W0 by rw [← hW0]; exact (Below.refl _ _).alloc (Nat.le_refl _) _)
  have lt := Lib.hid (show w.heap.size < W0.heap.size from block_lt_of_cell c0)
  have HW0 := Lib.hid hW0
  have TB := Lib.hid tab
  clear hW0 tab
  cases hv : validB p with
  | true =>
    have n1 := Lib.hid (name_short hv)
    have n2 := Lib.hid (ltxt_len hv)
    have OK := Lib.hid (nums_ok hv)
    have F := Lib.hid (fun W => (by have := F.out W; rw [hv] at this; exact this : Calls Tryz.prog 25 #[.agg #[.string p.id, .int .i64 p.l, .int .i64 p.wd, .int .i64 p.t, .int .i64 p.m, .int .i64 p.r]] W fun e w' => e = .returned (.bool true) ∧ Below W.heap.size W w'))
    have e2 := Lib.hid (show ltext (nums p) = ltxt (nums p) by rw [ltext, if_pos OK.out])
    have N := Lib.hid (fun (W1 : World) W b1 (h : Reads W b1 1 (some ⟨W1.heap.size, 0, none⟩) 5 (iv (nums p))) hb (ht : PowTab W) => by
      have := named_any p.id (some ⟨W1.heap.size, 0, none⟩) 5 5 b1 (nums p) W h hb (by omega) ht (by have := n1.out; omega) (by rw [e2.out]; have := n2.out; omega)
      rw [e2.out] at this
      exact this)
    clear hv
    go_enter Tryz.func10, Tryz.ntmps10
    go_wp2_with fail
    rw [HW0.out]
    refine (F.out _).mono ?_
    rintro e w1 ⟨rfl, b1⟩
    replace c0 := (b1.cell (p := ⟨w.heap.size, 0, none⟩) lt.out).trans c0
    replace c1 := (b1.cell (p := ⟨w.heap.size, 1, none⟩) lt.out).trans c1
    replace c2 := (b1.cell (p := ⟨w.heap.size, 2, none⟩) lt.out).trans c2
    replace c3 := (b1.cell (p := ⟨w.heap.size, 3, none⟩) lt.out).trans c3
    replace c4 := (b1.cell (p := ⟨w.heap.size, 4, none⟩) lt.out).trans c4
    replace c5 := (b1.cell (p := ⟨w.heap.size, 5, none⟩) lt.out).trans c5
    have B1 := Lib.hid (B0.out.trans (b1.mono B0.out.size))
    have T1 := Lib.hid (tab_below TB.out B1.out)
    have lt1 := Lib.hid (show w.heap.size < w1.heap.size from Nat.lt_of_lt_of_le lt.out b1.size)
    clear b1
    go_wp2_with fail
    refine (N.out w1 _ (w1.heap.size + 1) (reads_lit0 w1 p _) (by simp) (tab_below T1.out ((Below.refl _ _).alloc (Nat.le_refl _) _))).mono ?_
    rintro e w2 ⟨rfl, b2⟩
    have B2 := Lib.hid (B1.out.trans (((Below.refl w1.heap.size w1).alloc (Nat.le_refl _) _).trans (b2.mono (by simp)) |>.mono B1.out.size))
    clear b2
    go_wp2
    go_ret
    exact ⟨rfl, B2.out⟩
  | false =>
    have F := Lib.hid (fun W => (by have := F.out W; rw [hv] at this; exact this : Calls Tryz.prog 25 #[.agg #[.string p.id, .int .i64 p.l, .int .i64 p.wd, .int .i64 p.t, .int .i64 p.m, .int .i64 p.r]] W fun e w' => e = .returned (.bool false) ∧ Below W.heap.size W w'))
    go_enter Tryz.func10, Tryz.ntmps10
    go_wp2_with fail
    rw [HW0.out]
    refine (F.out _).mono ?_
    rintro e w1 ⟨rfl, b1⟩
    have B1 := Lib.hid (B0.out.trans (b1.mono B0.out.size))
    clear b1
    go_wp2
    go_ret
    exact ⟨rfl, B1.out⟩
end Go.Proofs.YtfmbmgdemdbpaaaGreatDoor
