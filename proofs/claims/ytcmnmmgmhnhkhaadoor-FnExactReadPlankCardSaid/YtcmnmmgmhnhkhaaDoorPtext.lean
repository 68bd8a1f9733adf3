/- The text of a plank: what the program and the reference write. -/
import Derived.Test.YtcmnmmgmhnhkhaaDoorLtextB
import Derived.Test.YtcmnmmgmhnhkhaaDoorPlankT
import Derived.BigQuiet
import Derived.Deep.RegionHeld3
namespace Go.Proofs.YtcmnmmgmhnhkhaaDoor
open Go.RowKit Go.Sort

theorem ret_sb {a b : ByteArray} (h : a = b) : Ending.returned (.string a) = .returned (.string b) := by rw [h]
def nums (p : Pl) : List Int := [p.l, p.wd, p.t, p.m, p.r]
def ptxt (p : Pl) : ByteArray := p.id ++ ⟨#[32]⟩ ++ ⟨(ltxt (nums p)).toArray⟩
theorem reads_lit (w : World) (p : Pl) (T : TypeId) : Reads (w.alloc (.cells #[.int .i64 p.l, .int .i64 p.wd, .int .i64 p.t, .int .i64 p.m, .int .i64 p.r] T)).drew (w.heap.size + 1) 1 (some ⟨w.heap.size, 0, none⟩) 5 (iv (nums p)) := by
  have h := World.ownsRow_lit (base := w.heap.size) (e := T) (size := 1) w #[.int .i64 p.l, .int .i64 p.wd, .int .i64 p.t, .int .i64 p.m, .int .i64 p.r] 5 (Nat.le_refl _) (by simp [maxLen]) rfl
  have := Reads.of_own h
  rw [World.size_alloc] at this
  exact this.drew
theorem reads_lit0 (w : World) (p : Pl) (T : TypeId) : Reads (w.alloc (.cells #[.int .i64 p.l, .int .i64 p.wd, .int .i64 p.t, .int .i64 p.m, .int .i64 p.r] T)) (w.heap.size + 1) 1 (some ⟨w.heap.size, 0, none⟩) 5 (iv (nums p)) := reads_lit w p T
theorem below_lit (w : World) (o : Obj) : Below w.heap.size w (w.alloc o).drew := ((Below.refl _ _).alloc (Nat.le_refl _) o).trans ⟨rfl, rfl, rfl, Nat.le_refl _, fun _ _ => rfl⟩
theorem name_short {p : Pl} (h : validB p = true) : p.id.size ≤ 10 := by
  unfold validB at h
  rw [Bool.and_eq_true] at h
  have := (of_decide_eq_true h.1 : _ ∧ _ ∧ _).2.1
  rw [Array.length_toList] at this
  exact this
theorem nums_ok {p : Pl} (h : validB p = true) : okL (nums p) = true := by
  unfold validB at h
  rw [Bool.and_eq_true, Bool.and_eq_true, Bool.and_eq_true] at h
  obtain ⟨_, hp, h4, h5⟩ := h
  unfold pieceB at hp
  rw [Bool.and_eq_true, Bool.and_eq_true] at hp
  obtain ⟨h1, h2, h3⟩ := hp
  have b1 := inB_t h1
  have b2 := inB_t h2
  have b3 := inB_t h3
  have b4 := inB_t h4
  have b5 := inB_t h5
  simp only [okL, nums, List.all_cons, List.all_nil, okV, Bool.and_true, List.length_cons, List.length_nil]
  rw [inB_mk (by omega) (by omega), inB_mk (by omega) (by omega), inB_mk (by omega) (by omega), inB_mk (by omega) (by omega), inB_mk (by omega) (by omega)]
  rfl
theorem ltxt_len {p : Pl} (h : validB p = true) : (ltxt (nums p)).length ≤ 110 := by
  have hk := (okL_all (nums_ok h)).1
  have := jpre_len (nums p) (fun x hx => by
    obtain ⟨i, hi', rfl⟩ := List.getElem_of_mem hx
    have := hk i hi'
    rw [List.getD_eq_getElem?_getD, List.getElem?_eq_getElem hi'] at this
    exact itoa_short this)
  exact this
end Go.Proofs.YtcmnmmgmhnhkhaaDoor
