/- Archings: the exported test, in both texts. -/
import Derived.Test.YtfmbmgdemdbpaaaArch
namespace Go.Proofs.Ytfmbmgdemdbpaaa
open Go.RowKit Go.Sort

theorem implArch_any (A : Option Addr) (n c b : Nat) (Z : List (List Int)) (w : World) (hg : Grid w b A n Z) (hb0 : b ≤ w.heap.size) (hn : n ≤ 1048576) :
    Calls Try.prog 13 #[.slice A n c] w fun e w' => e = .returned (.bool (archB Z)) ∧ Below w.heap.size w w' := by
  have HG := Lib.hid hg
  clear hg
  go_enter Try.func13, Try.ntmps13
  go_wp2_with (go_at_call 21; refine (isGrid_any A n c b Z _ HG.out hb0 hn).mono ?_; rintro e w1 ⟨rfl, b1⟩; have B1 := Lib.hid b1; clear b1)
  go_ret
  exact ⟨rfl, B1.out⟩
/-- what a law knows of its grid, call after call: nothing old has turned; the argument reads as it did; it is not too large -/
structure KeepG (W : World) (A : Option Addr) (n : Nat) (Z : List (List Int)) (w : World) : Prop where
  old : Below W.heap.size W w
  grid : Grid w W.heap.size A n Z
theorem KeepG.step {W w w' : World} {A : Option Addr} {n : Nat} {Z : List (List Int)} (h : KeepG W A n Z w) (hb : Below w.heap.size w w') : KeepG W A n Z w' :=
  ⟨h.old.trans (hb.mono h.old.size), h.grid.below (hb.mono h.old.size)⟩
/-- a copy in new memory, as a grid -/
theorem copy_grid {w w' : World} {n : Nat} {Z : List (List Int)} {g : Nat → Nat} {zs : List Value} (ho : OwnG w.heap.size w' n Z g n zs) (hz : zs.length = n) (hl : Z.length = n) (hm : ∀ i, i < n → (rowZ Z i).length ≤ 1048576) :
    Grid w' w'.heap.size (some ⟨w.heap.size, 0, none⟩) n Z := ho.grid hz hl (fun i hi => by have := hm i hi; omega)
end Go.Proofs.Ytfmbmgdemdbpaaa
