/- A plank's text, read back: the program's reader. -/
import Derived.Test.YtfmbmgdemdbpaaaGreatDoorRplB
import Derived.Test.YtfmbmgdemdbpaaaGreatDoorPtext
namespace Go.Proofs.YtfmbmgdemdbpaaaGreatDoor
open Go.RowKit Go.Sort
set_option linter.unusedVariables false

/-- the plank of a name and five numbers -/
def plOf (a : List UInt8) (xs : List Int) : Pl := ⟨⟨a.toArray⟩, xs.getD 0 0, xs.getD 1 0, xs.getD 2 0, xs.getD 3 0, xs.getD 4 0⟩
def agg6 (p : Pl) : Value := .agg #[.string p.id, .int .i64 p.l, .int .i64 p.wd, .int .i64 p.t, .int .i64 p.m, .int .i64 p.r]
def plNo : Pl := ⟨⟨#[]⟩, 0, 0, 0, 0, 0⟩

set_option maxRecDepth 100000 in
set_option maxHeartbeats 1600000 in
theorem implRplank_no (s : ByteArray) (w : World) (hs : s.size ≤ 1048576) (tab : PowTab w) (er : ErrVars w) (mx : MaxL w) (a b : List UInt8) (f : Bool) (hc : Lib.cut s.data.toList [32] = (a, b, f)) (hbl : b.length ≤ 1048576)
    (hno : (f && (goodL b && decide ((ys b).length = 5))) = false) :
    Calls Tryz.prog 9 #[.string s] w fun e w' => e = .returned (.tuple #[agg6 plNo, .bool false]) ∧ Below w.heap.size w w' := by
  have F := Lib.hid (fun W (hB : Below w.heap.size w W) => readNamed_any s W hs (tab_below tab hB) (err_below er hB) (maxl_below mx hB) a b f hc hbl)
  clear tab er mx hc
  go_enter Tryz.func9, Tryz.ntmps9
  go_wp2_with fail
  have bl := Blk.new w 27 #[.string ⟨#[]⟩, .int .i64 0, .int .i64 0, .int .i64 0, .int .i64 0, .int .i64 0]
  refine (F.out _ ((Below.refl w.heap.size w).alloc (Nat.le_refl _) _)).mono ?_
  rintro e w2 ⟨A, c, rfl, o2, b2⟩
  have bl2 := Lib.hid (bl.below b2 bl.lt)
  have B2 := Lib.hid (((Below.refl w.heap.size w).alloc (Nat.le_refl _) _).trans (b2.mono (by simp)))
  rw [hno]
  have k0 : w2.cell? ⟨w.heap.size, 0, none⟩ = some (.string ⟨#[]⟩) := bl2.out.cell 0
  have k1 : w2.cell? ⟨w.heap.size, 1, none⟩ = some (.int .i64 0) := bl2.out.cell 1
  have k2 : w2.cell? ⟨w.heap.size, 2, none⟩ = some (.int .i64 0) := bl2.out.cell 2
  have k3 : w2.cell? ⟨w.heap.size, 3, none⟩ = some (.int .i64 0) := bl2.out.cell 3
  have k4 : w2.cell? ⟨w.heap.size, 4, none⟩ = some (.int .i64 0) := bl2.out.cell 4
  have k5 : w2.cell? ⟨w.heap.size, 5, none⟩ = some (.int .i64 0) := bl2.out.cell 5
  have z0 := bl2.out.frozen 0
  have z1 := bl2.out.frozen 1
  have z2 := bl2.out.frozen 2
  have z3 := bl2.out.frozen 3
  have z4 := bl2.out.frozen 4
  have z5 := bl2.out.frozen 5
  clear o2 b2 bl
  go_wp2
  have FB := ((((((bl2.out.set_ 0 (.string ⟨#[]⟩)).set_ 1 (.int .i64 0)).set_ 2 (.int .i64 0)).set_ 3 (.int .i64 0)).set_ 4 (.int .i64 0)).set_ 5 (.int .i64 0))
  have BW := (((((B2.out.setCell (p := ⟨w.heap.size, 0, none⟩) (by simp) (.string ⟨#[]⟩)).setCell (p := ⟨w.heap.size, 1, none⟩) (by simp) (.int .i64 0)).setCell (p := ⟨w.heap.size, 2, none⟩) (by simp) (.int .i64 0)).setCell (p := ⟨w.heap.size, 3, none⟩) (by simp) (.int .i64 0)).setCell (p := ⟨w.heap.size, 4, none⟩) (by simp) (.int .i64 0)).setCell (p := ⟨w.heap.size, 5, none⟩) (by simp) (.int .i64 0)
  clear k0 k1 k2 k3 k4 k5 z0 z1 z2 z3 z4 z5
  revert FB BW
  generalize (((((((w2.setCell ⟨w.heap.size, 0, none⟩ (.string ⟨#[]⟩)).setCell ⟨w.heap.size, 1, none⟩ (.int .i64 0)).setCell ⟨w.heap.size, 2, none⟩ (.int .i64 0)).setCell ⟨w.heap.size, 3, none⟩ (.int .i64 0)).setCell ⟨w.heap.size, 4, none⟩ (.int .i64 0)).setCell ⟨w.heap.size, 5, none⟩ (.int .i64 0)) : World) = W3
  intro FB BW
  have k0 : W3.cell? ⟨w.heap.size, 0, none⟩ = some (.string ⟨#[]⟩) := FB.cell 0
  have k1 : W3.cell? ⟨w.heap.size, 1, none⟩ = some (.int .i64 0) := FB.cell 1
  have k2 : W3.cell? ⟨w.heap.size, 2, none⟩ = some (.int .i64 0) := FB.cell 2
  have k3 : W3.cell? ⟨w.heap.size, 3, none⟩ = some (.int .i64 0) := FB.cell 3
  have k4 : W3.cell? ⟨w.heap.size, 4, none⟩ = some (.int .i64 0) := FB.cell 4
  have k5 : W3.cell? ⟨w.heap.size, 5, none⟩ = some (.int .i64 0) := FB.cell 5
  refine bodyPost_ret (v := .tuple #[agg6 plNo, .bool false]) (by simp [results, Tryz.results9, go_sem, agg6, plNo, k0, k1, k2, k3, k4, k5]) rfl ?_
  exact ⟨rfl, BW⟩
end Go.Proofs.YtfmbmgdemdbpaaaGreatDoor
