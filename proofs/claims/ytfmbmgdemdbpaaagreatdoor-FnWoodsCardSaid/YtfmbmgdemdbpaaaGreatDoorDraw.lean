/- The laws' planks: one plank drawn from the source. -/
import Derived.Test.YtfmbmgdemdbpaaaGreatDoorSrcQ
import Derived.Test.YtfmbmgdemdbpaaaGreatDoorPlank
namespace Go.Proofs.YtfmbmgdemdbpaaaGreatDoor
open Go.RowKit
set_option linter.unusedVariables false

/-- the old blocks, but for the source's, read as they did -/
def Old (g : Nat) (w w' : World) : Prop := w'.os = w.os ∧ w'.tape = w.tape ∧ w'.output = w.output ∧ w.heap.size ≤ w'.heap.size ∧ ∀ k, k < w.heap.size → k ≠ g → w'.heap[k]? = w.heap[k]?
section
variable {g : Nat} {w a b : World}
theorem Old.refl (g : Nat) (w : World) : Old g w w := ⟨rfl, rfl, rfl, Nat.le_refl _, fun _ _ _ => rfl⟩
theorem Old.trans (h : Old g w a) (k : Old g a b) : Old g w b :=
  ⟨k.1.trans h.1, k.2.1.trans h.2.1, k.2.2.1.trans h.2.2.1, Nat.le_trans h.2.2.2.1 k.2.2.2.1, fun i hi hg => (k.2.2.2.2 i (Nat.lt_of_lt_of_le hi h.2.2.2.1) hg).trans (h.2.2.2.2 i hi hg)⟩
theorem Old.alloc (h : Old g w a) (o : Obj) : Old g w (a.alloc o) := h.trans ⟨rfl, rfl, rfl, by simp, fun k hk _ => Below.heap_alloc a o k hk⟩
theorem Old.only (h : Old g w a) (hb : Below g a b) (ho : Only g a b) : Old g w b := h.trans ⟨hb.os, hb.tape, hb.output, by rw [ho.1]; exact Nat.le_refl _, fun k _ hg => ho.2 k hg⟩
theorem Old.setCell (h : Old g w a) {p : Addr} (hp : w.heap.size ≤ p.block) (u : Value) : Old g w (a.setCell p u) :=
  ⟨h.1, h.2.1, h.2.2.1, by simp [World.setCell]; exact h.2.2.2.1, fun k hk hg => (Below.heap_setCell _ p u k (by omega)).trans (h.2.2.2.2 k hk hg)⟩
theorem Old.reads (h : Old g w a) {B : Nat} {A : Option Addr} {n : Nat} {xs : List Value} (hx : Reads w B 1 A n xs) (hB : B ≤ g) (hw : B ≤ w.heap.size) : Reads a B 1 A n xs :=
  hx.keep fun p hp => World.cell?_of_block (h.2.2.2.2 p.block (by omega) (by omega))
theorem Old.below (h : Old g w a) {B : Nat} (hB : B ≤ g) (hw : B ≤ w.heap.size) : Below B w a := ⟨h.1, h.2.1, h.2.2.1, h.2.2.2.1, fun k hk => h.2.2.2.2 k (by omega) (by omega)⟩
theorem Old.blk (h : Old g w a) {c : Nat} {t : TypeId} {cs : Array Value} (hb : Blk w c t cs) (hne : c ≠ g) : Blk a c t cs := (h.2.2.2.2 c hb.lt hne).trans hb
end
theorem SrcIn.far {w : World} {g : Nat} {A : Option Addr} {n c i : Nat} (h : SrcIn w g A n c i) {p : Addr} (hp : g ≠ p.block) (u : Value) : SrcIn (w.setCell p u) g A n c i := by
  obtain ⟨j, sd, hj, h⟩ := h
  exact ⟨j, sd, hj, h.far hp u⟩
def agg6' (p : Pl) : Value := .agg #[.string p.id, .int .i64 p.l, .int .i64 p.wd, .int .i64 p.t, .int .i64 p.m, .int .i64 p.r]
/-- what is drawn -/
def Drawn (p : Pl) (id : ByteArray) : Prop := p.id = id ∧ (400 ≤ p.l ∧ p.l ≤ 459) ∧ (120 ≤ p.wd ∧ p.wd ≤ 159) ∧ (30 ≤ p.t ∧ p.t ≤ 44) ∧ (700 ≤ p.m ∧ p.m ≤ 1590) ∧ (60 ≤ p.r ∧ p.r ≤ 149)

set_option maxRecDepth 100000 in
set_option maxHeartbeats 3200000 in
theorem drawOne_any (A : Option Addr) (n c b g : Nat) (zs : List Int) (i : Nat) (id : ByteArray) (w : World) (hx : Reads w b 1 A n (u8v zs)) (hz : ∀ z ∈ zs, 0 ≤ z ∧ z ≤ 255) (hbg : b ≤ g) (hbw : b ≤ w.heap.size) (hs : SrcIn w g A n c i) (hi : i ≤ 100000000) (hn : n ≤ 1048576) :
    Calls Tryz.prog 24 #[.pointer (some ⟨g, 0, none⟩), .string id] w fun e w' => ∃ p, e = .returned (agg6' p) ∧ Drawn p id ∧ SrcIn w' g A n c (i + 10) ∧ Old g w w' := by
  have gl := hs.lt
  have PK := Lib.hid (fun W j k (hO : Old g w W) (hS : SrcIn W g A n c j) (hj : j ≤ 1000000000) (hk : 1 < k) (hk2 : k ≤ 60000) => pickQ_any A n c b g zs j k W (hO.reads hx hbg hbw) hz hbg hS hj hn hk hk2)
  clear hx hz
  go_enter Tryz.func24, Tryz.ntmps24
  go_wp2_with fail
  have O1 := (Old.refl g w).alloc (.cells #[.string ⟨#[]⟩, .int .i64 0, .int .i64 0, .int .i64 0, .int .i64 0, .int .i64 0] 27)
  have S1 := hs.alloc (.cells #[.string ⟨#[]⟩, .int .i64 0, .int .i64 0, .int .i64 0, .int .i64 0, .int .i64 0] 27)
  have r1 := Blk.new w 27 #[.string ⟨#[]⟩, .int .i64 0, .int .i64 0, .int .i64 0, .int .i64 0, .int .i64 0]
  have z1 : (w.alloc (.cells #[.string ⟨#[]⟩, .int .i64 0, .int .i64 0, .int .i64 0, .int .i64 0, .int .i64 0] 27)).heap.size = w.heap.size + 1 := by simp
  revert O1 S1 r1 z1
  generalize (w.alloc (.cells #[.string ⟨#[]⟩, .int .i64 0, .int .i64 0, .int .i64 0, .int .i64 0, .int .i64 0] 27)) = w1
  intro O1 S1 r1 z1
  refine (PK.out w1 i 60 O1 S1 (by omega) (by omega) (by omega)).mono ?_
  rintro e w2 ⟨v1, rfl, l1, u1, S2, b2, o2⟩
  have O2 := Lib.hid (O1.only b2 o2)
  have r2 := Lib.hid (o2.blk r1 (by omega))
  have z2 := o2.1.trans z1
  have S2 := Lib.hid S2
  clear O1 S1 r1 z1 b2 o2 hs
  go_wp2_with fail
  refine (PK.out w2 (i + 2) 40 O2.out S2.out (by omega) (by omega) (by omega)).mono ?_
  rintro e w3 ⟨v2, rfl, l2, u2, S3, b3, o3⟩
  have O3 := Lib.hid (O2.out.only b3 o3)
  have r3 := Lib.hid (o3.blk r2.out (by omega))
  have z3 := o3.1.trans z2
  have S3 := Lib.hid S3
  clear b3 o3 O2 r2 S2 z2
  go_wp2_with fail
  have O4 := O3.out.alloc (.cells #[.string id, .int .i64 (400 + v1), .int .i64 (120 + v2), .int .i64 0, .int .i64 0, .int .i64 0] 27)
  have S4 := S3.out.alloc (.cells #[.string id, .int .i64 (400 + v1), .int .i64 (120 + v2), .int .i64 0, .int .i64 0, .int .i64 0] 27)
  have r4 := r3.out.alloc (.cells #[.string id, .int .i64 (400 + v1), .int .i64 (120 + v2), .int .i64 0, .int .i64 0, .int .i64 0] 27)
  have x4 := Blk.new w3 27 #[.string id, .int .i64 (400 + v1), .int .i64 (120 + v2), .int .i64 0, .int .i64 0, .int .i64 0]
  rw [z3] at x4
  revert O4 S4 r4 x4
  generalize (w3.alloc (.cells #[.string id, .int .i64 (400 + v1), .int .i64 (120 + v2), .int .i64 0, .int .i64 0, .int .i64 0] 27)) = w4
  intro O4 S4 r4 x4
  refine (PK.out w4 (i + 4) 15 O4 S4 (by omega) (by omega) (by omega)).mono ?_
  rintro e w5 ⟨v3, rfl, l3, u3, S5, b5, o5⟩
  have O5 := O4.only b5 o5
  have r5 := o5.blk r4 (by omega)
  have x5 := o5.blk x4 (by omega)
  have f5 := x5.frozen 3
  have k5 : w5.cell? ⟨w.heap.size + 1, 3, none⟩ = some (.int .i64 0) := x5.cell 3
  have O6 := O5.setCell (p := ⟨w.heap.size + 1, 3, none⟩) (by simp) (.int .i64 (30 + v3))
  have S6 := S5.far (p := ⟨w.heap.size + 1, 3, none⟩) (by show g ≠ w.heap.size + 1; omega) (.int .i64 (30 + v3))
  have r6 := r5.far (p := ⟨w.heap.size + 1, 3, none⟩) (by show w.heap.size ≠ w.heap.size + 1; omega) (.int .i64 (30 + v3))
  have x6 := x5.set_ 3 (.int .i64 (30 + v3))
  have O6 := Lib.hid O6
  have S6 := Lib.hid S6
  have r6 := Lib.hid r6
  have x6 := Lib.hid x6
  clear O4 S4 r4 x4 O5 S5 r5 x5 b5 o5
  go_wp2_with fail
  clear f5 k5
  have O6 := O6.out
  have S6 := S6.out
  have r6 := r6.out
  have x6 := x6.out
  revert O6 S6 r6 x6
  generalize (World.setCell w5 ⟨w.heap.size + 1, 3, none⟩ (.int .i64 (30 + v3))) = w6
  intro O6 S6 r6 x6
  refine (PK.out w6 (i + 6) 90 O6 S6 (by omega) (by omega) (by omega)).mono ?_
  rintro e w7 ⟨v4, rfl, l4, u4, S7, b7, o7⟩
  have O7 := O6.only b7 o7
  have r7 := o7.blk r6 (by omega)
  have x7 := o7.blk x6 (by omega)
  have f7 := x7.frozen 4
  have k7 : w7.cell? ⟨w.heap.size + 1, 4, none⟩ = some (.int .i64 0) := x7.cell 4
  have O8 := O7.setCell (p := ⟨w.heap.size + 1, 4, none⟩) (by simp) (.int .i64 (700 + 10 * v4))
  have S8 := S7.far (p := ⟨w.heap.size + 1, 4, none⟩) (by show g ≠ w.heap.size + 1; omega) (.int .i64 (700 + 10 * v4))
  have r8 := r7.far (p := ⟨w.heap.size + 1, 4, none⟩) (by show w.heap.size ≠ w.heap.size + 1; omega) (.int .i64 (700 + 10 * v4))
  have x8 := x7.set_ 4 (.int .i64 (700 + 10 * v4))
  have O8 := Lib.hid O8
  have S8 := Lib.hid S8
  have r8 := Lib.hid r8
  have x8 := Lib.hid x8
  clear O6 S6 r6 x6 O7 S7 r7 x7 b7 o7
  go_wp2_with fail
  clear f7 k7
  have O8 := O8.out
  have S8 := S8.out
  have r8 := r8.out
  have x8 := x8.out
  revert O8 S8 r8 x8
  generalize (World.setCell w7 ⟨w.heap.size + 1, 4, none⟩ (.int .i64 (700 + 10 * v4))) = w8
  intro O8 S8 r8 x8
  refine (PK.out w8 (i + 8) 90 O8 S8 (by omega) (by omega) (by omega)).mono ?_
  rintro e w9 ⟨v5, rfl, l5, u5, S9, b9, o9⟩
  have O9 := O8.only b9 o9
  have r9 := o9.blk r8 (by omega)
  have x9 := o9.blk x8 (by omega)
  have f9 := x9.frozen 5
  have k9 : w9.cell? ⟨w.heap.size + 1, 5, none⟩ = some (.int .i64 0) := x9.cell 5
  have O10 := O9.setCell (p := ⟨w.heap.size + 1, 5, none⟩) (by simp) (.int .i64 (60 + v5))
  have S10 := S9.far (p := ⟨w.heap.size + 1, 5, none⟩) (by show g ≠ w.heap.size + 1; omega) (.int .i64 (60 + v5))
  have r10 := r9.far (p := ⟨w.heap.size + 1, 5, none⟩) (by show w.heap.size ≠ w.heap.size + 1; omega) (.int .i64 (60 + v5))
  have x10 := x9.set_ 5 (.int .i64 (60 + v5))
  have p0 : (World.setCell w9 ⟨w.heap.size + 1, 5, none⟩ (.int .i64 (60 + v5))).cell? ⟨w.heap.size + 1, 0, none⟩ = some (.string id) := x10.cell 0
  have p1 : (World.setCell w9 ⟨w.heap.size + 1, 5, none⟩ (.int .i64 (60 + v5))).cell? ⟨w.heap.size + 1, 1, none⟩ = some (.int .i64 (400 + v1)) := x10.cell 1
  have p2 : (World.setCell w9 ⟨w.heap.size + 1, 5, none⟩ (.int .i64 (60 + v5))).cell? ⟨w.heap.size + 1, 2, none⟩ = some (.int .i64 (120 + v2)) := x10.cell 2
  have p3 : (World.setCell w9 ⟨w.heap.size + 1, 5, none⟩ (.int .i64 (60 + v5))).cell? ⟨w.heap.size + 1, 3, none⟩ = some (.int .i64 (30 + v3)) := x10.cell 3
  have p4 : (World.setCell w9 ⟨w.heap.size + 1, 5, none⟩ (.int .i64 (60 + v5))).cell? ⟨w.heap.size + 1, 4, none⟩ = some (.int .i64 (700 + 10 * v4)) := x10.cell 4
  have p5 : (World.setCell w9 ⟨w.heap.size + 1, 5, none⟩ (.int .i64 (60 + v5))).cell? ⟨w.heap.size + 1, 5, none⟩ = some (.int .i64 (60 + v5)) := x10.cell 5
  have k0 : (World.setCell w9 ⟨w.heap.size + 1, 5, none⟩ (.int .i64 (60 + v5))).cell? ⟨w.heap.size, 0, none⟩ = some (.string ⟨#[]⟩) := r10.cell 0
  have k1 : (World.setCell w9 ⟨w.heap.size + 1, 5, none⟩ (.int .i64 (60 + v5))).cell? ⟨w.heap.size, 1, none⟩ = some (.int .i64 0) := r10.cell 1
  have k2 : (World.setCell w9 ⟨w.heap.size + 1, 5, none⟩ (.int .i64 (60 + v5))).cell? ⟨w.heap.size, 2, none⟩ = some (.int .i64 0) := r10.cell 2
  have k3 : (World.setCell w9 ⟨w.heap.size + 1, 5, none⟩ (.int .i64 (60 + v5))).cell? ⟨w.heap.size, 3, none⟩ = some (.int .i64 0) := r10.cell 3
  have k4 : (World.setCell w9 ⟨w.heap.size + 1, 5, none⟩ (.int .i64 (60 + v5))).cell? ⟨w.heap.size, 4, none⟩ = some (.int .i64 0) := r10.cell 4
  have k5 : (World.setCell w9 ⟨w.heap.size + 1, 5, none⟩ (.int .i64 (60 + v5))).cell? ⟨w.heap.size, 5, none⟩ = some (.int .i64 0) := r10.cell 5
  have z0 := r10.frozen 0
  have z1 := r10.frozen 1
  have z2 := r10.frozen 2
  have z3 := r10.frozen 3
  have z4 := r10.frozen 4
  have z5 := r10.frozen 5
  have O10 := Lib.hid O10
  have S10 := Lib.hid S10
  have r10 := Lib.hid r10
  have gne : g ≠ w.heap.size := by omega
  clear O8 S8 r8 x8 O9 S9 r9 x9 b9 o9 x10
  go_wp2
  have FB := ((((((r10.out.set_ 0 (.string id)).set_ 1 (.int .i64 (400 + v1))).set_ 2 (.int .i64 (120 + v2))).set_ 3 (.int .i64 (30 + v3))).set_ 4 (.int .i64 (700 + 10 * v4))).set_ 5 (.int .i64 (60 + v5)))
  have OW := ((((((O10.out.setCell (p := ⟨w.heap.size, 0, none⟩) (by simp) (.string id)).setCell (p := ⟨w.heap.size, 1, none⟩) (by simp) (.int .i64 (400 + v1))).setCell (p := ⟨w.heap.size, 2, none⟩) (by simp) (.int .i64 (120 + v2))).setCell (p := ⟨w.heap.size, 3, none⟩) (by simp) (.int .i64 (30 + v3))).setCell (p := ⟨w.heap.size, 4, none⟩) (by simp) (.int .i64 (700 + 10 * v4))).setCell (p := ⟨w.heap.size, 5, none⟩) (by simp) (.int .i64 (60 + v5)))
  have SW := ((((((S10.out.far (p := ⟨w.heap.size, 0, none⟩) (by show g ≠ w.heap.size; omega) (.string id)).far (p := ⟨w.heap.size, 1, none⟩) (by show g ≠ w.heap.size; omega) (.int .i64 (400 + v1))).far (p := ⟨w.heap.size, 2, none⟩) (by show g ≠ w.heap.size; omega) (.int .i64 (120 + v2))).far (p := ⟨w.heap.size, 3, none⟩) (by show g ≠ w.heap.size; omega) (.int .i64 (30 + v3))).far (p := ⟨w.heap.size, 4, none⟩) (by show g ≠ w.heap.size; omega) (.int .i64 (700 + 10 * v4))).far (p := ⟨w.heap.size, 5, none⟩) (by show g ≠ w.heap.size; omega) (.int .i64 (60 + v5)))
  clear p0 p1 p2 p3 p4 p5 k0 k1 k2 k3 k4 k5 z0 z1 z2 z3 z4 z5
  revert FB OW SW
  generalize (World.setCell (World.setCell (World.setCell (World.setCell (World.setCell (World.setCell (World.setCell w9 ⟨w.heap.size + 1, 5, none⟩ (.int .i64 (60 + v5))) ⟨w.heap.size, 0, none⟩ (.string id)) ⟨w.heap.size, 1, none⟩ (.int .i64 (400 + v1))) ⟨w.heap.size, 2, none⟩ (.int .i64 (120 + v2))) ⟨w.heap.size, 3, none⟩ (.int .i64 (30 + v3))) ⟨w.heap.size, 4, none⟩ (.int .i64 (700 + 10 * v4))) ⟨w.heap.size, 5, none⟩ (.int .i64 (60 + v5))) = W9
  intro FB OW SW
  have k0 : W9.cell? ⟨w.heap.size, 0, none⟩ = some (.string id) := FB.cell 0
  have k1 : W9.cell? ⟨w.heap.size, 1, none⟩ = some (.int .i64 (400 + v1)) := FB.cell 1
  have k2 : W9.cell? ⟨w.heap.size, 2, none⟩ = some (.int .i64 (120 + v2)) := FB.cell 2
  have k3 : W9.cell? ⟨w.heap.size, 3, none⟩ = some (.int .i64 (30 + v3)) := FB.cell 3
  have k4 : W9.cell? ⟨w.heap.size, 4, none⟩ = some (.int .i64 (700 + 10 * v4)) := FB.cell 4
  have k5 : W9.cell? ⟨w.heap.size, 5, none⟩ = some (.int .i64 (60 + v5)) := FB.cell 5
  refine bodyPost_ret (v := agg6' ⟨id, 400 + v1, 120 + v2, 30 + v3, 700 + 10 * v4, 60 + v5⟩) (by simp [results, Tryz.results24, go_sem, agg6', k0, k1, k2, k3, k4, k5]) rfl ?_
  exact ⟨_, rfl, ⟨rfl, by constructor <;> simp only <;> omega, by constructor <;> simp only <;> omega, by constructor <;> simp only <;> omega, by constructor <;> simp only <;> omega, by constructor <;> simp only <;> omega⟩, SW, OW⟩
end Go.Proofs.YtfmbmgdemdbpaaaGreatDoor
