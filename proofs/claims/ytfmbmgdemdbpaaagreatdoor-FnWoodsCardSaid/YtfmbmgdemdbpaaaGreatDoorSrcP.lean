/- The source of choices, once more: picks of any bound, with a bound on how often it was asked. -/
import Derived.Test.YtfmbmgdemdbpaaaGreatDoorSrc
namespace Go.Proofs.YtfmbmgdemdbpaaaGreatDoor
open Go.RowKit
set_option linter.unusedVariables false

def SrcIn (w : World) (g : Nat) (A : Option Addr) (n c i : Nat) : Prop := ∃ (j : Nat) (sd : Int), j ≤ i ∧ Blk w g 62 #[.slice A n c, .int .i64 (j : Int), .int .u64 sd]
theorem SrcIn.lt {w : World} {g : Nat} {A : Option Addr} {n c i : Nat} (h : SrcIn w g A n c i) : g < w.heap.size := by
  obtain ⟨_, _, _, h⟩ := h
  exact h.lt
theorem SrcIn.more {w : World} {g : Nat} {A : Option Addr} {n c i k : Nat} (h : SrcIn w g A n c i) (hk : i ≤ k) : SrcIn w g A n c k := by
  obtain ⟨j, sd, hj, h⟩ := h
  exact ⟨j, sd, by omega, h⟩
theorem SrcIn.alloc {w : World} {g : Nat} {A : Option Addr} {n c i : Nat} (h : SrcIn w g A n c i) (o : Obj) : SrcIn (w.alloc o) g A n c i := by
  obtain ⟨j, sd, hj, h⟩ := h
  exact ⟨j, sd, hj, h.alloc o⟩
theorem SrcIn.below {w w' : World} {B g : Nat} {A : Option Addr} {n c i : Nat} (h : SrcIn w g A n c i) (hb : Below B w w') (hg : g < B) : SrcIn w' g A n c i := by
  obtain ⟨j, sd, hj, h⟩ := h
  exact ⟨j, sd, hj, h.below hb hg⟩
/-- the world but for one block -/
def But (g : Nat) (w w' : World) : Prop := w'.os = w.os ∧ w'.tape = w.tape ∧ w'.output = w.output ∧ w.heap.size ≤ w'.heap.size ∧ ∀ k, k < w.heap.size → k ≠ g → w'.heap[k]? = w.heap[k]?

set_option maxHeartbeats 800000 in
theorem pickS_any (A : Option Addr) (n c b g : Nat) (zs : List Int) (i : Nat) (sd k : Int) (w : World) (hx : Reads w b 1 A n (u8v zs)) (hz : ∀ z ∈ zs, 0 ≤ z ∧ z ≤ 255) (hbg : b ≤ g) (hs : Blk w g 62 #[.slice A n c, .int .i64 (i : Int), .int .u64 sd]) (hi : i ≤ 1000000000) (hn : n ≤ 1048576) (hk : 1 < k) (hk2 : k ≤ 200) :
    Calls Tryz.prog 39 #[.pointer (some ⟨g, 0, none⟩), .int .i64 k] w (SrcPost w g A n c ((i : Int) + 1) 0 (k - 1)) := by
  have F := Lib.hid (next_any A n c b g zs i sd w hx hz hbg hs (by omega) hn)
  have g1 : ¬ k ≤ 1 := by omega
  have g2 : ¬ 200 < k := by omega
  clear hs hx
  go_enter Tryz.func39, Tryz.ntmps39
  go_wp2_with fail
  refine F.out.mono ?_
  rintro e w1 ⟨x, s1, rfl, l1, u1, h1, b1⟩
  have H1 := Lib.hid h1
  have B1 := Lib.hid b1
  clear h1 b1
  have gk : ¬ k = 0 := by omega
  have r0 := Int.emod_nonneg x gk
  have r1 := Int.emod_lt_of_pos x (show 0 < k by omega)
  have HR := Lib.hid (And.intro r0 r1)
  have tm : x.tmod k = x % k := Int.tmod_eq_emod_of_nonneg l1
  clear r0 r1
  go_wp2
  go_ret
  exact ⟨x % k, s1, rfl, HR.out.1, by have := HR.out.2; omega, H1.out, B1.out⟩

/-- a pick, whatever its bound -/
theorem pickI_any (A : Option Addr) (n c b g : Nat) (zs : List Int) (i : Nat) (k : Int) (w : World) (hx : Reads w b 1 A n (u8v zs)) (hz : ∀ z ∈ zs, 0 ≤ z ∧ z ≤ 255) (hbg : b ≤ g) (hs : SrcIn w g A n c i) (hi : i ≤ 1000000000) (hn : n ≤ 1048576) (hk : 1 < k) (hk2 : k ≤ 60000) :
    Calls Tryz.prog 39 #[.pointer (some ⟨g, 0, none⟩), .int .i64 k] w fun e w' => ∃ v : Int, e = .returned (.int .i64 v) ∧ 0 ≤ v ∧ v ≤ k - 1 ∧ SrcIn w' g A n c (i + 2) ∧ Below g w w' := by
  obtain ⟨j, sd, hj, hs⟩ := hs
  by_cases h2 : 200 < k
  · refine (pick_any A n c b g zs j sd k w hx hz hbg hs (by omega) hn h2 hk2).mono ?_
    rintro e w' ⟨v, s, rfl, l, u, h, bw⟩
    exact ⟨v, rfl, l, u, ⟨j + 2, s, by omega, by rw [show ((j + 2 : Nat) : Int) = (j : Int) + 2 by omega]; exact h⟩, bw⟩
  · refine (pickS_any A n c b g zs j sd k w hx hz hbg hs (by omega) hn hk (by omega)).mono ?_
    rintro e w' ⟨v, s, rfl, l, u, h, bw⟩
    exact ⟨v, rfl, l, u, ⟨j + 1, s, by omega, by rw [show ((j + 1 : Nat) : Int) = (j : Int) + 1 by omega]; exact h⟩, bw⟩
end Go.Proofs.YtfmbmgdemdbpaaaGreatDoor
