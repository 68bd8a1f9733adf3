/- The source of choices, once more: what is not its block does not turn. -/
import Derived.Test.YtfmbmgdemdbpaaaGreatDoorSrcP
namespace Go.Proofs.YtfmbmgdemdbpaaaGreatDoor
open Go.RowKit
set_option linter.unusedVariables false

/-- one block alone has turned -/
def Only (g : Nat) (w w' : World) : Prop := w'.heap.size = w.heap.size ∧ ∀ k, k ≠ g → w'.heap[k]? = w.heap[k]?
theorem Only.trans {g : Nat} {a b c : World} (h : Only g a b) (k : Only g b c) : Only g a c := ⟨k.1.trans h.1, fun i hi => (k.2 i hi).trans (h.2 i hi)⟩
theorem Only.blk {g b : Nat} {w w' : World} {t : TypeId} {cs : Array Value} (h : Only g w w') (hb : Blk w b t cs) (hne : b ≠ g) : Blk w' b t cs := (h.2 b hne).trans hb
theorem Only.cell {g : Nat} {w w' : World} {a : Addr} (h : Only g w w') (hne : a.block ≠ g) : w'.cell? a = w.cell? a := World.cell?_of_block (h.2 _ hne)
theorem Only.below {g B : Nat} {w w' : World} (h : Only g w w') (hb : Below g w w') (hB : g < B) : Below g w w' := hb
theorem only_two (w : World) (m m2 g : Nat) (u v : Value) : Only g w ((((w.drewN m).setCell ⟨g, 1, none⟩ u).setCell ⟨g, 2, none⟩ v).drewN m2) :=
  ⟨by simp [World.setCell], fun k hk => (Below.heap_setCell _ ⟨g, 2, none⟩ v k hk).trans (Below.heap_setCell _ ⟨g, 1, none⟩ u k hk)⟩
def SrcPostQ (w : World) (g : Nat) (A : Option Addr) (n c : Nat) (at' : Int) (lo hi : Int) (e : Ending) (w' : World) : Prop :=
  ∃ v sd, e = .returned (.int .i64 v) ∧ lo ≤ v ∧ v ≤ hi ∧ Blk w' g 62 #[.slice A n c, .int .i64 at', .int .u64 sd] ∧ Below g w w' ∧ Only g w w'

set_option maxRecDepth 100000 in
set_option maxHeartbeats 1600000 in
theorem nextQ_any (A : Option Addr) (n c b g : Nat) (zs : List Int) (i : Nat) (sd : Int) (w : World) (hx : Reads w b 1 A n (u8v zs)) (hz : ∀ z ∈ zs, 0 ≤ z ∧ z ≤ 255) (hbg : b ≤ g) (hs : Blk w g 62 #[.slice A n c, .int .i64 (i : Int), .int .u64 sd]) (hi : i ≤ 1099511627776) (hn : n ≤ 1048576) :
    Calls Tryz.prog 53 #[.pointer (some ⟨g, 0, none⟩)] w (SrcPostQ w g A n c ((i : Int) + 1) 0 255) := by
  have k0 : w.cell? ⟨g, 0, none⟩ = some (.slice A n c) := hs.cell 0
  have k1 : w.cell? ⟨g, 1, none⟩ = some (.int .i64 (i : Int)) := hs.cell 1
  have k2 : w.cell? ⟨g, 2, none⟩ = some (.int .u64 sd) := hs.cell 2
  have z1 := hs.frozen 1
  have z2 := hs.frozen 2
  have HS := Lib.hid hs
  clear hs
  by_cases hlt : i < n
  · obtain ⟨a1, u1, rfl, hbl1, hu1, hc1⟩ := hx.at_ hlt
    obtain ⟨z, hzm, rfl⟩ := u8v_at hu1
    have zb := hz z hzm
    have g1 : (i : Int) < (n : Int) := by omega
    have g2 : (i : Int) + 1 ≤ (n : Int) := by omega
    clear hu1 hzm hx hz
    obtain ⟨s2, hs2⟩ : ∃ s2, IntKind.u64.wrap (IntKind.u64.wrap (IntKind.u64.wrap (sd * 6364136223846793005) + z) + 1442695040888963407) = s2 := ⟨_, rfl⟩
    have kb := fun m => ((HS.out.drewN m).set_ 1 (.int .i64 ((i : Int) + 1))).set_ 2 (.int .u64 s2)
    have c0 : ∀ m, (((w.drewN m).setCell ⟨g, 1, none⟩ (.int .i64 ((i : Int) + 1))).setCell ⟨g, 2, none⟩ (.int .u64 s2)).cell? ⟨g, 0, none⟩ = some (.slice (some a1) n c) := fun m => (kb m).cell 0
    have c1 : ∀ m, (((w.drewN m).setCell ⟨g, 1, none⟩ (.int .i64 ((i : Int) + 1))).setCell ⟨g, 2, none⟩ (.int .u64 s2)).cell? ⟨g, 1, none⟩ = some (.int .i64 ((i : Int) + 1)) := fun m => (kb m).cell 1
    have c2 : ∀ m, (((w.drewN m).setCell ⟨g, 1, none⟩ (.int .i64 ((i : Int) + 1))).setCell ⟨g, 2, none⟩ (.int .u64 s2)).cell? ⟨g, 2, none⟩ = some (.int .u64 s2) := fun m => (kb m).cell 2
    have KB := Lib.hid kb
    have on := Lib.hid (fun m m2 => only_two w m m2 g (.int .i64 ((i : Int) + 1)) (.int .u64 s2))
    have bw := Lib.hid (fun m => ((below_drewN (Below.refl g w) m).setCell (p := ⟨g, 1, none⟩) (Nat.le_refl _) (.int .i64 ((i : Int) + 1))).setCell (p := ⟨g, 2, none⟩) (Nat.le_refl _) (.int .u64 s2))
    clear kb
    go_enter Tryz.func53, Tryz.ntmps53
    go_wp2_with fail
    go_quiet (fail)
    go_wp2_with fail
    go_quiet (fail)
    go_wp2_with fail
    go_quiet (fail)
    go_wp2
    go_ret
    exact ⟨z, s2, rfl, zb.1, zb.2, (KB.out _).drewN _, below_drewN (bw.out _) _, on.out _ _⟩
  · have g1 : ¬ (i : Int) < (n : Int) := by omega
    have g2 : ¬ (i : Int) + 1 ≤ (n : Int) := by omega
    obtain ⟨s2, hs2⟩ : ∃ s2, IntKind.u64.wrap (IntKind.u64.wrap (IntKind.u64.wrap (sd * 6364136223846793005)) + 1442695040888963407) = s2 := ⟨_, rfl⟩
    have kb := fun m => ((HS.out.drewN m).set_ 1 (.int .i64 ((i : Int) + 1))).set_ 2 (.int .u64 s2)
    have c0 : ∀ m, (((w.drewN m).setCell ⟨g, 1, none⟩ (.int .i64 ((i : Int) + 1))).setCell ⟨g, 2, none⟩ (.int .u64 s2)).cell? ⟨g, 0, none⟩ = some (.slice A n c) := fun m => (kb m).cell 0
    have c1 : ∀ m, (((w.drewN m).setCell ⟨g, 1, none⟩ (.int .i64 ((i : Int) + 1))).setCell ⟨g, 2, none⟩ (.int .u64 s2)).cell? ⟨g, 1, none⟩ = some (.int .i64 ((i : Int) + 1)) := fun m => (kb m).cell 1
    have c2 : ∀ m, (((w.drewN m).setCell ⟨g, 1, none⟩ (.int .i64 ((i : Int) + 1))).setCell ⟨g, 2, none⟩ (.int .u64 s2)).cell? ⟨g, 2, none⟩ = some (.int .u64 s2) := fun m => (kb m).cell 2
    have KB := Lib.hid kb
    have on := Lib.hid (fun m m2 => only_two w m m2 g (.int .i64 ((i : Int) + 1)) (.int .u64 s2))
    have bw := Lib.hid (fun m => ((below_drewN (Below.refl g w) m).setCell (p := ⟨g, 1, none⟩) (Nat.le_refl _) (.int .i64 ((i : Int) + 1))).setCell (p := ⟨g, 2, none⟩) (Nat.le_refl _) (.int .u64 s2))
    clear kb
    clear hx hz
    go_enter Tryz.func53, Tryz.ntmps53
    go_wp2_with fail
    go_quiet (fail)
    go_wp2_with fail
    go_quiet (fail)
    go_wp2
    go_ret
    have sb : 0 ≤ s2 ∧ s2 < 18446744073709551616 := by rw [← hs2, IntKind.wrap_u64]; omega
    have bb := byte_and s2 sb.1 sb.2
    exact ⟨_, s2, rfl, bb.1, bb.2, (KB.out _).drewN _, below_drewN (bw.out _) _, on.out _ _⟩

set_option maxHeartbeats 800000 in
theorem pickB_any (A : Option Addr) (n c b g : Nat) (zs : List Int) (i : Nat) (sd k : Int) (w : World) (hx : Reads w b 1 A n (u8v zs)) (hz : ∀ z ∈ zs, 0 ≤ z ∧ z ≤ 255) (hbg : b ≤ g) (hs : Blk w g 62 #[.slice A n c, .int .i64 (i : Int), .int .u64 sd]) (hi : i ≤ 1000000000) (hn : n ≤ 1048576) (hk : 200 < k) (hk2 : k ≤ 60000) :
    Calls Tryz.prog 39 #[.pointer (some ⟨g, 0, none⟩), .int .i64 k] w (SrcPostQ w g A n c ((i : Int) + 2) 0 (k - 1)) := by
  have F := Lib.hid (nextQ_any A n c b g zs i sd w hx hz hbg hs (by omega) hn)
  have G := Lib.hid (fun W s' (hB : Below g w W) hs' => nextQ_any A n c b g zs (i + 1) s' W (hx.keep fun p hp => hB.cell (by omega)) hz hbg hs' (by omega) hn)
  have g1 : ¬ k ≤ 1 := by omega
  clear hs hx
  go_enter Tryz.func39, Tryz.ntmps39
  go_wp2_with fail
  refine F.out.mono ?_
  rintro e w1 ⟨v1, s1, rfl, l1, u1, h1, b1, o1⟩
  have H1 := Lib.hid h1
  have B1 := Lib.hid b1
  have O1 := Lib.hid o1
  clear h1 b1 o1
  go_wp2_with fail
  refine (G.out w1 s1 B1.out H1.out).mono ?_
  rintro e w2 ⟨v2, s2, rfl, l2, u2, h2, b2, o2⟩
  have H2 := Lib.hid h2
  have B2 := Lib.hid (B1.out.trans b2)
  have O2 := Lib.hid (O1.out.trans o2)
  clear h2 b2 o2
  have gk : ¬ k = 0 := by omega
  obtain ⟨x, hx⟩ : ∃ x, v1 * 256 + v2 = x := ⟨_, rfl⟩
  have xb : 0 ≤ x ∧ x ≤ 65535 := by omega
  have r0 := Int.emod_nonneg x gk
  have r1 := Int.emod_lt_of_pos x (show 0 < k by omega)
  have HR := Lib.hid (And.intro r0 r1)
  have tm : x.tmod k = x % k := Int.tmod_eq_emod_of_nonneg xb.1
  clear r0 r1
  go_wp2
  go_ret
  exact ⟨x % k, s2, rfl, HR.out.1, by have := HR.out.2; omega, by rw [show (i : Int) + 2 = ((i + 1 : Nat) : Int) + 1 by omega]; exact H2.out, B2.out, O2.out⟩
set_option maxHeartbeats 800000 in
theorem pickT_any (A : Option Addr) (n c b g : Nat) (zs : List Int) (i : Nat) (sd k : Int) (w : World) (hx : Reads w b 1 A n (u8v zs)) (hz : ∀ z ∈ zs, 0 ≤ z ∧ z ≤ 255) (hbg : b ≤ g) (hs : Blk w g 62 #[.slice A n c, .int .i64 (i : Int), .int .u64 sd]) (hi : i ≤ 1000000000) (hn : n ≤ 1048576) (hk : 1 < k) (hk2 : k ≤ 200) :
    Calls Tryz.prog 39 #[.pointer (some ⟨g, 0, none⟩), .int .i64 k] w (SrcPostQ w g A n c ((i : Int) + 1) 0 (k - 1)) := by
  have F := Lib.hid (nextQ_any A n c b g zs i sd w hx hz hbg hs (by omega) hn)
  have g1 : ¬ k ≤ 1 := by omega
  have g2 : ¬ 200 < k := by omega
  clear hs hx
  go_enter Tryz.func39, Tryz.ntmps39
  go_wp2_with fail
  refine F.out.mono ?_
  rintro e w1 ⟨x, s1, rfl, l1, u1, h1, b1, o1⟩
  have H1 := Lib.hid h1
  have B1 := Lib.hid b1
  have O1 := Lib.hid o1
  clear h1 b1 o1
  have gk : ¬ k = 0 := by omega
  have r0 := Int.emod_nonneg x gk
  have r1 := Int.emod_lt_of_pos x (show 0 < k by omega)
  have HR := Lib.hid (And.intro r0 r1)
  have tm : x.tmod k = x % k := Int.tmod_eq_emod_of_nonneg l1
  clear r0 r1
  go_wp2
  go_ret
  exact ⟨x % k, s1, rfl, HR.out.1, by have := HR.out.2; omega, H1.out, B1.out, O1.out⟩

/-- a pick, whatever its bound -/
theorem pickQ_any (A : Option Addr) (n c b g : Nat) (zs : List Int) (i : Nat) (k : Int) (w : World) (hx : Reads w b 1 A n (u8v zs)) (hz : ∀ z ∈ zs, 0 ≤ z ∧ z ≤ 255) (hbg : b ≤ g) (hs : SrcIn w g A n c i) (hi : i ≤ 1000000000) (hn : n ≤ 1048576) (hk : 1 < k) (hk2 : k ≤ 60000) :
    Calls Tryz.prog 39 #[.pointer (some ⟨g, 0, none⟩), .int .i64 k] w fun e w' => ∃ v : Int, e = .returned (.int .i64 v) ∧ 0 ≤ v ∧ v ≤ k - 1 ∧ SrcIn w' g A n c (i + 2) ∧ Below g w w' ∧ Only g w w' := by
  obtain ⟨j, sd, hj, hs⟩ := hs
  by_cases h2 : 200 < k
  · refine (pickB_any A n c b g zs j sd k w hx hz hbg hs (by omega) hn h2 hk2).mono ?_
    rintro e w' ⟨v, s, rfl, l, u, h, bw, ow⟩
    exact ⟨v, rfl, l, u, ⟨j + 2, s, by omega, by rw [show ((j + 2 : Nat) : Int) = (j : Int) + 2 by omega]; exact h⟩, bw, ow⟩
  · refine (pickT_any A n c b g zs j sd k w hx hz hbg hs (by omega) hn hk (by omega)).mono ?_
    rintro e w' ⟨v, s, rfl, l, u, h, bw, ow⟩
    exact ⟨v, rfl, l, u, ⟨j + 1, s, by omega, by rw [show ((j + 1 : Nat) : Int) = (j : Int) + 1 by omega]; exact h⟩, bw, ow⟩
end Go.Proofs.YtfmbmgdemdbpaaaGreatDoor
