/- The laws' source of choices: next and pick, what they keep and in which range they lie. -/
import Derived.Test.YtfmbmgdemdbpaaaGreatDoorWords
import Derived.Test.YtfmbmgdemdbpaaaGreatDoorBasic
import Derived.Below
import Derived.BigQuiet
import Derived.Deep.RegionHeld3
namespace Go.Proofs.YtfmbmgdemdbpaaaGreatDoor
open Go.RowKit
set_option linter.unusedVariables false

def u8v (zs : List Int) : List Value := zs.map (Value.int .u8)
theorem u8v_at {l : List Int} {k : Nat} {u : Value} (h : (u8v l)[k]? = some u) : ∃ z ∈ l, u = .int .u8 z := by
  unfold u8v at h
  rw [List.getElem?_map] at h
  cases g : l[k]? with
  | none => rw [g] at h; cases h
  | some x =>
    rw [g] at h
    simp only [Option.map_some, Option.some.injEq] at h
    exact ⟨x, List.mem_of_getElem? g, h.symm⟩
theorem byte_and (s : Int) (h0 : 0 ≤ s) (h1 : s < 18446744073709551616) : 0 ≤ wrap64 (bits BinOp.and IntKind.u64 (s / 1099511627776) 255) ∧ wrap64 (bits BinOp.and IntKind.u64 (s / 1099511627776) 255) ≤ 255 := by
  obtain ⟨m, hm⟩ : ∃ m : Nat, s / 1099511627776 = (m : Int) := ⟨(s / 1099511627776).toNat, by omega⟩
  have h := bits_and_u64_nat m 255 (by omega) (by omega)
  rw [hm]
  have h' : bits BinOp.and IntKind.u64 (m : Int) 255 = ((m &&& 255 : Nat) : Int) := h
  rw [h']
  have hle : m &&& 255 ≤ 255 := Nat.and_le_right
  unfold wrap64
  omega
def SrcPost (w : World) (g : Nat) (A : Option Addr) (n c : Nat) (at' : Int) (lo hi : Int) (e : Ending) (w' : World) : Prop :=
  ∃ v sd, e = .returned (.int .i64 v) ∧ lo ≤ v ∧ v ≤ hi ∧ Blk w' g 62 #[.slice A n c, .int .i64 at', .int .u64 sd] ∧ Below g w w'

set_option maxRecDepth 100000 in
set_option maxHeartbeats 1600000 in
theorem next_any (A : Option Addr) (n c b g : Nat) (zs : List Int) (i : Nat) (sd : Int) (w : World) (hx : Reads w b 1 A n (u8v zs)) (hz : ∀ z ∈ zs, 0 ≤ z ∧ z ≤ 255) (hbg : b ≤ g) (hs : Blk w g 62 #[.slice A n c, .int .i64 (i : Int), .int .u64 sd]) (hi : i ≤ 1099511627776) (hn : n ≤ 1048576) :
    Calls Tryz.prog 53 #[.pointer (some ⟨g, 0, none⟩)] w (SrcPost w g A n c ((i : Int) + 1) 0 255) := by
  have k0 : w.cell? ⟨g, 0, none⟩ = some (.slice A n c) := hs.cell 0
  have k1 : w.cell? ⟨g, 1, none⟩ = some (.int .i64 (i : Int)) := hs.cell 1
  have k2 : w.cell? ⟨g, 2, none⟩ = some (.int .u64 sd) := hs.cell 2
  have z1 := hs.frozen 1
  have z2 := hs.frozen 2
  have HS := Lib.hid hs
  clear hs
  by_cases hlt : i < n
  · obtain ⟨a1, u1, rfl, hbl1, hu1, hc1⟩ := hx.at_ hlt
    obtain ⟨z, hzm, rfl⟩ := u8v_at hu1
    have zb := hz z hzm
    have g1 : (i : Int) < (n : Int) := by omega
    have g2 : (i : Int) + 1 ≤ (n : Int) := by omega
    clear hu1 hzm hx hz
    obtain ⟨s2, hs2⟩ : ∃ s2, IntKind.u64.wrap (IntKind.u64.wrap (IntKind.u64.wrap (sd * 6364136223846793005) + z) + 1442695040888963407) = s2 := ⟨_, rfl⟩
    have kb := fun m => ((HS.out.drewN m).set_ 1 (.int .i64 ((i : Int) + 1))).set_ 2 (.int .u64 s2)
    have c0 : ∀ m, (((w.drewN m).setCell ⟨g, 1, none⟩ (.int .i64 ((i : Int) + 1))).setCell ⟨g, 2, none⟩ (.int .u64 s2)).cell? ⟨g, 0, none⟩ = some (.slice (some a1) n c) := fun m => (kb m).cell 0
    have c1 : ∀ m, (((w.drewN m).setCell ⟨g, 1, none⟩ (.int .i64 ((i : Int) + 1))).setCell ⟨g, 2, none⟩ (.int .u64 s2)).cell? ⟨g, 1, none⟩ = some (.int .i64 ((i : Int) + 1)) := fun m => (kb m).cell 1
    have c2 : ∀ m, (((w.drewN m).setCell ⟨g, 1, none⟩ (.int .i64 ((i : Int) + 1))).setCell ⟨g, 2, none⟩ (.int .u64 s2)).cell? ⟨g, 2, none⟩ = some (.int .u64 s2) := fun m => (kb m).cell 2
    have KB := Lib.hid kb
    have bw := Lib.hid (fun m => ((below_drewN (Below.refl g w) m).setCell (p := ⟨g, 1, none⟩) (Nat.le_refl _) (.int .i64 ((i : Int) + 1))).setCell (p := ⟨g, 2, none⟩) (Nat.le_refl _) (.int .u64 s2))
    clear kb
    go_enter Tryz.func53, Tryz.ntmps53
    go_wp2_with fail
    go_quiet (fail)
    go_wp2_with fail
    go_quiet (fail)
    go_wp2_with fail
    go_quiet (fail)
    go_wp2
    go_ret
    exact ⟨z, s2, rfl, zb.1, zb.2, (KB.out _).drewN _, below_drewN (bw.out _) _⟩
  · have g1 : ¬ (i : Int) < (n : Int) := by omega
    have g2 : ¬ (i : Int) + 1 ≤ (n : Int) := by omega
    obtain ⟨s2, hs2⟩ : ∃ s2, IntKind.u64.wrap (IntKind.u64.wrap (IntKind.u64.wrap (sd * 6364136223846793005)) + 1442695040888963407) = s2 := ⟨_, rfl⟩
    have kb := fun m => ((HS.out.drewN m).set_ 1 (.int .i64 ((i : Int) + 1))).set_ 2 (.int .u64 s2)
    have c0 : ∀ m, (((w.drewN m).setCell ⟨g, 1, none⟩ (.int .i64 ((i : Int) + 1))).setCell ⟨g, 2, none⟩ (.int .u64 s2)).cell? ⟨g, 0, none⟩ = some (.slice A n c) := fun m => (kb m).cell 0
    have c1 : ∀ m, (((w.drewN m).setCell ⟨g, 1, none⟩ (.int .i64 ((i : Int) + 1))).setCell ⟨g, 2, none⟩ (.int .u64 s2)).cell? ⟨g, 1, none⟩ = some (.int .i64 ((i : Int) + 1)) := fun m => (kb m).cell 1
    have c2 : ∀ m, (((w.drewN m).setCell ⟨g, 1, none⟩ (.int .i64 ((i : Int) + 1))).setCell ⟨g, 2, none⟩ (.int .u64 s2)).cell? ⟨g, 2, none⟩ = some (.int .u64 s2) := fun m => (kb m).cell 2
    have KB := Lib.hid kb
    have bw := Lib.hid (fun m => ((below_drewN (Below.refl g w) m).setCell (p := ⟨g, 1, none⟩) (Nat.le_refl _) (.int .i64 ((i : Int) + 1))).setCell (p := ⟨g, 2, none⟩) (Nat.le_refl _) (.int .u64 s2))
    clear kb
    clear hx hz
    go_enter Tryz.func53, Tryz.ntmps53
    go_wp2_with fail
    go_quiet (fail)
    go_wp2_with fail
    go_quiet (fail)
    go_wp2
    go_ret
    have sb : 0 ≤ s2 ∧ s2 < 18446744073709551616 := by rw [← hs2, IntKind.wrap_u64]; omega
    have bb := byte_and s2 sb.1 sb.2
    exact ⟨_, s2, rfl, bb.1, bb.2, (KB.out _).drewN _, below_drewN (bw.out _) _⟩

set_option maxHeartbeats 800000 in
theorem pick_any (A : Option Addr) (n c b g : Nat) (zs : List Int) (i : Nat) (sd k : Int) (w : World) (hx : Reads w b 1 A n (u8v zs)) (hz : ∀ z ∈ zs, 0 ≤ z ∧ z ≤ 255) (hbg : b ≤ g) (hs : Blk w g 62 #[.slice A n c, .int .i64 (i : Int), .int .u64 sd]) (hi : i ≤ 1000000000) (hn : n ≤ 1048576) (hk : 200 < k) (hk2 : k ≤ 60000) :
    Calls Tryz.prog 39 #[.pointer (some ⟨g, 0, none⟩), .int .i64 k] w (SrcPost w g A n c ((i : Int) + 2) 0 (k - 1)) := by
  have F := Lib.hid (next_any A n c b g zs i sd w hx hz hbg hs (by omega) hn)
  have G := Lib.hid (fun W s' (hB : Below g w W) hs' => next_any A n c b g zs (i + 1) s' W (hx.keep fun p hp => hB.cell (by omega)) hz hbg hs' (by omega) hn)
  have g1 : ¬ k ≤ 1 := by omega
  clear hs hx
  go_enter Tryz.func39, Tryz.ntmps39
  go_wp2_with fail
  refine F.out.mono ?_
  rintro e w1 ⟨v1, s1, rfl, l1, u1, h1, b1⟩
  have H1 := Lib.hid h1
  have B1 := Lib.hid b1
  clear h1 b1
  go_wp2_with fail
  refine (G.out w1 s1 B1.out H1.out).mono ?_
  rintro e w2 ⟨v2, s2, rfl, l2, u2, h2, b2⟩
  have H2 := Lib.hid h2
  have B2 := Lib.hid (B1.out.trans b2)
  clear h2 b2
  have gk : ¬ k = 0 := by omega
  obtain ⟨x, hx⟩ : ∃ x, v1 * 256 + v2 = x := ⟨_, rfl⟩
  have xb : 0 ≤ x ∧ x ≤ 65535 := by omega
  have r0 := Int.emod_nonneg x gk
  have r1 := Int.emod_lt_of_pos x (show 0 < k by omega)
  have HR := Lib.hid (And.intro r0 r1)
  have tm : x.tmod k = x % k := Int.tmod_eq_emod_of_nonneg xb.1
  clear r0 r1
  go_wp2
  go_ret
  exact ⟨x % k, s2, rfl, HR.out.1, by have := HR.out.2; omega, by rw [show (i : Int) + 2 = ((i + 1 : Nat) : Int) + 1 by omega]; exact H2.out, B2.out⟩
end Go.Proofs.YtfmbmgdemdbpaaaGreatDoor
