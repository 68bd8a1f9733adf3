/- A number below n that one byte of an input chooses. -/
import Derived.Test.YtfmbmgdemdbpaaaGreatDoorR8
namespace Go.Proofs.YtfmbmgdemdbpaaaGreatDoor
open Go.RowKit
set_option linter.unusedVariables false

theorem r8AtN_any (A : Option Addr) (n c b : Nat) (k q : Int) (w : World) (hb : Bytes w b A n) (hn : n ≤ 1048576) (k0 : 0 ≤ k) (k1 : k ≤ 100) (q0 : 2 ≤ q) (q1 : q ≤ 256) :
    Calls Tryz.prog 16 #[.slice A n c, .int .i64 k, .int .i64 q] w fun e w' => ∃ v : Int, e = .returned (.int .i64 v) ∧ 0 ≤ v ∧ v < q ∧ w = w' := by
  obtain ⟨zs, hx, hz⟩ := hb
  obtain ⟨j, rfl⟩ := Int.eq_ofNat_of_zero_le k0
  by_cases hlt : j < n
  · obtain ⟨a1, u1, rfl, hbl1, hu1, hc1⟩ := hx.at_ hlt
    obtain ⟨z, hzm, rfl⟩ := u8v_at hu1
    have zb := hz z hzm
    have g1 : (j : Int) < (n : Int) := by omega
    have gq : ¬ q = 0 := by omega
    have r0 := Int.emod_nonneg z gq
    have r1 := Int.emod_lt_of_pos z (show 0 < q by omega)
    have HR := Lib.hid (And.intro r0 r1)
    have tm : z.tmod q = z % q := Int.tmod_eq_emod_of_nonneg zb.1
    clear hu1 hzm hx hz r0 r1
    go_enter Tryz.func16, Tryz.ntmps16
    go_wp2
    go_ret
    exact ⟨z % q, rfl, HR.out.1, HR.out.2, rfl⟩
  · have g1 : ¬ (j : Int) < (n : Int) := by omega
    clear hx hz
    go_enter Tryz.func16, Tryz.ntmps16
    go_wp2
    go_ret
    exact ⟨0, rfl, by omega, by omega, rfl⟩
end Go.Proofs.YtfmbmgdemdbpaaaGreatDoor
