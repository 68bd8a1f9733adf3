/- For every text of at most 2^20 bytes and every start, the program's Crc16 returns what the reference's returns; longer ones the law lets pass. Conditions: none. -/
import Derived.Test.YtdglbppnhhhdmaaCrcA
import Derived.ProofKit
import Derived.OpenShut
import Derived.ShutString
import Derived.ChangeOld
import Derived.Below
namespace Go.Proofs.Ytdglbppnhhhdmaa.fnExactCrc16
open Go.ChangeShapes Go.WideShapes Go.ChangeAt Go.RowKit
open Go.ChangeMaps (open_string shut_string)
set_option linter.unusedVariables false

set_option maxRecDepth 20000 in
theorem t1 (s : ByteArray) (a : Int) (w : World) (w0 : s.size ≤ maxLen) (h : 0 ≤ a) (h2 : a ≤ 65535) :
    Calls Try.prog 30 #[.string s, .int .i64 a] w fun r w' => r = .returned (.int .i64 (crcAll s.data.toList a)) ∧ w = w' := by
  unfold maxLen at w0
  have hi := inB_mk h h2
  have fin := Lib.hid (crcTo_all s a)
  go_enter Try.func30, Try.ntmps30
  go_wp2_with (go_at_call 40; refine (within_any _ _ _ _).mono ?_; rintro e w' ⟨rfl, rfl⟩)
  go_loop [1, 5] (fun x i => ∃ (k : Nat), k ≤ s.size ∧ x = .int .i64 (crcTo s.data.toList a k) ∧ i = .int .i64 k) (fun _ i => s.size - (intOf i).toNat)
  case atStart => exact ⟨0, Nat.zero_le _, rfl, rfl⟩
  case round =>
    obtain ⟨k, hk, rfl, rfl⟩ := hrel
    have b := crcTo_bd h (by omega) (s.data.toList.take k)
    obtain ⟨c, hc⟩ : ∃ c, crcTo s.data.toList a k = c := ⟨_, rfl⟩
    rw [show (s.data.toList.take k).foldl byteStep a = c from hc] at b
    rw [hc]
    have HC := Lib.hid hc
    clear hc
    by_cases hlt : k < s.size
    · have hs := Lib.hid (crcTo_succ s a k hlt)
      have hb : (s[k].toNat : Int) < 256 := by have := s[k].toNat_lt; omega
      have m := mix_bd b.1 b.2 s[k]
      go_wp2
      go_loop [1, 22] (fun x i => ∃ (j : Nat), j ≤ 8 ∧ x = .int .i64 (bitSteps j (bits .xor .i64 c ((s[k].toNat : Int) * 256))) ∧ i = .int .i64 j) (fun _ i => 8 - (intOf i).toNat)
      case atStart => exact ⟨0, by omega, rfl, rfl⟩
      case round =>
        obtain ⟨j, hj, rfl, rfl⟩ := hrel
        have n := bitSteps_bd m.1 m.2 j
        obtain ⟨y, hy⟩ : ∃ y, bitSteps j (bits .xor .i64 c ((s[k].toNat : Int) * 256)) = y := ⟨_, rfl⟩
        rw [hy] at n
        rw [hy]
        have HY := Lib.hid hy
        clear hy
        by_cases hj8 : j < 8
        · by_cases h65 : 65535 < y * 2
          · have nb := and_bd (y * 2) (by omega) (by omega)
            go_wp2
            go_round
            case rel => exact ⟨j + 1, by omega, by rw [bitSteps, HY.out, bitStep, if_pos h65], by go_num⟩
            case measure => simp [intOf]; omega
          · go_wp2
            go_round
            case rel => exact ⟨j + 1, by omega, by rw [bitSteps, HY.out, bitStep, if_neg h65], by go_num⟩
            case measure => simp [intOf]; omega
        · obtain rfl : j = 8 := by omega
          go_wp2
          go_round
          case rel => exact ⟨k + 1, by omega, by rw [hs.out, HC.out, byteStep, HY.out], by go_num⟩
          case measure => simp [intOf]; omega
    · obtain rfl : k = s.size := by omega
      go_wp2
      go_ret
      exact ⟨ret_int (by rw [← fin.out, HC.out]), rfl⟩
set_option maxRecDepth 20000 in
theorem t2 (s : ByteArray) (a : Int) (w : World) (w0 : s.size ≤ maxLen) (h : 0 ≤ a) (h2 : a ≤ 65535) :
    Calls Try.prog 55 #[.string s, .int .i64 a] w fun r w' => r = .returned (.int .i64 (crcAll s.data.toList a)) ∧ w = w' := by
  unfold maxLen at w0
  have fin := Lib.hid (crcTo_all s a)
  go_enter Try.func55, Try.ntmps55
  go_wp2
  go_loop [1, 5] (fun x i => ∃ (k : Nat), k ≤ s.size ∧ x = .int .i64 (crcTo s.data.toList a k) ∧ i = .int .i64 k) (fun _ i => s.size - (intOf i).toNat)
  case atStart => exact ⟨0, Nat.zero_le _, rfl, rfl⟩
  case round =>
    obtain ⟨k, hk, rfl, rfl⟩ := hrel
    have b := crcTo_bd h (by omega) (s.data.toList.take k)
    obtain ⟨c, hc⟩ : ∃ c, crcTo s.data.toList a k = c := ⟨_, rfl⟩
    rw [show (s.data.toList.take k).foldl byteStep a = c from hc] at b
    rw [hc]
    have HC := Lib.hid hc
    clear hc
    by_cases hlt : k < s.size
    · have hs := Lib.hid (crcTo_succ s a k hlt)
      have hb : (s[k].toNat : Int) < 256 := by have := s[k].toNat_lt; omega
      have m := mix_bd b.1 b.2 s[k]
      go_wp2
      go_loop [1, 6] (fun x i => ∃ (j : Nat), j ≤ 8 ∧ x = .int .i64 (bitSteps j (bits .xor .i64 c ((s[k].toNat : Int) * 256))) ∧ i = .int .i64 j) (fun _ i => 8 - (intOf i).toNat)
      case atStart => exact ⟨0, by omega, rfl, rfl⟩
      case round =>
        obtain ⟨j, hj, rfl, rfl⟩ := hrel
        have n := bitSteps_bd m.1 m.2 j
        obtain ⟨y, hy⟩ : ∃ y, bitSteps j (bits .xor .i64 c ((s[k].toNat : Int) * 256)) = y := ⟨_, rfl⟩
        rw [hy] at n
        rw [hy]
        have HY := Lib.hid hy
        clear hy
        by_cases hj8 : j < 8
        · by_cases h65 : 65535 < y * 2
          · have nb := and_bd (y * 2) (by omega) (by omega)
            go_wp2
            go_round
            case rel => exact ⟨j + 1, by omega, by rw [bitSteps, HY.out, bitStep, if_pos h65], by go_num⟩
            case measure => simp [intOf]; omega
          · go_wp2
            go_round
            case rel => exact ⟨j + 1, by omega, by rw [bitSteps, HY.out, bitStep, if_neg h65], by go_num⟩
            case measure => simp [intOf]; omega
        · obtain rfl : j = 8 := by omega
          go_wp2
          go_round
          case rel => exact ⟨k + 1, by omega, by rw [hs.out, HC.out, byteStep, HY.out], by go_num⟩
          case measure => simp [intOf]; omega
    · obtain rfl : k = s.size := by omega
      go_wp2
      go_ret
      exact ⟨ret_int (by rw [← fin.out, HC.out]), rfl⟩

def res (s : ByteArray) (a : Int) : Int := if inB a 0 65535 then crcAll s.data.toList a else 0
theorem impl_any (s : ByteArray) (a : Int) (w : World) (w0 : s.size ≤ maxLen) :
    Calls Try.prog 30 #[.string s, .int .i64 a] w fun r w' => r = .returned (.int .i64 (res s a)) ∧ w = w' := by
  cases h1 : inB a 0 65535
  · go_enter Try.func30, Try.ntmps30
    go_wp2_with (go_at_call 40; refine (within_any _ _ _ _).mono ?_; rintro e w' ⟨rfl, rfl⟩)
    go_ret
    exact ⟨ret_int (by simp [res, h1]), rfl⟩
  · have b := inB_t h1
    rw [res, h1, if_pos rfl]
    exact t1 s a w w0 b.1 b.2
theorem spec_any (s : ByteArray) (a : Int) (w : World) (w0 : s.size ≤ maxLen) :
    Calls Try.prog 29 #[.string s, .int .i64 a] w fun r w' => r = .returned (.int .i64 (res s a)) ∧ w = w' := by
  cases h1 : inB a 0 65535
  · go_enter Try.func29, Try.ntmps29
    go_wp2_with (go_at_call 39; refine (in_any _ _ _ _).mono ?_; rintro e w' ⟨rfl, rfl⟩)
    go_ret
    exact ⟨ret_int (by simp [res, h1]), rfl⟩
  · have b := inB_t h1
    have hr := Lib.hid (show res s a = crcAll s.data.toList a by rw [res, h1, if_pos rfl])
    go_enter Try.func29, Try.ntmps29
    go_wp2_with (first | (go_at_call 39; refine (in_any _ _ _ _).mono ?_; rintro e w' ⟨rfl, rfl⟩) | (go_at_call 55; refine (t2 s a _ w0 b.1 b.2).mono ?_; rintro e w' ⟨rfl, rfl⟩))
    go_ret
    exact ⟨ret_int hr.out.symm, rfl⟩
theorem walk (s : ByteArray) (a : Int) (w : World) (w0 : s.size ≤ maxLen) (w1 : (Lit.int .i64 a).wf = true) :
    Calls Try.prog 11 #[.string s, .int .i64 a] w fun r w' => r = .returned (.bool true) ∧ Below w.heap.size w w' := by
  have hs := Lib.hid w0
  unfold maxLen at w0
  by_cases hl : 1048576 < s.size
  · go_enter Try.func11, Try.ntmps11
    go_wp2
    go_ret
    exact ⟨rfl, Below.refl _ _⟩
  · go_enter Try.func11, Try.ntmps11
    go_wp2_with (first | (go_at_call 29; refine (spec_any _ _ _ hs.out).mono ?_; rintro e w' ⟨rfl, rfl⟩) | (go_at_call 30; refine (impl_any _ _ _ hs.out).mono ?_; rintro e w' ⟨rfl, rfl⟩))
    go_ret
    exact ⟨rfl, Below.refl _ _⟩

/-! ### The row's step -/
theorem own : ownKnob Try.prog.godebug = none := by kernel_rfl
theorem laidOut : laidOutB Try.prog = true := by kernel_rfl
set_option maxRecDepth 100000 in
theorem lifted (os : Os) (started : os.Started) (H : Type) (enc : TypeId × Value → H) :
    ReturnsInHanded {} Try.checked os 11 .any (Rows.fnExactCrc16Spec.pre6 enc Try.prog Try.f11 Rows.fnExactCrc16Row.domain false) (Rows.fnExactCrc16Spec.post enc Try.prog Try.f11 false true false false) := by
  refine returnsInHanded_of_change (C := Try.checked) own started (by kernel_rfl) Try.func11
    (ChangeSpec.witness6 (enc := enc) (C := Try.checked) false ⟨#[], #[.string ByteArray.empty, .int .i64 0], []⟩ 8 (by kernel_rfl) (by kernel_rfl) (by kernel_rfl) (by kernel_rfl)) ?_
  intro W base args ds gs before hval0 hW hcnd _
  have hval : ∀ (j : Nat) t v, Try.f11.params[j]? = some t → args[j]? = some v → Value.okWide Try.prog W .any base t v := hval0
  have hW' := hW
  obtain ⟨p, q, hA0, hV, rfl, hfz, hnd⟩ := hW
  have hA : DataW.TrodAll enc Try.prog W 0 (fun _ => true) true Try.f11.params.toList args.toList ds p := hA0
  rw [Try.params11] at hA hval
  obtain ⟨v0, vs0, d0, ds0, p0, q0, hargs, rfl, rfl, h0, r0⟩ := trodAll_cons hA
  obtain ⟨v1, vs1, d1, ds1, p1, q1, rfl, rfl, rfl, h1, r1⟩ := trodAll_cons r0
  obtain ⟨rfl, rfl, rfl⟩ := trodAll_nil r1
  obtain rfl : args = #[v0, v1] := by cases args; simp_all
  obtain ⟨rfl, rfl⟩ := trodVars_none hV
  have k0 := h0
  have lt0 : ∀ x ∈ p0, x.block < W.heap.size := by obtain ⟨m, hm⟩ := k0; exact DataW.trod_lt m _ _ _ hm
  obtain ⟨a0, rfl, rfl, rfl, w0⟩ := open_string Try.underlying9 (hval 0 9 v0 rfl rfl) h0
  have k1 := h1
  have lt1 : ∀ x ∈ p1, x.block < W.heap.size := by obtain ⟨m, hm⟩ := k1; exact DataW.trod_lt m _ _ _ hm
  obtain ⟨a1, rfl, rfl, rfl, w1⟩ := open_int Try.underlying2 (hval 1 2 v1 rfl rfl) h1
  clear hA0 hval0
  refine (walk a0 a1 W w0 w1).mono fun e W' ⟨he, bel⟩ => ?_
  subst he
  exact ⟨_, rfl, _, _, _, [], _, [], hW', trodAll_mk1 (shut_bool Try.underlying4 _), (trodAll_cons_mk (Below.trod laidOut (by kernel_rfl) (of_decide_eq_true (by kernel_rfl)) k0 bel lt0) (trodAll_cons_mk (Below.trod laidOut (by kernel_rfl) (of_decide_eq_true (by kernel_rfl)) k1 bel lt1) trodAll_mk0)), rfl, bel.frame _, fun h => by cases h⟩

theorem over : Rows.fnExactCrc16Row.holds Try.pinned (OpenSpec.ofChange Rows.fnExactCrc16Spec) :=
  OpenClaim.holds_of_wide 11 Try.f11 rfl rfl rfl rfl rfl rfl rfl ⟨rfl, rfl, rfl, rfl, rfl⟩ rfl rfl rfl rfl rfl (by kernel_rfl) Try.func11 (by kernel_rfl)
    (of_decide_eq_true (by kernel_rfl)) (by unfold Func.isWrapper; first | (rw [if_pos (by decide +kernel)]; kernel_rfl) | (rw [if_neg (by decide +kernel)]; exact ⟨rfl, rfl⟩))
    (fun os started H enc _ => lifted os started H enc)

/-- The given statement. -/
theorem proved : Rows.FnExactCrc16Said := over
#print axioms proved

end Go.Proofs.Ytdglbppnhhhdmaa.fnExactCrc16
