/- For all texts, the program's ReadList reads what the reference's reads, in memory of its own; texts longer than 2^20 the law lets pass. Conditions: none. -/
import Derived.Test.YtglhlbibaghpjaaDoorRlistB
import Derived.Test.YtglhlbibaghpjaaDoorWrap
import Derived.ProofKit
import Derived.OpenShut
import Derived.ShutString
import Derived.ChangeOld
import Derived.Below
import Derived.Lib.LaidU8
import Derived.LaidMore
import Derived.Lay
import Derived.Stop.Joined
import Derived.SevenTiedAt
import Derived.Test.YtglhlbibaghpjaaDoorTie
import Derived.Test.YtglhlbibaghpjaaDoorCards
namespace Go.Proofs.YtglhlbibaghpjaaDoor.fnExactReadList
open Go.ChangeShapes Go.WideShapes Go.ChangeAt Go.RowKit
open Go.ChangeMaps (open_string shut_string)
set_option linter.unusedVariables false
open Go.Sort

theorem same_self (l : List Int) : sameL l l = true := by simp [sameL]
noncomputable def ys (l : List UInt8) : List Int := if goodL l then xsL l else []
theorem ys_len (l : List UInt8) : (ys l).length ≤ 64 := by
  unfold ys
  split
  · rename_i h
    unfold xsL
    split
    · simp
    · rename_i hn
      rw [goodL_not hn, goodP, Bool.and_eq_true] at h
      rw [vals_len]
      exact of_decide_eq_true h.1
  · simp
theorem read_uni {B : Nat} {w w' : World} {l : List UInt8} {e : Ending} (h : ReadPost B w l e w') : ∃ A c, e = .returned (.tuple #[.slice A (ys l).length c, .bool (goodL l)]) ∧ w'.ownsRow B 2 1 (.slice A (ys l).length c) (ys l).length (iv (ys l)) ∧ Below B w w' := by
  obtain ⟨h | h, hb⟩ := h
  · obtain ⟨hg, v, rfl, ho⟩ := h
    have e : ys l = xsL l := by rw [ys, if_pos hg]
    rw [← e] at ho
    obtain ⟨A, c, rfl⟩ := own_form ho
    exact ⟨A, c, by rw [hg], ho, hb⟩
  · obtain ⟨hg, rfl⟩ := h
    have e : ys l = [] := by rw [ys, hg]; rfl
    rw [e, hg]
    exact ⟨none, 0, rfl, ⟨rfl, .inl ⟨rfl, rfl⟩⟩, hb⟩
theorem markOwn_any (A : Option Addr) (c n base : Nat) (xs : List Value) (k : Int) (w : World) (hown : w.ownsRow base 2 1 (.slice A n c) n xs) (hb : base ≤ w.heap.size) (k0 : 0 ≤ k) (k1 : k + n ≤ 1152921504606846976) :
    Calls Tryd.prog 30 #[.slice A n c, .int .i64 k] w fun e w' => e = .returned (.int .i64 (k + n)) ∧ w'.ownsRow base 2 1 (.slice A n c) n (iv (marks k n)) ∧ Below base w w' := by
  rcases hown.2 with ⟨h0, rfl⟩ | ⟨g, cap, cur, hv, hbg, _⟩
  · obtain ⟨rfl, rfl⟩ : A = none ∧ c = 0 := by simpa using h0
    refine (markNil_any k w).mono ?_
    rintro e w' ⟨rfl, rfl⟩
    exact ⟨by simp, ⟨rfl, .inl ⟨rfl, rfl⟩⟩, Below.refl _ _⟩
  · obtain ⟨rfl, rfl⟩ : A = some ⟨g, 0, none⟩ ∧ c = cap := by simpa using hv
    refine (markInt64S_any g n c base xs k w hown k0 k1).mono ?_
    rintro e w' ⟨rfl, o, gr⟩
    exact ⟨rfl, o, (Below.refl base w).grown gr hb (fun g' hg => by injection hg with hg; rw [← hg]; exact hbg)⟩

set_option maxRecDepth 100000 in
set_option maxHeartbeats 1600000 in
theorem walk (s : ByteArray) (w : World) (tab : PowTab w) (er : ErrVars w) (mx : MaxL w) (w0 : s.size ≤ maxLen) :
    Calls Tryd.prog 8 #[.string s] w fun r w' => r = .returned (.bool true) ∧ Below w.heap.size w w' := by
  by_cases h20 : 1048576 < s.size
  · have q : (1048576 : Int) < (s.size : Int) := by omega
    go_enter Tryd.func8, Tryd.ntmps8
    go_wp2
    go_ret
    exact ⟨rfl, Below.refl _ _⟩
  have q : ¬ (1048576 : Int) < (s.size : Int) := by omega
  have F := Lib.hid (specRlist_any s w (by omega))
  have G := Lib.hid (fun W (hB : Below w.heap.size w W) => implRlist_any s W (by omega) (tab_below tab hB) (err_below er hB) (maxl_below mx hB))
  have YL := Lib.hid (ys_len s.data.toList)
  clear tab er mx
  go_enter Tryd.func8, Tryd.ntmps8
  go_wp2_with fail
  refine F.out.mono ?_
  intro e w1 hp
  obtain ⟨A1, c1, rfl, o1, b1⟩ := read_uni hp
  have R1 := Lib.hid (Reads.of_own o1)
  have B1 := Lib.hid b1
  clear o1 b1 hp
  go_wp2_with fail
  refine (G.out _ B1.out).mono ?_
  intro e w2 hp
  obtain ⟨A2, c2, rfl, o2, b2⟩ := read_uni hp
  obtain ⟨L, hL⟩ : ∃ L, ys s.data.toList = L := ⟨_, rfl⟩
  obtain ⟨b, hbb⟩ : ∃ b, goodL s.data.toList = b := ⟨_, rfl⟩
  have HR := Lib.hid (fun W (hB : Below w.heap.size w W) => (G.out W hB).mono fun e w' hp => read_uni hp)
  rw [hL] at o2 R1 YL HR
  rw [hbb] at HR
  rw [hL, hbb]
  obtain ⟨n, hn⟩ : ∃ n, L.length = n := ⟨_, rfl⟩
  rw [hn] at o2 R1 YL HR
  rw [hn]
  have n64 : n ≤ 64 := YL.out
  have nm := Lib.hid (show n ≤ maxLen by unfold maxLen; omega)
  have R2 := Lib.hid (R1.out.below b2)
  have O2 := Lib.hid o2
  have B2 := Lib.hid (B1.out.trans (b2.mono B1.out.size))
  have S2 := Lib.hid b2.size
  have eb : (b != b) = false := by simp
  clear o2 b2 hp R1 G hL hbb hn YL
  go_wp2_with fail
  refine (eqInt64S_any _ _ n n _ _ L L _ _ _ (Reads.of_own O2.out) R2.out (Nat.le_refl _) S2.out nm.out nm.out).mono ?_
  rintro e w3 ⟨rfl, b3⟩
  rw [same_self]
  have R3 := Lib.hid (R2.out.below (b3.mono S2.out))
  have O3 := Lib.hid (own_below O2.out b3)
  have B3 := Lib.hid (B2.out.trans (b3.mono B2.out.size))
  have S3 := Lib.hid (Nat.le_trans S2.out b3.size)
  clear b3
  go_wp2_with fail
  refine (markOwn_any _ _ _ _ _ 1 _ O3.out S3.out (by omega) (by omega)).mono ?_
  rintro e w4 ⟨rfl, o4, b4⟩
  have R4 := Lib.hid (R3.out.below b4)
  have B4 := Lib.hid (B3.out.trans (b4.mono B1.out.size))
  have S4 := Lib.hid (Nat.le_trans S3.out b4.size)
  have M4 := Lib.hid (Reads.of_own o4)
  clear o4 b4
  have z1 : (0 : Int) ≤ 1 + (n : Int) := by omega
  go_wp2_with fail
  refine (heldInt64S_any _ _ _ _ 1 _ M4.out nm.out (by omega) (by omega)).mono ?_
  rintro e w5 ⟨rfl, rfl⟩
  go_wp2_with fail
  refine (HR.out _ B4.out).mono ?_
  rintro e w5 ⟨A5, c5, rfl, o5, b5⟩
  have R5 := Lib.hid (R4.out.below (b5.mono S4.out))
  have M5 := Lib.hid (M4.out.below b5)
  have O5 := Lib.hid (Reads.of_own o5)
  have S5 := Lib.hid (Nat.le_trans S4.out b5.size)
  have T5 := Lib.hid b5.size
  have B5 := Lib.hid (B4.out.trans (b5.mono B4.out.size))
  clear o5 b5
  go_wp2_with fail
  refine (eqInt64S_any _ _ n n _ _ L L _ _ _ O5.out R5.out (Nat.le_refl _) S5.out nm.out nm.out).mono ?_
  rintro e w6 ⟨rfl, b6⟩
  rw [same_self]
  have M6 := Lib.hid (M5.out.below (b6.mono T5.out))
  have B6 := Lib.hid (B5.out.trans (b6.mono B5.out.size))
  clear b6
  go_wp2_with fail
  refine (heldInt64S_any _ _ _ _ 1 _ M6.out nm.out (by omega) (by omega)).mono ?_
  rintro e w7 ⟨rfl, rfl⟩
  go_wp2
  go_ret
  exact ⟨rfl, B6.out⟩

/-! ### The row's step -/
theorem own : ownKnob Tryd.prog.godebug = none := by kernel_rfl
theorem laidOut : laidOutB Tryd.prog = true := by kernel_rfl
theorem plainL : (Rows.fnExactReadListRow.laid.all fun x => x.2.handleName?.isNone) = true := by kernel_rfl
set_option maxRecDepth 100000 in
theorem lifted (os : Os) (started : os.Started) (H : Type) (enc : TypeId × Value → H) :
    ReturnsInHanded {} Tryd.checked os 8 .any (fun w args => (Rows.fnExactReadListSpec.pre enc Tryd.prog Tryd.f8 Rows.fnExactReadListRow.domain false w args ∧ laidMetH Tryd.prog Rows.fnExactReadListRow.laid w) ∧ sizedMet enc Tryd.prog Tryd.f8 (OpenSpec.ofChange Rows.fnExactReadListSpec) false w args) (Rows.fnExactReadListSpec.post enc Tryd.prog Tryd.f8 false true false false) := by
  refine wrapAndShaped (C := Tryd.checked) (X := (fun w _ => laidMetH Tryd.prog Rows.fnExactReadListRow.laid w)) (fun _ _ _ hh h => h.of_heap hh) own started (by kernel_rfl) Tryd.func8
    (ChangeSpec.witness_shaped (enc := enc) (C := Tryd.checked) (os := os) (X := (fun w _ => laidMetH Tryd.prog Rows.fnExactReadListRow.laid w)) false (World.laidAll Tryd.prog os Rows.fnExactReadListRow.laid) #[.string ByteArray.empty] 8 (World.laidAll_os _ _ _) (World.shaped_of_ZipB (by kernel_rfl) (by kernel_rfl)) (by kernel_rfl) (by kernel_rfl) (by kernel_rfl) (by rw [MakeChecks.laidMetH_plain _ _ _ plainL]; exact laidMet_laidAll _ (by kernel_rfl) (by kernel_rfl))) ?_
  intro W base args ds gs before hval0 hW hcnd hL hsh
  have hval : ∀ (j : Nat) t v, Tryd.f8.params[j]? = some t → args[j]? = some v → Value.okWide Tryd.prog W .any base t v := hval0
  have hW' := hW
  obtain ⟨p, q, hA0, hV, rfl, hfz, hnd⟩ := hW
  have hA : DataW.TrodAll enc Tryd.prog W 0 (fun _ => true) true Tryd.f8.params.toList args.toList ds p := hA0
  rw [Tryd.params8] at hA hval
  obtain ⟨v0, vs0, d0, ds0, p0, q0, hargs, rfl, rfl, h0, r0⟩ := trodAll_cons hA
  obtain ⟨rfl, rfl, rfl⟩ := trodAll_nil r0
  obtain rfl : args = #[v0] := by cases args; simp_all
  obtain ⟨rfl, rfl⟩ := trodVars_none hV
  have k0 := h0
  have lt0 : ∀ x ∈ p0, x.block < W.heap.size := by obtain ⟨m, hm⟩ := k0; exact DataW.trod_lt m _ _ _ hm
  obtain ⟨a0, rfl, rfl, rfl, w0⟩ := open_string Tryd.underlying9 (hval 0 9 v0 rfl rfl) h0
  clear hA0 hval0
  refine (walk a0 W (pow_of_laid plainL hL (by simp [Rows.fnExactReadListRow])) (err_of_laid plainL hL (by simp [Rows.fnExactReadListRow]) (by simp [Rows.fnExactReadListRow])) (Tryd.laysM146.s1_3 W hsh) w0).mono fun e W' ⟨he, bel⟩ => ?_
  subst he
  exact ⟨_, rfl, _, _, _, [], _, [], hW', trodAll_mk1 (shut_bool Tryd.underlying4 _), (trodAll_cons_mk (Below.trod laidOut (by kernel_rfl) (of_decide_eq_true (by kernel_rfl)) k0 bel lt0) trodAll_mk0), rfl, bel.frame _, fun h => by cases h⟩

theorem over : Rows.fnExactReadListRow.holds Tryd.pinned (OpenSpec.ofChange Rows.fnExactReadListSpec) :=
  OpenClaim.holds_of_wide 8 Tryd.f8 rfl rfl rfl rfl rfl rfl rfl ⟨rfl, rfl, rfl, rfl, rfl⟩ rfl rfl rfl rfl rfl (by kernel_rfl) Tryd.func8 (by kernel_rfl)
    (of_decide_eq_true (by kernel_rfl)) (by unfold Func.isWrapper; first | (rw [if_pos (by decide +kernel)]; kernel_rfl) | (rw [if_neg (by decide +kernel)]; exact ⟨rfl, rfl⟩))
    (fun os started H enc _ => lifted os started H enc)

/-- The given statement: the tied card. -/
theorem proved : Rows.FnExactReadListCardSaid :=
  Claim7.holds_tied_plain_at .later [] [.data, .data, .data, .data, .sentinel, .sentinel, .pinned] true (true, "8610680bd0cff2fba2c6926cf0c8391ce34876188d42b0fc78057b4e81bcd11f") true
    over (fun _ h => by cases h) (by kernel_rfl) (fun _ h => by cases h) fnExactReadList_row_tie rfl ⟨rfl, rfl⟩ (by kernel_rfl) rfl
    (fun f fn hf hfn => by
      obtain rfl : f = 8 := Option.some.inj (hf.symm.trans (show Tryd.prog.funcNamed "loop.example/g01061/laws.FnExactReadList" = some 8 by kernel_rfl))
      obtain rfl : fn = Tryd.f8 := (Option.some.inj (Tryd.func8.symm.trans hfn)).symm
      exact ⟨by kernel_rfl, fun j t ht => by
        rw [Tryd.params8] at ht
        have hm : t ∈ [9] := by simpa using Array.mem_of_getElem? ht
        have hall : ([9].all fun u => !Tryd.prog.wantsStandIn u) = true := by kernel_rfl
        exact (show Tryd.prog.wantsStandIn t = false by simpa using List.all_eq_true.1 hall t hm)⟩)
    (by kernel_rfl)
#print axioms proved

end Go.Proofs.YtglhlbibaghpjaaDoor.fnExactReadList
