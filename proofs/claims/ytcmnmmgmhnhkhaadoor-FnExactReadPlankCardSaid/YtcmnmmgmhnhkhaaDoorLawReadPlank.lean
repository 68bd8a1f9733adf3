/- For all texts, the program's ReadPlank reads what the reference's reads; texts longer than 2^20 the law lets pass. Conditions: none. -/
import Derived.Test.YtcmnmmgmhnhkhaaDoorRplE
import Derived.Test.YtcmnmmgmhnhkhaaDoorWrap
import Derived.ProofKit
import Derived.OpenShut
import Derived.ShutString
import Derived.ChangeOld
import Derived.Below
import Derived.Lib.LaidU8
import Derived.LaidMore
import Derived.Lay
import Derived.Stop.Joined
import Derived.SevenTiedAt
import Derived.Test.YtcmnmmgmhnhkhaaDoorTie
import Derived.Test.YtcmnmmgmhnhkhaaDoorCards
namespace Go.Proofs.YtcmnmmgmhnhkhaaDoor.fnExactReadPlank
open Go.ChangeShapes Go.WideShapes Go.ChangeAt Go.RowKit
open Go.ChangeMaps (open_string shut_string)
set_option linter.unusedVariables false
open Go.Sort

theorem rp_impl {l a b : List UInt8} {f : Bool} (hc : Lib.cut l [32] = (a, b, f)) :
    RpIs l (if (f && (goodL b && decide ((ys b).length = 5))) = true then (if validB (plOf a (ys b)) = true then plOf a (ys b) else plNo) else plNo) ((f && (goodL b && decide ((ys b).length = 5))) && validB (plOf a (ys b))) := by
  rcases cut_cases 32 l with ⟨a', b', e, hn, h⟩ | ⟨hn, h⟩
  · rw [hc] at h
    simp only [Prod.mk.injEq] at h
    obtain ⟨rfl, rfl, rfl⟩ := h
    have hs := spl_hit (r := b) hn
    rw [← e] at hs
    by_cases h1 : goodL b = true ∧ (ys b).length = 5
    · obtain ⟨hg, h5⟩ := h1
      have hs2 : spl 32 l = [a, b] := by rw [hs, spl_miss (good_noblank hg)]
      rw [hg, decide_eq_true h5]
      cases hv : validB (plOf a (ys b)) with
      | true => exact .inl ⟨rfl, a, b, hs2, hg, h5, hv, by simp⟩
      | false =>
        refine .inr ⟨rfl, by simp, fun ⟨a', b', e', _, _, h3⟩ => ?_⟩
        rw [hs2] at e'
        simp only [List.cons.injEq, and_true] at e'
        obtain ⟨rfl, rfl⟩ := e'
        rw [hv] at h3; cases h3
    · have hb : (goodL b && decide ((ys b).length = 5)) = false := by
        cases hg : goodL b with
        | false => rfl
        | true => rw [Bool.true_and, decide_eq_false]; exact fun h5 => h1 ⟨hg, h5⟩
      rw [hb]
      refine .inr ⟨rfl, by simp, fun ⟨a', b', e', h2, h3, _⟩ => ?_⟩
      rw [hs] at e'
      simp only [List.cons.injEq] at e'
      have hlen := e'.2
      by_cases hm : (32 : UInt8) ∈ b
      · have := spl_two hm
        rw [hlen] at this; simp at this
      · rw [spl_miss hm] at hlen
        simp only [List.cons.injEq, and_true] at hlen
        rw [← hlen] at h2 h3
        exact h1 ⟨h2, h3⟩
  · rw [hc] at h
    simp only [Prod.mk.injEq] at h
    obtain ⟨rfl, rfl, rfl⟩ := h
    refine .inr ⟨rfl, by simp, fun ⟨a', b', e', _⟩ => ?_⟩
    rw [spl_miss hn] at e'
    simp at e'

theorem implRplank_any (s : ByteArray) (w : World) (hs : s.size ≤ 1048576) (tab : PowTab w) (er : ErrVars w) (mx : MaxL w) :
    Calls Tryd.prog 12 #[.string s] w fun e w' => ∃ p f, RpIs s.data.toList p f ∧ e = .returned (.tuple #[agg6 p, .bool f]) ∧ Below w.heap.size w w' := by
  obtain ⟨⟨a, b, f⟩, hc⟩ : ∃ t, Lib.cut s.data.toList [32] = t := ⟨_, rfl⟩
  have hl := len_data s
  have hab : a.length ≤ 1048576 ∧ b.length ≤ 1048576 := by
    rcases cut_cases 32 s.data.toList with ⟨a', b', e, _, h⟩ | ⟨_, h⟩
    · rw [hc] at h
      simp only [Prod.mk.injEq] at h
      obtain ⟨rfl, rfl, rfl⟩ := h
      have := congrArg List.length e
      rw [List.length_append, List.length_cons] at this
      omega
    · rw [hc] at h
      simp only [Prod.mk.injEq] at h
      obtain ⟨rfl, rfl, rfl⟩ := h
      rw [List.length_nil]; omega
  have R := rp_impl hc
  cases hy : (f && (goodL b && decide ((ys b).length = 5))) with
  | false =>
    rw [hy] at R
    refine (implRplank_no s w hs tab er mx a b f hc hab.2 hy).mono ?_
    rintro e w' ⟨rfl, bw⟩
    exact ⟨plNo, false, R, rfl, bw⟩
  | true =>
    rw [hy] at R
    refine (implRplank_yes s w hs tab er mx a b f hc hab.2 hab.1 hy).mono ?_
    rintro e w' ⟨rfl, bw⟩
    exact ⟨_, _, R, rfl, bw⟩

set_option maxHeartbeats 800000 in
theorem eqPlank_same (p : Pl) (w : World) :
    Calls Tryd.prog 13 #[agg6 p, agg6 p] w fun e w' => e = .returned (.bool true) ∧ Below w.heap.size w w' := by
  have B2 : Below w.heap.size w ((w.alloc (.cells #[.string p.id, .int .i64 p.l, .int .i64 p.wd, .int .i64 p.t, .int .i64 p.m, .int .i64 p.r] 28)).alloc (.cells #[.string p.id, .int .i64 p.l, .int .i64 p.wd, .int .i64 p.t, .int .i64 p.m, .int .i64 p.r] 28)) := ((Below.refl _ _).alloc (Nat.le_refl _) _).alloc (by simp) _
  have b1 := (Blk.new w 28 #[.string p.id, .int .i64 p.l, .int .i64 p.wd, .int .i64 p.t, .int .i64 p.m, .int .i64 p.r]).alloc (.cells #[.string p.id, .int .i64 p.l, .int .i64 p.wd, .int .i64 p.t, .int .i64 p.m, .int .i64 p.r] 28)
  have b2 := Blk.new (w.alloc (.cells #[.string p.id, .int .i64 p.l, .int .i64 p.wd, .int .i64 p.t, .int .i64 p.m, .int .i64 p.r] 28)) 28 #[.string p.id, .int .i64 p.l, .int .i64 p.wd, .int .i64 p.t, .int .i64 p.m, .int .i64 p.r]
  have k0 := b1.cell 0
  have k1 := b1.cell 1
  have k2 := b1.cell 2
  have k3 := b1.cell 3
  have k4 := b1.cell 4
  have k5 := b1.cell 5
  have j0 := b2.cell 0
  have j1 := b2.cell 1
  have j2 := b2.cell 2
  have j3 := b2.cell 3
  have j4 := b2.cell 4
  have j5 := b2.cell 5
  have e0 : (p.id.toList == p.id.toList) = true := by simp
  simp at k0 k1 k2 k3 k4 k5 j0 j1 j2 j3 j4 j5
  have B2 := Lib.hid B2
  clear b1 b2
  unfold agg6
  go_enter Tryd.func13, Tryd.ntmps13
  go_wp2
  all_goals
    go_ret
    exact ⟨rfl, B2.out⟩

set_option maxHeartbeats 1600000 in
theorem walk (s : ByteArray) (w : World) (tab : PowTab w) (er : ErrVars w) (mx : MaxL w) (w0 : s.size ≤ maxLen) :
    Calls Tryd.prog 4 #[.string s] w fun r w' => r = .returned (.bool true) ∧ Below w.heap.size w w' := by
  by_cases h20 : 1048576 < s.size
  · have q : (1048576 : Int) < (s.size : Int) := by omega
    go_enter Tryd.func4, Tryd.ntmps4
    go_wp2
    go_ret
    exact ⟨rfl, Below.refl _ _⟩
  have q : ¬ (1048576 : Int) < (s.size : Int) := by omega
  have F := Lib.hid (specRplank_any s w (by omega))
  have G := Lib.hid (fun W (hB : Below w.heap.size w W) => implRplank_any s W (by omega) (tab_below tab hB) (err_below er hB) (maxl_below mx hB))
  clear tab er mx
  go_enter Tryd.func4, Tryd.ntmps4
  go_wp2_with fail
  refine F.out.mono ?_
  rintro e w1 ⟨p, f, hp, rfl, b1⟩
  have HP := Lib.hid hp
  have B1 := Lib.hid b1
  have B1' := Lib.hid (B1.out.alloc B1.out.size (.cells #[.string p.id, .int .i64 p.l, .int .i64 p.wd, .int .i64 p.t, .int .i64 p.m, .int .i64 p.r] 28))
  have bk1 := Lib.hid (Blk.new w1 28 #[.string p.id, .int .i64 p.l, .int .i64 p.wd, .int .i64 p.t, .int .i64 p.m, .int .i64 p.r])
  have ef : (f != f) = false := by simp
  have ef2 : (f == f) = true := by simp
  clear hp b1
  unfold agg6
  go_wp2_with fail
  refine (G.out _ B1'.out).mono ?_
  rintro e w2 ⟨p2, f2, hp2, rfl, b2⟩
  obtain ⟨rfl, rfl⟩ := rp_one HP.out hp2
  have bk2 := bk1.out.below b2 bk1.out.lt
  have B2 := Lib.hid (B1'.out.trans (b2.mono B1'.out.size))
  have bk3 := bk2.alloc (.cells #[.string p.id, .int .i64 p.l, .int .i64 p.wd, .int .i64 p.t, .int .i64 p.m, .int .i64 p.r] 28)
  have bn := Blk.new w2 28 #[.string p.id, .int .i64 p.l, .int .i64 p.wd, .int .i64 p.t, .int .i64 p.m, .int .i64 p.r]
  have B3 := Lib.hid (B2.out.alloc B2.out.size (.cells #[.string p.id, .int .i64 p.l, .int .i64 p.wd, .int .i64 p.t, .int .i64 p.m, .int .i64 p.r] 28))
  have k0 := bk3.cell 0
  have k1 := bk3.cell 1
  have k2 := bk3.cell 2
  have k3 := bk3.cell 3
  have k4 := bk3.cell 4
  have k5 := bk3.cell 5
  have j0 := bn.cell 0
  have j1 := bn.cell 1
  have j2 := bn.cell 2
  have j3 := bn.cell 3
  have j4 := bn.cell 4
  have j5 := bn.cell 5
  simp at k0 k1 k2 k3 k4 k5 j0 j1 j2 j3 j4 j5
  clear hp2 b2 bk2 bk3 bn
  unfold agg6
  go_wp2_with fail
  refine (eqPlank_same p _).mono ?_
  rintro e w3 ⟨rfl, b3⟩
  have B4 := Lib.hid (B3.out.trans (b3.mono B3.out.size))
  clear b3
  go_wp2
  go_ret
  exact ⟨rfl, B4.out⟩

/-! ### The row's step -/
theorem own : ownKnob Tryd.prog.godebug = none := by kernel_rfl
theorem laidOut : laidOutB Tryd.prog = true := by kernel_rfl
theorem plainL : (Rows.fnExactReadPlankRow.laid.all fun x => x.2.handleName?.isNone) = true := by kernel_rfl
set_option maxRecDepth 100000 in
theorem lifted (os : Os) (started : os.Started) (H : Type) (enc : TypeId × Value → H) :
    ReturnsInHanded {} Tryd.checked os 4 .any (fun w args => (Rows.fnExactReadPlankSpec.pre enc Tryd.prog Tryd.f4 Rows.fnExactReadPlankRow.domain false w args ∧ laidMetH Tryd.prog Rows.fnExactReadPlankRow.laid w) ∧ sizedMet enc Tryd.prog Tryd.f4 (OpenSpec.ofChange Rows.fnExactReadPlankSpec) false w args) (Rows.fnExactReadPlankSpec.post enc Tryd.prog Tryd.f4 false true false false) := by
  refine wrapAndShaped (C := Tryd.checked) (X := (fun w _ => laidMetH Tryd.prog Rows.fnExactReadPlankRow.laid w)) (fun _ _ _ hh h => h.of_heap hh) own started (by kernel_rfl) Tryd.func4
    (ChangeSpec.witness_shaped (enc := enc) (C := Tryd.checked) (os := os) (X := (fun w _ => laidMetH Tryd.prog Rows.fnExactReadPlankRow.laid w)) false (World.laidAll Tryd.prog os Rows.fnExactReadPlankRow.laid) #[.string ByteArray.empty] 8 (World.laidAll_os _ _ _) (World.shaped_of_ZipB (by kernel_rfl) (by kernel_rfl)) (by kernel_rfl) (by kernel_rfl) (by kernel_rfl) (by rw [MakeChecks.laidMetH_plain _ _ _ plainL]; exact laidMet_laidAll _ (by kernel_rfl) (by kernel_rfl))) ?_
  intro W base args ds gs before hval0 hW hcnd hL hsh
  have hval : ∀ (j : Nat) t v, Tryd.f4.params[j]? = some t → args[j]? = some v → Value.okWide Tryd.prog W .any base t v := hval0
  have hW' := hW
  obtain ⟨p, q, hA0, hV, rfl, hfz, hnd⟩ := hW
  have hA : DataW.TrodAll enc Tryd.prog W 0 (fun _ => true) true Tryd.f4.params.toList args.toList ds p := hA0
  rw [Tryd.params4] at hA hval
  obtain ⟨v0, vs0, d0, ds0, p0, q0, hargs, rfl, rfl, h0, r0⟩ := trodAll_cons hA
  obtain ⟨rfl, rfl, rfl⟩ := trodAll_nil r0
  obtain rfl : args = #[v0] := by cases args; simp_all
  obtain ⟨rfl, rfl⟩ := trodVars_none hV
  have k0 := h0
  have lt0 : ∀ x ∈ p0, x.block < W.heap.size := by obtain ⟨m, hm⟩ := k0; exact DataW.trod_lt m _ _ _ hm
  obtain ⟨a0, rfl, rfl, rfl, w0⟩ := open_string Tryd.underlying9 (hval 0 9 v0 rfl rfl) h0
  clear hA0 hval0
  refine (walk a0 W (pow_of_laid plainL hL (by simp [Rows.fnExactReadPlankRow])) (err_of_laid plainL hL (by simp [Rows.fnExactReadPlankRow]) (by simp [Rows.fnExactReadPlankRow])) (Tryd.laysM146.s1_3 W hsh) w0).mono fun e W' ⟨he, bel⟩ => ?_
  subst he
  exact ⟨_, rfl, _, _, _, [], _, [], hW', trodAll_mk1 (shut_bool Tryd.underlying4 _), (trodAll_cons_mk (Below.trod laidOut (by kernel_rfl) (of_decide_eq_true (by kernel_rfl)) k0 bel lt0) trodAll_mk0), rfl, bel.frame _, fun h => by cases h⟩

theorem over : Rows.fnExactReadPlankRow.holds Tryd.pinned (OpenSpec.ofChange Rows.fnExactReadPlankSpec) :=
  OpenClaim.holds_of_wide 4 Tryd.f4 rfl rfl rfl rfl rfl rfl rfl ⟨rfl, rfl, rfl, rfl, rfl⟩ rfl rfl rfl rfl rfl (by kernel_rfl) Tryd.func4 (by kernel_rfl)
    (of_decide_eq_true (by kernel_rfl)) (by unfold Func.isWrapper; first | (rw [if_pos (by decide +kernel)]; kernel_rfl) | (rw [if_neg (by decide +kernel)]; exact ⟨rfl, rfl⟩))
    (fun os started H enc _ => lifted os started H enc)

/-- The given statement: the tied card. -/
theorem proved : Rows.FnExactReadPlankCardSaid :=
  Claim7.holds_tied_plain_at .later [] [.data, .data, .data, .data, .sentinel, .sentinel, .pinned] true (true, "a03b88b25909e291fa260ec79af525e6b3f91936ee4a590c2f74c55140c73597") true
    over (fun _ h => by cases h) (by kernel_rfl) (fun _ h => by cases h) fnExactReadPlank_row_tie rfl ⟨rfl, rfl⟩ (by kernel_rfl) rfl
    (fun f fn hf hfn => by
      obtain rfl : f = 4 := Option.some.inj (hf.symm.trans (show Tryd.prog.funcNamed "loop.example/g01061/laws.FnExactReadPlank" = some 4 by kernel_rfl))
      obtain rfl : fn = Tryd.f4 := (Option.some.inj (Tryd.func4.symm.trans hfn)).symm
      exact ⟨by kernel_rfl, fun j t ht => by
        rw [Tryd.params4] at ht
        have hm : t ∈ [9] := by simpa using Array.mem_of_getElem? ht
        have hall : ([9].all fun u => !Tryd.prog.wantsStandIn u) = true := by kernel_rfl
        exact (show Tryd.prog.wantsStandIn t = false by simpa using List.all_eq_true.1 hall t hm)⟩)
    (by kernel_rfl)
#print axioms proved

end Go.Proofs.YtcmnmmgmhnhkhaaDoor.fnExactReadPlank
