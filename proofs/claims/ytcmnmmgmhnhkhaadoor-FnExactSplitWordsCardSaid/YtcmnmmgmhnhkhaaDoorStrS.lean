/- Slices of strings: equality, marking, asking the marks. -/
import Derived.Test.YtcmnmmgmhnhkhaaDoorSplitB
import Derived.Test.YtcmnmmgmhnhkhaaDoorPad
import Derived.BigQuiet
import Derived.Deep.RegionHeld3
namespace Go.Proofs.YtcmnmmgmhnhkhaaDoor
open Go.RowKit Go.Sort
set_option linter.unusedVariables false

theorem tv_at' {l : List (List UInt8)} {k : Nat} {u : Value} (h : (tv l)[k]? = some u) : u = .string ⟨(l.getD k []).toArray⟩ := by
  unfold tv at h
  rw [List.getElem?_map] at h
  cases g : l[k]? with
  | none => rw [g] at h; cases h
  | some x =>
    rw [g] at h
    simp only [Option.map_some, Option.some.injEq] at h
    rw [← h, List.getD_eq_getElem?_getD, g]; rfl

set_option maxHeartbeats 800000 in
theorem eqStringS_same (A B : Option Addr) (n c d : Nat) (xs : List (List UInt8)) (b1 b2 : Nat) (w : World) (hx : Reads w b1 1 A n (tv xs)) (hy : Reads w b2 1 B n (tv xs)) (hb1 : b1 ≤ w.heap.size) (hb2 : b2 ≤ w.heap.size) (hn : n ≤ maxLen) :
    Calls Tryd.prog 8 #[.slice A n c, .slice B n d] w fun e w' => e = .returned (.bool true) ∧ Below w.heap.size w w' := by
  unfold maxLen at hn
  have HX := Lib.hid hx
  have HY := Lib.hid hy
  clear hx hy
  go_enter Tryd.func8, Tryd.ntmps8
  go_wp2_with fail
  go_loopw [5] (fun i wr => ∃ k : Nat, k ≤ n ∧ i = .int .i64 k ∧ Below w.heap.size w wr) (fun i _ => n - (intOf i).toNat)
  case atStart => exact ⟨0, Nat.zero_le _, rfl, Below.refl _ _⟩
  case round =>
    obtain ⟨k, hk, rfl, hb⟩ := hrel
    have HB := Lib.hid hb
    clear hb
    by_cases hlt : k < n
    · obtain ⟨a1, u1, rfl, hbl1, hu1, hc1⟩ := ((HX.out.more hb1).below HB.out).at_ hlt
      obtain ⟨a2, u2, rfl, hbl2, hu2, hc2⟩ := ((HY.out.more hb2).below HB.out).at_ hlt
      obtain rfl := tv_at' hu1
      obtain rfl := tv_at' hu2
      clear hu1 hu2 hbl1 hbl2
      obtain ⟨t, ht⟩ : ∃ t, (⟨(xs.getD k []).toArray⟩ : ByteArray) = t := ⟨_, rfl⟩
      rw [ht] at hc1 hc2
      clear ht
      have g1 : (k : Int) < (n : Int) := by omega
      have g0 : (0 : Int) ≤ (k : Int) := by omega
      have e1 : (t.toList == t.toList) = true := by simp
      go_wp2_with fail
      go_quiet (fail)
      go_wp2
      go_roundw
      case rel => exact ⟨k + 1, by omega, by go_num, below_drewN HB.out _⟩
      case measure => simp [intOf]; omega
    · obtain rfl : k = n := by omega
      go_wp2
      go_ret
      exact ⟨rfl, HB.out⟩

/-- the text of the mark k -/
def mkT (k : Nat) : List UInt8 := 109 :: Lib.decDigits k
def mkS (k n : Nat) : List (List UInt8) := (List.range n).map (fun j : Nat => mkT (k + j))
theorem mkS_len (k n : Nat) : (mkS k n).length = n := by simp [mkS]
theorem mkS_at {k n j : Nat} (h : j < n) : (mkS k n).getD j [] = mkT (k + j) := by
  rw [List.getD_eq_getElem?_getD, mkS, List.getElem?_map, List.getElem?_range h]; rfl
theorem mkS_succ (k n : Nat) : mkS k (n + 1) = mkS k n ++ [mkT (k + n)] := by simp [mkS, List.range_succ]
/-- j marks, then what was there -/
def mixS (k j : Nat) (xs : List Value) : List Value := tv (mkS k j) ++ xs.drop j
theorem mixS_zero (k : Nat) (xs : List Value) : mixS k 0 xs = xs := by simp [mixS, mkS, tv]
theorem mixS_end {k n : Nat} {xs : List Value} (h : xs.length = n) : mixS k n xs = tv (mkS k n) := by simp [mixS, h]
theorem mixS_at {k j : Nat} {xs : List Value} (h : j < xs.length) : ∃ u, (mixS k j xs)[j]? = some u := by
  refine ⟨xs[j], ?_⟩
  unfold mixS
  rw [List.getElem?_append_right (by simp [tv, mkS_len])]
  simp [tv, mkS_len, h]
theorem mixS_set {k j : Nat} {xs : List Value} (h : j < xs.length) : (mixS k j xs).set j (.string ⟨(mkT (k + j)).toArray⟩) = mixS k (j + 1) xs := by
  unfold mixS
  rw [List.set_append_right _ _ (by simp [tv, mkS_len])]
  rw [show j - (tv (mkS k j)).length = 0 by simp [tv, mkS_len]]
  rw [List.drop_eq_getElem_cons h, List.set_cons_zero, mkS_succ]
  simp [tv]
theorem str_app (a b : List UInt8) : (⟨a.toArray⟩ : ByteArray) ++ ⟨b.toArray⟩ = ⟨(a ++ b).toArray⟩ := by
  apply ByteArray.ext; simp
theorem str_size (l : List UInt8) : (⟨l.toArray⟩ : ByteArray).size = l.length := by simp [ByteArray.size]

set_option maxRecDepth 100000 in
set_option maxHeartbeats 1600000 in
theorem markText_any (k : Nat) (w : World) (k0 : 0 < k) (k1 : k ≤ 4611686018427387904) :
    Calls Tryd.prog 28 #[.int .i64 (k : Int)] w fun e w' => e = .returned (.string ⟨(mkT k).toArray⟩) ∧ Below w.heap.size w w' := by
  have RL := Lib.hid (rdg_len (a := k) (by omega))
  have gk : ¬ (k : Int) ≤ 0 := by omega
  go_enter Tryd.func28, Tryd.ntmps28
  go_wp2_with fail
  go_loopw [0, 3] (fun m v wr => ∃ (M : Nat) (ds : List UInt8), (rdg M).reverse ++ ds = (rdg k).reverse ∧ M ≤ k ∧ m = .int .i64 (M : Int) ∧ v = .string ⟨ds.toArray⟩ ∧ Below w.heap.size w wr) (fun m _ _ => (intOf m).toNat)
  case atStart => exact ⟨k, [], by simp, Nat.le_refl _, rfl, rfl, Below.refl _ _⟩
  case round =>
    obtain ⟨M, ds, hd, hM, rfl, rfl, hb⟩ := hrel
    have HD := Lib.hid hd
    have HB := Lib.hid hb
    have dl : ds.length ≤ 20 := by
      have h1 := congrArg List.length hd
      have h2 := RL.out
      rw [List.length_append, List.length_reverse, List.length_reverse] at h1
      omega
    clear hd hb
    have zs := str_size ds
    by_cases hm : M = 0
    · subst hm
      have HR := Lib.hid (show ds = Lib.decDigits k by
        have := HD.out
        rw [rdg_zero] at this
        rw [dec_rdg k (by omega), ← this]; rfl)
      have e1 : (⟨#[109]⟩ : ByteArray) ++ ⟨ds.toArray⟩ = ⟨(mkT k).toArray⟩ := by
        rw [show (⟨#[109]⟩ : ByteArray) = ⟨([109] : List UInt8).toArray⟩ from rfl, str_app, mkT, HR.out]; rfl
      obtain ⟨t, ht⟩ : ∃ t, (⟨ds.toArray⟩ : ByteArray) = t := ⟨_, rfl⟩
      rw [ht] at zs e1 ⊢
      have c1 := fun W => run_string_add_sum (P := Tryd.prog) W ⟨#[109]⟩ t (by show 1 + t.size ≤ _; omega)
      obtain ⟨r, hr⟩ : ∃ r, (⟨#[109]⟩ : ByteArray) ++ t = r := ⟨_, rfl⟩
      rw [hr] at c1 e1
      have E1 := Lib.hid e1
      clear hr e1 ht zs
      go_wp2
      go_ret
      exact ⟨by rw [E1.out]; rfl, HB.out⟩
    · have gM : (0 : Int) < (M : Int) := by omega
      obtain ⟨c, hc⟩ : ∃ c : UInt8, UInt8.ofNat (48 + M % 10) = c := ⟨_, rfl⟩
      have hcn : ((c.toNat : Nat) : Int) = 48 + (M : Int) % 10 := by
        have := byte_digit (show M % 10 < 10 by omega)
        rw [hc] at this
        omega
      have nd := Lib.hid (show (rdg (M / 10)).reverse ++ (c :: ds) = (rdg k).reverse by
        rw [← HD.out, rdg_pos (show 0 < M by omega), hc, List.reverse_cons, List.append_assoc]; rfl)
      have u8 : IntKind.u8.wrap (48 + (M : Int) % 10) = (c.toNat : Int) := by rw [IntKind.wrap_u8]; omega
      obtain ⟨w2, hw2⟩ : ∃ w2, wr.alloc (.cells #[.int .u8 (c.toNat : Int)] 5) = w2 := ⟨_, rfl⟩
      have own := World.ownsRow_lit (base := wr.heap.size) (e := 5) (size := 1) wr #[.int .u8 (c.toNat : Int)] 1 (Nat.le_refl _) (by simp [maxLen]) rfl
      rw [hw2] at own
      have cv := conv_own (l := [c]) own
      have BW := Lib.hid (show Below w.heap.size w w2 by rw [← hw2]; exact HB.out.alloc HB.out.size _)
      have e1 : (⟨([c] : List UInt8).toArray⟩ : ByteArray) ++ ⟨ds.toArray⟩ = ⟨(c :: ds).toArray⟩ := str_app [c] ds
      obtain ⟨t, ht⟩ : ∃ t, (⟨ds.toArray⟩ : ByteArray) = t := ⟨_, rfl⟩
      rw [ht] at zs e1 ⊢
      have zc : (⟨([c] : List UInt8).toArray⟩ : ByteArray).size = 1 := rfl
      obtain ⟨tc, htc⟩ : ∃ t, (⟨([c] : List UInt8).toArray⟩ : ByteArray) = t := ⟨_, rfl⟩
      rw [htc] at e1 cv zc
      have c1 := fun W => run_string_add_sum (P := Tryd.prog) W tc t (by omega)
      obtain ⟨r, hr⟩ : ∃ r, tc ++ t = r := ⟨_, rfl⟩
      rw [hr] at c1 e1
      have E1 := Lib.hid e1
      have HC := Lib.hid hcn
      clear hr e1 ht htc zs zc hc hcn own
      go_wp2
      refine ⟨⟨M / 10, c :: ds, nd.out, by omega, by rw [show ((M / 10 : Nat) : Int) = (M : Int) / 10 by omega], by rw [E1.out], BW.out⟩, ?_⟩
      show ((M : Int) / 10).toNat < ((M : Int)).toNat
      omega

set_option maxRecDepth 100000 in
set_option maxHeartbeats 1600000 in
theorem markStringS_any (g n cap base : Nat) (xs : List Value) (k : Nat) (w : World) (hown : w.ownsRow base 9 1 (.slice (some ⟨g, 0, none⟩) n cap) n xs) (hb0 : base ≤ w.heap.size) (k0 : 0 < k) (k1 : k + n ≤ 1152921504606846976) :
    Calls Tryd.prog 9 #[.slice (some ⟨g, 0, none⟩) n cap, .int .i64 (k : Int)] w
      fun e w' => e = .returned (.int .i64 ((k : Int) + n)) ∧ w'.ownsRow base 9 1 (.slice (some ⟨g, 0, none⟩) n cap) n (tv (mkS k n)) ∧ Below base w w' := by
  have lx := Lib.hid (show xs.length = n by have := hown.1; omega)
  have bg := Lib.hid (show base ≤ g from (hown.lt g rfl).1)
  have HO := Lib.hid hown
  clear hown
  go_enter Tryd.func9, Tryd.ntmps9
  go_wp2_with fail
  go_loopw [1, 5] (fun m i wr => ∃ j : Nat, j ≤ n ∧ m = .int .i64 ((k : Int) + j) ∧ i = .int .i64 j ∧ wr.ownsRow base 9 1 (.slice (some ⟨g, 0, none⟩) n cap) n (mixS k j xs) ∧ Below base w wr) (fun _ i _ => n - (intOf i).toNat)
  case atStart => exact ⟨0, Nat.zero_le _, by go_num, rfl, by rw [mixS_zero]; exact HO.out, Below.refl _ _⟩
  case round =>
    obtain ⟨j, hj, rfl, rfl, ho, hg⟩ := hrel
    have HR := Lib.hid ho
    have HG := Lib.hid hg
    clear ho hg
    by_cases hlt : j < n
    · have MT := fun W => markText_any (k + j) W (by omega) (by omega)
      rw [show (((k + j : Nat)) : Int) = (k : Int) + (j : Int) by omega] at MT
      have MT := Lib.hid MT
      obtain ⟨u, hu⟩ := mixS_at (k := k) (j := j) (xs := xs) (by rw [lx.out]; exact hlt)
      have ms := Lib.hid (mixS_set (k := k) (j := j) (xs := xs) (by rw [lx.out]; exact hlt))
      have g1 : (j : Int) < (n : Int) := by omega
      go_wp2_with fail
      refine (MT.out _).mono ?_
      rintro e w2 ⟨rfl, b2⟩
      have HR2 := Lib.hid (own_below HR.out b2)
      have HG2 := Lib.hid (HG.out.trans (b2.mono (Nat.le_trans hb0 HG.out.size)))
      clear b2
      obtain ⟨t, ht⟩ : ∃ t, (⟨(mkT (k + j)).toArray⟩ : ByteArray) = t := ⟨_, rfl⟩
      rw [ht] at ms ⊢
      have hc : w2.cell? ⟨g, j, none⟩ = some u := (HR2.out.cellAt j (by omega)).trans hu
      have hf := HR2.out.frozenAt j
      have st := Lib.hid (HR2.out.stored j (.string t))
      clear hu ht
      go_wp2
      go_roundw
      case rel => exact ⟨j + 1, by omega, by go_num, by go_num, by rw [← ms.out]; exact st.out.1, HG2.out.setCell (by exact bg.out) _⟩
      case measure => simp [intOf]; omega
    · obtain rfl : j = n := by omega
      have me := Lib.hid (mixS_end (k := k) lx.out)
      go_wp2
      go_ret
      exact ⟨rfl, by rw [← me.out]; exact HR.out, HG.out⟩

theorem markSNil_any (k : Int) (w : World) :
    Calls Tryd.prog 9 #[.slice none 0 0, .int .i64 k] w fun e w' => e = .returned (.int .i64 k) ∧ w = w' := by
  go_enter Tryd.func9, Tryd.ntmps9
  go_wp2_with fail
  refine wp_loop_rounds 1 ?_
  rw [rounds_succ]
  go_wp2
  go_ret
  exact ⟨rfl, rfl⟩

set_option maxRecDepth 100000 in
set_option maxHeartbeats 1600000 in
theorem heldStringS_any (A : Option Addr) (n c b : Nat) (k : Nat) (w : World) (hx : Reads w b 1 A n (tv (mkS k n))) (hb0 : b ≤ w.heap.size) (hn : n ≤ maxLen) (k0 : 0 < k) (k1 : k + n ≤ 1152921504606846976) :
    Calls Tryd.prog 10 #[.slice A n c, .int .i64 (k : Int)] w fun e w' => e = .returned (.int .i64 ((k : Int) + n)) ∧ Below w.heap.size w w' := by
  unfold maxLen at hn
  have HX := Lib.hid hx
  clear hx
  go_enter Tryd.func10, Tryd.ntmps10
  go_wp2_with fail
  go_loopw [1, 5] (fun m i wr => ∃ j : Nat, j ≤ n ∧ m = .int .i64 ((k : Int) + j) ∧ i = .int .i64 j ∧ Below w.heap.size w wr) (fun _ i _ => n - (intOf i).toNat)
  case atStart => exact ⟨0, Nat.zero_le _, by go_num, rfl, Below.refl _ _⟩
  case round =>
    obtain ⟨j, hj, rfl, rfl, hb⟩ := hrel
    have HB := Lib.hid hb
    clear hb
    by_cases hlt : j < n
    · obtain ⟨a1, u1, rfl, hbl1, hu1, hc1⟩ := ((HX.out.more hb0).below HB.out).at_ hlt
      obtain rfl := tv_at' hu1
      rw [mkS_at hlt] at hc1
      have MT := fun W => markText_any (k + j) W (by omega) (by omega)
      rw [show (((k + j : Nat)) : Int) = (k : Int) + (j : Int) by omega] at MT
      obtain ⟨t, ht⟩ : ∃ t, (⟨(mkT (k + j)).toArray⟩ : ByteArray) = t := ⟨_, rfl⟩
      rw [ht] at hc1 MT
      have MT := Lib.hid MT
      have LT := Lib.hid (show (a1.add j).block < wr.heap.size by rw [block_of_add]; have := HB.out.size; omega)
      have g1 : (j : Int) < (n : Int) := by omega
      have e1 : (t.toList == t.toList) = true := by simp
      clear hu1 hbl1 ht
      go_wp2_with fail
      go_region_held3 (fun W => W.cell? (a1.add j) = some (.string t)) (go_keep) (first | (go_at_call 28; refine (MT.out _).mono ?_; rintro e w2 ⟨rfl, b2⟩; have BT := Lib.hid ((below_drewN (Below.refl _ wr) 1).trans b2); have hc2 := (b2.cell (p := a1.add j) LT.out).trans hc1; clear b2))
      all_goals
        go_wp2
        go_roundw
        case rel => exact ⟨j + 1, by omega, by go_num, by go_num, HB.out.trans (BT.out.mono HB.out.size)⟩
        case measure => simp [intOf]; omega
    · obtain rfl : j = n := by omega
      go_wp2
      go_ret
      exact ⟨rfl, HB.out⟩
end Go.Proofs.YtcmnmmgmhnhkhaaDoor
