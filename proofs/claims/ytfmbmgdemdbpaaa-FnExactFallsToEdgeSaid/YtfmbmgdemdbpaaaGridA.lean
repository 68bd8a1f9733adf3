/- Grids (slices of slices of int64): the words, and the law's own functions on them: sizes, copies, equality. -/
import Derived.Test.YtfmbmgdemdbpaaaInts
import Derived.Lib.QuietBelow
import Derived.Deep.RegionWith
import Derived.Laws.MakeOwn
namespace Go.Proofs.Ytfmbmgdemdbpaaa
open Go.RowKit Go.Sort

theorem below_of {w w' : World} {d : Nat} {os : Array Obj} (h : w' = grow (redrawn w d) os) : Below w.heap.size w w' := by rw [h]; exact below_regrown w d os
theorem rg_same {P : Program} {f : FuncId} {args : Array Value} {w : World} {d : Nat} {os : Array Obj} {v : Value}
    (h : Calls P f args (grow (redrawn w d) os) fun e w' => e = .returned v ∧ grow (redrawn w d) os = w') : Calls P f args (grow (redrawn w d) os) fun e w'' => e = .returned v ∧ ∃ p : Regrown, w'' = grow (redrawn w p.d) p.os :=
  h.mono fun _ _ ⟨he, hw⟩ => ⟨he, ⟨d, os⟩, hw.symm⟩

def rowZ (Z : List (List Int)) (i : Nat) : List Int := Z.getD i []
/-- a slice of slices that reads as a list of lists, below block b -/
structure Grid (w : World) (b : Nat) (A : Option Addr) (n : Nat) (Z : List (List Int)) : Prop where
  len : Z.length = n
  addr : 0 < n → ∃ ad, A = some ad ∧ ad.block < b
  row : ∀ ad, A = some ad → ∀ i, i < n → ∃ Ai ci, w.cell? (ad.add i) = some (.slice Ai (rowZ Z i).length ci) ∧ Reads w b 1 Ai (rowZ Z i).length (iv (rowZ Z i)) ∧ (rowZ Z i).length ≤ 9223372036854775807
theorem Grid.keep {w w' : World} {b n : Nat} {A : Option Addr} {Z : List (List Int)} (h : Grid w b A n Z) (hk : ∀ p : Addr, p.block < b → w'.cell? p = w.cell? p) : Grid w' b A n Z := by
  refine ⟨h.len, h.addr, fun ad ha i hi => ?_⟩
  obtain ⟨Ai, ci, h1, h2, h3⟩ := h.row ad ha i hi
  obtain ⟨ad', e, hb⟩ := h.addr (by omega)
  rw [ha] at e
  injection e with e
  subst e
  exact ⟨Ai, ci, (hk _ (by rw [block_of_add]; exact hb)).trans h1, h2.keep hk, h3⟩
theorem Grid.below {w w' : World} {b n : Nat} {A : Option Addr} {Z : List (List Int)} (h : Grid w b A n Z) (hb : Below b w w') : Grid w' b A n Z := h.keep fun _ hp => hb.cell hp
theorem Grid.more {w : World} {b b' n : Nat} {A : Option Addr} {Z : List (List Int)} (h : Grid w b A n Z) (hb : b ≤ b') : Grid w b' A n Z := by
  refine ⟨h.len, fun hn => ?_, fun ad ha i hi => ?_⟩
  · obtain ⟨ad, e, hl⟩ := h.addr hn
    exact ⟨ad, e, by omega⟩
  · obtain ⟨Ai, ci, h1, h2, h3⟩ := h.row ad ha i hi
    exact ⟨Ai, ci, h1, h2.more hb, h3⟩

theorem grid_nil (w : World) (b : Nat) (A : Option Addr) : Grid w b A 0 [] := ⟨rfl, fun h => by omega, fun _ _ i hi => by omega⟩
/-- what the frame reads of an argument, as a grid -/
theorem grid_of_rows {w : World} {x : Addr} {l c : Nat} {A : Nat → Option Addr} {L C : Nat → Nat} {ZZ : Nat → List Int} (hl : l ≤ c)
    (h : ∀ r, r < c → w.cell? (x.add r) = some (.slice (A r) (L r) (C r)) ∧ L r ≤ C r ∧ C r ≤ maxLen ∧ (ZZ r).length = C r ∧ (∀ n ∈ ZZ r, (Lit.int .i64 n).wf = true) ∧ (A r = none → C r = 0) ∧
      ∀ a', A r = some a' → 0 ≤ a'.block ∧ ∀ c', c' < C r → w.cell? (a'.add c') = some (.int .i64 ((ZZ r).getD c' 0))) :
    Grid w w.heap.size (some x) l ((List.range l).map fun r => (ZZ r).take (L r)) := by
  have hrow : ∀ i, i < l → rowZ ((List.range l).map fun r => (ZZ r).take (L r)) i = (ZZ i).take (L i) := fun i hi => by
    unfold rowZ
    rw [List.getD_eq_getElem?_getD, List.getElem?_map, List.getElem?_range hi]; rfl
  refine ⟨by simp, fun hn => ⟨x, rfl, ?_⟩, fun ad ha i hi => ?_⟩
  · have := block_lt_of_cell (h 0 (by omega)).1
    rw [block_of_add] at this
    exact this
  · injection ha with ha
    subst ha
    obtain ⟨h1, h2, h3, h4, _, h5, h6⟩ := h i (by omega)
    have hlen : ((ZZ i).take (L i)).length = L i := by rw [List.length_take, h4]; omega
    rw [hrow i hi, hlen]
    refine ⟨A i, C i, h1, ⟨by rw [iv_len, hlen]; omega, fun hpos => ?_⟩, by unfold maxLen at h3; omega⟩
    rcases hA : A i with _ | a'
    · have := h5 hA; omega
    · obtain ⟨_, hc⟩ := h6 a' hA
      refine ⟨a', rfl, ?_, fun j u hu => ?_⟩
      · have := block_lt_of_cell (hc 0 (by omega))
        rw [block_of_add] at this
        exact this
      · have hj : j < L i := by
          have := (List.getElem?_eq_some_iff.1 hu).1
          rw [iv_len, hlen] at this; exact this
        obtain rfl := iv_at hu
        rw [hc j (by omega)]
        congr 2
        rw [List.getD_eq_getElem?_getD, List.getD_eq_getElem?_getD, List.getElem?_take, if_pos hj]

/-! ## Sizes -/
theorem szInt64S_any (A : Option Addr) (n c : Nat) (l : Int) (w : World) (hn : n ≤ 9223372036854775807) (l0 : 0 ≤ l) (l1 : l ≤ 1048576) :
    Calls Try.prog 9 #[.slice A n c, .int .i64 l] w fun e w' => e = .returned (.int .i64 (if l < n then -1 else l - n)) ∧ w = w' := by
  by_cases h : l < n
  · rw [if_pos h]
    go_enter Try.func9, Try.ntmps9
    go_wp2
    go_ret
    exact ⟨rfl, rfl⟩
  · rw [if_neg h]
    go_enter Try.func9, Try.ntmps9
    go_wp2
    go_ret
    exact ⟨rfl, rfl⟩

/-- what the size of a grid leaves of a budget: if it is not below 0, then no row is longer than the budget -/
def SzPost (Z : List (List Int)) (l : Int) (w : World) (e : Ending) (w' : World) : Prop :=
  ∃ r : Int, e = .returned (.int .i64 r) ∧ r ≤ 1048576 ∧ (0 ≤ r → (Z.length : Int) ≤ l ∧ ∀ i, i < Z.length → ((rowZ Z i).length : Int) ≤ l) ∧ Below w.heap.size w w'

set_option maxHeartbeats 800000 in
theorem szInt64SS_any (A : Option Addr) (n c b : Nat) (Z : List (List Int)) (l : Int) (w : World) (hg : Grid w b A n Z) (hn : n ≤ 9223372036854775807) (l0 : 0 ≤ l) (l1 : l ≤ 1048576) :
    Calls Try.prog 4 #[.slice A n c, .int .i64 l] w (SzPost Z l w) := by
  have HL := Lib.hid hg.len
  have HG := Lib.hid hg
  clear hg
  by_cases h : l < n
  · go_enter Try.func4, Try.ntmps4
    go_wp2
    go_ret
    exact ⟨-1, rfl, by omega, fun h => by omega, Below.refl _ _⟩
  · by_cases hz : n = 0
    · subst hz
      go_enter Try.func4, Try.ntmps4
      go_wp2_with fail
      refine wp_loop_rounds 1 ?_
      rw [rounds_succ]
      go_wp2
      go_ret
      exact ⟨l, rfl, l1, fun _ => ⟨by rw [HL.out]; omega, fun i hi => by rw [HL.out] at hi; omega⟩, Below.refl _ _⟩
    · obtain ⟨ad, rfl, hbl⟩ := HG.out.addr (by omega)
      go_enter Try.func4, Try.ntmps4
      go_wp2_with fail
      go_loop [1, 5] (fun m i => ∃ (k : Nat) (r : Int), k ≤ n ∧ 0 ≤ r ∧ r ≤ l ∧ (∀ i, i < k → ((rowZ Z i).length : Int) ≤ l) ∧ m = .int .i64 r ∧ i = .int .i64 k) (fun _ i => n - (intOf i).toNat)
      case atStart => exact ⟨0, l - n, Nat.zero_le _, by omega, by omega, fun i hi => by omega, rfl, rfl⟩
      case round =>
        obtain ⟨k, r, hk, r0, r1, hs, rfl, rfl⟩ := hrel
        have HS := Lib.hid hs
        clear hs
        by_cases hlt : k < n
        · obtain ⟨Ai, ci, h1, h2, h3⟩ := HG.out.row ad rfl k hlt
          clear h2
          by_cases hc : r < (rowZ Z k).length
          · have hv := Lib.hid (if_pos hc : (if r < ((rowZ Z k).length : Int) then (-1 : Int) else r - (rowZ Z k).length) = -1)
            have ca := fun W => szInt64S_any Ai (rowZ Z k).length ci r W h3 r0 (by omega)
            rw [hv.out] at ca
            have CA := Lib.hid ca
            clear ca
            go_wp2_with (go_at_call 9; refine (CA.out _).mono ?_; rintro e w' ⟨rfl, rfl⟩)
            go_ret
            exact ⟨-1, rfl, by omega, fun h => by omega, Below.refl _ _⟩
          · have hv := Lib.hid (if_neg hc : (if r < ((rowZ Z k).length : Int) then (-1 : Int) else r - (rowZ Z k).length) = r - (rowZ Z k).length)
            have ca := fun W => szInt64S_any Ai (rowZ Z k).length ci r W h3 r0 (by omega)
            rw [hv.out] at ca
            have CA := Lib.hid ca
            clear ca
            have st : Hid (∀ i, i < k + 1 → ((rowZ Z i).length : Int) ≤ l) := fun i hi => by
              by_cases e : i = k
              · subst e; omega
              · exact HS.out i (by omega)
            go_wp2_with (go_at_call 9; refine (CA.out _).mono ?_; rintro e w' ⟨rfl, rfl⟩)
            go_round
            case rel => exact ⟨k + 1, _, by omega, by omega, by omega, st.out, rfl, by go_num⟩
            case measure => simp [intOf]; omega
        · obtain rfl : k = n := by omega
          go_wp2
          go_ret
          exact ⟨r, rfl, by omega, fun _ => ⟨by rw [HL.out]; omega, fun i hi => HS.out i (by rw [HL.out] at hi; exact hi)⟩, Below.refl _ _⟩
end Go.Proofs.Ytfmbmgdemdbpaaa
