/- A map of places to bools that the call makes: what it says at each place, made, read and written. -/
import Derived.Maps.OwnOps
import Derived.Maps.OwnSet
import Derived.Maps.Views
import Derived.DeepKeys4
import Derived.WalkArith
import Derived.Test.YtfmbmgdemdbpaaaPlaces
import Derived.Test.YtfmbmgdemdbpaaaQuietT
import Derived.Test.YtfmbmgdemdbpaaaFallP
namespace Go.Proofs.Ytfmbmgdemdbpaaa
open Go Go.RowKit Go.Sort Go.Maps
set_option linter.unusedVariables false

theorem fallLaid : laidOutB Try.prog = true := by kernel_rfl
theorem placeLaw : Keyed Try.prog 34 := Keyed.of_law (deep_law_laid fallLaid (m := 2) (by omega) (of_decide_eq_true (by kernel_rfl)) (by kernel_rfl) (by kernel_rfl))
def plKey (i k : Nat) : Lit := .string (keyBytes [.int .i64 (i : Int), .int .i64 (k : Int)])
theorem keyOf_place {i k : Nat} (hi : i ≤ 10) (hk : k ≤ 10) : keyOf Try.prog 34 (.agg #[.int .i64 (i : Int), .int .i64 (k : Int)]) = some (plKey i k) := by
  have wi : (Lit.int .i64 (i : Int)).wf = true := WalkArith.wf_i64 (by omega)
  have wk : (Lit.int .i64 (k : Int)).wf = true := WalkArith.wf_i64 (by omega)
  have hkt : (Try.prog).keyType 34 = true := by kernel_rfl
  have hc : (Try.prog).cellsOf 34 = 2 := by kernel_rfl
  have h1 : (Try.prog).cellsOf 3 = 1 := by kernel_rfl
  have h0 : 0 < (Try.prog).types.size := of_decide_eq_true (by kernel_rfl)
  obtain ⟨m, hm⟩ : ∃ m, (Try.prog).types.size = m + 1 := ⟨(Try.prog).types.size - 1, by omega⟩
  unfold keyOf
  simp only [Try.underlying34]
  rw [if_pos (by simp [hkt, Value.formed, Try.underlying34, hc]), hm]
  unfold Program.keyLits
  simp only [Try.underlying34, Value.cells]
  rw [if_pos (by rw [hc]; exact ⟨rfl, by simp⟩)]
  simp [h1, Program.keyLits, Try.underlying3, wi, wk, List.mapM_cons, List.mapM_nil, plKey]
theorem plKey_inj {i k i' k' : Nat} (hi : i ≤ 10) (hk : k ≤ 10) (hi' : i' ≤ 10) (hk' : k' ≤ 10) (h : plKey i k = plKey i' k') : i = i' ∧ k = k' := by
  have := placeLaw.inj (keyOf_place hi hk) (by rw [h]; exact keyOf_place hi' hk')
  simp at this
  omega
theorem plKey_lit (i k : Nat) : WideAt.IsKeyLit (plKey i k) := trivial

theorem elem_bool_inv {H : Type} {P : Program} {e : TypeId} (he : P.underlying e = some .bool) {v : Value} {z : DataW H × List MemPlace} (h : plainElem P e v = some z) : ∃ x, v = .bool x ∧ z = (.lit (.bool x), []) := by
  unfold plainElem at h
  rw [he] at h
  cases v <;> simp at h
  exact ⟨_, rfl, h.symm⟩
theorem grown_of_below {w w' : World} {row : Option Nat} (h : Below w.heap.size w w') : w.grownBy w' row := ⟨h.os, h.tape, h.output, h.size, fun k hk _ => h.block k hk⟩
theorem zeroB (w : World) : (zeroValue 4).run Try.prog w = .ok (.bool false) w := by kernel_rfl

/-- block b is a map that says s of the places of n rows and m columns -/
def MapIs (w : World) (b c n m : Nat) (s : Nat → Bool) : Prop :=
  ∃ D, w.ownsMap Try.prog 34 (plainElem (H := Unit) Try.prog 4) b c D ∧ ∀ i k, i < n → k < m → D.atKey (plKey i k) (.lit (.bool false)) = .lit (.bool (s (i * m + k)))
theorem MapIs.made (w : World) (n m : Nat) : MapIs (w.alloc (.map #[] 0)) w.heap.size 0 n m (fun _ => false) :=
  ⟨_, World.ownsMap_made w Try.prog 34 _, fun i k _ _ => rfl⟩
theorem MapIs.kept {w w' : World} {b c n m : Nat} {s : Nat → Bool} {row : Option Nat} (h : MapIs w b c n m s) (hg : w.grownBy w' row) (hne : some b ≠ row) : MapIs w' b c n m s := by
  obtain ⟨D, h1, h2⟩ := h
  exact ⟨D, h1.kept hg hne, h2⟩
theorem MapIs.below {w w' : World} {b c n m : Nat} {s : Nat → Bool} (h : MapIs w b c n m s) (hb : Below w.heap.size w w') : MapIs w' b c n m s := h.kept (grown_of_below (row := none) hb) (by simp)
theorem MapIs.lt {w : World} {b c n m : Nat} {s : Nat → Bool} (h : MapIs w b c n m s) : b < w.heap.size := by obtain ⟨D, h1, _⟩ := h; exact h1.lt
/-- what the map says, in whatever world behind reads and new blocks -/
theorem MapIs.look {w : World} {b c n m i k : Nat} {s : Nat → Bool} (h : MapIs w b c n m s) (hi : i < n) (hk : k < m) (hn : n ≤ 10) (hm : m ≤ 10) :
    (Instr.lookup 30 (.map (some b)) (.agg #[.int .i64 (i : Int), .int .i64 (k : Int)]) false).run Try.prog w = .ok (.bool (s (i * m + k))) w := by
  obtain ⟨D, h1, h2⟩ := h
  obtain ⟨v, ps, hrun, hv⟩ := h1.lookup placeLaw Try.underlying30 (zeroB _) (plainElem_bool Try.underlying4 false) (keyOf_place (i := i) (k := k) (by omega) (by omega))
  obtain ⟨x, rfl, hx⟩ := elem_bool_inv Try.underlying4 hv
  rw [h2 i k hi hk] at hx
  simp at hx
  rw [hx.1]
  exact hrun
theorem MapIs.look_rg {w : World} {b c n m i k : Nat} {s : Nat → Bool} (h : MapIs w b c n m s) (hi : i < n) (hk : k < m) (hn : n ≤ 10) (hm : m ≤ 10) (d : Nat) (os : Array Obj) :
    (Instr.lookup 30 (.map (some b)) (.agg #[.int .i64 (i : Int), .int .i64 (k : Int)]) false).run Try.prog (grow (redrawn w d) os) = .ok (.bool (s (i * m + k))) (grow (redrawn w d) os) :=
  (h.below (below_regrown w d os)).look hi hk hn hm
/-- the store -/
theorem put_place {ops : Array Oper} {rest : List Oper} {o : Oper} {a : Act} {Q : Exit → Act → World → Prop} (w : World) (hg : o.guard = none) (mo x v : Operand) (hop : o.op = Op.mapUpdate 30 mo x v)
    (b c n m i k : Nat) (s : Nat → Bool) (y : Bool) (hm : a.eval mo = .map (some b)) (hM : MapIs w b c n m s) (hc : c < maxLen) (hn : n ≤ 10) (hm' : m ≤ 10) (hi : i < n) (hk : k < m)
    (hx : a.eval x = .agg #[.int .i64 (i : Int), .int .i64 (k : Int)]) (hv : a.eval v = .bool (s (i * m + k) || y))
    (hK : ∀ w', MapIs w' b (c + 1) n m (up s (i * m + k) y) → w.grownBy w' (some b) → wpList Try.prog ops Q rest (a.put o.dst undef) w') : wpList Try.prog ops Q (o :: rest) a w := by
  obtain ⟨D, h1, h2⟩ := hM
  refine wpList_mapUpdate_own w hg mo x v _ hop 34 4 placeLaw Try.underlying30 (plainElem (H := Unit) Try.prog 4) b c D hm h1 hc _ _ _ hx hv (keyOf_place (i := i) (k := k) (by omega) (by omega)) _ _ (plainElem_bool Try.underlying4 _) ?_
  intro w' hw hgr
  refine hK w' ⟨_, hw, fun i' k' hi' hk' => ?_⟩ hgr
  by_cases e : plKey i' k' = plKey i k
  · obtain ⟨rfl, rfl⟩ := plKey_inj (by omega) (by omega) (by omega) (by omega) e
    rw [atKey_put_same h1.isMap (plKey_lit _ _), up_self]
  · rw [atKey_put_other e, h2 i' k' hi' hk', up_other]
    intro h3
    refine e ?_
    have e1 : i' = i := by rw [← div_row (i := i') hk', h3, div_row hk]
    have e2 : k' = k := by rw [← mod_row (i := i') hk', h3, mod_row hk]
    rw [e1, e2]
end Go.Proofs.Ytfmbmgdemdbpaaa
