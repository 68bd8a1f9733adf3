/- An argument that is a list of planks, opened; what a law knows of it, call after call. -/
import Derived.Test.YtfmbmgdemdbpaaaGreatDoorPvalid
import Derived.Test.YtfmbmgdemdbpaaaGreatDoorAgg
import Derived.Deep.Slices
namespace Go.Proofs.YtfmbmgdemdbpaaaGreatDoor
open Go.Joins Go.ChangeShapes Go.WideShapes Go.RowKit Go.Deep

section
variable {H : Type} {enc : TypeId × Value → H} {P : Program} {w : World} {base : Nat} {spare : Nat → Bool} {held : Bool}
/-- one element -/
theorem plank_cells {e : TypeId} {f0 f1 f2 f3 f4 f5 : Field} {fuel : Nat} {cs : List Value} {x : DataW H × List MemPlace} (he : P.underlying e = some (.struct #[f0, f1, f2, f3, f4, f5])) (hone : oneCellFields P #[f0, f1, f2, f3, f4, f5] = true) (hC : P.cellsOf e = 6)
    (t0 : P.underlying f0.type = some .string) (t1 : P.underlying f1.type = some (.int .i64)) (t2 : P.underlying f2.type = some (.int .i64)) (t3 : P.underlying f3.type = some (.int .i64)) (t4 : P.underlying f4.type = some (.int .i64)) (t5 : P.underlying f5.type = some (.int .i64))
    (h : DataW.trod enc P w base spare held fuel e cs = some x) : ∃ p : Pl, cs = cells6 p ∧ p.id.size ≤ maxLen := by
  obtain ⟨xs, n, _, _, hl, hlen, hg⟩ := DataW.trod_struct he h
  obtain ⟨o0, k0⟩ := hone_of hone 0 f0 rfl
  obtain ⟨o1, k1⟩ := hone_of hone 1 f1 rfl
  obtain ⟨o2, k2⟩ := hone_of hone 2 f2 rfl
  obtain ⟨o3, k3⟩ := hone_of hone 3 f3 rfl
  obtain ⟨o4, k4⟩ := hone_of hone 4 f4 rfl
  obtain ⟨o5, k5⟩ := hone_of hone 5 f5 rfl
  match cs, hl.trans hC with
  | [c0, c1, c2, c3, c4, c5], _ =>
    match xs, hlen with
    | [y0, y1, y2, y3, y4, y5], _ =>
      obtain ⟨s, e0, _, hs⟩ := DataW.trod_string t0 (show DataW.trod enc P w base spare held n f0.type [c0] = some y0 by simpa [o0, k0] using hg 0 f0 rfl)
      obtain ⟨n1, e1, _, _⟩ := DataW.trod_int t1 (show DataW.trod enc P w base spare held n f1.type [c1] = some y1 by simpa [o1, k1] using hg 1 f1 rfl)
      obtain ⟨n2, e2, _, _⟩ := DataW.trod_int t2 (show DataW.trod enc P w base spare held n f2.type [c2] = some y2 by simpa [o2, k2] using hg 2 f2 rfl)
      obtain ⟨n3, e3, _, _⟩ := DataW.trod_int t3 (show DataW.trod enc P w base spare held n f3.type [c3] = some y3 by simpa [o3, k3] using hg 3 f3 rfl)
      obtain ⟨n4, e4, _, _⟩ := DataW.trod_int t4 (show DataW.trod enc P w base spare held n f4.type [c4] = some y4 by simpa [o4, k4] using hg 4 f4 rfl)
      obtain ⟨n5, e5, _, _⟩ := DataW.trod_int t5 (show DataW.trod enc P w base spare held n f5.type [c5] = some y5 by simpa [o5, k5] using hg 5 f5 rfl)
      simp only [List.cons.injEq, and_true] at e0 e1 e2 e3 e4 e5
      subst e0 e1 e2 e3 e4 e5
      exact ⟨⟨s, n1, n2, n3, n4, n5⟩, rfl, hs⟩

theorem open_planks {t e : TypeId} {f0 f1 f2 f3 f4 f5 : Field} {A : Option Addr} {len cap : Nat} {d : DataW H} {p : List MemPlace} (ht : P.underlying t = some (.slice e)) (he : P.underlying e = some (.struct #[f0, f1, f2, f3, f4, f5])) (hone : oneCellFields P #[f0, f1, f2, f3, f4, f5] = true) (hC : P.cellsOf e = 6)
    (t0 : P.underlying f0.type = some .string) (t1 : P.underlying f1.type = some (.int .i64)) (t2 : P.underlying f2.type = some (.int .i64)) (t3 : P.underlying f3.type = some (.int .i64)) (t4 : P.underlying f4.type = some (.int .i64)) (t5 : P.underlying f5.type = some (.int .i64))
    (h : DataW.Trod enc P w base spare held t (.slice A len cap) d p) : ∃ ps, Reads w w.heap.size 6 A len (plv ps) ∧ Short ps len ∧ len ≤ 9223372036854775807 := by
  obtain ⟨fuel, hf⟩ := h
  rcases open_slice ht hf with ⟨hcs, _⟩ | ⟨a, l, c, m, n, D, Pl', hcs, _, hl, hm, hmm, _, hel⟩
  · simp [Value.cells] at hcs
    obtain ⟨rfl, rfl, rfl⟩ := hcs
    exact ⟨[], ⟨rfl, fun hn => absurd hn (by omega)⟩, fun k hk => by omega, by omega⟩
  · simp [Value.cells] at hcs
    obtain ⟨rfl, rfl, rfl⟩ := hcs
    have hlm : len ≤ m := by rw [hmm]; split <;> omega
    have each : ∀ i, i < len → ∃ q : Pl, q.id.size ≤ maxLen ∧ ∀ j, j < 6 → w.cell? ((a.add (i * 6)).add j) = (cells6 q)[j]? := fun i hi => by
      obtain ⟨cs', h1, h2⟩ := hel i (by omega)
      rw [hC] at h1
      obtain ⟨q, rfl, hq⟩ := plank_cells he hone hC t0 t1 t2 t3 t4 t5 h2
      exact ⟨q, hq, fun j hj => (World.cells?_some h1).2.2 j hj⟩
    let F : Nat → Pl := fun i => if hi : i < len then (each i hi).choose else pl0
    have hF : ∀ i, i < len → (F i).id.size ≤ maxLen ∧ ∀ j, j < 6 → w.cell? ((a.add (i * 6)).add j) = (cells6 (F i))[j]? := fun i hi => by
      have := (each i hi).choose_spec
      simp only [F, dif_pos hi]; exact this
    have hat : ∀ i, i < len → atP ((List.range len).map F) i = F i := fun i hi => by
      unfold atP; rw [List.getD_eq_getElem?_getD, List.getElem?_map, List.getElem?_range hi]; rfl
    refine ⟨(List.range len).map F, ⟨by rw [plv_len]; simp, fun hn => ⟨a, rfl, ?_, fun j u hu => ?_⟩⟩, fun k hk => by rw [hat k hk]; exact (hF k hk).1, by unfold maxLen at hm; omega⟩
    · have := (hF 0 (by omega)).2 0 (by omega)
      have hc : w.cell? ((a.add (0 * 6)).add 0) = some (.string (F 0).id) := this
      have := block_lt_of_cell hc
      rw [block_of_add, block_of_add] at this
      exact this
    · have hj : j < len * 6 := by
        have := (List.getElem?_eq_some_iff.1 hu).1
        rw [plv_len] at this; simpa using this
      have e : j = j / 6 * 6 + j % 6 := by omega
      have hd : j / 6 < len := by omega
      rw [e, plv_at (by simpa using hd) (by omega), hat _ hd] at hu
      have := (hF (j / 6) hd).2 (j % 6) (by omega)
      rw [add_of_add, ← e] at this
      rw [this]; exact hu
end

/-- what a law knows of its list, call after call -/
structure KeepP (W : World) (A : Option Addr) (n : Nat) (ps : List Pl) (w : World) : Prop where
  old : Below W.heap.size W w
  list : Reads w W.heap.size 6 A n (plv ps)
theorem KeepP.step {W w w' : World} {A : Option Addr} {n : Nat} {ps : List Pl} (h : KeepP W A n ps w) (hb : Below w.heap.size w w') : KeepP W A n ps w' :=
  ⟨h.old.trans (hb.mono h.old.size), h.list.below (hb.mono h.old.size)⟩
end Go.Proofs.YtfmbmgdemdbpaaaGreatDoor
