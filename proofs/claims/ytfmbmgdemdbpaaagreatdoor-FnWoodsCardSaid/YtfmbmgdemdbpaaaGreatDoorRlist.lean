/- Lists of numbers, read back: the reference's reader. -/
import Derived.Test.YtfmbmgdemdbpaaaGreatDoorRread
import Derived.Test.YtfmbmgdemdbpaaaGreatDoorSplitB
import Derived.Test.YtfmbmgdemdbpaaaGreatDoorInts
namespace Go.Proofs.YtfmbmgdemdbpaaaGreatDoor
open Go.RowKit Go.Sort
set_option linter.unusedVariables false

noncomputable def okP (t : List UInt8) : Bool := (numR t).2 && inB (numR t).1 (-1000000000000) 1000000000000
noncomputable def vals (ps : List (List UInt8)) : List Int := ps.map fun t => (numR t).1
theorem vals_len (ps : List (List UInt8)) : (vals ps).length = ps.length := by simp [vals]
noncomputable def goodP (ps : List (List UInt8)) : Bool := decide (ps.length ≤ 64) && ps.all okP
noncomputable def goodL (l : List UInt8) : Bool := decide (l = [45]) || goodP (spl 44 l)
noncomputable def xsL (l : List UInt8) : List Int := if l = [45] then [] else vals (spl 44 l)
theorem goodP_all {ps : List (List UInt8)} (hl : ps.length ≤ 64) (h : ∀ k, k < ps.length → okP (ps.getD k []) = true) : goodP ps = true := by
  have : ps.all okP = true := List.all_eq_true.2 fun x hx => by
    obtain ⟨i, hi, rfl⟩ := List.getElem_of_mem hx
    have := h i hi
    rwa [List.getD_eq_getElem?_getD, List.getElem?_eq_getElem hi] at this
  rw [goodP, this, Bool.and_true]; simpa using hl
theorem goodP_no {ps : List (List UInt8)} {k : Nat} (hk : k < ps.length) (h : okP (ps.getD k []) = false) : goodP ps = false := by
  cases hh : goodP ps with
  | false => rfl
  | true =>
    unfold goodP at hh
    rw [Bool.and_eq_true] at hh
    have := List.all_eq_true.1 hh.2 _ (List.getElem_mem hk)
    rw [List.getD_eq_getElem?_getD, List.getElem?_eq_getElem hk] at h
    have h' : okP ps[k] = false := h
    rw [this] at h'; cases h'
theorem goodP_long {ps : List (List UInt8)} (h : 64 < ps.length) : goodP ps = false := by
  unfold goodP
  rw [show decide (ps.length ≤ 64) = false by rw [decide_eq_false_iff_not]; omega]; rfl
theorem goodL_not {l : List UInt8} (h : l ≠ [45]) : goodL l = goodP (spl 44 l) := by rw [goodL, show decide (l = [45]) = false by simpa using h, Bool.false_or]
theorem xsL_not {l : List UInt8} (h : l ≠ [45]) : xsL l = vals (spl 44 l) := by rw [xsL, if_neg h]
theorem own_lower {w : World} {B B' : Nat} {e : TypeId} {size n : Nat} {v : Value} {xs : List Value} (h : w.ownsRow B' e size v n xs) (hB : B ≤ B') : w.ownsRow B e size v n xs := by
  refine ⟨h.1, ?_⟩
  rcases h.2 with h0 | ⟨g, cap, cur, hv, hbg, rest⟩
  · exact .inl h0
  · exact .inr ⟨g, cap, cur, hv, Nat.le_trans hB hbg, rest⟩
/-- what the readers of lists give -/
def ReadPost (B : Nat) (w : World) (l : List UInt8) (e : Ending) (w' : World) : Prop :=
  ((goodL l = true ∧ ∃ v, e = .returned (.tuple #[v, .bool true]) ∧ w'.ownsRow B 2 1 v (xsL l).length (iv (xsL l))) ∨ (goodL l = false ∧ e = .returned (.tuple #[.slice none 0 0, .bool false]))) ∧ Below B w w'
theorem vals_take {ps : List (List UInt8)} {k : Nat} (h : k < ps.length) : vals (ps.take (k + 1)) = vals (ps.take k) ++ [(numR (ps.getD k [])).1] := by
  rw [List.take_add_one, List.getElem?_eq_getElem h, List.getD_eq_getElem?_getD, List.getElem?_eq_getElem h, vals, vals, List.map_append]; rfl
theorem tv_at {ps : List (List UInt8)} {k : Nat} (h : k < ps.length) : (tv ps)[k]? = some (.string ⟨(ps.getD k []).toArray⟩) := by
  rw [tv, List.getElem?_map, List.getElem?_eq_getElem h, List.getD_eq_getElem?_getD, List.getElem?_eq_getElem h]; rfl
theorem infoI64 : (Tryz.prog.info? 2).map (fun i => (i.zero, i.size, i.bytes)) = some (some (.int .i64 0), 1, 8) := by kernel_rfl
theorem piece_short {c : UInt8} {l : List UInt8} : ∀ t ∈ spl c l, t.length ≤ l.length := by
  induction l with
  | nil => intro t ht; simp [spl] at ht; subst ht; simp
  | cons x r ih =>
    intro t ht
    rw [spl] at ht
    split at ht
    · rcases List.mem_cons.1 ht with e | e
      · subst e; simp
      · have := ih t e; simp; omega
    · split at ht
      · rename_i hq; exact absurd hq (spl_ne c r)
      · rename_i h t' hq
        rcases List.mem_cons.1 ht with e | e
        · subst e
          have := ih h (by rw [hq]; simp)
          simp; omega
        · have := ih t (by rw [hq]; simp [e])
          simp; omega
theorem not_minus {s : ByteArray} (h : s.data.toList ≠ [45]) : (s.toList == [45]) = false := by
  rw [beq_eq_false_iff_ne, Lib.toList_data]; exact h

end Go.Proofs.YtfmbmgdemdbpaaaGreatDoor
