/- A plank's text, read back: the parting at the first blank, and the program's reader of a name with a list. -/
import Derived.Test.YtfmbmgdemdbpaaaGreatDoorRpl
import Derived.Test.YtfmbmgdemdbpaaaGreatDoorRlistB
import Derived.Test.YtfmbmgdemdbpaaaGreatDoorShelfE
namespace Go.Proofs.YtfmbmgdemdbpaaaGreatDoor
open Go.RowKit Go.Sort
set_option linter.unusedVariables false

theorem cut_cases (c : UInt8) (l : List UInt8) : (∃ a b, l = a ++ c :: b ∧ c ∉ a ∧ Lib.cut l [c] = (a, b, true)) ∨ (c ∉ l ∧ Lib.cut l [c] = (l, [], false)) := by
  unfold Lib.cut
  rw [Lib.index_one]
  by_cases h : 0 ≤ Lib.indexByte l c
  · obtain ⟨o, ho⟩ : ∃ o : Nat, Lib.indexByte l c = o := ⟨(Lib.indexByte l c).toNat, by omega⟩
    obtain ⟨h1, h2⟩ := Lib.indexByte_some ho
    obtain ⟨e, hn⟩ := first_at h1 h2
    exact .inl ⟨_, _, e, hn, by rw [if_pos h, ho]; rfl⟩
  · have ho : Lib.indexByte l c = -1 := by have := Lib.indexByte_ge l c; omega
    refine .inr ⟨fun hm => ?_, by rw [if_neg h]⟩
    obtain ⟨j, hj, ej⟩ := List.getElem_of_mem hm
    exact Lib.indexByte_none ho j (by rw [List.getElem?_eq_getElem hj, ej])
noncomputable def ys (l : List UInt8) : List Int := if goodL l then xsL l else []
theorem ys_len (l : List UInt8) : (ys l).length ≤ 64 := by
  unfold ys
  split
  · rename_i h
    unfold xsL
    split
    · simp
    · rename_i hn
      rw [goodL_not hn, goodP, Bool.and_eq_true] at h
      rw [vals_len]
      exact of_decide_eq_true h.1
  · simp
theorem read_uni {B : Nat} {w w' : World} {l : List UInt8} {e : Ending} (h : ReadPost B w l e w') : ∃ A c, e = .returned (.tuple #[.slice A (ys l).length c, .bool (goodL l)]) ∧ w'.ownsRow B 2 1 (.slice A (ys l).length c) (ys l).length (iv (ys l)) ∧ Below B w w' := by
  obtain ⟨h | h, hb⟩ := h
  · obtain ⟨hg, v, rfl, ho⟩ := h
    have e : ys l = xsL l := by rw [ys, if_pos hg]
    rw [← e] at ho
    obtain ⟨A, c, rfl⟩ := own_form ho
    exact ⟨A, c, by rw [hg], ho, hb⟩
  · obtain ⟨hg, rfl⟩ := h
    have e : ys l = [] := by rw [ys, hg]; rfl
    rw [e, hg]
    exact ⟨none, 0, rfl, ⟨rfl, .inl ⟨rfl, rfl⟩⟩, hb⟩
theorem below_drewn (w : World) (n : Nat) : Below w.heap.size w (w.drewN n) := ⟨rfl, rfl, rfl, Nat.le_refl _, fun _ _ => rfl⟩

/-- what the program's reader of a name with a list of n numbers gives -/
def NamedPost (w : World) (l a : List UInt8) (b : List UInt8) (f : Bool) (e : Ending) (w' : World) : Prop :=
  ∃ A c, e = .returned (.tuple #[.string ⟨a.toArray⟩, .slice A (ys b).length c, .bool (f && (goodL b && decide ((ys b).length = 5)))]) ∧ w'.ownsRow w.heap.size 2 1 (.slice A (ys b).length c) (ys b).length (iv (ys b)) ∧ Below w.heap.size w w'

set_option maxRecDepth 100000 in
set_option maxHeartbeats 800000 in
theorem readNamed_any (s : ByteArray) (w : World) (hs : s.size ≤ 1048576) (tab : PowTab w) (er : ErrVars w) (mx : MaxL w) (a b : List UInt8) (f : Bool) (hc : Lib.cut s.data.toList [32] = (a, b, f)) (hbl : b.length ≤ 1048576) :
    Calls Tryz.prog 28 #[.string s, .int .i64 5] w (NamedPost w s.data.toList a b f) := by
  obtain ⟨m, hm⟩ := mx
  have F := Lib.hid (show Calls Tryz.prog 43 #[.string s, .string ⟨#[32]⟩] w fun e w' => e = .returned (.tuple #[.string ⟨a.toArray⟩, .string ⟨b.toArray⟩, .bool f]) ∧ ∃ n, w' = w.drewN n by
    have := Tryz.strings_Cut s ⟨#[32]⟩ m w (by omega) hm
    rw [show (⟨#[32]⟩ : ByteArray).data.toList = [32] from rfl, hc] at this
    exact this)
  have G := Lib.hid (fun W (hB : Below w.heap.size w W) => implRlist_any ⟨b.toArray⟩ W (by show b.length ≤ _; exact hbl) (tab_below tab hB) (err_below er hB) (maxl_below ⟨m, hm⟩ hB))
  clear hc tab er hm
  go_enter Tryz.func28, Tryz.ntmps28
  go_wp2_with fail
  refine F.out.mono ?_
  rintro e w1 ⟨rfl, n, hw1⟩
  have B1 := Lib.hid (show Below w.heap.size w w1 by rw [hw1]; exact below_drewn _ _)
  have S1 := Lib.hid (show w1.heap.size = w.heap.size by rw [hw1]; rfl)
  clear hw1
  go_wp2_with fail
  refine (G.out _ B1.out).mono ?_
  intro e w2 hp
  have hp2 := read_uni hp
  obtain ⟨A2, c2, rfl, o2, b2⟩ := hp2
  rw [S1.out] at o2
  have O2 := Lib.hid o2
  have B2 := Lib.hid (B1.out.trans (b2.mono B1.out.size))
  clear o2 b2 hp
  obtain ⟨L, hL⟩ : ∃ L, (ys b).length = L := ⟨_, rfl⟩
  obtain ⟨gd, hgd⟩ : ∃ gd, goodL b = gd := ⟨_, rfl⟩
  rw [hL, hgd]
  rw [hL] at O2
  have HL := Lib.hid hL
  have HG := Lib.hid hgd
  clear hL hgd
  by_cases h5 : L = 5
  · have q5 : ((L : Int) == 5) = true := by rw [beq_iff_eq]; omega
    cases f <;> cases gd
    all_goals
      go_wp2
      go_ret3
      exact ⟨A2, c2, by rw [HL.out, HG.out]; simp [h5], by rw [HL.out]; exact O2.out, B2.out⟩
  · have q5 : ((L : Int) == 5) = false := by rw [beq_eq_false_iff_ne]; omega
    cases f <;> cases gd
    all_goals
      go_wp2
      go_ret3
      exact ⟨A2, c2, by rw [HL.out, HG.out]; simp [h5], by rw [HL.out]; exact O2.out, B2.out⟩
end Go.Proofs.YtfmbmgdemdbpaaaGreatDoor
