/- The text of a list of numbers: what the program and the reference write. -/
import Derived.Test.YtfmbmgdemdbpaaaGreatDoorName
import Derived.Test.YtfmbmgdemdbpaaaGreatDoorPlankB
import Derived.Test.YtfmbmgdemdbpaaaGreatDoorDec
import Derived.Test.YtfmbmgdemdbpaaaGreatDoorTab
import Derived.Test.YtfmbmgdemdbpaaaGreatDoorInts
import Derived.Test.YtfmbmgdemdbpaaaGreatDoorShelfA
import Derived.Test.YtfmbmgdemdbpaaaGreatDoorShelfB
import Derived.Laws.Concat
import Derived.Lib.Join
import Derived.Lib.QuietBelow
import Derived.Deep.RegionWith
namespace Go.Proofs.YtfmbmgdemdbpaaaGreatDoor
open Go.RowKit Go.Sort

theorem ret_str {a b : List UInt8} (h : a = b) : Ending.returned (.string ⟨a.toArray⟩) = .returned (.string ⟨b.toArray⟩) := by rw [h]
theorem is_ofv {P : Program} {f : FuncId} {args : Array Value} {w : World} {v v' : Bool} (h : Calls P f args w fun e w' => e = .returned (.bool v) ∧ w = w') (e : v = v') : Calls P f args w fun e w' => e = .returned (.bool v') ∧ w = w' := by rwa [e] at h

def okV (x : Int) : Bool := inB x (-1000000000000) 1000000000000
def okL (xs : List Int) : Bool := xs.all okV && decide (xs.length ≤ 64)
def jpre (xs : List Int) : List UInt8 := Lib.join (xs.map Lib.itoa) [44]
def ltxt (xs : List Int) : List UInt8 := if xs.length = 0 then [45] else jpre xs
def ltext (xs : List Int) : List UInt8 := if okL xs then ltxt xs else []
theorem okL_all {xs : List Int} (h : okL xs = true) : (∀ k, k < xs.length → okV (xs.getD k 0) = true) ∧ xs.length ≤ 64 := by
  unfold okL at h
  rw [Bool.and_eq_true] at h
  refine ⟨fun k hk => ?_, of_decide_eq_true h.2⟩
  have := List.all_eq_true.1 h.1 (xs[k]) (List.getElem_mem hk)
  rw [List.getD_eq_getElem?_getD, List.getElem?_eq_getElem hk]; exact this
theorem okL_mk {xs : List Int} (h : ∀ k, k < xs.length → okV (xs.getD k 0) = true) : okL xs = decide (xs.length ≤ 64) := by
  have : xs.all okV = true := List.all_eq_true.2 fun x hx => by
    obtain ⟨i, hi, rfl⟩ := List.getElem_of_mem hx
    have := h i hi
    rwa [List.getD_eq_getElem?_getD, List.getElem?_eq_getElem hi] at this
  rw [okL, this, Bool.true_and]
theorem okL_no {xs : List Int} {k : Nat} (hk : k < xs.length) (h : okV (xs.getD k 0) = false) : okL xs = false := by
  cases hh : okL xs with
  | false => rfl
  | true => have := (okL_all hh).1 k hk; rw [h] at this; cases this
theorem okL_long {xs : List Int} (h : 64 < xs.length) : okL xs = false := by
  cases hh : okL xs with
  | false => rfl
  | true => have := (okL_all hh).2; omega
theorem okV_bd {x : Int} (h : okV x = true) : -1000000000000 ≤ x ∧ x ≤ 1000000000000 := inB_t h
theorem jpre_one (x : Int) : jpre [x] = Lib.itoa x := Lib.join_one _ _
theorem jpre_snoc {xs : List Int} (h : 0 < xs.length) (x : Int) : jpre (xs ++ [x]) = jpre xs ++ [44] ++ Lib.itoa x := by
  cases xs with
  | nil => simp at h
  | cons y r => simp [jpre, Lib.join_cons, Lib.joinTail]
theorem jtail_len : ∀ (r : List Int), (∀ x ∈ r, (Lib.itoa x).length ≤ 21) → (Lib.joinTail [44] (r.map Lib.itoa)).length ≤ 22 * r.length
  | [], _ => by simp [Lib.joinTail]
  | x :: r, h => by
    have h1 := jtail_len r fun y hy => h y (List.mem_cons_of_mem _ hy)
    have h2 := h x (List.mem_cons_self ..)
    simp [Lib.joinTail] at h1 ⊢
    omega
theorem jpre_len : ∀ (xs : List Int), (∀ x ∈ xs, (Lib.itoa x).length ≤ 21) → (jpre xs).length ≤ 22 * xs.length
  | [], _ => by simp [jpre, Lib.join_nil]
  | x :: r, h => by
    have h1 := jtail_len r fun y hy => h y (List.mem_cons_of_mem _ hy)
    have h2 := h x (List.mem_cons_self ..)
    rw [jpre, List.map_cons, Lib.join_cons, List.length_append]
    simp
    omega
theorem itoa_short {x : Int} (h : okV x = true) : (Lib.itoa x).length ≤ 21 := by
  have := okV_bd h
  exact Lib.itoa_length_le x (by omega) (by omega)
theorem take_snoc {xs : List Int} {k : Nat} (h : k < xs.length) : xs.take (k + 1) = xs.take k ++ [xs.getD k 0] := by
  rw [List.take_add_one, List.getElem?_eq_getElem h, List.getD_eq_getElem?_getD, List.getElem?_eq_getElem h]; rfl
/-- the numbers' texts, as cells -/
def sv (xs : List Int) : List Value := xs.map fun x => Value.string ⟨(Lib.itoa x).toArray⟩
theorem sv_len (xs : List Int) : (sv xs).length = xs.length := by simp [sv]
theorem sv_append (a b : List Int) : sv (a ++ b) = sv a ++ sv b := by simp [sv]
theorem infoStr : (Tryz.prog.info? 9).map (fun i => (i.zero, i.size, i.bytes)) = some (some (.string ⟨#[]⟩), 1, 16) := by kernel_rfl

theorem implDec_any (n : Int) (w : World) (n0 : -9223372036854775808 ≤ n ∧ n ≤ 9223372036854775807) (h : PowTab w) :
    Calls Tryz.prog 58 #[.int .i64 n] w fun e w' => e = .returned (.string ⟨(Lib.itoa n).toArray⟩) ∧ Below w.heap.size w w' := by
  have F := Lib.hid (Tryz.strconv_FormatInt_10 n n0.1 n0.2 w h)
  clear n0
  go_enter Tryz.func58, Tryz.ntmps58
  go_wp2_with fail
  refine F.out.mono ?_
  rintro e w1 ⟨rfl, k, os, hw1⟩
  have B := Lib.hid (show Below w.heap.size w w1 by rw [hw1]; exact ⟨rfl, rfl, rfl, by show w.heap.size ≤ (w.heap ++ os).size; rw [Array.size_append]; omega, fun j hj => by show (w.heap ++ os)[j]? = w.heap[j]?; rw [Array.getElem?_append_left hj]⟩)
  clear hw1
  go_wp2
  go_ret
  exact ⟨rfl, B.out⟩

end Go.Proofs.YtfmbmgdemdbpaaaGreatDoor
