/- Decimal numerals: the reference's writer, and that it is the library's. -/
import Derived.Test.YtfmbmgdemdbpaaaGreatDoorBasic
import Derived.Test.YtfmbmgdemdbpaaaGreatDoorWords
import Derived.Lib.ItoaLen
import Derived.Laws.BytesArg
import Derived.Laws.AppendOwn
namespace Go.Proofs.YtfmbmgdemdbpaaaGreatDoor
open Go.RowKit Go.Sort

/-- the digits of a number, the last one first -/
def rdg (a : Nat) : List UInt8 := if h : a = 0 then [] else UInt8.ofNat (48 + a % 10) :: rdg (a / 10)
termination_by a
decreasing_by omega
theorem rdg_zero : rdg 0 = [] := by rw [rdg, dif_pos rfl]
theorem rdg_pos {a : Nat} (h : 0 < a) : rdg a = UInt8.ofNat (48 + a % 10) :: rdg (a / 10) := by rw [rdg, dif_neg (by omega)]
theorem dec_rdg : ∀ a : Nat, 0 < a → Lib.decDigits a = (rdg a).reverse := fun a => by
  induction a using Nat.strongRecOn with
  | _ a ih =>
    intro h
    rw [rdg_pos h, List.reverse_cons, Lib.decDigits]
    by_cases h2 : a < 10
    · rw [dif_pos h2, show a / 10 = 0 by omega, rdg_zero, show a % 10 = a by omega]; rfl
    · rw [dif_neg h2, ih (a / 10) (by omega) (by omega)]
theorem rdg_len {a : Nat} (h : a < 18446744073709551616) : (rdg a).length ≤ 20 := by
  by_cases h0 : a = 0
  · subst h0; rw [rdg_zero]; simp
  · have h1 := Lib.decDigits_length a
    rw [dec_rdg a (by omega), List.length_reverse] at h1
    have := Lib.nDigits_le20 a h
    omega
/-- bytes as cells -/
def bv (l : List UInt8) : List Value := l.map (fun b => Value.int .u8 (b.toNat : Int))
theorem bv_append (a b : List UInt8) : bv (a ++ b) = bv a ++ bv b := by simp [bv]
theorem bv_len (l : List UInt8) : (bv l).length = l.length := by simp [bv]
theorem bv_at {l : List UInt8} {j : Nat} (h : j < l.length) : (bv l)[j]? = some (.int .u8 ((l.getD j 0).toNat : Int)) := by
  rw [bv, List.getElem?_map, List.getElem?_eq_getElem h, List.getD_eq_getElem?_getD, List.getElem?_eq_getElem h]; rfl
theorem own_form {w : World} {b : Nat} {e : TypeId} {size n : Nat} {v : Value} {xs : List Value} (h : w.ownsRow b e size v n xs) : ∃ A c, v = .slice A n c := by
  rcases h.2 with ⟨rfl, rfl⟩ | ⟨g, cap, cur, rfl, _⟩
  · exact ⟨_, _, rfl⟩
  · exact ⟨_, _, rfl⟩
theorem below_own {w wr w1 : World} {B : Nat} {e : TypeId} {size n : Nat} {v : Value} {xs : List Value} {o : Obj} (ho : wr.ownsRow B e size v n xs) (hb : Below B w wr) (hg : (wr.alloc o).grownBy w1 v.ownBlock) (hB : B ≤ wr.heap.size) : Below B w w1 :=
  (hb.alloc hB o).grown hg (by simp; omega) (fun k hk => (ho.lt k hk).1)
theorem own_below {w w' : World} {B : Nat} {e : TypeId} {size n : Nat} {v : Value} {xs : List Value} (h : w.ownsRow B e size v n xs) (hb : Below w.heap.size w w') : w'.ownsRow B e size v n xs := by
  refine ⟨h.1, ?_⟩
  rcases h.2 with h0 | ⟨g, cap, cur, hv, hbg, hh, h1, h2, h3, h4⟩
  · exact .inl h0
  · have hlt : g < w.heap.size := (Array.getElem?_eq_some_iff.1 hh).1
    exact .inr ⟨g, cap, cur, hv, hbg, (hb.block g hlt).trans hh, h1, h2, h3, h4⟩
theorem str_nums (l : List UInt8) : strOfNums (l.map fun b => (b.toNat : Int)) = ⟨l.toArray⟩ := by
  unfold strOfNums
  rw [List.map_map]
  have e : ((fun n : Int => UInt8.ofNat n.toNat) ∘ fun b : UInt8 => (b.toNat : Int)) = id := by
    funext b; simp
  rw [e, List.map_id]
theorem nums_at {l : List UInt8} {i : Nat} (h : i < l.length) : (l.map fun b => (b.toNat : Int)).getD i 0 = ((l.getD i 0).toNat : Int) := by
  rw [List.getD_eq_getElem?_getD, List.getD_eq_getElem?_getD, List.getElem?_map, List.getElem?_eq_getElem h]; rfl
/-- own bytes, as a string -/
theorem conv_own {w : World} {B g n c : Nat} {l : List UInt8} (h : w.ownsRow B 5 1 (.slice (some ⟨g, 0, none⟩) n c) n (bv l)) : (convert 22 9 (.slice (some ⟨g, 0, none⟩) n c)).run Tryz.prog w = .ok (.string ⟨l.toArray⟩) w := by
  have hl : l.length = n := by have := h.1; rw [bv_len] at this; omega
  have hc : ∀ i, i < n → w.cell? ⟨g, 0 + i, none⟩ = some (.int .u8 ((l.map fun b => (b.toNat : Int)).getD i 0)) := fun i hi => by
    rw [Nat.zero_add, h.cellAt i (by omega), bv_at (by omega), nums_at (by omega)]
  exact (run_convert_bytes_arg (P := Tryz.prog) w 22 5 Tryz.underlying22 Tryz.underlying5 g 0 n c (l.map fun b => (b.toNat : Int)) (by rw [List.length_map]; exact hl) hc 9 Tryz.underlying9).trans (by rw [str_nums])
theorem infoB : (Tryz.prog.info? 5).map (fun i => (i.zero, i.size, i.bytes)) = some (some (.int .u8 0), 1, 1) := by kernel_rfl

end Go.Proofs.YtfmbmgdemdbpaaaGreatDoor
