/- Grids of the call's own, however their rows were made: what they are, what marking does to them, and asking the marks. -/
import Derived.Test.YtfmbmgdemdbpaaaArchB
namespace Go.Proofs.Ytfmbmgdemdbpaaa
open Go.RowKit Go.Sort

/-- only blocks from B to below T may have turned -/
structure Only (B T : Nat) (w w' : World) : Prop where
  os : w'.os = w.os
  tape : w'.tape = w.tape
  output : w'.output = w.output
  size : w.heap.size ≤ w'.heap.size
  block : ∀ k, k < w.heap.size → (k < B ∨ T ≤ k) → w'.heap[k]? = w.heap[k]?
theorem Only.refl (B T : Nat) (w : World) : Only B T w w := ⟨rfl, rfl, rfl, Nat.le_refl _, fun _ _ _ => rfl⟩
theorem Only.trans {B T : Nat} {a b c : World} (h : Only B T a b) (k : Only B T b c) : Only B T a c :=
  ⟨k.os.trans h.os, k.tape.trans h.tape, k.output.trans h.output, Nat.le_trans h.size k.size, fun i hi ho => (k.block i (Nat.lt_of_lt_of_le hi h.size) ho).trans (h.block i hi ho)⟩
theorem Only.of_grown {B T : Nat} {w w' : World} {row : Option Nat} (h : w.grownBy w' row) (hr : ∀ g, row = some g → B ≤ g ∧ g < T) : Only B T w w' :=
  ⟨h.os, h.tape, h.output, h.size, fun k hk ho => h.block k hk (fun e => by have := hr k e.symm; omega)⟩
theorem Only.below {B T : Nat} {w w' : World} (h : Only B T w w') (hB : B ≤ w.heap.size) : Below B w w' :=
  ⟨h.os, h.tape, h.output, h.size, fun k hk => h.block k (by omega) (.inl hk)⟩
theorem own_only {w w' : World} {B T b : Nat} {e : TypeId} {size n : Nat} {v : Value} {xs : List Value} (h : w.ownsRow b e size v n xs) (ho : Only B T w w') (hf : ∀ g, v.ownBlock = some g → g < B ∨ T ≤ g) : w'.ownsRow b e size v n xs := by
  refine ⟨h.1, ?_⟩
  rcases h.2 with h0 | ⟨g, cap, cur, rfl, hbg, hh, rest⟩
  · exact .inl h0
  · refine .inr ⟨g, cap, cur, rfl, hbg, ?_, rest⟩
    have hlt : g < w.heap.size := (Array.getElem?_eq_some_iff.1 hh).1
    rw [ho.block g hlt (hf g rfl)]
    exact hh
/-- an own row is owned from any lower base -/
theorem own_base {w : World} {b b' : Nat} {e : TypeId} {size n : Nat} {v : Value} {xs : List Value} (h : w.ownsRow b e size v n xs) (hb : b' ≤ b) : w.ownsRow b' e size v n xs := by
  refine ⟨h.1, ?_⟩
  rcases h.2 with h0 | ⟨g, cap, cur, rfl, hbg, rest⟩
  · exact .inl h0
  · exact .inr ⟨g, cap, cur, rfl, by omega, rest⟩
/-- rows of two types lie in two blocks -/
theorem own_apart {w : World} {b b' : Nat} {e e' : TypeId} {s s' n n' : Nat} {v v' : Value} {xs xs' : List Value} (h : w.ownsRow b e s v n xs) (h' : w.ownsRow b' e' s' v' n' xs') (hne : e ≠ e') : ∀ g, v.ownBlock = some g → v'.ownBlock ≠ some g := by
  intro g hg hg'
  rcases h.2 with ⟨rfl, _⟩ | ⟨g1, c1, cur1, rfl, _, hh1, _⟩
  · simp [Value.ownBlock] at hg
  rcases h'.2 with ⟨rfl, _⟩ | ⟨g2, c2, cur2, rfl, _, hh2, _⟩
  · simp [Value.ownBlock] at hg'
  simp [Value.ownBlock] at hg hg'
  subst hg
  subst hg'
  rw [hh1] at hh2
  injection hh2 with hh2
  injection hh2 with _ ht
  exact hne ht

/-- a grid of the call's own: headers H, rows R, all in blocks from B to below T -/
structure OG (B T : Nat) (w : World) (v : Value) (n : Nat) (R : Nat → List Int) (H : Nat → Value) : Prop where
  heads : w.ownsRow B 28 1 v n ((List.range n).map H)
  row : ∀ i, i < n → w.ownsRow B 2 1 (H i) (R i).length (iv (R i))
  apart : ∀ i j g, i < j → j < n → (H i).ownBlock = some g → (H j).ownBlock ≠ some g
  top : ∀ g, v.ownBlock = some g → g < T
  tops : ∀ i g, i < n → (H i).ownBlock = some g → g < T

theorem OG.nil (B T : Nat) (w : World) (R : Nat → List Int) (H : Nat → Value) : OG B T w (.slice none 0 0) 0 R H :=
  ⟨by simpa using World.ownsRow_nil w B 28 1, fun i hi => by omega, fun i j g _ hj => by omega, fun g hg => by simp [Value.ownBlock] at hg, fun i g hi => by omega⟩
theorem OG.lt_v {B T : Nat} {w : World} {v : Value} {n : Nat} {R : Nat → List Int} {H : Nat → Value} (h : OG B T w v n R H) : ∀ g, v.ownBlock = some g → B ≤ g ∧ g < T := fun g hg => ⟨(h.heads.lt g hg).1, h.top g hg⟩
theorem OG.lt_h {B T : Nat} {w : World} {v : Value} {n : Nat} {R : Nat → List Int} {H : Nat → Value} (h : OG B T w v n R H) {i : Nat} (hi : i < n) : ∀ g, (H i).ownBlock = some g → B ≤ g ∧ g < T := fun g hg => ⟨((h.row i hi).lt g hg).1, h.tops i g hi hg⟩
theorem OG.congr {B T : Nat} {w : World} {v : Value} {n : Nat} {R R' : Nat → List Int} {H : Nat → Value} (h : OG B T w v n R H) (he : ∀ i, i < n → R i = R' i) : OG B T w v n R' H :=
  ⟨h.heads, fun i hi => by rw [← he i hi]; exact h.row i hi, h.apart, h.top, h.tops⟩
theorem OG.only {B T B' T' : Nat} {w w' : World} {v : Value} {n : Nat} {R : Nat → List Int} {H : Nat → Value} (h : OG B T w v n R H) (ho : Only B' T' w w') (hf : T ≤ B' ∨ T' ≤ B) : OG B T w' v n R H :=
  ⟨own_only h.heads ho fun g hg => by have := h.lt_v g hg; omega, fun i hi => own_only (h.row i hi) ho fun g hg => by have := h.lt_h hi g hg; omega, h.apart, h.top, h.tops⟩
theorem OG.below {B T : Nat} {w w' : World} {v : Value} {n : Nat} {R : Nat → List Int} {H : Nat → Value} (h : OG B T w v n R H) (hb : Below w.heap.size w w') : OG B T w' v n R H :=
  ⟨own_below h.heads hb, fun i hi => own_below (h.row i hi) hb, h.apart, h.top, h.tops⟩
theorem OG.more {B T T' : Nat} {w : World} {v : Value} {n : Nat} {R : Nat → List Int} {H : Nat → Value} (h : OG B T w v n R H) (hT : T ≤ T') : OG B T' w v n R H :=
  ⟨h.heads, h.row, h.apart, fun g hg => Nat.lt_of_lt_of_le (h.top g hg) hT, fun i g hi hg => Nat.lt_of_lt_of_le (h.tops i g hi hg) hT⟩
theorem OG.base {B B' T : Nat} {w : World} {v : Value} {n : Nat} {R : Nat → List Int} {H : Nat → Value} (h : OG B T w v n R H) (hB : B' ≤ B) : OG B' T w v n R H :=
  ⟨own_base h.heads hB, fun i hi => own_base (h.row i hi) hB, h.apart, h.top, h.tops⟩
/-- as a slice value -/
theorem OG.form {B T : Nat} {w : World} {v : Value} {n : Nat} {R : Nat → List Int} {H : Nat → Value} (h : OG B T w v n R H) : ∃ A c, v = .slice A n c := by
  rcases h.heads.2 with ⟨rfl, rfl⟩ | ⟨g, cap, cur, rfl, _⟩
  · exact ⟨_, _, rfl⟩
  · exact ⟨_, _, rfl⟩
theorem own_form {w : World} {b : Nat} {e : TypeId} {size n : Nat} {v : Value} {xs : List Value} (h : w.ownsRow b e size v n xs) : ∃ A c, v = .slice A n c := by
  rcases h.2 with ⟨rfl, rfl⟩ | ⟨g, cap, cur, rfl, _⟩
  · exact ⟨_, _, rfl⟩
  · exact ⟨_, _, rfl⟩
theorem OG.grid {B T : Nat} {w : World} {A : Option Addr} {n c : Nat} {R : Nat → List Int} {H : Nat → Value} (h : OG B T w (.slice A n c) n R H) (hm : ∀ i, i < n → (R i).length ≤ 9223372036854775807) : Grid w w.heap.size A n ((List.range n).map R) := by
  have hR : ∀ i, i < n → rowZ ((List.range n).map R) i = R i := fun i hi => by
    unfold rowZ; rw [List.getD_eq_getElem?_getD, List.getElem?_map, List.getElem?_range hi]; rfl
  refine ⟨by simp, fun hn => ?_, fun ad ha i hi => ?_⟩
  · obtain ⟨g, cap, hv, _, hlt⟩ := h.heads.form hn
    injection hv with hv
    exact ⟨_, hv, hlt⟩
  · obtain ⟨g, cap, hv, _, hlt⟩ := h.heads.form (by omega)
    injection hv with hv
    subst hv
    injection ha with ha
    subst ha
    obtain ⟨Ai, ci, hi2⟩ := own_form (h.row i hi)
    have hr := h.row i hi
    rw [hi2] at hr
    rw [hR i hi]
    refine ⟨Ai, ci, ?_, Reads.of_own hr, hm i hi⟩
    rw [h.heads.cells (g := g) rfl i (H i) (by rw [List.getElem?_map, List.getElem?_range hi]; rfl), hi2]
/-- a row is written over -/
theorem OG.rowSet {B T : Nat} {w w1 : World} {v : Value} {n j : Nat} {R : Nat → List Int} {H : Nat → Value} {r : List Int} (h : OG B T w v n R H) (hj : j < n) (hr : w1.ownsRow B 2 1 (H j) r.length (iv r)) (hg : w.grownBy w1 (H j).ownBlock) :
    OG B T w1 v n (fun i => if i = j then r else R i) H := by
  refine ⟨h.heads.kept hg ?_, fun i hi => ?_, h.apart, h.top, h.tops⟩
  · cases e : v.ownBlock with
    | none => exact .inl rfl
    | some g => exact .inr (fun e2 => own_apart h.heads (h.row j hj) (by decide) g e e2.symm)
  · by_cases e : i = j
    · subst e; simpa using hr
    · simp only [if_neg e]
      refine (h.row i hi).kept hg ?_
      cases e1 : (H i).ownBlock with
      | none => exact .inl rfl
      | some g =>
        refine .inr (fun e2 => ?_)
        rcases Nat.lt_or_ge i j with hl | hge
        · exact h.apart i j g hl hj e1 e2.symm
        · exact h.apart j i g (by omega) hi e2.symm e1
theorem OwnG.og {B : Nat} {w : World} {n : Nat} {Z : List (List Int)} {g : Nat → Nat} {zs : List Value} (h : OwnG B w n Z g n zs) (hz : zs.length = n) : OG B w.heap.size w (.slice (some ⟨B, 0, none⟩) n n) n (rowZ Z) (hdr g Z) := by
  refine ⟨?_, fun i hi => own_base (h.row i hi) (by omega), fun i j b hij hj hb => ?_, fun b hb => ?_, fun i b hi hb => ?_⟩
  · have := h.heads
    rwa [mixC_end (hdrs_len g Z n) hz] at this
  · have := h.apart i j hij hj
    simp [hdr, Value.ownBlock] at hb ⊢; omega
  · have := (own_lt h.heads).2
    simp [Value.ownBlock] at hb; omega
  · have := (h.lt hi).2
    simp [hdr, Value.ownBlock] at hb; omega

def totN (R : Nat → List Int) : Nat → Nat
  | 0 => 0
  | n + 1 => totN R n + (R n).length
theorem totN_mono (R : Nat → List Int) {i : Nat} : ∀ {n : Nat}, i ≤ n → totN R i ≤ totN R n
  | 0, h => by obtain rfl : i = 0 := by { omega }; exact Nat.le_refl _
  | n + 1, h => by
    by_cases e : i = n + 1
    · subst e; exact Nat.le_refl _
    · have := totN_mono R (i := i) (n := n) (by omega)
      simp only [totN]; omega
def markR (R : Nat → List Int) (k : Int) (i : Nat) : List Int := marks (k + (totN R i : Int)) (R i).length
theorem markR_len (R : Nat → List Int) (k : Int) (i : Nat) : (markR R k i).length = (R i).length := by simp [markR, marks_len]

theorem KeepG.only_ {W w w' : World} {A : Option Addr} {n B T : Nat} {Z : List (List Int)} (h : KeepG W A n Z w) (ho : Only B T w w') (hB : W.heap.size ≤ B) : KeepG W A n Z w' := by
  have hb : Below W.heap.size w w' := ⟨ho.os, ho.tape, ho.output, ho.size, fun k hk => ho.block k (Nat.lt_of_lt_of_le hk h.old.size) (.inl (by omega))⟩
  exact ⟨h.old.trans hb, h.grid.below hb⟩
theorem rowZ_range {Z : List (List Int)} {n : Nat} (h : Z.length = n) : (List.range n).map (rowZ Z) = Z := by
  apply List.ext_getElem (by simp [h])
  intro i h1 h2
  simp [rowZ, List.getD_eq_getElem?_getD, h2]
theorem og_grid {B T n c : Nat} {w : World} {A : Option Addr} {Z : List (List Int)} {H : Nat → Value} (h : OG B T w (.slice A n c) n (rowZ Z) H) (hl : Z.length = n) (hm : ∀ i, i < n → (rowZ Z i).length ≤ 1048576) : Grid w w.heap.size A n Z := by
  have := h.grid (fun i hi => by have := hm i hi; omega)
  rwa [rowZ_range hl] at this
theorem totN_le {R : Nat → List Int} {m : Nat} : ∀ {n : Nat}, (∀ i, i < n → (R i).length ≤ m) → totN R n ≤ n * m
  | 0, _ => by simp [totN]
  | n + 1, h => by
    have h1 := totN_le (n := n) (fun i hi => h i (by omega))
    have h2 := h n (by omega)
    rw [totN, Nat.add_mul]; omega
theorem tot_le {Z : List (List Int)} {n : Nat} (hn : n ≤ 1048576) (hm : ∀ i, i < n → (rowZ Z i).length ≤ 1048576) : totN (rowZ Z) n ≤ 1099511627776 := by
  have h1 := totN_le hm
  have h2 : n * 1048576 ≤ 1048576 * 1048576 := Nat.mul_le_mul_right _ hn
  omega
end Go.Proofs.Ytfmbmgdemdbpaaa
