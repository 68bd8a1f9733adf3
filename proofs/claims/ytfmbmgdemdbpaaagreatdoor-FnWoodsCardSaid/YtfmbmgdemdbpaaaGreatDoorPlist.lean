/- Lists of planks: what they are in memory; the law's own functions on them. -/
import Derived.Test.YtfmbmgdemdbpaaaGreatDoorDec
import Derived.Test.YtfmbmgdemdbpaaaGreatDoorGap
import Derived.Test.YtfmbmgdemdbpaaaGreatDoorPlankC
import Derived.Test.YtfmbmgdemdbpaaaGreatDoorWords
import Derived.Laws.MakeOwn
namespace Go.Proofs.YtfmbmgdemdbpaaaGreatDoor
open Go.RowKit Go.Sort

def cells6 (p : Pl) : List Value := [.string p.id, .int .i64 p.l, .int .i64 p.wd, .int .i64 p.t, .int .i64 p.m, .int .i64 p.r]
def plv (ps : List Pl) : List Value := ps.flatMap cells6
def pl0 : Pl := ⟨ByteArray.empty, 0, 0, 0, 0, 0⟩
def atP (ps : List Pl) (k : Nat) : Pl := ps.getD k pl0
theorem plv_len : ∀ ps : List Pl, (plv ps).length = ps.length * 6
  | [] => rfl
  | p :: ps => by
    have := plv_len ps
    simp only [plv, List.flatMap_cons, List.length_append, List.length_cons] at this ⊢
    rw [this]; simp [cells6]; omega
theorem plv_at : ∀ {ps : List Pl} {k j : Nat}, k < ps.length → j < 6 → (plv ps)[k * 6 + j]? = (cells6 (atP ps k))[j]?
  | p :: ps, 0, j, _, hj => by
    rw [plv, List.flatMap_cons, Nat.zero_mul, Nat.zero_add, List.getElem?_append_left (by simpa [cells6] using hj)]; rfl
  | p :: ps, k + 1, j, h, hj => by
    have ih := plv_at (ps := ps) (k := k) (j := j) (by simpa using h) hj
    rw [plv, List.flatMap_cons, List.getElem?_append_right (by simp [cells6]; omega)]
    have e : (k + 1) * 6 + j - (cells6 p).length = k * 6 + j := by simp [cells6]; omega
    rw [e]
    exact ih
theorem addr_at (a : Addr) {j : Nat} (hj : 0 < j) : (⟨a.block, a.off + j, none⟩ : Addr) = a.add j := by unfold Addr.add; rw [if_neg (by omega)]

/-- element k of a list that reads so, cell by cell, in the walk's own words -/
structure El (w : World) (a : Addr) (p : Pl) : Prop where
  c0 : w.cell? a = some (.string p.id)
  c1 : w.cell? ⟨a.block, a.off + 1, none⟩ = some (.int .i64 p.l)
  c2 : w.cell? ⟨a.block, a.off + 2, none⟩ = some (.int .i64 p.wd)
  c3 : w.cell? ⟨a.block, a.off + 3, none⟩ = some (.int .i64 p.t)
  c4 : w.cell? ⟨a.block, a.off + 4, none⟩ = some (.int .i64 p.m)
  c5 : w.cell? ⟨a.block, a.off + 5, none⟩ = some (.int .i64 p.r)
theorem el_of {w : World} {b n k : Nat} {ad : Addr} {ps : List Pl} (hx : Reads w b 6 (some ad) n (plv ps)) (hk : k < n) : El w (ad.add (k * 6)) (atP ps k) := by
  have lx : ps.length = n := by have := hx.1; rw [plv_len] at this; omega
  obtain ⟨ad', e, hb, hc⟩ := hx.2 (by omega)
  injection e with e
  subst e
  have g : ∀ j, j < 6 → ∀ u, (cells6 (atP ps k))[j]? = some u → w.cell? (ad.add (k * 6 + j)) = some u := fun j hj u hu => hc _ u (by rw [plv_at (by omega) hj]; exact hu)
  refine ⟨by simpa using g 0 (by omega) _ rfl, ?_, ?_, ?_, ?_, ?_⟩
  · rw [addr_at _ (by omega), add_of_add]; exact g 1 (by omega) _ rfl
  · rw [addr_at _ (by omega), add_of_add]; exact g 2 (by omega) _ rfl
  · rw [addr_at _ (by omega), add_of_add]; exact g 3 (by omega) _ rfl
  · rw [addr_at _ (by omega), add_of_add]; exact g 4 (by omega) _ rfl
  · rw [addr_at _ (by omega), add_of_add]; exact g 5 (by omega) _ rfl
theorem El.at_ {w : World} {g k : Nat} {p : Pl} (h : El w ⟨g, k, none⟩ p) (hs : p.id.size ≤ maxLen) : At w g k p := ⟨h.c0, h.c1, h.c2, h.c3, h.c4, h.c5, hs⟩
theorem El.below {w w' : World} {B : Nat} {a : Addr} {p : Pl} (h : El w a p) (hb : Below B w w') (hlt : a.block < B) : El w' a p :=
  ⟨(hb.cell (p := a) hlt).trans h.c0, (hb.cell (p := ⟨a.block, _, none⟩) hlt).trans h.c1, (hb.cell (p := ⟨a.block, _, none⟩) hlt).trans h.c2, (hb.cell (p := ⟨a.block, _, none⟩) hlt).trans h.c3, (hb.cell (p := ⟨a.block, _, none⟩) hlt).trans h.c4, (hb.cell (p := ⟨a.block, _, none⟩) hlt).trans h.c5⟩
/-- element k of an own list -/
theorem el_own {w : World} {B n k g c : Nat} {T : TypeId} {ps : List Pl} (hx : w.ownsRow B T 6 (.slice (some ⟨g, 0, none⟩) n c) n (plv ps)) (hk : k < n) : El w ⟨g, k * 6, none⟩ (atP ps k) := by
  have := el_of (Reads.of_own hx) hk
  have e : ((⟨g, 0, none⟩ : Addr).add (k * 6)) = ⟨g, k * 6, none⟩ := by unfold Addr.add; split <;> simp_all
  rwa [e] at this
/-- what is asked of a list's names -/
def Short (ps : List Pl) (n : Nat) : Prop := ∀ k, k < n → (atP ps k).id.size ≤ maxLen

def SzPost (n : Nat) (l : Int) (w : World) (e : Ending) (w' : World) : Prop :=
  ∃ r : Int, e = .returned (.int .i64 r) ∧ r ≤ 1048576 ∧ (0 ≤ r → (n : Int) ≤ l) ∧ Below w.heap.size w w'

theorem run_make_rowN {P : Program} (t e : TypeId) (i : TypeInfo) (z : Value) (ht : P.underlying t = some (.slice e)) (hi : P.info? e = some i) (hz : i.zero = some z)
    (kl kc : IntKind) (n c : Nat) (hnc : n ≤ c) (hbytes : i.bytes * c ≤ 281474976710656) (h63 : c ≤ 9223372036854775807) (w : World) :
    (Instr.makeSlice t (.int kl (n : Int)) (.int kc (c : Int))).run P w = .ok (.slice (some ⟨w.heap.size, 0, none⟩) n c) (w.alloc (.cells (madeCells z.cells (c * i.size)) e)) := by
  have hb : (i.bytes : Int) * (c : Int) ≤ 281474976710656 := by
    have h : ((i.bytes * c : Nat) : Int) ≤ 281474976710656 := by omega
    rwa [Int.natCast_mul] at h
  have hr := run_make (P := P) w t e i z ht hi hz kl kc n c (by omega) (by omega) hb (by omega)
  simp only [Int.toNat_natCast] at hr
  exact hr
def mixC (cs xs : List Value) (k : Nat) : List Value := cs.take k ++ xs.drop k
theorem mixC_zero (cs xs : List Value) : mixC cs xs 0 = xs := by simp [mixC]
theorem mixC_end {cs xs : List Value} {n : Nat} (h : cs.length = n) (h2 : xs.length = n) : mixC cs xs n = cs := by simp [mixC, ← h, List.drop_of_length_le (show xs.length ≤ cs.length by omega)]
theorem mixC_set {cs xs : List Value} {k : Nat} {v : Value} (h : k < xs.length) (hv : cs[k]? = some v) : (mixC cs xs k).set k v = mixC cs xs (k + 1) := by
  have h2 : k < cs.length := (List.getElem?_eq_some_iff.1 hv).1
  unfold mixC
  rw [List.set_append_right _ _ (by simp; omega)]
  rw [show k - (cs.take k).length = 0 by simp; omega]
  rw [List.drop_eq_getElem_cons h, List.set_cons_zero, List.take_add_one, hv]
  simp
theorem infoPl : (Tryz.prog.info? 27).map (fun i => (i.zero, i.size, i.bytes)) = some (some (.agg #[.string ByteArray.empty, .int .i64 0, .int .i64 0, .int .i64 0, .int .i64 0, .int .i64 0]), 6, 56) := by kernel_rfl

def CopyPost (w : World) (n : Nat) (ps : List Pl) (e : Ending) (w' : World) : Prop :=
  e = .returned (.slice (some ⟨w.heap.size, 0, none⟩) n n) ∧ w'.ownsRow w.heap.size 27 6 (.slice (some ⟨w.heap.size, 0, none⟩) n n) n (plv ps) ∧ Below w.heap.size w w'

end Go.Proofs.YtfmbmgdemdbpaaaGreatDoor
