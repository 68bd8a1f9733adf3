/- Heights from one to another: both texts build the same list in memory of their own. -/
import Derived.Test.YthjedbjhinlhhaaInts
import Derived.Test.YthjedbjhinlhhaaBlend
namespace Go.Proofs.Ythjedbjhinlhhaa
open Go.RowKit

def okB (f t m : Int) : Bool := inB f 1 10000 && (inB t 1 10000 && inB m 2 8)
/-- the first k heights -/
def taperTo (f t : Int) (m k : Nat) : List Int := (List.range k).map (fun j : Nat => lineI 0 f ((m : Int) - 1) t j)
theorem taper_len (f t : Int) (m k : Nat) : (taperTo f t m k).length = k := by simp [taperTo]
theorem taper_succ (f t : Int) (m k : Nat) : iv (taperTo f t m (k + 1)) = iv (taperTo f t m k) ++ [.int .i64 (lineI 0 f ((m : Int) - 1) t k)] := by simp [taperTo, iv, List.range_succ]
def TaperPost (f t : Int) (m : Nat) (w : World) (e : Ending) (w' : World) : Prop :=
  ∃ g cap : Nat, e = .returned (.tuple #[.slice (some ⟨g, 0, none⟩) m cap, .int .i64 0]) ∧ w'.ownsRow w.heap.size 2 1 (.slice (some ⟨g, 0, none⟩) m cap) m (iv (taperTo f t m m)) ∧ Below w.heap.size w w'
theorem infoI : (Try.prog.info? 2).map (fun i => (i.zero, i.size, i.bytes)) = some (some (.int .i64 0), 1, 8) := by kernel_rfl

/-- behind an append onto a row of the call's own -/
theorem below_own {w wr w1 : World} {e : TypeId} {size n : Nat} {v : Value} {xs : List Value} {o : Obj} (ho : wr.ownsRow w.heap.size e size v n xs) (hb : Below w.heap.size w wr) (hg : (wr.alloc o).grownBy w1 v.ownBlock) : Below w.heap.size w w1 := by
  refine (hb.alloc hb.size o).grown hg (by have := hb.size; simp; omega) (fun k hk => ?_)
  rcases ho.2 with ⟨rfl, _⟩ | ⟨g, cap, cur, rfl, hbg, _⟩
  · simp [Value.ownBlock] at hk
  · have : g = k := by simpa [Value.ownBlock] using hk
    omega

theorem taper_no (f t m : Int) (w : World) (h : okB f t m = false) :
    Calls Try.prog 20 #[.int .i64 f, .int .i64 t, .int .i64 m] w fun e w' => e = .returned (.tuple #[.slice none 0 0, .int .i64 2]) ∧ w = w' := by
  have H := Lib.hid h
  clear h
  cases h1 : inB f 1 10000 <;> cases h2 : inB t 1 10000 <;> cases h3 : inB m 2 8
  case true.true.true => have := H.out; simp [okB, *] at this
  all_goals
    go_enter Try.func20, Try.ntmps20
    go_wp2_with (go_at_call 46; refine (within_any _ _ _ _).mono ?_; rintro e w' ⟨rfl, rfl⟩)
    go_ret2
    exact ⟨rfl, rfl⟩

set_option maxHeartbeats 1600000 in
theorem taper_yes (f t : Int) (m : Nat) (w : World) (h1 : inB f 1 10000 = true) (h2 : inB t 1 10000 = true) (h3 : inB m 2 8 = true) :
    Calls Try.prog 20 #[.int .i64 f, .int .i64 t, .int .i64 m] w (TaperPost f t m w) := by
  have b1 := inB_t h1
  have b2 := inB_t h2
  have b3 := inB_t h3
  obtain ⟨i0, hi, hz0, hz1, hz2⟩ := info_parts infoI
  go_enter Try.func20, Try.ntmps20
  go_wp2_with (go_at_call 46; refine (within_any _ _ _ _).mono ?_; rintro e w' ⟨rfl, rfl⟩)
  go_loopw [8, 25] (fun v i wr => ∃ k : Nat, k ≤ m ∧ i = .int .i64 k ∧ wr.ownsRow w.heap.size 2 1 v k (iv (taperTo f t m k)) ∧ Below w.heap.size w wr) (fun _ i _ => m - (intOf i).toNat)
  case atStart => exact ⟨0, Nat.zero_le _, rfl, World.ownsRow_lit w #[] 0 (Nat.le_refl _) (by simp [maxLen]) rfl, (Below.refl _ _).alloc (Nat.le_refl _) _⟩
  case round =>
    obtain ⟨k, hk, rfl, ho, hb⟩ := hrel
    have HR := Lib.hid ho
    have HB := Lib.hid hb
    clear ho hb
    by_cases hlt : k < m
    · obtain ⟨x, hx⟩ : ∃ x, lineI 0 f ((m : Int) - 1) t k = x := ⟨_, rfl⟩
      have HX := Lib.hid hx
      have ca := fun W => (blend_any 0 f ((m : Int) - 1) t k W (by omega) (by omega) (by omega) (by omega) (by omega) (by omega) (by omega) (by omega))
      rw [hx] at ca
      have CA := Lib.hid ca
      clear ca hx
      go_wp2_with (first | (go_at_call 47; refine (CA.out _).mono ?_; rintro e w' ⟨rfl, rfl⟩) | (at_builtin; refine wpList_append_own _ rfl _ _ 27 rfl w.heap.size 2 i0 (.int .i64 0) 1 8 Try.underlying27 hi hz0 hz1 hz2 rfl (by decide) _ _ _ rfl (HR.out.alloc _) ⟨wr.heap.size, 0, none⟩ 1 1 [.int .i64 x] rfl rfl ?c1 ?c2 ?c3 ?c4 ?c5 ?_))
      case c1 => exact cell_one_new _ _ _
      case c2 => intro u hu; simp at hu; subst hu; rfl
      case c3 => unfold maxLen; omega
      case c4 => omega
      case c5 => have := HB.out.size; simp; omega
      · intro v' w1 hown' hgrow _
        have HO := Lib.hid hown'
        have HG := Lib.hid (below_own HR.out HB.out hgrow)
        clear hown' hgrow
        go_wp2
        go_roundw
        case rel => exact ⟨k + 1, by omega, by go_num, by rw [taper_succ, HX.out]; exact HO.out, HG.out⟩
        case measure => simp [intOf]; omega
    · obtain rfl : k = m := by omega
      go_wp2
      go_ret2
      obtain ⟨g, cap, hv, _, _⟩ := HR.out.form (by omega)
      exact ⟨g, cap, by rw [hv]; rfl, by rw [← hv]; exact HR.out, HB.out⟩

theorem specTaper_no (f t m : Int) (w : World) (h : okB f t m = false) :
    Calls Try.prog 19 #[.int .i64 f, .int .i64 t, .int .i64 m] w fun e w' => e = .returned (.tuple #[.slice none 0 0, .int .i64 2]) ∧ w = w' := by
  have H := Lib.hid h
  clear h
  cases h1 : inB f 1 10000 <;> cases h2 : inB t 1 10000 <;> cases h3 : inB m 2 8
  case true.true.true => have := H.out; simp [okB, *] at this
  all_goals
    go_enter Try.func19, Try.ntmps19
    go_wp2_with (first | (go_at_call 44; refine (in_any _ _ _ _).mono ?_; rintro e w' ⟨rfl, rfl⟩) | go_in)
    go_ret2
    exact ⟨rfl, rfl⟩

set_option maxHeartbeats 1600000 in
theorem specTaper_yes (f t : Int) (m : Nat) (w : World) (h1 : inB f 1 10000 = true) (h2 : inB t 1 10000 = true) (h3 : inB m 2 8 = true) :
    Calls Try.prog 19 #[.int .i64 f, .int .i64 t, .int .i64 m] w (TaperPost f t m w) := by
  have b1 := inB_t h1
  have b2 := inB_t h2
  have b3 := inB_t h3
  obtain ⟨i0, hi, hz0, hz1, hz2⟩ := info_parts infoI
  go_enter Try.func19, Try.ntmps19
  go_wp2_with (first | (go_at_call 44; refine (in_any _ _ _ _).mono ?_; rintro e w' ⟨rfl, rfl⟩) | go_in)
  go_loopw [8, 9] (fun v i wr => ∃ k : Nat, k ≤ m ∧ i = .int .i64 k ∧ wr.ownsRow w.heap.size 2 1 v k (iv (taperTo f t m k)) ∧ Below w.heap.size w wr) (fun _ i _ => m - (intOf i).toNat)
  case atStart => exact ⟨0, Nat.zero_le _, rfl, World.ownsRow_lit w #[] 0 (Nat.le_refl _) (by simp [maxLen]) rfl, (Below.refl _ _).alloc (Nat.le_refl _) _⟩
  case round =>
    obtain ⟨k, hk, rfl, ho, hb⟩ := hrel
    have HR := Lib.hid ho
    have HB := Lib.hid hb
    clear ho hb
    by_cases hlt : k < m
    · obtain ⟨x, hx⟩ : ∃ x, lineI 0 f ((m : Int) - 1) t k = x := ⟨_, rfl⟩
      have HX := Lib.hid hx
      have ca := fun W => (l01Line_any 0 f ((m : Int) - 1) t k W (by omega) (by omega) (by omega) (by omega) (by omega) (by omega) (by omega) (by omega))
      rw [hx] at ca
      have CA := Lib.hid ca
      clear ca hx
      go_wp2_with (first | (go_at_call 45; refine (CA.out _).mono ?_; rintro e w' ⟨rfl, rfl⟩) | (at_builtin; refine wpList_append_own _ rfl _ _ 27 rfl w.heap.size 2 i0 (.int .i64 0) 1 8 Try.underlying27 hi hz0 hz1 hz2 rfl (by decide) _ _ _ rfl (HR.out.alloc _) ⟨wr.heap.size, 0, none⟩ 1 1 [.int .i64 x] rfl rfl ?c1 ?c2 ?c3 ?c4 ?c5 ?_))
      case c1 => exact cell_one_new _ _ _
      case c2 => intro u hu; simp at hu; subst hu; rfl
      case c3 => unfold maxLen; omega
      case c4 => omega
      case c5 => have := HB.out.size; simp; omega
      · intro v' w1 hown' hgrow _
        have HO := Lib.hid hown'
        have HG := Lib.hid (below_own HR.out HB.out hgrow)
        clear hown' hgrow
        go_wp2
        go_roundw
        case rel => exact ⟨k + 1, by omega, by go_num, by rw [taper_succ, HX.out]; exact HO.out, HG.out⟩
        case measure => simp [intOf]; omega
    · obtain rfl : k = m := by omega
      go_wp2
      go_ret2
      obtain ⟨g, cap, hv, _, _⟩ := HR.out.form (by omega)
      exact ⟨g, cap, by rw [hv]; rfl, by rw [← hv]; exact HR.out, HB.out⟩
end Go.Proofs.Ythjedbjhinlhhaa
