/- The laws' planks: a list of valid planks with rising names. -/
import Derived.Test.YtfmbmgdemdbpaaaGreatDoorDraw
import Derived.Test.YtfmbmgdemdbpaaaGreatDoorPvalid
import Derived.Deep.AppendLies
namespace Go.Proofs.YtfmbmgdemdbpaaaGreatDoor
open Go.RowKit Go.Sort
set_option linter.unusedVariables false

def nmB (i : Nat) : ByteArray := ⟨#[112, UInt8.ofNat (49 + i)]⟩
theorem nm_lt {i k : Nat} (h : i < k) (hk : k < 6) {p q : Pl} (hp : p.id = nmB i) (hq : q.id = nmB k) : ltB p q = true := by
  unfold ltB
  rw [hp, hq]
  have : i < 5 := by omega
  rcases (show i = 0 ∨ i = 1 ∨ i = 2 ∨ i = 3 ∨ i = 4 by omega) with rfl | rfl | rfl | rfl | rfl <;>
    rcases (show k = 1 ∨ k = 2 ∨ k = 3 ∨ k = 4 ∨ k = 5 by omega) with rfl | rfl | rfl | rfl | rfl <;> first | (exfalso; omega) | (rw [Lib.toList_data, Lib.toList_data]; decide)
theorem nm_valid {k : Nat} (hk : k < 6) {p : Pl} (h : Drawn p (nmB k)) : validB p = true := by
  obtain ⟨h0, h1, h2, h3, h4, h5⟩ := h
  unfold validB pieceB
  rw [h0, inB_mk (by omega) (by omega), inB_mk (by omega) (by omega), inB_mk (by omega) (by omega), inB_mk (by omega) (by omega), inB_mk (by omega) (by omega)]
  rcases (show k = 0 ∨ k = 1 ∨ k = 2 ∨ k = 3 ∨ k = 4 ∨ k = 5 by omega) with rfl | rfl | rfl | rfl | rfl | rfl <;> decide
/-- a list drawn so far -/
def Row (ps : List Pl) (k : Nat) : Prop := ps.length ≤ k ∧ ∀ j, j < ps.length → validB (atP ps j) = true ∧ (∃ i, i < k ∧ (atP ps j).id = nmB i) ∧ (0 < j → ltB (atP ps (j - 1)) (atP ps j) = true)
theorem atP_snoc_old {ps : List Pl} {p : Pl} {j : Nat} (h : j < ps.length) : atP (ps ++ [p]) j = atP ps j := by
  rw [atP, atP, List.getD_eq_getElem?_getD, List.getD_eq_getElem?_getD, List.getElem?_append_left h]
theorem atP_snoc_new {ps : List Pl} {p : Pl} : atP (ps ++ [p]) ps.length = p := by
  rw [atP, List.getD_eq_getElem?_getD, List.getElem?_append_right (Nat.le_refl _), Nat.sub_self]; rfl
theorem row_skip {ps : List Pl} {k : Nat} (h : Row ps k) : Row ps (k + 1) :=
  ⟨by have := h.1; omega, fun j hj => by
    obtain ⟨a, ⟨i, hi, e⟩, c⟩ := h.2 j hj
    exact ⟨a, ⟨i, by omega, e⟩, c⟩⟩
theorem row_snoc {ps : List Pl} {k : Nat} {p : Pl} (h : Row ps k) (hk : k < 6) (hp : Drawn p (nmB k)) : Row (ps ++ [p]) (k + 1) := by
  refine ⟨by rw [List.length_append]; have := h.1; simp; omega, fun j hj => ?_⟩
  rw [List.length_append, List.length_cons, List.length_nil] at hj
  by_cases hlt : j < ps.length
  · obtain ⟨a, ⟨i, hi, e⟩, c⟩ := h.2 j hlt
    rw [atP_snoc_old hlt]
    refine ⟨a, ⟨i, by omega, e⟩, fun h0 => ?_⟩
    rw [atP_snoc_old (by omega)]
    exact c h0
  · obtain rfl : j = ps.length := by omega
    rw [atP_snoc_new]
    refine ⟨nm_valid hk hp, ⟨k, by omega, hp.1⟩, fun h0 => ?_⟩
    rw [atP_snoc_old (by omega)]
    obtain ⟨_, ⟨i, hi, e⟩, _⟩ := h.2 (ps.length - 1) (by omega)
    exact nm_lt hi hk e hp.1
theorem row_valid {ps : List Pl} (h : Row ps 6) : validL ps = true :=
  validL_t ⟨by have := h.1; omega, fun k hk => ⟨(h.2 k hk).1, (h.2 k hk).2.2⟩⟩
theorem row_short {ps : List Pl} {k : Nat} (h : Row ps k) : Short ps ps.length := fun j hj => by
  obtain ⟨_, ⟨i, _, e⟩, _⟩ := h.2 j hj
  rw [e]
  show 2 ≤ maxLen
  unfold maxLen; omega
def names6 : Array Value := #[.string ⟨#[112, 49]⟩, .string ⟨#[112, 50]⟩, .string ⟨#[112, 51]⟩, .string ⟨#[112, 52]⟩, .string ⟨#[112, 53]⟩, .string ⟨#[112, 54]⟩]
theorem names_at {k : Nat} (h : k < 6) : names6[k]? = some (.string (nmB k)) := by
  rcases (show k = 0 ∨ k = 1 ∨ k = 2 ∨ k = 3 ∨ k = 4 ∨ k = 5 by omega) with rfl | rfl | rfl | rfl | rfl | rfl <;> rfl
theorem infoPk : (Tryz.prog.info? 27).map (fun i => (i.zero, i.size, i.bytes)) = some (some (.agg #[.string ByteArray.empty, .int .i64 0, .int .i64 0, .int .i64 0, .int .i64 0, .int .i64 0]), 6, 56) := by kernel_rfl
theorem own_lower2 {w : World} {B B' : Nat} {e : TypeId} {size n : Nat} {v : Value} {xs : List Value} (h : w.ownsRow B' e size v n xs) (hB : B ≤ B') : w.ownsRow B e size v n xs := by
  refine ⟨h.1, ?_⟩
  rcases h.2 with h0 | ⟨g, cap, cur, hv, hbg, rest⟩
  · exact .inl h0
  · exact .inr ⟨g, cap, cur, hv, Nat.le_trans hB hbg, rest⟩
theorem plv_snoc (ps : List Pl) (p : Pl) : plv (ps ++ [p]) = plv ps ++ cells6 p := by simp [plv]
theorem own_old {g : Nat} {w w' : World} {B : Nat} {e : TypeId} {size n : Nat} {v : Value} {xs : List Value} (h : w.ownsRow B e size v n xs) (hb : Old g w w') (hg : g < B) : w'.ownsRow B e size v n xs := by
  refine ⟨h.1, ?_⟩
  rcases h.2 with h0 | ⟨c, cap, cur, hv, hbg, hh, h1, h2, h3, h4⟩
  · exact .inl h0
  · have hlt : c < w.heap.size := (Array.getElem?_eq_some_iff.1 hh).1
    exact .inr ⟨c, cap, cur, hv, hbg, (hb.2.2.2.2 c hlt (by omega)).trans hh, h1, h2, h3, h4⟩
theorem Old.grown {g : Nat} {w a b : World} {row : Option Nat} (h : Old g w a) (hg : a.grownBy b row) (hr : ∀ k, row = some k → w.heap.size ≤ k) : Old g w b :=
  ⟨hg.os.trans h.1, hg.tape.trans h.2.1, hg.output.trans h.2.2.1, Nat.le_trans h.2.2.2.1 hg.size, fun k hk hne => (hg.block k (Nat.lt_of_lt_of_le hk h.2.2.2.1) (fun e => by have := hr k e.symm; omega)).trans (h.2.2.2.2 k hk hne)⟩
theorem SrcIn.old {g : Nat} {w w' : World} {A : Option Addr} {n c i : Nat} (h : SrcIn w g A n c i) {row : Option Nat} (hg : w.grownBy w' row) (hr : row ≠ some g) : SrcIn w' g A n c i := by
  obtain ⟨j, sd, hj, h⟩ := h
  exact ⟨j, sd, hj, h.grown hg (fun e => hr e.symm)⟩

set_option maxRecDepth 100000 in
set_option maxHeartbeats 3200000 in
theorem draw_any (A : Option Addr) (n c b g : Nat) (zs : List Int) (i : Nat) (w : World) (hx : Reads w b 1 A n (u8v zs)) (hz : ∀ z ∈ zs, 0 ≤ z ∧ z ≤ 255) (hbg : b ≤ g) (hbw : b ≤ w.heap.size) (hs : SrcIn w g A n c i) (hi : i ≤ 1000000) (hn : n ≤ 1048576) :
    Calls Tryz.prog 23 #[.pointer (some ⟨g, 0, none⟩)] w fun e w' => ∃ v, e = .returned v ∧ ∃ ps, w'.ownsRow w.heap.size 27 6 v ps.length (plv ps) ∧ Row ps 6 ∧ Old g w w' := by
  obtain ⟨i0, hi0, hz0, hz1, hz2⟩ := info_parts infoPk
  have gl := hs.lt
  have PK := Lib.hid (fun W j k (hO : Old g w W) (hS : SrcIn W g A n c j) (hj : j ≤ 1000000000) (hk : 1 < k) (hk2 : k ≤ 60000) => pickQ_any A n c b g zs j k W (hO.reads hx hbg hbw) hz hbg hS hj hn hk hk2)
  have DO := Lib.hid (fun W j id (hO : Old g w W) (hS : SrcIn W g A n c j) (hj : j ≤ 100000000) => drawOne_any A n c b g zs j id W (hO.reads hx hbg hbw) hz hbg (Nat.le_trans hbw hO.2.2.2.1) hS hj hn)
  have S0 := Lib.hid hs
  clear hx hz hs
  go_enter Tryz.func23, Tryz.ntmps23
  go_wp2_with fail
  have nb := (Blk.new w 9 names6).alloc (.cells #[] 27)
  have S1 := (S0.out.alloc (.cells names6 9)).alloc (.cells #[] 27)
  have O1 := ((Old.refl g w).alloc (.cells names6 9)).alloc (.cells #[] 27)
  have h1 := World.ownsRow_lit (base := w.heap.size + 1) (e := 27) (size := 6) (w.alloc (.cells names6 9)) #[] 0 (by simp) (by simp [maxLen]) rfl
  rw [show (w.alloc (.cells names6 9)).heap.size = w.heap.size + 1 by simp] at h1
  unfold names6 at nb S1 O1 h1
  revert nb S1 O1 h1
  generalize ((w.alloc (.cells #[.string ⟨#[112, 49]⟩, .string ⟨#[112, 50]⟩, .string ⟨#[112, 51]⟩, .string ⟨#[112, 52]⟩, .string ⟨#[112, 53]⟩, .string ⟨#[112, 54]⟩] 9)).alloc (.cells #[] 27)) = w1
  intro nb S1 O1 h1
  have nb := Lib.hid nb
  have S1 := Lib.hid S1
  have O1 := Lib.hid O1
  have h1 := Lib.hid h1
  clear S0
  go_loopw [4, 5] (fun v kk wr => ∃ (k : Nat) (ps : List Pl), k ≤ 6 ∧ kk = .int .i64 k ∧ wr.ownsRow (w.heap.size + 1) 27 6 v ps.length (plv ps) ∧ Row ps k ∧ SrcIn wr g A n c (i + 12 * k) ∧ Old g w wr ∧ Blk wr w.heap.size 9 names6) (fun _ kk _ => 6 - (intOf kk).toNat)
  case atStart => exact ⟨0, [], by omega, rfl, by simpa [plv] using h1.out, ⟨Nat.le_refl _, fun j hj => by simp at hj⟩, S1.out.more (by omega), O1.out, nb.out⟩
  case round =>
    obtain ⟨k, ps, hk, rfl, ho, hr, hs, hO, hnb⟩ := hrel
    have HO := Lib.hid ho
    have HR := Lib.hid hr
    have HS := Lib.hid hs
    have HD := Lib.hid hO
    have HN := Lib.hid hnb
    clear ho hr hs hO hnb
    by_cases hlt : k < 6
    · have g1 : (k : Int) < 6 := by omega
      go_wp2_with fail
      refine (PK.out wr (i + 12 * k) 3 HD.out HS.out (by omega) (by omega) (by omega)).mono ?_
      rintro e w2 ⟨x, rfl, l1, u1, S2, b2, o2⟩
      have T2 := (Old.refl g wr).only b2 o2
      have S2 := Lib.hid S2
      have D2 := Lib.hid (HD.out.only b2 o2)
      have HO2 := Lib.hid (own_old HO.out T2 (by omega))
      have HN2 := Lib.hid (T2.blk HN.out (by omega))
      clear b2 o2 T2
      by_cases hx0 : 0 < x
      · have cn : w2.cell? ⟨w.heap.size, k, none⟩ = some (.string (nmB k)) := (HN2.out.cell k).trans (names_at hlt)
        obtain ⟨nk, hnk⟩ : ∃ nk, nmB k = nk := ⟨_, rfl⟩
        rw [hnk] at cn
        have HNK := Lib.hid hnk
        clear hnk
        go_wp2_with fail
        refine (DO.out w2 (i + 12 * k + 2) nk D2.out S2.out (by omega)).mono ?_
        rintro e w3 ⟨p, rfl, dr, S3, T3⟩
        have S3 := Lib.hid (S3.more (show i + 12 * k + 2 + 10 ≤ i + 12 * (k + 1) by omega))
        have D3 := Lib.hid (D2.out.trans T3)
        have HO3 := Lib.hid (own_old HO2.out T3 (by omega))
        have HN3 := Lib.hid (T3.blk HN2.out (by omega))
        have RN := Lib.hid (row_snoc HR.out hlt (by rw [HNK.out]; exact dr))
        have pl := Lib.hid (show ps.length ≤ 6 by have := HR.out.1; omega)
        clear dr T3
        unfold agg6'
        go_wp2_with (at_builtin; refine wpList_append_own _ rfl _ _ 24 rfl (w.heap.size + 1) 27 i0 (.agg #[.string ByteArray.empty, .int .i64 0, .int .i64 0, .int .i64 0, .int .i64 0, .int .i64 0]) 6 56 Tryz.underlying24 hi0 hz0 hz1 hz2 rfl (by decide) _ _ _ rfl (HO3.out.alloc _) ⟨w3.heap.size, 0, none⟩ 1 1 [.string p.id, .int .i64 p.l, .int .i64 p.wd, .int .i64 p.t, .int .i64 p.m, .int .i64 p.r] rfl rfl ?c1 ?c2 ?c3 ?c4 ?c5 ?_)
        case c1 => exact World.news_of_block (heap_alloc_new w3 _)
        case c2 => intro u hu; simp at hu; rcases hu with rfl | rfl | rfl | rfl | rfl | rfl <;> rfl
        case c3 => have := pl.out; unfold maxLen; omega
        case c4 => have := pl.out; omega
        case c5 => have := D3.out.2.2.2.1; simp; omega
        · intro v' W1 hown' hgrow _
          have ow := HO3.out.lt
          have hr1 : ∀ k, _ = some k → w.heap.size ≤ k := fun k hk => by have := (ow k hk).1; omega
          have HO4 := Lib.hid (show W1.ownsRow (w.heap.size + 1) 27 6 v' (ps ++ [p]).length (plv (ps ++ [p])) by rw [List.length_append, plv_snoc]; exact hown')
          have D4 := Lib.hid ((D3.out.alloc _).grown hgrow hr1)
          have S4 := Lib.hid ((S3.out.alloc _).old hgrow (fun e => by have := (ow g e).1; omega))
          have HN4 := Lib.hid ((HN3.out.alloc _).grown hgrow (fun e => by have := (ow _ e.symm).1; omega))
          clear hown' hgrow ow hr1
          go_wp2
          go_roundw
          case rel => exact ⟨k + 1, ps ++ [p], by omega, by go_num, HO4.out, RN.out, S4.out, D4.out, HN4.out⟩
          case measure => simp [intOf]; omega
      · have S2' := Lib.hid (S2.out.more (show i + 12 * k + 2 ≤ i + 12 * (k + 1) by omega))
        have RS := Lib.hid (row_skip HR.out)
        go_wp2
        go_roundw
        case rel => exact ⟨k + 1, ps, by omega, by go_num, HO2.out, RS.out, S2'.out, D2.out, HN2.out⟩
        case measure => simp [intOf]; omega
    · obtain rfl : k = 6 := by omega
      go_wp2
      go_ret
      exact ⟨_, rfl, ps, own_lower2 HO.out (by omega), HR.out, HD.out⟩

/-- where the source lies: behind everything old -/
theorem fromQ_any (A : Option Addr) (n c : Nat) (w : World) :
    Calls Tryz.prog 22 #[.slice A n c] w fun e w' => e = .returned (.pointer (some ⟨w.heap.size, 0, none⟩)) ∧ SrcIn w' w.heap.size A n c 0 ∧ Below w.heap.size w w' ∧ w'.heap.size = w.heap.size + 1 := by
  go_enter Tryz.func22, Tryz.ntmps22
  go_wp2
  go_ret
  exact ⟨rfl, ⟨0, 0, Nat.le_refl _, Blk.new _ _ _⟩, (Below.refl _ _).alloc (Nat.le_refl _) _, by simp⟩

theorem planks_any (A : Option Addr) (n c : Nat) (w : World) (zs : List Int) (hx : Reads w w.heap.size 1 A n (u8v zs)) (hz : ∀ z ∈ zs, 0 ≤ z ∧ z ≤ 255) (hn : n ≤ 1048576) :
    Calls Tryz.prog 5 #[.slice A n c] w fun e w' => ∃ v, e = .returned v ∧ ∃ ps, w'.ownsRow w.heap.size 27 6 v ps.length (plv ps) ∧ Row ps 6 ∧ Below w.heap.size w w' := by
  have F := Lib.hid (fromQ_any A n c w)
  have G := Lib.hid (fun W (hB : Below w.heap.size w W) hs (hw : w.heap.size ≤ W.heap.size) => draw_any A n c w.heap.size w.heap.size zs 0 W (hx.below hB) hz (Nat.le_refl _) hw hs (by omega) hn)
  clear hx hz
  go_enter Tryz.func5, Tryz.ntmps5
  go_wp2_with fail
  refine F.out.mono ?_
  rintro e w1 ⟨rfl, s1, b1, z1⟩
  have B1 := Lib.hid b1
  have S1 := Lib.hid s1
  clear s1 b1
  go_wp2_with fail
  refine (G.out w1 B1.out S1.out (by omega)).mono ?_
  rintro e w2 ⟨v, rfl, ps, ho, hr, hd⟩
  have HO := Lib.hid (own_lower2 ho (B' := w1.heap.size) (B := w.heap.size) (by omega))
  have HR := Lib.hid hr
  have B2 := Lib.hid (B1.out.trans (hd.below (Nat.le_refl _) (by omega)))
  clear ho hr hd
  go_wp2
  go_ret
  exact ⟨v, rfl, ps, HO.out, HR.out, B2.out⟩
end Go.Proofs.YtfmbmgdemdbpaaaGreatDoor
