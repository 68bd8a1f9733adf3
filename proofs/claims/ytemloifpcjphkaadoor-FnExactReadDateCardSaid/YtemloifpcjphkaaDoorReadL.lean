/- ReadLap: the reference's side. -/
import Derived.Test.YtemloifpcjphkaaDoorReadC
import Derived.Test.YtemloifpcjphkaaDoorNumS
import Derived.Test.YtemloifpcjphkaaDoorSplitB
import Derived.BigQuiet
import Derived.Deep.RegionHeld3
namespace Go.Proofs.YtemloifpcjphkaaDoor
open Go.RowKit Go.Sort
set_option linter.unusedVariables false

theorem spl_one_mem {c : UInt8} {l b : List UInt8} (h : spl c l = [b]) : l = b ∧ c ∉ l := by
  rcases cut_cases c l with ⟨x, y, e, hn, _⟩ | ⟨hn, _⟩
  · rw [e, spl_hit hn] at h
    simp only [List.cons.injEq] at h
    exact absurd h.2 (spl_ne c y)
  · rw [spl_miss hn] at h
    simp only [List.cons.injEq, and_true] at h
    exact ⟨h, hn⟩
theorem spl_pair {c : UInt8} {l a b : List UInt8} (h : spl c l = [a, b]) : l = a ++ c :: b := by
  rcases cut_cases c l with ⟨x, y, e, hn, _⟩ | ⟨hn, _⟩
  · rw [e, spl_hit hn] at h
    simp only [List.cons.injEq] at h
    obtain ⟨rfl, h2⟩ := h
    obtain ⟨rfl, _⟩ := spl_one_mem h2
    exact e
  · rw [spl_miss hn] at h
    simp at h
theorem spl_of {c : UInt8} {a b : List UInt8} (ha : c ∉ a) (hb : c ∉ b) : spl c (a ++ c :: b) = [a, b] := by
  rw [spl_hit ha, spl_miss hb]
theorem num_itoa {n : Int} (h : 0 ≤ n) (h2 : n ≤ 1000000000) : okN (Lib.itoa n) ∧ numV (Lib.itoa n) = n := by
  have hl := itoa_le10 h h2
  have ad := allD_itoa h
  have hh : (Lib.itoa n).head? ≠ some 45 := by
    intro e
    have := ad 45 (by
      cases hq : Lib.itoa n with
      | nil => rw [hq] at e; simp at e
      | cons a r => rw [hq] at e; simp at e; rw [e]; simp)
    cases this
  have hd : digs (Lib.itoa n) = Lib.itoa n := by rw [digs, if_neg hh]
  refine ⟨itoa_ok (v := n) rfl (by rw [hd]; omega), ?_⟩
  rw [numV, if_neg hh, hd]
  exact val_itoa h
theorem lap_parts {v : Int} (hv : ReadLapR v) {l : List UInt8} (h : l = lapT v) : spl 58 l = [Lib.itoa (v / 60), two (v % 60)] := by
  have h0 := hv.1
  have h1 := hv.2
  rw [h, lapT]
  exact spl_of (allD_not (allD_itoa (by omega)) rfl) (allD_not (allD_two _) rfl)
theorem lap_of {l p0 p1 : List UInt8} (h : spl 58 l = [p0, p1]) (hok : okN p0) (m0 : 0 ≤ numV p0) (hd : AllD p1) (h2 : p1.length = 2) (h59 : valF 0 p1 ≤ 59) (hm : 60 * numV p0 + (valF 0 p1 : Int) ≤ 1000000000) :
    ReadLapR (60 * numV p0 + (valF 0 p1 : Int)) ∧ l = lapT (60 * numV p0 + (valF 0 p1 : Int)) := by
  have t1 := two_back hd h2
  have t0 := (ok_itoa hok).1
  have e1 : (60 * numV p0 + (valF 0 p1 : Int)) / 60 = numV p0 := by omega
  have e2 : (60 * numV p0 + (valF 0 p1 : Int)) % 60 = (valF 0 p1 : Int) := by omega
  refine ⟨⟨by omega, hm⟩, ?_⟩
  rw [lapT, e1, e2, t0, t1]
  exact spl_pair h
theorem spl_part (c : UInt8) : ∀ (l : List UInt8), ∀ p ∈ spl c l, p.length ≤ l.length
  | [], p, h => by simp only [spl, List.mem_singleton] at h; rw [h]; exact Nat.le_refl _
  | x :: r, p, h => by
    have ih := spl_part c r
    rw [spl] at h
    split at h
    · rcases List.mem_cons.1 h with rfl | h
      · simp
      · have := ih p h; simp; omega
    · split at h
      · rename_i hq; exact absurd hq (spl_ne c r)
      · rename_i h' t hq
        rw [hq] at ih
        rcases List.mem_cons.1 h with rfl | h
        · have := ih h' (by simp); simp; omega
        · have := ih p (by simp [h]); simp; omega
theorem val_pair {t : ByteArray} (h0 : 0 < t.size) (h1 : 1 < t.size) (h2 : t.size = 2) : t.data.toList = [t[0], t[1]] := by
  have hl := len_data t
  apply List.ext_getElem
  · rw [hl, h2]; rfl
  · intro i hi hi'
    have : i = 0 ∨ i = 1 := by simp at hi'; omega
    rcases this with rfl | rfl <;> rfl
theorem numV_bd {l : List UInt8} (h : okN l) : -1000000000000000000 < numV l ∧ numV l < 1000000000000000000 := by
  have := val18 h.2.2.2 h.2.1
  unfold numV
  split <;> omega

set_option maxRecDepth 100000 in
set_option maxHeartbeats 3200000 in
theorem specReadLap_any (s : ByteArray) (w : World) (hs : s.size ≤ 1048576) :
    Calls Tryd.prog 25 #[.string s] w fun e w' => RdPost lapT ReadLapR s.data.toList e ∧ Below w.heap.size w w' := by
  have hl := len_data s
  have F := Lib.hid (show Calls Tryd.prog 48 #[.string s, .int .u8 58] w fun e w' => ∃ v, e = .returned v ∧ w'.ownsRow w.heap.size 9 1 v (spl 58 s.data.toList).length (tv (spl 58 s.data.toList)) ∧ Below w.heap.size w w' from l01Split_any s 58 w hs)
  have SL := spl_len 58 s.data.toList
  have SM : ∀ p ∈ spl 58 s.data.toList, p.length ≤ 1048576 := fun p hp => by have := spl_part 58 _ p hp; omega
  obtain ⟨ps, hps⟩ : ∃ ps, spl 58 s.data.toList = ps := ⟨_, rfl⟩
  have NO := Lib.hid (show ∀ v, ReadLapR v → s.data.toList = lapT v → ps = [Lib.itoa (v / 60), two (v % 60)] from fun v hv e => by rw [← hps]; exact lap_parts hv e)
  rw [hps] at F SL SM
  have HPS := Lib.hid hps
  clear hps
  by_cases h2 : ps.length = 2
  · obtain ⟨p0, p1, rfl⟩ : ∃ p0 p1, ps = [p0, p1] := by
      rcases ps with _ | ⟨a, _ | ⟨b, _ | ⟨c, r⟩⟩⟩
      · simp at h2
      · simp at h2
      · exact ⟨a, b, rfl⟩
      · simp at h2
    have F := F.out
    rw [show [p0, p1].length = 2 from rfl] at F
    rw [show tv [p0, p1] = [.string ⟨p0.toArray⟩, .string ⟨p1.toArray⟩] from rfl] at F
    have m0 := SM p0 (by simp)
    have m1 := SM p1 (by simp)
    have d0 : (⟨p0.toArray⟩ : ByteArray).data.toList = p0 := rfl
    have d1 : (⟨p1.toArray⟩ : ByteArray).data.toList = p1 := rfl
    have z0 := str_size p0
    have z1 := str_size p1
    obtain ⟨t0, ht0⟩ : ∃ t, (⟨p0.toArray⟩ : ByteArray) = t := ⟨_, rfl⟩
    obtain ⟨t1, ht1⟩ : ∃ t, (⟨p1.toArray⟩ : ByteArray) = t := ⟨_, rfl⟩
    rw [ht0] at F d0 z0
    rw [ht1] at F d1 z1
    have F := Lib.hid F
    have NUM := l01Number_any t0
    rw [d0] at NUM
    have NUM := fun W => NUM W (by unfold maxLen; omega)
    clear SM SL h2 ht0 ht1
    by_cases hz : ¬ t1.size = 2
    · have q1 : ((t1.size : Int) == 2) = false := by rw [beq_eq_false_iff_ne]; omega
      have HN := Lib.hid (show ∀ v, ReadLapR v → s.data.toList ≠ lapT v from fun v hv e => hz (by
        have := NO.out v hv e
        simp only [List.cons.injEq] at this
        rw [z1, this.2.1]; exact two_len (by omega)))
      have hzI : ¬ (t1.size : Int) = 2 := by omega
      clear NO z0 z1 m0 m1 d0 d1 NUM hl hs
      go_enter Tryd.func25, Tryd.ntmps25
      go_wp2_with fail
      refine F.out.mono ?_
      rintro e w1 ⟨v, rfl, ho, b1⟩
      obtain ⟨g, c, rfl, _, hgl⟩ := ho.form (by omega)
      have c0 : w1.cell? ⟨g, 0, none⟩ = some (.string t0) := (ho.cellAt 0 (by omega)).trans rfl
      have c1 : w1.cell? ⟨g, 1, none⟩ = some (.string t1) := (ho.cellAt 1 (by omega)).trans rfl
      have B1 := Lib.hid b1
      clear ho b1 hgl
      go_wp2
      go_ret2
      exact ⟨.inr ⟨HN.out, rfl⟩, B1.out⟩
    have hz : t1.size = 2 := by omega
    have q1 : ((t1.size : Int) == 2) = true := by rw [beq_iff_eq]; omega
    have g0 : 0 < t1.size := by omega
    have g1 : 1 < t1.size := by omega
    have VP := val_pair g0 g1 hz
    rw [d1] at VP
    have NA := Lib.hid (show ∀ v, ReadLapR v → s.data.toList = lapT v → AllD p1 ∧ okN p0 ∧ numV p0 = v / 60 ∧ (valF 0 p1 : Int) = v % 60 from fun v hv e => by
      have h0 := hv.1
      have h1 := hv.2
      have := NO.out v hv e
      simp only [List.cons.injEq] at this
      obtain ⟨a1, a2⟩ := num_itoa (n := v / 60) (by omega) (by omega)
      rw [this.1, this.2.1]
      exact ⟨allD_two _, a1, a2, val_two (by omega)⟩)
    clear NO
    cases k0 : dgt t1[0]
    · have D0 := Lib.hid (show digitB t1[0].toNat = false by rw [digit_dgt]; exact k0)
      have HN := Lib.hid (show ∀ v, ReadLapR v → s.data.toList ≠ lapT v from fun v hv e => by
        have := (NA.out v hv e).1 t1[0] (by rw [VP]; simp)
        rw [k0] at this; cases this)
      clear NA k0 z0 z1 m0 m1 d0 d1 NUM hl hs VP
      go_enter Tryd.func25, Tryd.ntmps25
      go_wp2_with fail
      refine F.out.mono ?_
      rintro e w1 ⟨v, rfl, ho, b1⟩
      obtain ⟨g, c, rfl, _, hgl⟩ := ho.form (by omega)
      have c0 : w1.cell? ⟨g, 0, none⟩ = some (.string t0) := (ho.cellAt 0 (by omega)).trans rfl
      have c1 : w1.cell? ⟨g, 1, none⟩ = some (.string t1) := (ho.cellAt 1 (by omega)).trans rfl
      have B1 := Lib.hid b1
      clear ho b1 hgl
      go_wp2_with fail
      refine (l01Digit_is D0.out _).mono ?_
      rintro e w2 ⟨rfl, rfl⟩
      go_wp2
      go_ret2
      exact ⟨.inr ⟨HN.out, rfl⟩, B1.out⟩
    have D0 := Lib.hid (show digitB t1[0].toNat = true by rw [digit_dgt]; exact k0)
    have B0 := dgt_t k0
    cases k1 : dgt t1[1]
    · have D1 := Lib.hid (show digitB t1[1].toNat = false by rw [digit_dgt]; exact k1)
      have HN := Lib.hid (show ∀ v, ReadLapR v → s.data.toList ≠ lapT v from fun v hv e => by
        have := (NA.out v hv e).1 t1[1] (by rw [VP]; simp)
        rw [k1] at this; cases this)
      clear NA k0 k1 z0 z1 m0 m1 d0 d1 NUM hl hs VP
      go_enter Tryd.func25, Tryd.ntmps25
      go_wp2_with fail
      refine F.out.mono ?_
      rintro e w1 ⟨v, rfl, ho, b1⟩
      obtain ⟨g, c, rfl, _, hgl⟩ := ho.form (by omega)
      have c0 : w1.cell? ⟨g, 0, none⟩ = some (.string t0) := (ho.cellAt 0 (by omega)).trans rfl
      have c1 : w1.cell? ⟨g, 1, none⟩ = some (.string t1) := (ho.cellAt 1 (by omega)).trans rfl
      have B1 := Lib.hid b1
      clear ho b1 hgl
      go_wp2_with fail
      refine (l01Digit_is D0.out _).mono ?_
      rintro e w2 ⟨rfl, rfl⟩
      go_wp2_with fail
      refine (l01Digit_is D1.out _).mono ?_
      rintro e w2 ⟨rfl, rfl⟩
      go_wp2
      go_ret2
      exact ⟨.inr ⟨HN.out, rfl⟩, B1.out⟩
    have D1 := Lib.hid (show digitB t1[1].toNat = true by rw [digit_dgt]; exact k1)
    have BB := dgt_t k1
    have AD : AllD p1 := by
      rw [VP]
      intro c hc
      simp only [List.mem_cons, List.not_mem_nil, or_false] at hc
      rcases hc with rfl | rfl
      · exact k0
      · exact k1
    have VV : (valF 0 p1 : Int) = 10 * ((t1[0].toNat : Int) - 48) + ((t1[1].toNat : Int) - 48) := by
      rw [VP, valF_cons, valF_cons, valF_nil]; omega
    have u8a : IntKind.u8.wrap ((t1[0].toNat : Int) - 48) = (t1[0].toNat : Int) - 48 := u8_in _ (by omega)
    have u8b : IntKind.u8.wrap ((t1[1].toNat : Int) - 48) = (t1[1].toNat : Int) - 48 := u8_in _ (by omega)
    have w64 : IntKind.i64.wrap (10 * ((t1[0].toNat : Int) - 48)) = 10 * ((t1[0].toNat : Int) - 48) := wrap_i64 (by omega) (by omega)
    have w65 : IntKind.i64.wrap (10 * ((t1[0].toNat : Int) - 48) + ((t1[1].toNat : Int) - 48)) = 10 * ((t1[0].toNat : Int) - 48) + ((t1[1].toNat : Int) - 48) := wrap_i64 (by omega) (by omega)
    have vb : valF 0 p1 < 100 := val2_bd AD (by omega)
    have NP := Lib.hid NA
    by_cases hok : okN p0
    · obtain ⟨n1, n2⟩ := numR_ok hok
      rw [n1, n2] at NUM
      have nb := numV_bd hok
      obtain ⟨m, hm⟩ : ∃ m, numV p0 = m := ⟨_, rfl⟩
      rw [hm] at NUM nb
      have NUM := Lib.hid NUM
      have NB := Lib.hid (show ∀ v, ReadLapR v → s.data.toList = lapT v → m = v / 60 ∧ (10 * ((t1[0].toNat : Int) - 48) + ((t1[1].toNat : Int) - 48)) = v % 60 from fun v hv e => by
        have := (NA.out v hv e).2.2
        rw [hm, VV] at this; exact this)
      have Y := Lib.hid (show 0 ≤ m → (10 * ((t1[0].toNat : Int) - 48) + ((t1[1].toNat : Int) - 48)) ≤ 59 → 60 * m + (10 * ((t1[0].toNat : Int) - 48) + ((t1[1].toNat : Int) - 48)) ≤ 1000000000 → ReadLapR (60 * m + (10 * ((t1[0].toNat : Int) - 48) + ((t1[1].toNat : Int) - 48))) ∧ s.data.toList = lapT (60 * m + (10 * ((t1[0].toNat : Int) - 48) + ((t1[1].toNat : Int) - 48))) from fun a1 a2 a3 => by
        have := lap_of HPS.out hok (by rw [hm]; exact a1) AD (by omega) (by omega) (by rw [hm, VV]; exact a3)
        rw [hm, VV] at this; exact this)
      clear NA NP k0 k1 z0 z1 m0 m1 d0 d1 hl hs VP VV AD hok n1 n2 hm HPS
      cases hi : inB m 0 1000000000
      · have HN := Lib.hid (show ∀ v, ReadLapR v → s.data.toList ≠ lapT v from fun v hv e => by
          have h0 := hv.1
          have h1 := hv.2
          have := NB.out v hv e
          rw [inB_mk (by omega) (by omega)] at hi
          cases hi)
        clear NB Y
        go_enter Tryd.func25, Tryd.ntmps25
        go_wp2_with fail
        refine F.out.mono ?_
        rintro e w1 ⟨v, rfl, ho, b1⟩
        obtain ⟨g, c, rfl, _, hgl⟩ := ho.form (by omega)
        have c0 : w1.cell? ⟨g, 0, none⟩ = some (.string t0) := (ho.cellAt 0 (by omega)).trans rfl
        have c1 : w1.cell? ⟨g, 1, none⟩ = some (.string t1) := (ho.cellAt 1 (by omega)).trans rfl
        have B1 := Lib.hid b1
        clear ho b1 hgl
        go_wp2_with fail
        refine (l01Digit_is D0.out _).mono ?_
        rintro e w2 ⟨rfl, rfl⟩
        go_wp2_with fail
        refine (l01Digit_is D1.out _).mono ?_
        rintro e w2 ⟨rfl, rfl⟩
        go_wp2_with fail
        refine (NUM.out _).mono ?_
        rintro e w2 ⟨rfl, rfl⟩
        go_wp2_with fail
        go_region_held3 (fun W => W.cell? ⟨g, 1, none⟩ = some (.string t1)) (go_keep) (first | fail)
        all_goals
          go_wp2_with fail
          refine (is_of (mass_any _ _) hi).mono ?_
          rintro e w2 ⟨rfl, rfl⟩
          go_wp2
          go_ret2
          exact ⟨.inr ⟨HN.out, rfl⟩, below_drewN B1.out _⟩
      have ib := inB_t hi
      by_cases h59 : ¬ (10 * ((t1[0].toNat : Int) - 48) + ((t1[1].toNat : Int) - 48)) ≤ 59
      · have gr : (59 : Int) < (10 * ((t1[0].toNat : Int) - 48) + ((t1[1].toNat : Int) - 48)) := by omega
        have HN := Lib.hid (show ∀ v, ReadLapR v → s.data.toList ≠ lapT v from fun v hv e => by
          have := NB.out v hv e
          omega)
        clear NB Y
        go_enter Tryd.func25, Tryd.ntmps25
        go_wp2_with fail
        refine F.out.mono ?_
        rintro e w1 ⟨v, rfl, ho, b1⟩
        obtain ⟨g, c, rfl, _, hgl⟩ := ho.form (by omega)
        have c0 : w1.cell? ⟨g, 0, none⟩ = some (.string t0) := (ho.cellAt 0 (by omega)).trans rfl
        have c1 : w1.cell? ⟨g, 1, none⟩ = some (.string t1) := (ho.cellAt 1 (by omega)).trans rfl
        have B1 := Lib.hid b1
        clear ho b1 hgl
        go_wp2_with fail
        refine (l01Digit_is D0.out _).mono ?_
        rintro e w2 ⟨rfl, rfl⟩
        go_wp2_with fail
        refine (l01Digit_is D1.out _).mono ?_
        rintro e w2 ⟨rfl, rfl⟩
        go_wp2_with fail
        refine (NUM.out _).mono ?_
        rintro e w2 ⟨rfl, rfl⟩
        go_wp2_with fail
        go_region_held3 (fun W => W.cell? ⟨g, 1, none⟩ = some (.string t1)) (go_keep) (first | fail)
        all_goals
          go_wp2_with fail
          refine (is_of (mass_any _ _) hi).mono ?_
          rintro e w2 ⟨rfl, rfl⟩
          go_wp2
          go_ret2
          exact ⟨.inr ⟨HN.out, rfl⟩, below_drewN B1.out _⟩
      have gr : ¬ (59 : Int) < (10 * ((t1[0].toNat : Int) - 48) + ((t1[1].toNat : Int) - 48)) := by omega
      cases hi2 : inB (60 * m + (10 * ((t1[0].toNat : Int) - 48) + ((t1[1].toNat : Int) - 48))) 0 1000000000
      · have HN := Lib.hid (show ∀ v, ReadLapR v → s.data.toList ≠ lapT v from fun v hv e => by
          have h0 := hv.1
          have h1 := hv.2
          have := NB.out v hv e
          rw [inB_mk (by omega) (by omega)] at hi2
          cases hi2)
        clear NB Y h59
        go_enter Tryd.func25, Tryd.ntmps25
        go_wp2_with fail
        refine F.out.mono ?_
        rintro e w1 ⟨v, rfl, ho, b1⟩
        obtain ⟨g, c, rfl, _, hgl⟩ := ho.form (by omega)
        have c0 : w1.cell? ⟨g, 0, none⟩ = some (.string t0) := (ho.cellAt 0 (by omega)).trans rfl
        have c1 : w1.cell? ⟨g, 1, none⟩ = some (.string t1) := (ho.cellAt 1 (by omega)).trans rfl
        have B1 := Lib.hid b1
        clear ho b1 hgl
        go_wp2_with fail
        refine (l01Digit_is D0.out _).mono ?_
        rintro e w2 ⟨rfl, rfl⟩
        go_wp2_with fail
        refine (l01Digit_is D1.out _).mono ?_
        rintro e w2 ⟨rfl, rfl⟩
        go_wp2_with fail
        refine (NUM.out _).mono ?_
        rintro e w2 ⟨rfl, rfl⟩
        go_wp2_with fail
        go_region_held3 (fun W => W.cell? ⟨g, 1, none⟩ = some (.string t1)) (go_keep) (first | fail)
        all_goals
          go_wp2_with fail
          refine (is_of (mass_any _ _) hi).mono ?_
          rintro e w2 ⟨rfl, rfl⟩
          go_wp2_with fail
          refine (is_of (mass_any _ _) hi2).mono ?_
          rintro e w2 ⟨rfl, rfl⟩
          go_wp2
          go_ret2
          exact ⟨.inr ⟨HN.out, rfl⟩, below_drewN B1.out _⟩
      have ib2 := inB_t hi2
      have Y := Lib.hid (Y.out ib.1 (by omega) ib2.2)
      clear NB h59
      go_enter Tryd.func25, Tryd.ntmps25
      go_wp2_with fail
      refine F.out.mono ?_
      rintro e w1 ⟨v, rfl, ho, b1⟩
      obtain ⟨g, c, rfl, _, hgl⟩ := ho.form (by omega)
      have c0 : w1.cell? ⟨g, 0, none⟩ = some (.string t0) := (ho.cellAt 0 (by omega)).trans rfl
      have c1 : w1.cell? ⟨g, 1, none⟩ = some (.string t1) := (ho.cellAt 1 (by omega)).trans rfl
      have B1 := Lib.hid b1
      clear ho b1 hgl
      go_wp2_with fail
      refine (l01Digit_is D0.out _).mono ?_
      rintro e w2 ⟨rfl, rfl⟩
      go_wp2_with fail
      refine (l01Digit_is D1.out _).mono ?_
      rintro e w2 ⟨rfl, rfl⟩
      go_wp2_with fail
      refine (NUM.out _).mono ?_
      rintro e w2 ⟨rfl, rfl⟩
      go_wp2_with fail
      go_region_held3 (fun W => W.cell? ⟨g, 1, none⟩ = some (.string t1)) (go_keep) (first | fail)
      all_goals
        go_wp2_with fail
        refine (is_of (mass_any _ _) hi).mono ?_
        rintro e w2 ⟨rfl, rfl⟩
        go_wp2_with fail
        refine (is_of (mass_any _ _) hi2).mono ?_
        rintro e w2 ⟨rfl, rfl⟩
        go_wp2
        go_ret2
        exact ⟨.inl ⟨_, Y.out.1, Y.out.2, rfl⟩, below_drewN B1.out _⟩
    · obtain ⟨n1, n2⟩ := numR_no hok
      rw [n1, n2] at NUM
      have NUM := Lib.hid NUM
      have HN := Lib.hid (show ∀ v, ReadLapR v → s.data.toList ≠ lapT v from fun v hv e => hok (NA.out v hv e).2.1)
      clear NA NP k0 k1 z0 z1 m0 m1 d0 d1 hl hs VP VV AD hok n1 n2 HPS
      go_enter Tryd.func25, Tryd.ntmps25
      go_wp2_with fail
      refine F.out.mono ?_
      rintro e w1 ⟨v, rfl, ho, b1⟩
      obtain ⟨g, c, rfl, _, hgl⟩ := ho.form (by omega)
      have c0 : w1.cell? ⟨g, 0, none⟩ = some (.string t0) := (ho.cellAt 0 (by omega)).trans rfl
      have c1 : w1.cell? ⟨g, 1, none⟩ = some (.string t1) := (ho.cellAt 1 (by omega)).trans rfl
      have B1 := Lib.hid b1
      clear ho b1 hgl
      go_wp2_with fail
      refine (l01Digit_is D0.out _).mono ?_
      rintro e w2 ⟨rfl, rfl⟩
      go_wp2_with fail
      refine (l01Digit_is D1.out _).mono ?_
      rintro e w2 ⟨rfl, rfl⟩
      go_wp2_with fail
      refine (NUM.out _).mono ?_
      rintro e w2 ⟨rfl, rfl⟩
      go_wp2_with fail
      go_region_held3 (fun W => W.cell? ⟨g, 1, none⟩ = some (.string t1)) (go_keep) (first | fail)
      all_goals
        go_wp2
        go_ret2
        exact ⟨.inr ⟨HN.out, rfl⟩, below_drewN B1.out _⟩
  · have HN := Lib.hid (show ∀ v, ReadLapR v → s.data.toList ≠ lapT v from fun v hv e => h2 (by rw [NO.out v hv e]; rfl))
    have q0 : ((ps.length : Int) == 2) = false := by rw [beq_eq_false_iff_ne]; omega
    clear NO SM
    go_enter Tryd.func25, Tryd.ntmps25
    go_wp2_with fail
    refine F.out.mono ?_
    rintro e w1 ⟨v, rfl, ho, b1⟩
    obtain ⟨A, c, rfl⟩ := own_form ho
    have B1 := Lib.hid b1
    clear ho b1
    go_wp2
    go_ret2
    exact ⟨.inr ⟨HN.out, rfl⟩, B1.out⟩
end Go.Proofs.YtemloifpcjphkaaDoor
