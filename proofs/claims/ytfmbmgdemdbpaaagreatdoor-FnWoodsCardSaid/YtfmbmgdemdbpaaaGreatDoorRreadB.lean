/- Decimal numerals, read back: the program's reader. -/
import Derived.Test.YtfmbmgdemdbpaaaGreatDoorRread
namespace Go.Proofs.YtfmbmgdemdbpaaaGreatDoor
open Go.RowKit
set_option linter.unusedVariables false

/-- the two errors of the library's reader stand -/
def ErrVars (w : World) : Prop := (∃ tp p, w.var? Tryz.prog "strconv.ErrSyntax" = some #[.iface tp p]) ∧ (∃ tp p, w.var? Tryz.prog "strconv.ErrRange" = some #[.iface tp p])
theorem gSyn : Tryz.prog.globalNamed "strconv.ErrSyntax" = some 1 := by kernel_rfl
theorem gRan : Tryz.prog.globalNamed "strconv.ErrRange" = some 2 := by kernel_rfl
theorem var_below {w w' : World} {name : String} {g : Nat} {cs : Array Value} (hg : Tryz.prog.globalNamed name = some g) (h : w.var? Tryz.prog name = some cs) (hb : Below w.heap.size w w') : w'.var? Tryz.prog name = some cs := by
  refine var?_below hb hg ?_ h
  unfold World.var? at h
  rw [hg] at h
  simp only [Option.bind_some] at h
  split at h
  · rename_i hh; exact (Array.getElem?_eq_some_iff.1 hh).1
  · cases h
theorem err_below {w w' : World} (h : ErrVars w) (hb : Below w.heap.size w w') : ErrVars w' := by
  obtain ⟨⟨a, b, h1⟩, ⟨c, d, h2⟩⟩ := h
  exact ⟨⟨a, b, var_below gSyn h1 hb⟩, ⟨c, d, var_below gRan h2 hb⟩⟩
theorem trim_digs (l : List UInt8) : Lib.trimPrefix l [45] = digs l := by
  unfold Lib.trimPrefix digs Lib.hasPrefix
  cases l with
  | nil => rfl
  | cons c r =>
    by_cases h : c = 45
    · subst h; rfl
    · simp [h]
      intro e; exact absurd e.symm h
theorem below_bytes (w : World) (T : TypeId) (t : ByteArray) : Below w.heap.size w (Lib.bytesWorld w T t) := ⟨rfl, rfl, rfl, by rw [Lib.bytesWorld_size]; omega, fun j hj => Lib.bytesWorld_at_old w T t j hj⟩
theorem err_of_iface {t : TypeId} {nm : String} {d : DataW Unit} {fuel : Nat} {cs : List Value} {p : List MemPlace} {w : World} {y : Array (String × TypeId)} (ht : Tryz.prog.underlying t = some (.interface y))
    (h : DataW.trod (fun _ => ()) Tryz.prog w 0 (fun _ => true) false fuel t cs = some (.iface nm d, p)) : ∃ u v, cs = [.iface u v] := by
  cases fuel with
  | zero => simp [DataW.trod] at h
  | succ fuel =>
    simp only [DataW.trod, ht] at h
    rcases cs with _ | ⟨c, _ | ⟨c2, r⟩⟩
    · simp at h
    · cases c <;> simp at h ⊢
    · simp at h
theorem err_of_laid {W : World} {l : List (String × DataW Unit)} (hp : (l.all fun x => x.2.handleName?.isNone) = true) (h : laidMetH Tryz.prog l W)
    (hm : ("strconv.ErrSyntax", Rows.laid_strconv_ErrSyntax) ∈ l) (hm2 : ("strconv.ErrRange", Rows.laid_strconv_ErrRange) ∈ l) : ErrVars W := by
  rw [MakeChecks.laidMetH_plain _ _ _ hp] at h
  constructor
  · obtain ⟨g, t, cs, fuel, p, hg, ht, hv, hd⟩ := Lib.laidMet.reads h hm
    obtain rfl := Option.some.inj (gSyn.symm.trans hg)
    obtain rfl := Option.some.inj ((show (Tryz.prog.globals[1]?).map (·.type) = some 84 by kernel_rfl).symm.trans ht)
    obtain ⟨u, v, e⟩ := err_of_iface Tryz.underlying84 hd
    exact ⟨u, v, by rw [hv]; congr 1; exact Array.ext' e⟩
  · obtain ⟨g, t, cs, fuel, p, hg, ht, hv, hd⟩ := Lib.laidMet.reads h hm2
    obtain rfl := Option.some.inj (gRan.symm.trans hg)
    obtain rfl := Option.some.inj ((show (Tryz.prog.globals[2]?).map (·.type) = some 84 by kernel_rfl).symm.trans ht)
    obtain ⟨u, v, e⟩ := err_of_iface Tryz.underlying84 hd
    exact ⟨u, v, by rw [hv]; congr 1; exact Array.ext' e⟩

theorem parse_cases (l : List UInt8) : (∃ v, Lib.parseIntB 64 l = .ok v) ∨ Lib.parseIntB 64 l = Lib.parseIntB 64 [] ∨ Lib.parseIntB 64 l = .range := by
  cases h : Lib.parseIntB 64 l
  · exact .inl ⟨_, rfl⟩
  · exact .inr (.inl rfl)
  · exact .inr (.inr rfl)

set_option maxRecDepth 100000 in
set_option maxHeartbeats 800000 in
theorem implRead_any (s : ByteArray) (w : World) (hs : s.size ≤ 1048576) (tab : PowTab w) (er : ErrVars w) :
    Calls Tryz.prog 57 #[.string s] w fun e w' => e = .returned (.tuple #[.int .i64 (numR s.data.toList).1, .bool (numR s.data.toList).2]) ∧ Below w.heap.size w w' := by
  have T := Lib.hid (fun W => by
    have := Tryz.strings_TrimPrefix s ⟨#[45]⟩ W
    rw [show (⟨#[45]⟩ : ByteArray).data.toList = [45] from rfl, trim_digs] at this
    exact this)
  obtain ⟨t, ht⟩ : ∃ t, (⟨(digs s.data.toList).toArray⟩ : ByteArray) = t := ⟨_, rfl⟩
  have htl := Lib.hid (show (digs s.data.toList).length = t.size by rw [← ht]; rfl)
  rw [ht] at T
  have TB := Lib.hid tab
  by_cases h18 : 18 < t.size
  · have bad := Lib.hid (numR_no (l := s.data.toList) (fun h => by have := h.2.1; rw [htl.out] at this; omega))
    have q : (18 : Int) < (t.size : Int) := by omega
    clear ht tab er
    go_enter Tryz.func57, Tryz.ntmps57
    go_wp2_with fail
    refine (T.out _).mono ?_
    rintro e w1 ⟨rfl, rfl⟩
    go_wp2
    go_ret2
    exact ⟨ret_nb bad.out.1.symm bad.out.2.symm, Below.refl _ _⟩
  have q : ¬ (18 : Int) < (t.size : Int) := by omega
  rcases parse_cases s.data.toList with ⟨v, hv⟩ | hv | hv
  · have bd := Lib.parseIntB_bounds hv
    have v0 : -9223372036854775808 ≤ v ∧ v ≤ 9223372036854775807 := by
      have e63 : ((2 ^ (64 - 1) : Nat) : Int) = 9223372036854775808 := by decide
      rw [e63] at bd
      omega
    have F := Lib.hid (Tryz.strconv_ParseInt_10_at64_ok s (by omega) v hv w)
    have D := Lib.hid (fun W hW => implDec_any v W v0 hW)
    obtain ⟨u, hu⟩ : ∃ u, (⟨(Lib.itoa v).toArray⟩ : ByteArray) = u := ⟨_, rfl⟩
    rw [hu] at D
    by_cases hus : u = s
    · have hit : Lib.itoa v = s.data.toList := by rw [← hus, ← hu]
      have hok : okN s.data.toList := itoa_ok hit (by rw [htl.out]; omega)
      have good := numR_ok hok
      have ev : numV s.data.toList = v := by
        have := (ok_itoa hok).2
        rw [hv] at this
        injection this with this
        exact this.symm
      rw [ev] at good
      have GD := Lib.hid good
      clear hit hok good ev hv bd hu tab er ht v0
      subst hus
      go_enter Tryz.func57, Tryz.ntmps57
      go_wp2_with fail
      refine (T.out _).mono ?_
      rintro e w1 ⟨rfl, rfl⟩
      go_wp2_with fail
      refine F.out.mono ?_
      rintro e w2 ⟨rfl, hw2⟩
      have B2 := Lib.hid (show Below w1.heap.size w1 w2 by
        rcases hw2 with rfl | ⟨t, rfl⟩
        · exact Below.refl _ _
        · exact below_bytes _ _ _)
      clear hw2
      go_wp2_with fail
      refine (D.out _ (tab_below TB.out B2.out)).mono ?_
      rintro e w3 ⟨rfl, b3⟩
      have B3 := Lib.hid (B2.out.trans (b3.mono B2.out.size))
      clear b3
      go_wp2
      go_ret2
      exact ⟨ret_nb GD.out.1.symm GD.out.2.symm, B3.out⟩
    · have bad := Lib.hid (numR_no (l := s.data.toList) (fun h => hus (by
        have h1 := (ok_itoa h).2
        rw [hv] at h1
        injection h1 with h1
        have h2 := (ok_itoa h).1
        rw [← h1] at h2
        rw [← hu, h2])))
      have hne : (u.toList == s.toList) = false := by
        rw [beq_eq_false_iff_ne]; intro e
        rw [Lib.toList_data, Lib.toList_data] at e
        exact hus (by cases u; cases s; congr 1; exact Array.ext' e)
      clear hv bd hu tab er ht v0
      go_enter Tryz.func57, Tryz.ntmps57
      go_wp2_with fail
      refine (T.out _).mono ?_
      rintro e w1 ⟨rfl, rfl⟩
      go_wp2_with fail
      refine F.out.mono ?_
      rintro e w2 ⟨rfl, hw2⟩
      have B2 := Lib.hid (show Below w1.heap.size w1 w2 by
        rcases hw2 with rfl | ⟨t, rfl⟩
        · exact Below.refl _ _
        · exact below_bytes _ _ _)
      clear hw2
      go_wp2_with fail
      refine (D.out _ (tab_below TB.out B2.out)).mono ?_
      rintro e w3 ⟨rfl, b3⟩
      have B3 := Lib.hid (B2.out.trans (b3.mono B2.out.size))
      clear b3
      go_wp2
      go_ret2
      exact ⟨ret_nb bad.out.1.symm bad.out.2.symm, B3.out⟩
  · obtain ⟨⟨tp, p, h1⟩, _⟩ := er
    have F := Lib.hid (Tryz.strconv_ParseInt_10_at64_syntax_var s (by omega) hv tp p w h1)
    have bad := Lib.hid (numR_no (l := s.data.toList) (fun h => by have := (ok_itoa h).2; rw [hv] at this; cases this))
    clear hv h1 tab ht
    go_enter Tryz.func57, Tryz.ntmps57
    go_wp2_with fail
    refine (T.out _).mono ?_
    rintro e w1 ⟨rfl, rfl⟩
    go_wp2_with fail
    refine F.out.mono ?_
    rintro e w2 ⟨N, rfl, _, _, b2⟩
    have B2 := Lib.hid b2
    clear b2
    go_wp2
    go_ret2
    exact ⟨ret_nb bad.out.1.symm bad.out.2.symm, B2.out⟩
  · obtain ⟨_, ⟨tp, p, h1⟩⟩ := er
    have F := Lib.hid (Tryz.strconv_ParseInt_10_at64_range_var s (by omega) hv tp p w h1)
    have bad := Lib.hid (numR_no (l := s.data.toList) (fun h => by have := (ok_itoa h).2; rw [hv] at this; cases this))
    clear hv h1 tab ht
    go_enter Tryz.func57, Tryz.ntmps57
    go_wp2_with fail
    refine (T.out _).mono ?_
    rintro e w1 ⟨rfl, rfl⟩
    go_wp2_with fail
    refine F.out.mono ?_
    rintro e w2 ⟨N, rfl, _, _, b2⟩
    have B2 := Lib.hid b2
    clear b2
    go_wp2
    go_ret2
    exact ⟨ret_nb bad.out.1.symm bad.out.2.symm, B2.out⟩
end Go.Proofs.YtfmbmgdemdbpaaaGreatDoor
