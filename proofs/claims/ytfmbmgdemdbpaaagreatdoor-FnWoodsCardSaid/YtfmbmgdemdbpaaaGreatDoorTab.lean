/- The library's tables of powers: what a row's laid condition gives, and that it stands behind a call that only adds memory. -/
import Derived.Test.YtfmbmgdemdbpaaaGreatDoorWords
import Derived.Lib.LaidU8
import Derived.LaidMore
import Derived.WalkSmall
import Derived.Stop.Joined
import Derived.Lib.ItoaNum
import Derived.Test.YtfmbmgdemdbpaaaGreatDoorTie
namespace Go.Proofs.YtfmbmgdemdbpaaaGreatDoor
open Go.RowKit

/-- the table of powers of ten -/
def PowTab (w : World) : Prop := Lib.TabIs Tryz.prog w "internal/strconv.uint64pow10" .u64 Lib.pow10Tab
theorem gPow : Tryz.prog.globalNamed "internal/strconv.uint64pow10" = some 3 := by kernel_rfl
theorem tab_below {w w' : World} (h : PowTab w) (hb : Below w.heap.size w w') : PowTab w' := by
  refine var?_below hb gPow ?_ h
  unfold PowTab Lib.TabIs World.var? at h
  rw [gPow] at h
  simp only [Option.bind_some] at h
  split at h
  · rename_i hh; exact (Array.getElem?_eq_some_iff.1 hh).1
  · cases h
theorem powData : Rows.laid_internal_strconv_uint64pow10 (H := Unit) = Lib.tabData .u64 Lib.pow10Tab := by kernel_rfl
theorem pow_of_laid {W : World} {l : List (String × DataW Unit)} (hp : (l.all fun x => x.2.handleName?.isNone) = true) (h : laidMetH Tryz.prog l W)
    (hm : ("internal/strconv.uint64pow10", Rows.laid_internal_strconv_uint64pow10) ∈ l) : PowTab W := by
  rw [MakeChecks.laidMetH_plain _ _ _ hp] at h
  obtain ⟨g, t, cs, fuel, p, hg, ht, hv, hd⟩ := Lib.laidMet.reads h hm
  obtain rfl := Option.some.inj (gPow.symm.trans hg)
  obtain rfl := Option.some.inj ((show (Tryz.prog.globals[3]?).map (·.type) = some 128 by kernel_rfl).symm.trans ht)
  rw [powData] at hd
  unfold PowTab Lib.TabIs
  rw [hv, ← Lib.cells_of_tab Tryz.underlying128 Tryz.underlying60 (by kernel_rfl) (by kernel_rfl) hd]
end Go.Proofs.YtfmbmgdemdbpaaaGreatDoor
