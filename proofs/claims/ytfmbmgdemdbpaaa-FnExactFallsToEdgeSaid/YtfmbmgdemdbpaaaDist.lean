/- Distances, least and greatest of two numbers: both texts. -/
import Derived.Test.YtfmbmgdemdbpaaaBasic
namespace Go.Proofs.Ytfmbmgdemdbpaaa
open Go.RowKit

def distI (a b : Int) : Int := if a < b then b - a else a - b
theorem distI_bd {a b m : Int} (a1 : -m ≤ a) (a2 : a ≤ m) (b1 : -m ≤ b) (b2 : b ≤ m) : 0 ≤ distI a b ∧ distI a b ≤ 2 * m := by unfold distI; split <;> omega
def mxI (a b : Int) : Int := if b < a then a else b
def mnI (a b : Int) : Int := if a < b then a else b
end Go.Proofs.Ytfmbmgdemdbpaaa
