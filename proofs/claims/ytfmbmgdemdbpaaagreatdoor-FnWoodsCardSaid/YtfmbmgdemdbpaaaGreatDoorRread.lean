/- Decimal numerals, read back: the reference's reader whole, and the program's. -/
import Derived.Test.YtfmbmgdemdbpaaaGreatDoorRnum
import Derived.Test.YtfmbmgdemdbpaaaGreatDoorLtext
import Derived.Test.YtfmbmgdemdbpaaaGreatDoorShelfC
namespace Go.Proofs.YtfmbmgdemdbpaaaGreatDoor
open Go.RowKit
set_option linter.unusedVariables false

end Go.Proofs.YtfmbmgdemdbpaaaGreatDoor
