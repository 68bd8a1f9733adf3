/-
  No cell of these rows narrows 'for every input' (looked for: loops, veiled, ifaces, maps, wideKeys, modest, calm, conditions, laid).
  DERIVED. THE GIVEN ROWS OF THIS SEAT. 12 by the template 'for every input the law returns true; each argument reads behind the call as it read before'; 0 by the template 'total and deterministic' (their statements: YtdglbppnhhhdmaaTotals.lean).
  GIVEN WITH THE SEED: the statements are not yours to turn. If you find one false, say at which input.
  Laid BY PROGRAM, IN A SANDBOX (cutbox-rows.mjs): the forced cells as the released guide's own fill.sh prints them over the translation dbadcb88f815df05… (all of the seat's roots in one cut). By AI agents, Wed Nov 11 2026. No macro, syntax, notation, axiom, sorry.
-/
import Derived.Test.YtdglbppnhhhdmaaChecked
import GoSem.Claim
import GoSem.ClaimJoined
import GoSem.ClaimMapViews
import Derived.JoinedTies
import Derived.KernelRfl
namespace Go.Proofs.Ytdglbppnhhhdmaa
/- THE CELL 'sum', in the pinned program and in every row, IS THE sha256 OF THE DUMP (.gsa) THAT YtdglbppnhhhdmaaProg.lean LOADS. Nothing in Lean hashes anything: it is a label: what it is worth is what the hold of that sum in a sandbox is worth. -/
noncomputable def Try.pinned : Pinned := { name := "ytdglbppnhhhdmaa", sum := "dbadcb88f815df05ab54e71b6c938fe29d8a96875104836cc0a924f6d3ce4428", checked := Try.checked }
namespace Rows
def none {H : Type} : Left H := { results := [], args := [] }

/-- 'laws.FnExactConstants': WHATEVER THE INPUT: true; the input reads as it did. -/
def fnExactConstantsSpec : ChangeSpec := { name := "fnExactConstants", fn := fun _ => fun
  | [] => { results := [.lit (.bool true)], args := [] }
  | _ => none }
def fnExactConstantsRow : OpenClaim := { program := "ytdglbppnhhhdmaa", sum := "dbadcb88f815df05ab54e71b6c938fe29d8a96875104836cc0a924f6d3ce4428", func := "loop.example/g01061/laws.FnExactConstants", spec := "fnExactConstants", apart := false }
def FnExactConstantsSaid : Prop := fnExactConstantsRow.holds Try.pinned (OpenSpec.ofChange fnExactConstantsSpec)

/-- ITS FALSE NEIGHBOUR: 'it returns false'. Refute it at one input. -/
def fnExactConstantsWrong : ChangeSpec := { name := "fnExactConstants", fn := fun _ => fun
  | [] => { results := [.lit (.bool false)], args := [] }
  | _ => none }
def FnExactConstantsWrongFalsely : Prop := fnExactConstantsRow.holds Try.pinned (OpenSpec.ofChange fnExactConstantsWrong)

/-- 'laws.FnExactPiecesFrom': WHATEVER THE INPUT: true; the input reads as it did. -/
def fnExactPiecesFromSpec : ChangeSpec := { name := "fnExactPiecesFrom", fn := fun _ => fun
  | [d1, d2, d3] => { results := [.lit (.bool true)], args := [d1, d2, d3] }
  | _ => none }
def fnExactPiecesFromRow : OpenClaim := { program := "ytdglbppnhhhdmaa", sum := "dbadcb88f815df05ab54e71b6c938fe29d8a96875104836cc0a924f6d3ce4428", func := "loop.example/g01061/laws.FnExactPiecesFrom", spec := "fnExactPiecesFrom", apart := false }
def FnExactPiecesFromSaid : Prop := fnExactPiecesFromRow.holds Try.pinned (OpenSpec.ofChange fnExactPiecesFromSpec)

/-- ITS FALSE NEIGHBOUR: 'it returns false'. Refute it at one input. -/
def fnExactPiecesFromWrong : ChangeSpec := { name := "fnExactPiecesFrom", fn := fun _ => fun
  | [d1, d2, d3] => { results := [.lit (.bool false)], args := [d1, d2, d3] }
  | _ => none }
def FnExactPiecesFromWrongFalsely : Prop := fnExactPiecesFromRow.holds Try.pinned (OpenSpec.ofChange fnExactPiecesFromWrong)

/-- 'laws.FnExactWeekdayOf': WHATEVER THE INPUT: true; the input reads as it did. -/
def fnExactWeekdayOfSpec : ChangeSpec := { name := "fnExactWeekdayOf", fn := fun _ => fun
  | [d] => { results := [.lit (.bool true)], args := [d] }
  | _ => none }
def fnExactWeekdayOfRow : OpenClaim := { program := "ytdglbppnhhhdmaa", sum := "dbadcb88f815df05ab54e71b6c938fe29d8a96875104836cc0a924f6d3ce4428", func := "loop.example/g01061/laws.FnExactWeekdayOf", spec := "fnExactWeekdayOf", apart := false }
def FnExactWeekdayOfSaid : Prop := fnExactWeekdayOfRow.holds Try.pinned (OpenSpec.ofChange fnExactWeekdayOfSpec)

/-- ITS FALSE NEIGHBOUR: 'it returns false'. Refute it at one input. -/
def fnExactWeekdayOfWrong : ChangeSpec := { name := "fnExactWeekdayOf", fn := fun _ => fun
  | [d] => { results := [.lit (.bool false)], args := [d] }
  | _ => none }
def FnExactWeekdayOfWrongFalsely : Prop := fnExactWeekdayOfRow.holds Try.pinned (OpenSpec.ofChange fnExactWeekdayOfWrong)

/-- 'laws.FnExactBendSteps': WHATEVER THE INPUT: true; the input reads as it did. -/
def fnExactBendStepsSpec : ChangeSpec := { name := "fnExactBendSteps", fn := fun _ => fun
  | [d1, d2, d3] => { results := [.lit (.bool true)], args := [d1, d2, d3] }
  | _ => none }
def fnExactBendStepsRow : OpenClaim := { program := "ytdglbppnhhhdmaa", sum := "dbadcb88f815df05ab54e71b6c938fe29d8a96875104836cc0a924f6d3ce4428", func := "loop.example/g01061/laws.FnExactBendSteps", spec := "fnExactBendSteps", apart := false }
def FnExactBendStepsSaid : Prop := fnExactBendStepsRow.holds Try.pinned (OpenSpec.ofChange fnExactBendStepsSpec)

/-- ITS FALSE NEIGHBOUR: 'it returns false'. Refute it at one input. -/
def fnExactBendStepsWrong : ChangeSpec := { name := "fnExactBendSteps", fn := fun _ => fun
  | [d1, d2, d3] => { results := [.lit (.bool false)], args := [d1, d2, d3] }
  | _ => none }
def FnExactBendStepsWrongFalsely : Prop := fnExactBendStepsRow.holds Try.pinned (OpenSpec.ofChange fnExactBendStepsWrong)

/-- 'laws.FnExactIsName': WHATEVER THE INPUT: true; the input reads as it did. -/
def fnExactIsNameSpec : ChangeSpec := { name := "fnExactIsName", fn := fun _ => fun
  | [d] => { results := [.lit (.bool true)], args := [d] }
  | _ => none }
def fnExactIsNameRow : OpenClaim := { program := "ytdglbppnhhhdmaa", sum := "dbadcb88f815df05ab54e71b6c938fe29d8a96875104836cc0a924f6d3ce4428", func := "loop.example/g01061/laws.FnExactIsName", spec := "fnExactIsName", apart := false }
def FnExactIsNameSaid : Prop := fnExactIsNameRow.holds Try.pinned (OpenSpec.ofChange fnExactIsNameSpec)

/-- ITS FALSE NEIGHBOUR: 'it returns false'. Refute it at one input. -/
def fnExactIsNameWrong : ChangeSpec := { name := "fnExactIsName", fn := fun _ => fun
  | [d] => { results := [.lit (.bool false)], args := [d] }
  | _ => none }
def FnExactIsNameWrongFalsely : Prop := fnExactIsNameRow.holds Try.pinned (OpenSpec.ofChange fnExactIsNameWrong)

/-- 'laws.FnExactLeastBend': WHATEVER THE INPUT: true; the input reads as it did. -/
def fnExactLeastBendSpec : ChangeSpec := { name := "fnExactLeastBend", fn := fun _ => fun
  | [d1, d2, d3] => { results := [.lit (.bool true)], args := [d1, d2, d3] }
  | _ => none }
def fnExactLeastBendRow : OpenClaim := { program := "ytdglbppnhhhdmaa", sum := "dbadcb88f815df05ab54e71b6c938fe29d8a96875104836cc0a924f6d3ce4428", func := "loop.example/g01061/laws.FnExactLeastBend", spec := "fnExactLeastBend", apart := false }
def FnExactLeastBendSaid : Prop := fnExactLeastBendRow.holds Try.pinned (OpenSpec.ofChange fnExactLeastBendSpec)

/-- ITS FALSE NEIGHBOUR: 'it returns false'. Refute it at one input. -/
def fnExactLeastBendWrong : ChangeSpec := { name := "fnExactLeastBend", fn := fun _ => fun
  | [d1, d2, d3] => { results := [.lit (.bool false)], args := [d1, d2, d3] }
  | _ => none }
def FnExactLeastBendWrongFalsely : Prop := fnExactLeastBendRow.holds Try.pinned (OpenSpec.ofChange fnExactLeastBendWrong)

/-- 'laws.FnExactRootOf': WHATEVER THE INPUT: true; the input reads as it did. -/
def fnExactRootOfSpec : ChangeSpec := { name := "fnExactRootOf", fn := fun _ => fun
  | [d] => { results := [.lit (.bool true)], args := [d] }
  | _ => none }
def fnExactRootOfRow : OpenClaim := { program := "ytdglbppnhhhdmaa", sum := "dbadcb88f815df05ab54e71b6c938fe29d8a96875104836cc0a924f6d3ce4428", func := "loop.example/g01061/laws.FnExactRootOf", spec := "fnExactRootOf", apart := false }
def FnExactRootOfSaid : Prop := fnExactRootOfRow.holds Try.pinned (OpenSpec.ofChange fnExactRootOfSpec)

/-- ITS FALSE NEIGHBOUR: 'it returns false'. Refute it at one input. -/
def fnExactRootOfWrong : ChangeSpec := { name := "fnExactRootOf", fn := fun _ => fun
  | [d] => { results := [.lit (.bool false)], args := [d] }
  | _ => none }
def FnExactRootOfWrongFalsely : Prop := fnExactRootOfRow.holds Try.pinned (OpenSpec.ofChange fnExactRootOfWrong)

/-- 'laws.FnExactWorkDays': WHATEVER THE INPUT: true; the input reads as it did. -/
def fnExactWorkDaysSpec : ChangeSpec := { name := "fnExactWorkDays", fn := fun _ => fun
  | [d1, d2] => { results := [.lit (.bool true)], args := [d1, d2] }
  | _ => none }
def fnExactWorkDaysRow : OpenClaim := { program := "ytdglbppnhhhdmaa", sum := "dbadcb88f815df05ab54e71b6c938fe29d8a96875104836cc0a924f6d3ce4428", func := "loop.example/g01061/laws.FnExactWorkDays", spec := "fnExactWorkDays", apart := false }
def FnExactWorkDaysSaid : Prop := fnExactWorkDaysRow.holds Try.pinned (OpenSpec.ofChange fnExactWorkDaysSpec)

/-- ITS FALSE NEIGHBOUR: 'it returns false'. Refute it at one input. -/
def fnExactWorkDaysWrong : ChangeSpec := { name := "fnExactWorkDays", fn := fun _ => fun
  | [d1, d2] => { results := [.lit (.bool false)], args := [d1, d2] }
  | _ => none }
def FnExactWorkDaysWrongFalsely : Prop := fnExactWorkDaysRow.holds Try.pinned (OpenSpec.ofChange fnExactWorkDaysWrong)

/-- 'laws.FnExactCrc16': WHATEVER THE INPUT: true; the input reads as it did. -/
def fnExactCrc16Spec : ChangeSpec := { name := "fnExactCrc16", fn := fun _ => fun
  | [d1, d2] => { results := [.lit (.bool true)], args := [d1, d2] }
  | _ => none }
def fnExactCrc16Row : OpenClaim := { program := "ytdglbppnhhhdmaa", sum := "dbadcb88f815df05ab54e71b6c938fe29d8a96875104836cc0a924f6d3ce4428", func := "loop.example/g01061/laws.FnExactCrc16", spec := "fnExactCrc16", apart := false }
def FnExactCrc16Said : Prop := fnExactCrc16Row.holds Try.pinned (OpenSpec.ofChange fnExactCrc16Spec)

/-- ITS FALSE NEIGHBOUR: 'it returns false'. Refute it at one input. -/
def fnExactCrc16Wrong : ChangeSpec := { name := "fnExactCrc16", fn := fun _ => fun
  | [d1, d2] => { results := [.lit (.bool false)], args := [d1, d2] }
  | _ => none }
def FnExactCrc16WrongFalsely : Prop := fnExactCrc16Row.holds Try.pinned (OpenSpec.ofChange fnExactCrc16Wrong)

/-- 'laws.FnExactDivRound': WHATEVER THE INPUT: true; the input reads as it did. -/
def fnExactDivRoundSpec : ChangeSpec := { name := "fnExactDivRound", fn := fun _ => fun
  | [d1, d2] => { results := [.lit (.bool true)], args := [d1, d2] }
  | _ => none }
def fnExactDivRoundRow : OpenClaim := { program := "ytdglbppnhhhdmaa", sum := "dbadcb88f815df05ab54e71b6c938fe29d8a96875104836cc0a924f6d3ce4428", func := "loop.example/g01061/laws.FnExactDivRound", spec := "fnExactDivRound", apart := false }
def FnExactDivRoundSaid : Prop := fnExactDivRoundRow.holds Try.pinned (OpenSpec.ofChange fnExactDivRoundSpec)

/-- ITS FALSE NEIGHBOUR: 'it returns false'. Refute it at one input. -/
def fnExactDivRoundWrong : ChangeSpec := { name := "fnExactDivRound", fn := fun _ => fun
  | [d1, d2] => { results := [.lit (.bool false)], args := [d1, d2] }
  | _ => none }
def FnExactDivRoundWrongFalsely : Prop := fnExactDivRoundRow.holds Try.pinned (OpenSpec.ofChange fnExactDivRoundWrong)

/-- 'laws.FnExactInchParts': WHATEVER THE INPUT: true; the input reads as it did. -/
def fnExactInchPartsSpec : ChangeSpec := { name := "fnExactInchParts", fn := fun _ => fun
  | [d] => { results := [.lit (.bool true)], args := [d] }
  | _ => none }
def fnExactInchPartsRow : OpenClaim := { program := "ytdglbppnhhhdmaa", sum := "dbadcb88f815df05ab54e71b6c938fe29d8a96875104836cc0a924f6d3ce4428", func := "loop.example/g01061/laws.FnExactInchParts", spec := "fnExactInchParts", apart := false }
def FnExactInchPartsSaid : Prop := fnExactInchPartsRow.holds Try.pinned (OpenSpec.ofChange fnExactInchPartsSpec)

/-- ITS FALSE NEIGHBOUR: 'it returns false'. Refute it at one input. -/
def fnExactInchPartsWrong : ChangeSpec := { name := "fnExactInchParts", fn := fun _ => fun
  | [d] => { results := [.lit (.bool false)], args := [d] }
  | _ => none }
def FnExactInchPartsWrongFalsely : Prop := fnExactInchPartsRow.holds Try.pinned (OpenSpec.ofChange fnExactInchPartsWrong)

/-- 'laws.FnExactShrunkTo': WHATEVER THE INPUT: true; the input reads as it did. -/
def fnExactShrunkToSpec : ChangeSpec := { name := "fnExactShrunkTo", fn := fun _ => fun
  | [d1, d2, d3, d4] => { results := [.lit (.bool true)], args := [d1, d2, d3, d4] }
  | _ => none }
def fnExactShrunkToRow : OpenClaim := { program := "ytdglbppnhhhdmaa", sum := "dbadcb88f815df05ab54e71b6c938fe29d8a96875104836cc0a924f6d3ce4428", func := "loop.example/g01061/laws.FnExactShrunkTo", spec := "fnExactShrunkTo", apart := false }
def FnExactShrunkToSaid : Prop := fnExactShrunkToRow.holds Try.pinned (OpenSpec.ofChange fnExactShrunkToSpec)

/-- ITS FALSE NEIGHBOUR: 'it returns false'. Refute it at one input. -/
def fnExactShrunkToWrong : ChangeSpec := { name := "fnExactShrunkTo", fn := fun _ => fun
  | [d1, d2, d3, d4] => { results := [.lit (.bool false)], args := [d1, d2, d3, d4] }
  | _ => none }
def FnExactShrunkToWrongFalsely : Prop := fnExactShrunkToRow.holds Try.pinned (OpenSpec.ofChange fnExactShrunkToWrong)

/- THE SECOND FORM. 'bulk': how many values and letters a reading holds, each counted each time it is reached (what is shared counts as often as it is met; a slice's spare places count too). A statement '..UptoSaid' is the law's where the arguments, and the package variables that the reading takes, are together of bulk at most 1048576: NARROWER than '..Said'. Prove '..Said' where nothing that the law and all that it calls make is longer than what came in: it says more and counts as full. Else prove '..UptoSaid'. A law counts once. -/
mutual
def uptoBulk {H : Type} : DataW H → Nat
  | .lit (.string bytes) => bytes.length + 1
  | .lit _ => 1
  | .nil => 1
  | .ptr d => uptoBulk d + 1
  | .slice elems spare => uptoBulkAll elems + uptoBulkAll spare + 1
  | .agg parts => uptoBulkAll parts + 1
  | .iface _ d => uptoBulk d + 1
  | .map entries => uptoBulkEntries entries + 1
  | .held _ => 1
def uptoBulkAll {H : Type} : List (DataW H) → Nat
  | [] => 0
  | d :: r => uptoBulk d + uptoBulkAll r
def uptoBulkEntries {H : Type} : List (Lit × DataW H) → Nat
  | [] => 0
  | x :: r => uptoBulkEntry x + uptoBulkEntries r
def uptoBulkEntry {H : Type} : Lit × DataW H → Nat
  | (.string bytes, d) => bytes.length + uptoBulk d + 1
  | (_, d) => uptoBulk d + 1
 end
def uptoSmall : (H : Type) → List (DataW H) → Bool := fun _ ds => decide (uptoBulkAll ds ≤ 1048576)
def OpenSpec.upto (s : _root_.Go.ChangeSpec) : _root_.Go.OpenSpec := { _root_.Go.OpenSpec.ofChange s with cond := some uptoSmall }

/-- 'laws.FnExactConstants', WHERE WHAT IT READS IS OF BULK AT MOST 1048576: true; the input reads as it did. -/
def fnExactConstantsUptoRow : OpenClaim := { program := "ytdglbppnhhhdmaa", sum := "dbadcb88f815df05ab54e71b6c938fe29d8a96875104836cc0a924f6d3ce4428", func := "loop.example/g01061/laws.FnExactConstants", spec := "fnExactConstants", apart := false, narrowed := true }
def FnExactConstantsUptoSaid : Prop := fnExactConstantsUptoRow.holds Try.pinned (OpenSpec.upto fnExactConstantsSpec)

/-- 'laws.FnExactPiecesFrom', WHERE WHAT IT READS IS OF BULK AT MOST 1048576: true; the input reads as it did. -/
def fnExactPiecesFromUptoRow : OpenClaim := { program := "ytdglbppnhhhdmaa", sum := "dbadcb88f815df05ab54e71b6c938fe29d8a96875104836cc0a924f6d3ce4428", func := "loop.example/g01061/laws.FnExactPiecesFrom", spec := "fnExactPiecesFrom", apart := false, narrowed := true }
def FnExactPiecesFromUptoSaid : Prop := fnExactPiecesFromUptoRow.holds Try.pinned (OpenSpec.upto fnExactPiecesFromSpec)

/-- 'laws.FnExactWeekdayOf', WHERE WHAT IT READS IS OF BULK AT MOST 1048576: true; the input reads as it did. -/
def fnExactWeekdayOfUptoRow : OpenClaim := { program := "ytdglbppnhhhdmaa", sum := "dbadcb88f815df05ab54e71b6c938fe29d8a96875104836cc0a924f6d3ce4428", func := "loop.example/g01061/laws.FnExactWeekdayOf", spec := "fnExactWeekdayOf", apart := false, narrowed := true }
def FnExactWeekdayOfUptoSaid : Prop := fnExactWeekdayOfUptoRow.holds Try.pinned (OpenSpec.upto fnExactWeekdayOfSpec)

/-- 'laws.FnExactBendSteps', WHERE WHAT IT READS IS OF BULK AT MOST 1048576: true; the input reads as it did. -/
def fnExactBendStepsUptoRow : OpenClaim := { program := "ytdglbppnhhhdmaa", sum := "dbadcb88f815df05ab54e71b6c938fe29d8a96875104836cc0a924f6d3ce4428", func := "loop.example/g01061/laws.FnExactBendSteps", spec := "fnExactBendSteps", apart := false, narrowed := true }
def FnExactBendStepsUptoSaid : Prop := fnExactBendStepsUptoRow.holds Try.pinned (OpenSpec.upto fnExactBendStepsSpec)

/-- 'laws.FnExactIsName', WHERE WHAT IT READS IS OF BULK AT MOST 1048576: true; the input reads as it did. -/
def fnExactIsNameUptoRow : OpenClaim := { program := "ytdglbppnhhhdmaa", sum := "dbadcb88f815df05ab54e71b6c938fe29d8a96875104836cc0a924f6d3ce4428", func := "loop.example/g01061/laws.FnExactIsName", spec := "fnExactIsName", apart := false, narrowed := true }
def FnExactIsNameUptoSaid : Prop := fnExactIsNameUptoRow.holds Try.pinned (OpenSpec.upto fnExactIsNameSpec)

/-- 'laws.FnExactLeastBend', WHERE WHAT IT READS IS OF BULK AT MOST 1048576: true; the input reads as it did. -/
def fnExactLeastBendUptoRow : OpenClaim := { program := "ytdglbppnhhhdmaa", sum := "dbadcb88f815df05ab54e71b6c938fe29d8a96875104836cc0a924f6d3ce4428", func := "loop.example/g01061/laws.FnExactLeastBend", spec := "fnExactLeastBend", apart := false, narrowed := true }
def FnExactLeastBendUptoSaid : Prop := fnExactLeastBendUptoRow.holds Try.pinned (OpenSpec.upto fnExactLeastBendSpec)

/-- 'laws.FnExactRootOf', WHERE WHAT IT READS IS OF BULK AT MOST 1048576: true; the input reads as it did. -/
def fnExactRootOfUptoRow : OpenClaim := { program := "ytdglbppnhhhdmaa", sum := "dbadcb88f815df05ab54e71b6c938fe29d8a96875104836cc0a924f6d3ce4428", func := "loop.example/g01061/laws.FnExactRootOf", spec := "fnExactRootOf", apart := false, narrowed := true }
def FnExactRootOfUptoSaid : Prop := fnExactRootOfUptoRow.holds Try.pinned (OpenSpec.upto fnExactRootOfSpec)

/-- 'laws.FnExactWorkDays', WHERE WHAT IT READS IS OF BULK AT MOST 1048576: true; the input reads as it did. -/
def fnExactWorkDaysUptoRow : OpenClaim := { program := "ytdglbppnhhhdmaa", sum := "dbadcb88f815df05ab54e71b6c938fe29d8a96875104836cc0a924f6d3ce4428", func := "loop.example/g01061/laws.FnExactWorkDays", spec := "fnExactWorkDays", apart := false, narrowed := true }
def FnExactWorkDaysUptoSaid : Prop := fnExactWorkDaysUptoRow.holds Try.pinned (OpenSpec.upto fnExactWorkDaysSpec)

/-- 'laws.FnExactCrc16', WHERE WHAT IT READS IS OF BULK AT MOST 1048576: true; the input reads as it did. -/
def fnExactCrc16UptoRow : OpenClaim := { program := "ytdglbppnhhhdmaa", sum := "dbadcb88f815df05ab54e71b6c938fe29d8a96875104836cc0a924f6d3ce4428", func := "loop.example/g01061/laws.FnExactCrc16", spec := "fnExactCrc16", apart := false, narrowed := true }
def FnExactCrc16UptoSaid : Prop := fnExactCrc16UptoRow.holds Try.pinned (OpenSpec.upto fnExactCrc16Spec)

/-- 'laws.FnExactDivRound', WHERE WHAT IT READS IS OF BULK AT MOST 1048576: true; the input reads as it did. -/
def fnExactDivRoundUptoRow : OpenClaim := { program := "ytdglbppnhhhdmaa", sum := "dbadcb88f815df05ab54e71b6c938fe29d8a96875104836cc0a924f6d3ce4428", func := "loop.example/g01061/laws.FnExactDivRound", spec := "fnExactDivRound", apart := false, narrowed := true }
def FnExactDivRoundUptoSaid : Prop := fnExactDivRoundUptoRow.holds Try.pinned (OpenSpec.upto fnExactDivRoundSpec)

/-- 'laws.FnExactInchParts', WHERE WHAT IT READS IS OF BULK AT MOST 1048576: true; the input reads as it did. -/
def fnExactInchPartsUptoRow : OpenClaim := { program := "ytdglbppnhhhdmaa", sum := "dbadcb88f815df05ab54e71b6c938fe29d8a96875104836cc0a924f6d3ce4428", func := "loop.example/g01061/laws.FnExactInchParts", spec := "fnExactInchParts", apart := false, narrowed := true }
def FnExactInchPartsUptoSaid : Prop := fnExactInchPartsUptoRow.holds Try.pinned (OpenSpec.upto fnExactInchPartsSpec)

/-- 'laws.FnExactShrunkTo', WHERE WHAT IT READS IS OF BULK AT MOST 1048576: true; the input reads as it did. -/
def fnExactShrunkToUptoRow : OpenClaim := { program := "ytdglbppnhhhdmaa", sum := "dbadcb88f815df05ab54e71b6c938fe29d8a96875104836cc0a924f6d3ce4428", func := "loop.example/g01061/laws.FnExactShrunkTo", spec := "fnExactShrunkTo", apart := false, narrowed := true }
def FnExactShrunkToUptoSaid : Prop := fnExactShrunkToUptoRow.holds Try.pinned (OpenSpec.upto fnExactShrunkToSpec)

end Rows
end Go.Proofs.Ytdglbppnhhhdmaa
