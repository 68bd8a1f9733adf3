/-
  No cell of these rows narrows 'for every input' (looked for: loops, veiled, ifaces, maps, wideKeys, modest, calm, conditions, laid).
  DERIVED. THE GIVEN ROWS OF THIS SEAT. 12 by the template 'for every input the law returns true; each argument reads behind the call as it read before'; 0 by the template 'total and deterministic' (their statements: YthjedbjhinlhhaaTotals.lean).
  GIVEN WITH THE SEED: the statements are not yours to turn. If you find one false, say at which input.
  Laid BY PROGRAM, IN A SANDBOX (cutbox-rows.mjs): the forced cells as the released guide's own fill.sh prints them over the translation 6bf25e9e86eb1818… (all of the seat's roots in one cut). By AI agents, Wed Nov 11 2026. No macro, syntax, notation, axiom, sorry.
-/
import Derived.Test.YthjedbjhinlhhaaChecked
import GoSem.Claim
import GoSem.ClaimJoined
import GoSem.ClaimMapViews
import Derived.JoinedTies
import Derived.KernelRfl
namespace Go.Proofs.Ythjedbjhinlhhaa
/- THE CELL 'sum', in the pinned program and in every row, IS THE sha256 OF THE DUMP (.gsa) THAT YthjedbjhinlhhaaProg.lean LOADS. Nothing in Lean hashes anything: it is a label: what it is worth is what the hold of that sum in a sandbox is worth. -/
noncomputable def Try.pinned : Pinned := { name := "ythjedbjhinlhhaa", sum := "6bf25e9e86eb1818a91c697c63ee385517981a7224395150bb1eed7d9801c1d8", checked := Try.checked }
namespace Rows
def none {H : Type} : Left H := { results := [], args := [] }

/-- 'laws.FnExactBlend': WHATEVER THE INPUT: true; the input reads as it did. -/
def fnExactBlendSpec : ChangeSpec := { name := "fnExactBlend", fn := fun _ => fun
  | [d1, d2, d3, d4, d5] => { results := [.lit (.bool true)], args := [d1, d2, d3, d4, d5] }
  | _ => none }
def fnExactBlendRow : OpenClaim := { program := "ythjedbjhinlhhaa", sum := "6bf25e9e86eb1818a91c697c63ee385517981a7224395150bb1eed7d9801c1d8", func := "loop.example/g01061/laws.FnExactBlend", spec := "fnExactBlend", apart := false }
def FnExactBlendSaid : Prop := fnExactBlendRow.holds Try.pinned (OpenSpec.ofChange fnExactBlendSpec)

/-- ITS FALSE NEIGHBOUR: 'it returns false'. Refute it at one input. -/
def fnExactBlendWrong : ChangeSpec := { name := "fnExactBlend", fn := fun _ => fun
  | [d1, d2, d3, d4, d5] => { results := [.lit (.bool false)], args := [d1, d2, d3, d4, d5] }
  | _ => none }
def FnExactBlendWrongFalsely : Prop := fnExactBlendRow.holds Try.pinned (OpenSpec.ofChange fnExactBlendWrong)

/-- 'laws.FnExactEvenMoisture': WHATEVER THE INPUT: true; the input reads as it did. -/
def fnExactEvenMoistureSpec : ChangeSpec := { name := "fnExactEvenMoisture", fn := fun _ => fun
  | [d] => { results := [.lit (.bool true)], args := [d] }
  | _ => none }
def fnExactEvenMoistureRow : OpenClaim := { program := "ythjedbjhinlhhaa", sum := "6bf25e9e86eb1818a91c697c63ee385517981a7224395150bb1eed7d9801c1d8", func := "loop.example/g01061/laws.FnExactEvenMoisture", spec := "fnExactEvenMoisture", apart := false }
def FnExactEvenMoistureSaid : Prop := fnExactEvenMoistureRow.holds Try.pinned (OpenSpec.ofChange fnExactEvenMoistureSpec)

/-- ITS FALSE NEIGHBOUR: 'it returns false'. Refute it at one input. -/
def fnExactEvenMoistureWrong : ChangeSpec := { name := "fnExactEvenMoisture", fn := fun _ => fun
  | [d] => { results := [.lit (.bool false)], args := [d] }
  | _ => none }
def FnExactEvenMoistureWrongFalsely : Prop := fnExactEvenMoistureRow.holds Try.pinned (OpenSpec.ofChange fnExactEvenMoistureWrong)

/-- 'laws.FnExactTaperHeights': WHATEVER THE INPUT: true; the input reads as it did. -/
def fnExactTaperHeightsSpec : ChangeSpec := { name := "fnExactTaperHeights", fn := fun _ => fun
  | [d1, d2, d3] => { results := [.lit (.bool true)], args := [d1, d2, d3] }
  | _ => none }
def fnExactTaperHeightsRow : OpenClaim := { program := "ythjedbjhinlhhaa", sum := "6bf25e9e86eb1818a91c697c63ee385517981a7224395150bb1eed7d9801c1d8", func := "loop.example/g01061/laws.FnExactTaperHeights", spec := "fnExactTaperHeights", apart := false }
def FnExactTaperHeightsSaid : Prop := fnExactTaperHeightsRow.holds Try.pinned (OpenSpec.ofChange fnExactTaperHeightsSpec)

/-- ITS FALSE NEIGHBOUR: 'it returns false'. Refute it at one input. -/
def fnExactTaperHeightsWrong : ChangeSpec := { name := "fnExactTaperHeights", fn := fun _ => fun
  | [d1, d2, d3] => { results := [.lit (.bool false)], args := [d1, d2, d3] }
  | _ => none }
def FnExactTaperHeightsWrongFalsely : Prop := fnExactTaperHeightsRow.holds Try.pinned (OpenSpec.ofChange fnExactTaperHeightsWrong)

/-- 'laws.FnExactDayNumber': WHATEVER THE INPUT: true; the input reads as it did. -/
def fnExactDayNumberSpec : ChangeSpec := { name := "fnExactDayNumber", fn := fun _ => fun
  | [d1, d2, d3] => { results := [.lit (.bool true)], args := [d1, d2, d3] }
  | _ => none }
def fnExactDayNumberRow : OpenClaim := { program := "ythjedbjhinlhhaa", sum := "6bf25e9e86eb1818a91c697c63ee385517981a7224395150bb1eed7d9801c1d8", func := "loop.example/g01061/laws.FnExactDayNumber", spec := "fnExactDayNumber", apart := false }
def FnExactDayNumberSaid : Prop := fnExactDayNumberRow.holds Try.pinned (OpenSpec.ofChange fnExactDayNumberSpec)

/-- ITS FALSE NEIGHBOUR: 'it returns false'. Refute it at one input. -/
def fnExactDayNumberWrong : ChangeSpec := { name := "fnExactDayNumber", fn := fun _ => fun
  | [d1, d2, d3] => { results := [.lit (.bool false)], args := [d1, d2, d3] }
  | _ => none }
def FnExactDayNumberWrongFalsely : Prop := fnExactDayNumberRow.holds Try.pinned (OpenSpec.ofChange fnExactDayNumberWrong)

/-- 'laws.FnExactDateOf': WHATEVER THE INPUT: true; the input reads as it did. -/
def fnExactDateOfSpec : ChangeSpec := { name := "fnExactDateOf", fn := fun _ => fun
  | [d] => { results := [.lit (.bool true)], args := [d] }
  | _ => none }
def fnExactDateOfRow : OpenClaim := { program := "ythjedbjhinlhhaa", sum := "6bf25e9e86eb1818a91c697c63ee385517981a7224395150bb1eed7d9801c1d8", func := "loop.example/g01061/laws.FnExactDateOf", spec := "fnExactDateOf", apart := false }
def FnExactDateOfSaid : Prop := fnExactDateOfRow.holds Try.pinned (OpenSpec.ofChange fnExactDateOfSpec)

/-- ITS FALSE NEIGHBOUR: 'it returns false'. Refute it at one input. -/
def fnExactDateOfWrong : ChangeSpec := { name := "fnExactDateOf", fn := fun _ => fun
  | [d] => { results := [.lit (.bool false)], args := [d] }
  | _ => none }
def FnExactDateOfWrongFalsely : Prop := fnExactDateOfRow.holds Try.pinned (OpenSpec.ofChange fnExactDateOfWrong)

/-- 'laws.FnExactValidPlank': WHATEVER THE INPUT: true; the input reads as it did. -/
def fnExactValidPlankSpec : ChangeSpec := { name := "fnExactValidPlank", fn := fun _ => fun
  | [d] => { results := [.lit (.bool true)], args := [d] }
  | _ => none }
def fnExactValidPlankRow : OpenClaim := { program := "ythjedbjhinlhhaa", sum := "6bf25e9e86eb1818a91c697c63ee385517981a7224395150bb1eed7d9801c1d8", func := "loop.example/g01061/laws.FnExactValidPlank", spec := "fnExactValidPlank", apart := false }
def FnExactValidPlankSaid : Prop := fnExactValidPlankRow.holds Try.pinned (OpenSpec.ofChange fnExactValidPlankSpec)

/-- ITS FALSE NEIGHBOUR: 'it returns false'. Refute it at one input. -/
def fnExactValidPlankWrong : ChangeSpec := { name := "fnExactValidPlank", fn := fun _ => fun
  | [d] => { results := [.lit (.bool false)], args := [d] }
  | _ => none }
def FnExactValidPlankWrongFalsely : Prop := fnExactValidPlankRow.holds Try.pinned (OpenSpec.ofChange fnExactValidPlankWrong)

/-- 'laws.FnExactFitsPiece': WHATEVER THE INPUT: true; the input reads as it did. -/
def fnExactFitsPieceSpec : ChangeSpec := { name := "fnExactFitsPiece", fn := fun _ => fun
  | [d1, d2, d3, d4] => { results := [.lit (.bool true)], args := [d1, d2, d3, d4] }
  | _ => none }
def fnExactFitsPieceRow : OpenClaim := { program := "ythjedbjhinlhhaa", sum := "6bf25e9e86eb1818a91c697c63ee385517981a7224395150bb1eed7d9801c1d8", func := "loop.example/g01061/laws.FnExactFitsPiece", spec := "fnExactFitsPiece", apart := false }
def FnExactFitsPieceSaid : Prop := fnExactFitsPieceRow.holds Try.pinned (OpenSpec.ofChange fnExactFitsPieceSpec)

/-- ITS FALSE NEIGHBOUR: 'it returns false'. Refute it at one input. -/
def fnExactFitsPieceWrong : ChangeSpec := { name := "fnExactFitsPiece", fn := fun _ => fun
  | [d1, d2, d3, d4] => { results := [.lit (.bool false)], args := [d1, d2, d3, d4] }
  | _ => none }
def FnExactFitsPieceWrongFalsely : Prop := fnExactFitsPieceRow.holds Try.pinned (OpenSpec.ofChange fnExactFitsPieceWrong)

/-- 'laws.FnExactSpeedOf': WHATEVER THE INPUT: true; the input reads as it did. -/
def fnExactSpeedOfSpec : ChangeSpec := { name := "fnExactSpeedOf", fn := fun _ => fun
  | [d1, d2] => { results := [.lit (.bool true)], args := [d1, d2] }
  | _ => none }
def fnExactSpeedOfRow : OpenClaim := { program := "ythjedbjhinlhhaa", sum := "6bf25e9e86eb1818a91c697c63ee385517981a7224395150bb1eed7d9801c1d8", func := "loop.example/g01061/laws.FnExactSpeedOf", spec := "fnExactSpeedOf", apart := false }
def FnExactSpeedOfSaid : Prop := fnExactSpeedOfRow.holds Try.pinned (OpenSpec.ofChange fnExactSpeedOfSpec)

/-- ITS FALSE NEIGHBOUR: 'it returns false'. Refute it at one input. -/
def fnExactSpeedOfWrong : ChangeSpec := { name := "fnExactSpeedOf", fn := fun _ => fun
  | [d1, d2] => { results := [.lit (.bool false)], args := [d1, d2] }
  | _ => none }
def FnExactSpeedOfWrongFalsely : Prop := fnExactSpeedOfRow.holds Try.pinned (OpenSpec.ofChange fnExactSpeedOfWrong)

/-- 'laws.FnExactPiecesOf': WHATEVER THE INPUT: true; the input reads as it did. -/
def fnExactPiecesOfSpec : ChangeSpec := { name := "fnExactPiecesOf", fn := fun _ => fun
  | [d1, d2, d3, d4] => { results := [.lit (.bool true)], args := [d1, d2, d3, d4] }
  | _ => none }
def fnExactPiecesOfRow : OpenClaim := { program := "ythjedbjhinlhhaa", sum := "6bf25e9e86eb1818a91c697c63ee385517981a7224395150bb1eed7d9801c1d8", func := "loop.example/g01061/laws.FnExactPiecesOf", spec := "fnExactPiecesOf", apart := false }
def FnExactPiecesOfSaid : Prop := fnExactPiecesOfRow.holds Try.pinned (OpenSpec.ofChange fnExactPiecesOfSpec)

/-- ITS FALSE NEIGHBOUR: 'it returns false'. Refute it at one input. -/
def fnExactPiecesOfWrong : ChangeSpec := { name := "fnExactPiecesOf", fn := fun _ => fun
  | [d1, d2, d3, d4] => { results := [.lit (.bool false)], args := [d1, d2, d3, d4] }
  | _ => none }
def FnExactPiecesOfWrongFalsely : Prop := fnExactPiecesOfRow.holds Try.pinned (OpenSpec.ofChange fnExactPiecesOfWrong)

/-- 'laws.FnExactRingWidth': WHATEVER THE INPUT: true; the input reads as it did. -/
def fnExactRingWidthSpec : ChangeSpec := { name := "fnExactRingWidth", fn := fun _ => fun
  | [d] => { results := [.lit (.bool true)], args := [d] }
  | _ => none }
def fnExactRingWidthRow : OpenClaim := { program := "ythjedbjhinlhhaa", sum := "6bf25e9e86eb1818a91c697c63ee385517981a7224395150bb1eed7d9801c1d8", func := "loop.example/g01061/laws.FnExactRingWidth", spec := "fnExactRingWidth", apart := false }
def FnExactRingWidthSaid : Prop := fnExactRingWidthRow.holds Try.pinned (OpenSpec.ofChange fnExactRingWidthSpec)

/-- ITS FALSE NEIGHBOUR: 'it returns false'. Refute it at one input. -/
def fnExactRingWidthWrong : ChangeSpec := { name := "fnExactRingWidth", fn := fun _ => fun
  | [d] => { results := [.lit (.bool false)], args := [d] }
  | _ => none }
def FnExactRingWidthWrongFalsely : Prop := fnExactRingWidthRow.holds Try.pinned (OpenSpec.ofChange fnExactRingWidthWrong)

/-- 'laws.FnExactDensityOf': WHATEVER THE INPUT: true; the input reads as it did. -/
def fnExactDensityOfSpec : ChangeSpec := { name := "fnExactDensityOf", fn := fun _ => fun
  | [d] => { results := [.lit (.bool true)], args := [d] }
  | _ => none }
def fnExactDensityOfRow : OpenClaim := { program := "ythjedbjhinlhhaa", sum := "6bf25e9e86eb1818a91c697c63ee385517981a7224395150bb1eed7d9801c1d8", func := "loop.example/g01061/laws.FnExactDensityOf", spec := "fnExactDensityOf", apart := false }
def FnExactDensityOfSaid : Prop := fnExactDensityOfRow.holds Try.pinned (OpenSpec.ofChange fnExactDensityOfSpec)

/-- ITS FALSE NEIGHBOUR: 'it returns false'. Refute it at one input. -/
def fnExactDensityOfWrong : ChangeSpec := { name := "fnExactDensityOf", fn := fun _ => fun
  | [d] => { results := [.lit (.bool false)], args := [d] }
  | _ => none }
def FnExactDensityOfWrongFalsely : Prop := fnExactDensityOfRow.holds Try.pinned (OpenSpec.ofChange fnExactDensityOfWrong)

/-- 'laws.FnExactPairGap': WHATEVER THE INPUT: true; the input reads as it did. -/
def fnExactPairGapSpec : ChangeSpec := { name := "fnExactPairGap", fn := fun _ => fun
  | [d1, d2] => { results := [.lit (.bool true)], args := [d1, d2] }
  | _ => none }
def fnExactPairGapRow : OpenClaim := { program := "ythjedbjhinlhhaa", sum := "6bf25e9e86eb1818a91c697c63ee385517981a7224395150bb1eed7d9801c1d8", func := "loop.example/g01061/laws.FnExactPairGap", spec := "fnExactPairGap", apart := false }
def FnExactPairGapSaid : Prop := fnExactPairGapRow.holds Try.pinned (OpenSpec.ofChange fnExactPairGapSpec)

/-- ITS FALSE NEIGHBOUR: 'it returns false'. Refute it at one input. -/
def fnExactPairGapWrong : ChangeSpec := { name := "fnExactPairGap", fn := fun _ => fun
  | [d1, d2] => { results := [.lit (.bool false)], args := [d1, d2] }
  | _ => none }
def FnExactPairGapWrongFalsely : Prop := fnExactPairGapRow.holds Try.pinned (OpenSpec.ofChange fnExactPairGapWrong)

/- THE SECOND FORM. 'bulk': how many values and letters a reading holds, each counted each time it is reached (what is shared counts as often as it is met; a slice's spare places count too). A statement '..UptoSaid' is the law's where the arguments, and the package variables that the reading takes, are together of bulk at most 1048576: NARROWER than '..Said'. Prove '..Said' where nothing that the law and all that it calls make is longer than what came in: it says more and counts as full. Else prove '..UptoSaid'. A law counts once. -/
mutual
def uptoBulk {H : Type} : DataW H → Nat
  | .lit (.string bytes) => bytes.length + 1
  | .lit _ => 1
  | .nil => 1
  | .ptr d => uptoBulk d + 1
  | .slice elems spare => uptoBulkAll elems + uptoBulkAll spare + 1
  | .agg parts => uptoBulkAll parts + 1
  | .iface _ d => uptoBulk d + 1
  | .map entries => uptoBulkEntries entries + 1
  | .held _ => 1
def uptoBulkAll {H : Type} : List (DataW H) → Nat
  | [] => 0
  | d :: r => uptoBulk d + uptoBulkAll r
def uptoBulkEntries {H : Type} : List (Lit × DataW H) → Nat
  | [] => 0
  | x :: r => uptoBulkEntry x + uptoBulkEntries r
def uptoBulkEntry {H : Type} : Lit × DataW H → Nat
  | (.string bytes, d) => bytes.length + uptoBulk d + 1
  | (_, d) => uptoBulk d + 1
 end
def uptoSmall : (H : Type) → List (DataW H) → Bool := fun _ ds => decide (uptoBulkAll ds ≤ 1048576)
def OpenSpec.upto (s : _root_.Go.ChangeSpec) : _root_.Go.OpenSpec := { _root_.Go.OpenSpec.ofChange s with cond := some uptoSmall }

/-- 'laws.FnExactBlend', WHERE WHAT IT READS IS OF BULK AT MOST 1048576: true; the input reads as it did. -/
def fnExactBlendUptoRow : OpenClaim := { program := "ythjedbjhinlhhaa", sum := "6bf25e9e86eb1818a91c697c63ee385517981a7224395150bb1eed7d9801c1d8", func := "loop.example/g01061/laws.FnExactBlend", spec := "fnExactBlend", apart := false, narrowed := true }
def FnExactBlendUptoSaid : Prop := fnExactBlendUptoRow.holds Try.pinned (OpenSpec.upto fnExactBlendSpec)

/-- 'laws.FnExactEvenMoisture', WHERE WHAT IT READS IS OF BULK AT MOST 1048576: true; the input reads as it did. -/
def fnExactEvenMoistureUptoRow : OpenClaim := { program := "ythjedbjhinlhhaa", sum := "6bf25e9e86eb1818a91c697c63ee385517981a7224395150bb1eed7d9801c1d8", func := "loop.example/g01061/laws.FnExactEvenMoisture", spec := "fnExactEvenMoisture", apart := false, narrowed := true }
def FnExactEvenMoistureUptoSaid : Prop := fnExactEvenMoistureUptoRow.holds Try.pinned (OpenSpec.upto fnExactEvenMoistureSpec)

/-- 'laws.FnExactTaperHeights', WHERE WHAT IT READS IS OF BULK AT MOST 1048576: true; the input reads as it did. -/
def fnExactTaperHeightsUptoRow : OpenClaim := { program := "ythjedbjhinlhhaa", sum := "6bf25e9e86eb1818a91c697c63ee385517981a7224395150bb1eed7d9801c1d8", func := "loop.example/g01061/laws.FnExactTaperHeights", spec := "fnExactTaperHeights", apart := false, narrowed := true }
def FnExactTaperHeightsUptoSaid : Prop := fnExactTaperHeightsUptoRow.holds Try.pinned (OpenSpec.upto fnExactTaperHeightsSpec)

/-- 'laws.FnExactDayNumber', WHERE WHAT IT READS IS OF BULK AT MOST 1048576: true; the input reads as it did. -/
def fnExactDayNumberUptoRow : OpenClaim := { program := "ythjedbjhinlhhaa", sum := "6bf25e9e86eb1818a91c697c63ee385517981a7224395150bb1eed7d9801c1d8", func := "loop.example/g01061/laws.FnExactDayNumber", spec := "fnExactDayNumber", apart := false, narrowed := true }
def FnExactDayNumberUptoSaid : Prop := fnExactDayNumberUptoRow.holds Try.pinned (OpenSpec.upto fnExactDayNumberSpec)

/-- 'laws.FnExactDateOf', WHERE WHAT IT READS IS OF BULK AT MOST 1048576: true; the input reads as it did. -/
def fnExactDateOfUptoRow : OpenClaim := { program := "ythjedbjhinlhhaa", sum := "6bf25e9e86eb1818a91c697c63ee385517981a7224395150bb1eed7d9801c1d8", func := "loop.example/g01061/laws.FnExactDateOf", spec := "fnExactDateOf", apart := false, narrowed := true }
def FnExactDateOfUptoSaid : Prop := fnExactDateOfUptoRow.holds Try.pinned (OpenSpec.upto fnExactDateOfSpec)

/-- 'laws.FnExactValidPlank', WHERE WHAT IT READS IS OF BULK AT MOST 1048576: true; the input reads as it did. -/
def fnExactValidPlankUptoRow : OpenClaim := { program := "ythjedbjhinlhhaa", sum := "6bf25e9e86eb1818a91c697c63ee385517981a7224395150bb1eed7d9801c1d8", func := "loop.example/g01061/laws.FnExactValidPlank", spec := "fnExactValidPlank", apart := false, narrowed := true }
def FnExactValidPlankUptoSaid : Prop := fnExactValidPlankUptoRow.holds Try.pinned (OpenSpec.upto fnExactValidPlankSpec)

/-- 'laws.FnExactFitsPiece', WHERE WHAT IT READS IS OF BULK AT MOST 1048576: true; the input reads as it did. -/
def fnExactFitsPieceUptoRow : OpenClaim := { program := "ythjedbjhinlhhaa", sum := "6bf25e9e86eb1818a91c697c63ee385517981a7224395150bb1eed7d9801c1d8", func := "loop.example/g01061/laws.FnExactFitsPiece", spec := "fnExactFitsPiece", apart := false, narrowed := true }
def FnExactFitsPieceUptoSaid : Prop := fnExactFitsPieceUptoRow.holds Try.pinned (OpenSpec.upto fnExactFitsPieceSpec)

/-- 'laws.FnExactSpeedOf', WHERE WHAT IT READS IS OF BULK AT MOST 1048576: true; the input reads as it did. -/
def fnExactSpeedOfUptoRow : OpenClaim := { program := "ythjedbjhinlhhaa", sum := "6bf25e9e86eb1818a91c697c63ee385517981a7224395150bb1eed7d9801c1d8", func := "loop.example/g01061/laws.FnExactSpeedOf", spec := "fnExactSpeedOf", apart := false, narrowed := true }
def FnExactSpeedOfUptoSaid : Prop := fnExactSpeedOfUptoRow.holds Try.pinned (OpenSpec.upto fnExactSpeedOfSpec)

/-- 'laws.FnExactPiecesOf', WHERE WHAT IT READS IS OF BULK AT MOST 1048576: true; the input reads as it did. -/
def fnExactPiecesOfUptoRow : OpenClaim := { program := "ythjedbjhinlhhaa", sum := "6bf25e9e86eb1818a91c697c63ee385517981a7224395150bb1eed7d9801c1d8", func := "loop.example/g01061/laws.FnExactPiecesOf", spec := "fnExactPiecesOf", apart := false, narrowed := true }
def FnExactPiecesOfUptoSaid : Prop := fnExactPiecesOfUptoRow.holds Try.pinned (OpenSpec.upto fnExactPiecesOfSpec)

/-- 'laws.FnExactRingWidth', WHERE WHAT IT READS IS OF BULK AT MOST 1048576: true; the input reads as it did. -/
def fnExactRingWidthUptoRow : OpenClaim := { program := "ythjedbjhinlhhaa", sum := "6bf25e9e86eb1818a91c697c63ee385517981a7224395150bb1eed7d9801c1d8", func := "loop.example/g01061/laws.FnExactRingWidth", spec := "fnExactRingWidth", apart := false, narrowed := true }
def FnExactRingWidthUptoSaid : Prop := fnExactRingWidthUptoRow.holds Try.pinned (OpenSpec.upto fnExactRingWidthSpec)

/-- 'laws.FnExactDensityOf', WHERE WHAT IT READS IS OF BULK AT MOST 1048576: true; the input reads as it did. -/
def fnExactDensityOfUptoRow : OpenClaim := { program := "ythjedbjhinlhhaa", sum := "6bf25e9e86eb1818a91c697c63ee385517981a7224395150bb1eed7d9801c1d8", func := "loop.example/g01061/laws.FnExactDensityOf", spec := "fnExactDensityOf", apart := false, narrowed := true }
def FnExactDensityOfUptoSaid : Prop := fnExactDensityOfUptoRow.holds Try.pinned (OpenSpec.upto fnExactDensityOfSpec)

/-- 'laws.FnExactPairGap', WHERE WHAT IT READS IS OF BULK AT MOST 1048576: true; the input reads as it did. -/
def fnExactPairGapUptoRow : OpenClaim := { program := "ythjedbjhinlhhaa", sum := "6bf25e9e86eb1818a91c697c63ee385517981a7224395150bb1eed7d9801c1d8", func := "loop.example/g01061/laws.FnExactPairGap", spec := "fnExactPairGap", apart := false, narrowed := true }
def FnExactPairGapUptoSaid : Prop := fnExactPairGapUptoRow.holds Try.pinned (OpenSpec.upto fnExactPairGapSpec)

end Rows
end Go.Proofs.Ythjedbjhinlhhaa
