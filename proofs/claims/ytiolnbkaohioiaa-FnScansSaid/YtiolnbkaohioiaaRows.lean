/-
  No cell of these rows narrows 'for every input' (looked for: loops, veiled, ifaces, maps, wideKeys, modest, calm, conditions, laid).
  DERIVED. THE GIVEN ROWS OF THIS SEAT. 21 by the template 'for every input the law returns true; each argument reads behind the call as it read before'; 0 by the template 'total and deterministic' (their statements: YtiolnbkaohioiaaTotals.lean).
  GIVEN WITH THE SEED: the statements are not yours to turn. If you find one false, say at which input.
  Laid BY PROGRAM, IN A SANDBOX (cutbox-rows.mjs): the forced cells as the released guide's own fill.sh prints them over the translation c2b0be8355d16439… (all of the seat's roots in one cut). By AI agents, Wed Nov 11 2026. No macro, syntax, notation, axiom, sorry.
-/
import Derived.Test.YtiolnbkaohioiaaChecked
import GoSem.Claim
import GoSem.ClaimJoined
import GoSem.ClaimMapViews
import Derived.JoinedTies
import Derived.KernelRfl
namespace Go.Proofs.Ytiolnbkaohioiaa
/- THE CELL 'sum', in the pinned program and in every row, IS THE sha256 OF THE DUMP (.gsa) THAT YtiolnbkaohioiaaProg.lean LOADS. Nothing in Lean hashes anything: it is a label: what it is worth is what the hold of that sum in a sandbox is worth. -/
noncomputable def Try.pinned : Pinned := { name := "ytiolnbkaohioiaa", sum := "c2b0be8355d164395b34a4ce156b5c1ecd0816d2e1a0454ec6e6a5c2d5a7eeaa", checked := Try.checked }
namespace Rows
def none {H : Type} : Left H := { results := [], args := [] }

/-- 'laws.FnExactCombine': WHATEVER THE INPUT: true; the input reads as it did. -/
def fnExactCombineSpec : ChangeSpec := { name := "fnExactCombine", fn := fun _ => fun
  | [d1, d2, d3] => { results := [.lit (.bool true)], args := [d1, d2, d3] }
  | _ => none }
def fnExactCombineRow : OpenClaim := { program := "ytiolnbkaohioiaa", sum := "c2b0be8355d164395b34a4ce156b5c1ecd0816d2e1a0454ec6e6a5c2d5a7eeaa", func := "loop.example/g00985/laws.FnExactCombine", spec := "fnExactCombine", apart := false }
def FnExactCombineSaid : Prop := fnExactCombineRow.holds Try.pinned (OpenSpec.ofChange fnExactCombineSpec)

/-- ITS FALSE NEIGHBOUR: 'it returns false'. Refute it at one input. -/
def fnExactCombineWrong : ChangeSpec := { name := "fnExactCombine", fn := fun _ => fun
  | [d1, d2, d3] => { results := [.lit (.bool false)], args := [d1, d2, d3] }
  | _ => none }
def FnExactCombineWrongFalsely : Prop := fnExactCombineRow.holds Try.pinned (OpenSpec.ofChange fnExactCombineWrong)

/-- 'laws.FnExactCompact': WHATEVER THE INPUT: true; the input reads as it did. -/
def fnExactCompactSpec : ChangeSpec := { name := "fnExactCompact", fn := fun _ => fun
  | [d1, d2] => { results := [.lit (.bool true)], args := [d1, d2] }
  | _ => none }
def fnExactCompactRow : OpenClaim := { program := "ytiolnbkaohioiaa", sum := "c2b0be8355d164395b34a4ce156b5c1ecd0816d2e1a0454ec6e6a5c2d5a7eeaa", func := "loop.example/g00985/laws.FnExactCompact", spec := "fnExactCompact", unfollowed := true, recurses := true, apart := false }
def FnExactCompactSaid : Prop := fnExactCompactRow.holds Try.pinned (OpenSpec.ofChange fnExactCompactSpec)

/-- ITS FALSE NEIGHBOUR: 'it returns false'. Refute it at one input. -/
def fnExactCompactWrong : ChangeSpec := { name := "fnExactCompact", fn := fun _ => fun
  | [d1, d2] => { results := [.lit (.bool false)], args := [d1, d2] }
  | _ => none }
def FnExactCompactWrongFalsely : Prop := fnExactCompactRow.holds Try.pinned (OpenSpec.ofChange fnExactCompactWrong)

/-- 'laws.FnExactRanksOf': WHATEVER THE INPUT: true; the input reads as it did. -/
def fnExactRanksOfSpec : ChangeSpec := { name := "fnExactRanksOf", fn := fun _ => fun
  | [d] => { results := [.lit (.bool true)], args := [d] }
  | _ => none }
def fnExactRanksOfRow : OpenClaim := { program := "ytiolnbkaohioiaa", sum := "c2b0be8355d164395b34a4ce156b5c1ecd0816d2e1a0454ec6e6a5c2d5a7eeaa", func := "loop.example/g00985/laws.FnExactRanksOf", spec := "fnExactRanksOf", apart := false }
def FnExactRanksOfSaid : Prop := fnExactRanksOfRow.holds Try.pinned (OpenSpec.ofChange fnExactRanksOfSpec)

/-- ITS FALSE NEIGHBOUR: 'it returns false'. Refute it at one input. -/
def fnExactRanksOfWrong : ChangeSpec := { name := "fnExactRanksOf", fn := fun _ => fun
  | [d] => { results := [.lit (.bool false)], args := [d] }
  | _ => none }
def FnExactRanksOfWrongFalsely : Prop := fnExactRanksOfRow.holds Try.pinned (OpenSpec.ofChange fnExactRanksOfWrong)

/-- 'laws.FnExactPartition': WHATEVER THE INPUT: true; the input reads as it did. -/
def fnExactPartitionSpec : ChangeSpec := { name := "fnExactPartition", fn := fun _ => fun
  | [d1, d2] => { results := [.lit (.bool true)], args := [d1, d2] }
  | _ => none }
def fnExactPartitionRow : OpenClaim := { program := "ytiolnbkaohioiaa", sum := "c2b0be8355d164395b34a4ce156b5c1ecd0816d2e1a0454ec6e6a5c2d5a7eeaa", func := "loop.example/g00985/laws.FnExactPartition", spec := "fnExactPartition", unfollowed := true, recurses := true, apart := false }
def FnExactPartitionSaid : Prop := fnExactPartitionRow.holds Try.pinned (OpenSpec.ofChange fnExactPartitionSpec)

/-- ITS FALSE NEIGHBOUR: 'it returns false'. Refute it at one input. -/
def fnExactPartitionWrong : ChangeSpec := { name := "fnExactPartition", fn := fun _ => fun
  | [d1, d2] => { results := [.lit (.bool false)], args := [d1, d2] }
  | _ => none }
def FnExactPartitionWrongFalsely : Prop := fnExactPartitionRow.holds Try.pinned (OpenSpec.ofChange fnExactPartitionWrong)

/-- 'laws.FnExactAddInOrder': WHATEVER THE INPUT: true; the input reads as it did. -/
def fnExactAddInOrderSpec : ChangeSpec := { name := "fnExactAddInOrder", fn := fun _ => fun
  | [d1, d2, d3] => { results := [.lit (.bool true)], args := [d1, d2, d3] }
  | _ => none }
def fnExactAddInOrderRow : OpenClaim := { program := "ytiolnbkaohioiaa", sum := "c2b0be8355d164395b34a4ce156b5c1ecd0816d2e1a0454ec6e6a5c2d5a7eeaa", func := "loop.example/g00985/laws.FnExactAddInOrder", spec := "fnExactAddInOrder", unfollowed := true, recurses := true, apart := false }
def FnExactAddInOrderSaid : Prop := fnExactAddInOrderRow.holds Try.pinned (OpenSpec.ofChange fnExactAddInOrderSpec)

/-- ITS FALSE NEIGHBOUR: 'it returns false'. Refute it at one input. -/
def fnExactAddInOrderWrong : ChangeSpec := { name := "fnExactAddInOrder", fn := fun _ => fun
  | [d1, d2, d3] => { results := [.lit (.bool false)], args := [d1, d2, d3] }
  | _ => none }
def FnExactAddInOrderWrongFalsely : Prop := fnExactAddInOrderRow.holds Try.pinned (OpenSpec.ofChange fnExactAddInOrderWrong)

/-- 'laws.FnAdditions': WHATEVER THE INPUT: true; the input reads as it did. -/
def fnAdditionsSpec : ChangeSpec := { name := "fnAdditions", fn := fun _ => fun
  | [d] => { results := [.lit (.bool true)], args := [d] }
  | _ => none }
def fnAdditionsRow : OpenClaim := { program := "ytiolnbkaohioiaa", sum := "c2b0be8355d164395b34a4ce156b5c1ecd0816d2e1a0454ec6e6a5c2d5a7eeaa", func := "loop.example/g00985/laws.FnAdditions", spec := "fnAdditions", unfollowed := true, recurses := true, apart := false }
def FnAdditionsSaid : Prop := fnAdditionsRow.holds Try.pinned (OpenSpec.ofChange fnAdditionsSpec)

/-- ITS FALSE NEIGHBOUR: 'it returns false'. Refute it at one input. -/
def fnAdditionsWrong : ChangeSpec := { name := "fnAdditions", fn := fun _ => fun
  | [d] => { results := [.lit (.bool false)], args := [d] }
  | _ => none }
def FnAdditionsWrongFalsely : Prop := fnAdditionsRow.holds Try.pinned (OpenSpec.ofChange fnAdditionsWrong)

/-- 'laws.FnExactScanSegments': WHATEVER THE INPUT: true; the input reads as it did. -/
def fnExactScanSegmentsSpec : ChangeSpec := { name := "fnExactScanSegments", fn := fun _ => fun
  | [d1, d2, d3] => { results := [.lit (.bool true)], args := [d1, d2, d3] }
  | _ => none }
def fnExactScanSegmentsRow : OpenClaim := { program := "ytiolnbkaohioiaa", sum := "c2b0be8355d164395b34a4ce156b5c1ecd0816d2e1a0454ec6e6a5c2d5a7eeaa", func := "loop.example/g00985/laws.FnExactScanSegments", spec := "fnExactScanSegments", unfollowed := true, recurses := true, apart := false }
def FnExactScanSegmentsSaid : Prop := fnExactScanSegmentsRow.holds Try.pinned (OpenSpec.ofChange fnExactScanSegmentsSpec)

/-- ITS FALSE NEIGHBOUR: 'it returns false'. Refute it at one input. -/
def fnExactScanSegmentsWrong : ChangeSpec := { name := "fnExactScanSegments", fn := fun _ => fun
  | [d1, d2, d3] => { results := [.lit (.bool false)], args := [d1, d2, d3] }
  | _ => none }
def FnExactScanSegmentsWrongFalsely : Prop := fnExactScanSegmentsRow.holds Try.pinned (OpenSpec.ofChange fnExactScanSegmentsWrong)

/-- 'laws.FnExactReduceMasked': WHATEVER THE INPUT: true; the input reads as it did. -/
def fnExactReduceMaskedSpec : ChangeSpec := { name := "fnExactReduceMasked", fn := fun _ => fun
  | [d1, d2, d3] => { results := [.lit (.bool true)], args := [d1, d2, d3] }
  | _ => none }
def fnExactReduceMaskedRow : OpenClaim := { program := "ytiolnbkaohioiaa", sum := "c2b0be8355d164395b34a4ce156b5c1ecd0816d2e1a0454ec6e6a5c2d5a7eeaa", func := "loop.example/g00985/laws.FnExactReduceMasked", spec := "fnExactReduceMasked", unfollowed := true, recurses := true, apart := false }
def FnExactReduceMaskedSaid : Prop := fnExactReduceMaskedRow.holds Try.pinned (OpenSpec.ofChange fnExactReduceMaskedSpec)

/-- ITS FALSE NEIGHBOUR: 'it returns false'. Refute it at one input. -/
def fnExactReduceMaskedWrong : ChangeSpec := { name := "fnExactReduceMasked", fn := fun _ => fun
  | [d1, d2, d3] => { results := [.lit (.bool false)], args := [d1, d2, d3] }
  | _ => none }
def FnExactReduceMaskedWrongFalsely : Prop := fnExactReduceMaskedRow.holds Try.pinned (OpenSpec.ofChange fnExactReduceMaskedWrong)

/-- 'laws.FnExactOrderOfTickets': WHATEVER THE INPUT: true; the input reads as it did. -/
def fnExactOrderOfTicketsSpec : ChangeSpec := { name := "fnExactOrderOfTickets", fn := fun _ => fun
  | [d1, d2] => { results := [.lit (.bool true)], args := [d1, d2] }
  | _ => none }
def fnExactOrderOfTicketsRow : OpenClaim := { program := "ytiolnbkaohioiaa", sum := "c2b0be8355d164395b34a4ce156b5c1ecd0816d2e1a0454ec6e6a5c2d5a7eeaa", func := "loop.example/g00985/laws.FnExactOrderOfTickets", spec := "fnExactOrderOfTickets", unfollowed := true, recurses := true, apart := false }
def FnExactOrderOfTicketsSaid : Prop := fnExactOrderOfTicketsRow.holds Try.pinned (OpenSpec.ofChange fnExactOrderOfTicketsSpec)

/-- ITS FALSE NEIGHBOUR: 'it returns false'. Refute it at one input. -/
def fnExactOrderOfTicketsWrong : ChangeSpec := { name := "fnExactOrderOfTickets", fn := fun _ => fun
  | [d1, d2] => { results := [.lit (.bool false)], args := [d1, d2] }
  | _ => none }
def FnExactOrderOfTicketsWrongFalsely : Prop := fnExactOrderOfTicketsRow.holds Try.pinned (OpenSpec.ofChange fnExactOrderOfTicketsWrong)

/-- 'laws.FnExactScanRound': WHATEVER THE INPUT: true; the input reads as it did. -/
def fnExactScanRoundSpec : ChangeSpec := { name := "fnExactScanRound", fn := fun _ => fun
  | [d1, d2, d3] => { results := [.lit (.bool true)], args := [d1, d2, d3] }
  | _ => none }
def fnExactScanRoundRow : OpenClaim := { program := "ytiolnbkaohioiaa", sum := "c2b0be8355d164395b34a4ce156b5c1ecd0816d2e1a0454ec6e6a5c2d5a7eeaa", func := "loop.example/g00985/laws.FnExactScanRound", spec := "fnExactScanRound", unfollowed := true, recurses := true, apart := false }
def FnExactScanRoundSaid : Prop := fnExactScanRoundRow.holds Try.pinned (OpenSpec.ofChange fnExactScanRoundSpec)

/-- ITS FALSE NEIGHBOUR: 'it returns false'. Refute it at one input. -/
def fnExactScanRoundWrong : ChangeSpec := { name := "fnExactScanRound", fn := fun _ => fun
  | [d1, d2, d3] => { results := [.lit (.bool false)], args := [d1, d2, d3] }
  | _ => none }
def FnExactScanRoundWrongFalsely : Prop := fnExactScanRoundRow.holds Try.pinned (OpenSpec.ofChange fnExactScanRoundWrong)

/-- 'laws.FnExactExpand': WHATEVER THE INPUT: true; the input reads as it did. -/
def fnExactExpandSpec : ChangeSpec := { name := "fnExactExpand", fn := fun _ => fun
  | [d1, d2, d3] => { results := [.lit (.bool true)], args := [d1, d2, d3] }
  | _ => none }
def fnExactExpandRow : OpenClaim := { program := "ytiolnbkaohioiaa", sum := "c2b0be8355d164395b34a4ce156b5c1ecd0816d2e1a0454ec6e6a5c2d5a7eeaa", func := "loop.example/g00985/laws.FnExactExpand", spec := "fnExactExpand", unfollowed := true, recurses := true, apart := false }
def FnExactExpandSaid : Prop := fnExactExpandRow.holds Try.pinned (OpenSpec.ofChange fnExactExpandSpec)

/-- ITS FALSE NEIGHBOUR: 'it returns false'. Refute it at one input. -/
def fnExactExpandWrong : ChangeSpec := { name := "fnExactExpand", fn := fun _ => fun
  | [d1, d2, d3] => { results := [.lit (.bool false)], args := [d1, d2, d3] }
  | _ => none }
def FnExactExpandWrongFalsely : Prop := fnExactExpandRow.holds Try.pinned (OpenSpec.ofChange fnExactExpandWrong)

/-- 'laws.FnReductions': WHATEVER THE INPUT: true; the input reads as it did. -/
def fnReductionsSpec : ChangeSpec := { name := "fnReductions", fn := fun _ => fun
  | [d] => { results := [.lit (.bool true)], args := [d] }
  | _ => none }
def fnReductionsRow : OpenClaim := { program := "ytiolnbkaohioiaa", sum := "c2b0be8355d164395b34a4ce156b5c1ecd0816d2e1a0454ec6e6a5c2d5a7eeaa", func := "loop.example/g00985/laws.FnReductions", spec := "fnReductions", unfollowed := true, recurses := true, apart := false }
def FnReductionsSaid : Prop := fnReductionsRow.holds Try.pinned (OpenSpec.ofChange fnReductionsSpec)

/-- ITS FALSE NEIGHBOUR: 'it returns false'. Refute it at one input. -/
def fnReductionsWrong : ChangeSpec := { name := "fnReductions", fn := fun _ => fun
  | [d] => { results := [.lit (.bool false)], args := [d] }
  | _ => none }
def FnReductionsWrongFalsely : Prop := fnReductionsRow.holds Try.pinned (OpenSpec.ofChange fnReductionsWrong)

/-- 'laws.FnExactScanAll': WHATEVER THE INPUT: true; the input reads as it did. -/
def fnExactScanAllSpec : ChangeSpec := { name := "fnExactScanAll", fn := fun _ => fun
  | [d1, d2] => { results := [.lit (.bool true)], args := [d1, d2] }
  | _ => none }
def fnExactScanAllRow : OpenClaim := { program := "ytiolnbkaohioiaa", sum := "c2b0be8355d164395b34a4ce156b5c1ecd0816d2e1a0454ec6e6a5c2d5a7eeaa", func := "loop.example/g00985/laws.FnExactScanAll", spec := "fnExactScanAll", unfollowed := true, recurses := true, apart := false }
def FnExactScanAllSaid : Prop := fnExactScanAllRow.holds Try.pinned (OpenSpec.ofChange fnExactScanAllSpec)

/-- ITS FALSE NEIGHBOUR: 'it returns false'. Refute it at one input. -/
def fnExactScanAllWrong : ChangeSpec := { name := "fnExactScanAll", fn := fun _ => fun
  | [d1, d2] => { results := [.lit (.bool false)], args := [d1, d2] }
  | _ => none }
def FnExactScanAllWrongFalsely : Prop := fnExactScanAllRow.holds Try.pinned (OpenSpec.ofChange fnExactScanAllWrong)

/-- 'laws.FnScans': WHATEVER THE INPUT: true; the input reads as it did. -/
def fnScansSpec : ChangeSpec := { name := "fnScans", fn := fun _ => fun
  | [d] => { results := [.lit (.bool true)], args := [d] }
  | _ => none }
def fnScansRow : OpenClaim := { program := "ytiolnbkaohioiaa", sum := "c2b0be8355d164395b34a4ce156b5c1ecd0816d2e1a0454ec6e6a5c2d5a7eeaa", func := "loop.example/g00985/laws.FnScans", spec := "fnScans", unfollowed := true, recurses := true, apart := false }
def FnScansSaid : Prop := fnScansRow.holds Try.pinned (OpenSpec.ofChange fnScansSpec)

/-- ITS FALSE NEIGHBOUR: 'it returns false'. Refute it at one input. -/
def fnScansWrong : ChangeSpec := { name := "fnScans", fn := fun _ => fun
  | [d] => { results := [.lit (.bool false)], args := [d] }
  | _ => none }
def FnScansWrongFalsely : Prop := fnScansRow.holds Try.pinned (OpenSpec.ofChange fnScansWrong)

/-- 'laws.FnCompaction': WHATEVER THE INPUT: true; the input reads as it did. -/
def fnCompactionSpec : ChangeSpec := { name := "fnCompaction", fn := fun _ => fun
  | [d] => { results := [.lit (.bool true)], args := [d] }
  | _ => none }
def fnCompactionRow : OpenClaim := { program := "ytiolnbkaohioiaa", sum := "c2b0be8355d164395b34a4ce156b5c1ecd0816d2e1a0454ec6e6a5c2d5a7eeaa", func := "loop.example/g00985/laws.FnCompaction", spec := "fnCompaction", unfollowed := true, recurses := true, apart := false }
def FnCompactionSaid : Prop := fnCompactionRow.holds Try.pinned (OpenSpec.ofChange fnCompactionSpec)

/-- ITS FALSE NEIGHBOUR: 'it returns false'. Refute it at one input. -/
def fnCompactionWrong : ChangeSpec := { name := "fnCompaction", fn := fun _ => fun
  | [d] => { results := [.lit (.bool false)], args := [d] }
  | _ => none }
def FnCompactionWrongFalsely : Prop := fnCompactionRow.holds Try.pinned (OpenSpec.ofChange fnCompactionWrong)

/-- 'laws.FnTickets': WHATEVER THE INPUT: true; the input reads as it did. -/
def fnTicketsSpec : ChangeSpec := { name := "fnTickets", fn := fun _ => fun
  | [d] => { results := [.lit (.bool true)], args := [d] }
  | _ => none }
def fnTicketsRow : OpenClaim := { program := "ytiolnbkaohioiaa", sum := "c2b0be8355d164395b34a4ce156b5c1ecd0816d2e1a0454ec6e6a5c2d5a7eeaa", func := "loop.example/g00985/laws.FnTickets", spec := "fnTickets", unfollowed := true, recurses := true, apart := false }
def FnTicketsSaid : Prop := fnTicketsRow.holds Try.pinned (OpenSpec.ofChange fnTicketsSpec)

/-- ITS FALSE NEIGHBOUR: 'it returns false'. Refute it at one input. -/
def fnTicketsWrong : ChangeSpec := { name := "fnTickets", fn := fun _ => fun
  | [d] => { results := [.lit (.bool false)], args := [d] }
  | _ => none }
def FnTicketsWrongFalsely : Prop := fnTicketsRow.holds Try.pinned (OpenSpec.ofChange fnTicketsWrong)

/-- 'laws.FnExactReduceRound': WHATEVER THE INPUT: true; the input reads as it did. -/
def fnExactReduceRoundSpec : ChangeSpec := { name := "fnExactReduceRound", fn := fun _ => fun
  | [d1, d2, d3] => { results := [.lit (.bool true)], args := [d1, d2, d3] }
  | _ => none }
def fnExactReduceRoundRow : OpenClaim := { program := "ytiolnbkaohioiaa", sum := "c2b0be8355d164395b34a4ce156b5c1ecd0816d2e1a0454ec6e6a5c2d5a7eeaa", func := "loop.example/g00985/laws.FnExactReduceRound", spec := "fnExactReduceRound", unfollowed := true, recurses := true, apart := false }
def FnExactReduceRoundSaid : Prop := fnExactReduceRoundRow.holds Try.pinned (OpenSpec.ofChange fnExactReduceRoundSpec)

/-- ITS FALSE NEIGHBOUR: 'it returns false'. Refute it at one input. -/
def fnExactReduceRoundWrong : ChangeSpec := { name := "fnExactReduceRound", fn := fun _ => fun
  | [d1, d2, d3] => { results := [.lit (.bool false)], args := [d1, d2, d3] }
  | _ => none }
def FnExactReduceRoundWrongFalsely : Prop := fnExactReduceRoundRow.holds Try.pinned (OpenSpec.ofChange fnExactReduceRoundWrong)

/-- 'laws.FnSegments': WHATEVER THE INPUT: true; the input reads as it did. -/
def fnSegmentsSpec : ChangeSpec := { name := "fnSegments", fn := fun _ => fun
  | [d] => { results := [.lit (.bool true)], args := [d] }
  | _ => none }
def fnSegmentsRow : OpenClaim := { program := "ytiolnbkaohioiaa", sum := "c2b0be8355d164395b34a4ce156b5c1ecd0816d2e1a0454ec6e6a5c2d5a7eeaa", func := "loop.example/g00985/laws.FnSegments", spec := "fnSegments", unfollowed := true, recurses := true, apart := false }
def FnSegmentsSaid : Prop := fnSegmentsRow.holds Try.pinned (OpenSpec.ofChange fnSegmentsSpec)

/-- ITS FALSE NEIGHBOUR: 'it returns false'. Refute it at one input. -/
def fnSegmentsWrong : ChangeSpec := { name := "fnSegments", fn := fun _ => fun
  | [d] => { results := [.lit (.bool false)], args := [d] }
  | _ => none }
def FnSegmentsWrongFalsely : Prop := fnSegmentsRow.holds Try.pinned (OpenSpec.ofChange fnSegmentsWrong)

/-- 'laws.FnExactReduceAll': WHATEVER THE INPUT: true; the input reads as it did. -/
def fnExactReduceAllSpec : ChangeSpec := { name := "fnExactReduceAll", fn := fun _ => fun
  | [d1, d2] => { results := [.lit (.bool true)], args := [d1, d2] }
  | _ => none }
def fnExactReduceAllRow : OpenClaim := { program := "ytiolnbkaohioiaa", sum := "c2b0be8355d164395b34a4ce156b5c1ecd0816d2e1a0454ec6e6a5c2d5a7eeaa", func := "loop.example/g00985/laws.FnExactReduceAll", spec := "fnExactReduceAll", unfollowed := true, recurses := true, apart := false }
def FnExactReduceAllSaid : Prop := fnExactReduceAllRow.holds Try.pinned (OpenSpec.ofChange fnExactReduceAllSpec)

/-- ITS FALSE NEIGHBOUR: 'it returns false'. Refute it at one input. -/
def fnExactReduceAllWrong : ChangeSpec := { name := "fnExactReduceAll", fn := fun _ => fun
  | [d1, d2] => { results := [.lit (.bool false)], args := [d1, d2] }
  | _ => none }
def FnExactReduceAllWrongFalsely : Prop := fnExactReduceAllRow.holds Try.pinned (OpenSpec.ofChange fnExactReduceAllWrong)

/-- 'laws.FnSplitReductions': WHATEVER THE INPUT: true; the input reads as it did. -/
def fnSplitReductionsSpec : ChangeSpec := { name := "fnSplitReductions", fn := fun _ => fun
  | [d] => { results := [.lit (.bool true)], args := [d] }
  | _ => none }
def fnSplitReductionsRow : OpenClaim := { program := "ytiolnbkaohioiaa", sum := "c2b0be8355d164395b34a4ce156b5c1ecd0816d2e1a0454ec6e6a5c2d5a7eeaa", func := "loop.example/g00985/laws.FnSplitReductions", spec := "fnSplitReductions", unfollowed := true, recurses := true, apart := false }
def FnSplitReductionsSaid : Prop := fnSplitReductionsRow.holds Try.pinned (OpenSpec.ofChange fnSplitReductionsSpec)

/-- ITS FALSE NEIGHBOUR: 'it returns false'. Refute it at one input. -/
def fnSplitReductionsWrong : ChangeSpec := { name := "fnSplitReductions", fn := fun _ => fun
  | [d] => { results := [.lit (.bool false)], args := [d] }
  | _ => none }
def FnSplitReductionsWrongFalsely : Prop := fnSplitReductionsRow.holds Try.pinned (OpenSpec.ofChange fnSplitReductionsWrong)

/-- 'laws.FnExactScanBefore': WHATEVER THE INPUT: true; the input reads as it did. -/
def fnExactScanBeforeSpec : ChangeSpec := { name := "fnExactScanBefore", fn := fun _ => fun
  | [d1, d2] => { results := [.lit (.bool true)], args := [d1, d2] }
  | _ => none }
def fnExactScanBeforeRow : OpenClaim := { program := "ytiolnbkaohioiaa", sum := "c2b0be8355d164395b34a4ce156b5c1ecd0816d2e1a0454ec6e6a5c2d5a7eeaa", func := "loop.example/g00985/laws.FnExactScanBefore", spec := "fnExactScanBefore", unfollowed := true, recurses := true, apart := false }
def FnExactScanBeforeSaid : Prop := fnExactScanBeforeRow.holds Try.pinned (OpenSpec.ofChange fnExactScanBeforeSpec)

/-- ITS FALSE NEIGHBOUR: 'it returns false'. Refute it at one input. -/
def fnExactScanBeforeWrong : ChangeSpec := { name := "fnExactScanBefore", fn := fun _ => fun
  | [d1, d2] => { results := [.lit (.bool false)], args := [d1, d2] }
  | _ => none }
def FnExactScanBeforeWrongFalsely : Prop := fnExactScanBeforeRow.holds Try.pinned (OpenSpec.ofChange fnExactScanBeforeWrong)

/- THE SECOND FORM. 'bulk': how many values and letters a reading holds, each counted each time it is reached (what is shared counts as often as it is met; a slice's spare places count too). A statement '..UptoSaid' is the law's where the arguments, and the package variables that the reading takes, are together of bulk at most 1048576: NARROWER than '..Said'. Prove '..Said' where nothing that the law and all that it calls make is longer than what came in: it says more and counts as full. Else prove '..UptoSaid'. A law counts once. -/
mutual
def uptoBulk {H : Type} : DataW H → Nat
  | .lit (.string bytes) => bytes.length + 1
  | .lit _ => 1
  | .nil => 1
  | .ptr d => uptoBulk d + 1
  | .slice elems spare => uptoBulkAll elems + uptoBulkAll spare + 1
  | .agg parts => uptoBulkAll parts + 1
  | .iface _ d => uptoBulk d + 1
  | .map entries => uptoBulkEntries entries + 1
  | .held _ => 1
def uptoBulkAll {H : Type} : List (DataW H) → Nat
  | [] => 0
  | d :: r => uptoBulk d + uptoBulkAll r
def uptoBulkEntries {H : Type} : List (Lit × DataW H) → Nat
  | [] => 0
  | x :: r => uptoBulkEntry x + uptoBulkEntries r
def uptoBulkEntry {H : Type} : Lit × DataW H → Nat
  | (.string bytes, d) => bytes.length + uptoBulk d + 1
  | (_, d) => uptoBulk d + 1
 end
def uptoSmall : (H : Type) → List (DataW H) → Bool := fun _ ds => decide (uptoBulkAll ds ≤ 1048576)
def OpenSpec.upto (s : _root_.Go.ChangeSpec) : _root_.Go.OpenSpec := { _root_.Go.OpenSpec.ofChange s with cond := some uptoSmall }

/-- 'laws.FnExactCombine', WHERE WHAT IT READS IS OF BULK AT MOST 1048576: true; the input reads as it did. -/
def fnExactCombineUptoRow : OpenClaim := { program := "ytiolnbkaohioiaa", sum := "c2b0be8355d164395b34a4ce156b5c1ecd0816d2e1a0454ec6e6a5c2d5a7eeaa", func := "loop.example/g00985/laws.FnExactCombine", spec := "fnExactCombine", apart := false, narrowed := true }
def FnExactCombineUptoSaid : Prop := fnExactCombineUptoRow.holds Try.pinned (OpenSpec.upto fnExactCombineSpec)

/-- 'laws.FnExactCompact', WHERE WHAT IT READS IS OF BULK AT MOST 1048576: true; the input reads as it did. -/
def fnExactCompactUptoRow : OpenClaim := { program := "ytiolnbkaohioiaa", sum := "c2b0be8355d164395b34a4ce156b5c1ecd0816d2e1a0454ec6e6a5c2d5a7eeaa", func := "loop.example/g00985/laws.FnExactCompact", spec := "fnExactCompact", unfollowed := true, recurses := true, apart := false, narrowed := true }
def FnExactCompactUptoSaid : Prop := fnExactCompactUptoRow.holds Try.pinned (OpenSpec.upto fnExactCompactSpec)

/-- 'laws.FnExactRanksOf', WHERE WHAT IT READS IS OF BULK AT MOST 1048576: true; the input reads as it did. -/
def fnExactRanksOfUptoRow : OpenClaim := { program := "ytiolnbkaohioiaa", sum := "c2b0be8355d164395b34a4ce156b5c1ecd0816d2e1a0454ec6e6a5c2d5a7eeaa", func := "loop.example/g00985/laws.FnExactRanksOf", spec := "fnExactRanksOf", apart := false, narrowed := true }
def FnExactRanksOfUptoSaid : Prop := fnExactRanksOfUptoRow.holds Try.pinned (OpenSpec.upto fnExactRanksOfSpec)

/-- 'laws.FnExactPartition', WHERE WHAT IT READS IS OF BULK AT MOST 1048576: true; the input reads as it did. -/
def fnExactPartitionUptoRow : OpenClaim := { program := "ytiolnbkaohioiaa", sum := "c2b0be8355d164395b34a4ce156b5c1ecd0816d2e1a0454ec6e6a5c2d5a7eeaa", func := "loop.example/g00985/laws.FnExactPartition", spec := "fnExactPartition", unfollowed := true, recurses := true, apart := false, narrowed := true }
def FnExactPartitionUptoSaid : Prop := fnExactPartitionUptoRow.holds Try.pinned (OpenSpec.upto fnExactPartitionSpec)

/-- 'laws.FnExactAddInOrder', WHERE WHAT IT READS IS OF BULK AT MOST 1048576: true; the input reads as it did. -/
def fnExactAddInOrderUptoRow : OpenClaim := { program := "ytiolnbkaohioiaa", sum := "c2b0be8355d164395b34a4ce156b5c1ecd0816d2e1a0454ec6e6a5c2d5a7eeaa", func := "loop.example/g00985/laws.FnExactAddInOrder", spec := "fnExactAddInOrder", unfollowed := true, recurses := true, apart := false, narrowed := true }
def FnExactAddInOrderUptoSaid : Prop := fnExactAddInOrderUptoRow.holds Try.pinned (OpenSpec.upto fnExactAddInOrderSpec)

/-- 'laws.FnAdditions', WHERE WHAT IT READS IS OF BULK AT MOST 1048576: true; the input reads as it did. -/
def fnAdditionsUptoRow : OpenClaim := { program := "ytiolnbkaohioiaa", sum := "c2b0be8355d164395b34a4ce156b5c1ecd0816d2e1a0454ec6e6a5c2d5a7eeaa", func := "loop.example/g00985/laws.FnAdditions", spec := "fnAdditions", unfollowed := true, recurses := true, apart := false, narrowed := true }
def FnAdditionsUptoSaid : Prop := fnAdditionsUptoRow.holds Try.pinned (OpenSpec.upto fnAdditionsSpec)

/-- 'laws.FnExactScanSegments', WHERE WHAT IT READS IS OF BULK AT MOST 1048576: true; the input reads as it did. -/
def fnExactScanSegmentsUptoRow : OpenClaim := { program := "ytiolnbkaohioiaa", sum := "c2b0be8355d164395b34a4ce156b5c1ecd0816d2e1a0454ec6e6a5c2d5a7eeaa", func := "loop.example/g00985/laws.FnExactScanSegments", spec := "fnExactScanSegments", unfollowed := true, recurses := true, apart := false, narrowed := true }
def FnExactScanSegmentsUptoSaid : Prop := fnExactScanSegmentsUptoRow.holds Try.pinned (OpenSpec.upto fnExactScanSegmentsSpec)

/-- 'laws.FnExactReduceMasked', WHERE WHAT IT READS IS OF BULK AT MOST 1048576: true; the input reads as it did. -/
def fnExactReduceMaskedUptoRow : OpenClaim := { program := "ytiolnbkaohioiaa", sum := "c2b0be8355d164395b34a4ce156b5c1ecd0816d2e1a0454ec6e6a5c2d5a7eeaa", func := "loop.example/g00985/laws.FnExactReduceMasked", spec := "fnExactReduceMasked", unfollowed := true, recurses := true, apart := false, narrowed := true }
def FnExactReduceMaskedUptoSaid : Prop := fnExactReduceMaskedUptoRow.holds Try.pinned (OpenSpec.upto fnExactReduceMaskedSpec)

/-- 'laws.FnExactOrderOfTickets', WHERE WHAT IT READS IS OF BULK AT MOST 1048576: true; the input reads as it did. -/
def fnExactOrderOfTicketsUptoRow : OpenClaim := { program := "ytiolnbkaohioiaa", sum := "c2b0be8355d164395b34a4ce156b5c1ecd0816d2e1a0454ec6e6a5c2d5a7eeaa", func := "loop.example/g00985/laws.FnExactOrderOfTickets", spec := "fnExactOrderOfTickets", unfollowed := true, recurses := true, apart := false, narrowed := true }
def FnExactOrderOfTicketsUptoSaid : Prop := fnExactOrderOfTicketsUptoRow.holds Try.pinned (OpenSpec.upto fnExactOrderOfTicketsSpec)

/-- 'laws.FnExactScanRound', WHERE WHAT IT READS IS OF BULK AT MOST 1048576: true; the input reads as it did. -/
def fnExactScanRoundUptoRow : OpenClaim := { program := "ytiolnbkaohioiaa", sum := "c2b0be8355d164395b34a4ce156b5c1ecd0816d2e1a0454ec6e6a5c2d5a7eeaa", func := "loop.example/g00985/laws.FnExactScanRound", spec := "fnExactScanRound", unfollowed := true, recurses := true, apart := false, narrowed := true }
def FnExactScanRoundUptoSaid : Prop := fnExactScanRoundUptoRow.holds Try.pinned (OpenSpec.upto fnExactScanRoundSpec)

/-- 'laws.FnExactExpand', WHERE WHAT IT READS IS OF BULK AT MOST 1048576: true; the input reads as it did. -/
def fnExactExpandUptoRow : OpenClaim := { program := "ytiolnbkaohioiaa", sum := "c2b0be8355d164395b34a4ce156b5c1ecd0816d2e1a0454ec6e6a5c2d5a7eeaa", func := "loop.example/g00985/laws.FnExactExpand", spec := "fnExactExpand", unfollowed := true, recurses := true, apart := false, narrowed := true }
def FnExactExpandUptoSaid : Prop := fnExactExpandUptoRow.holds Try.pinned (OpenSpec.upto fnExactExpandSpec)

/-- 'laws.FnReductions', WHERE WHAT IT READS IS OF BULK AT MOST 1048576: true; the input reads as it did. -/
def fnReductionsUptoRow : OpenClaim := { program := "ytiolnbkaohioiaa", sum := "c2b0be8355d164395b34a4ce156b5c1ecd0816d2e1a0454ec6e6a5c2d5a7eeaa", func := "loop.example/g00985/laws.FnReductions", spec := "fnReductions", unfollowed := true, recurses := true, apart := false, narrowed := true }
def FnReductionsUptoSaid : Prop := fnReductionsUptoRow.holds Try.pinned (OpenSpec.upto fnReductionsSpec)

/-- 'laws.FnExactScanAll', WHERE WHAT IT READS IS OF BULK AT MOST 1048576: true; the input reads as it did. -/
def fnExactScanAllUptoRow : OpenClaim := { program := "ytiolnbkaohioiaa", sum := "c2b0be8355d164395b34a4ce156b5c1ecd0816d2e1a0454ec6e6a5c2d5a7eeaa", func := "loop.example/g00985/laws.FnExactScanAll", spec := "fnExactScanAll", unfollowed := true, recurses := true, apart := false, narrowed := true }
def FnExactScanAllUptoSaid : Prop := fnExactScanAllUptoRow.holds Try.pinned (OpenSpec.upto fnExactScanAllSpec)

/-- 'laws.FnScans', WHERE WHAT IT READS IS OF BULK AT MOST 1048576: true; the input reads as it did. -/
def fnScansUptoRow : OpenClaim := { program := "ytiolnbkaohioiaa", sum := "c2b0be8355d164395b34a4ce156b5c1ecd0816d2e1a0454ec6e6a5c2d5a7eeaa", func := "loop.example/g00985/laws.FnScans", spec := "fnScans", unfollowed := true, recurses := true, apart := false, narrowed := true }
def FnScansUptoSaid : Prop := fnScansUptoRow.holds Try.pinned (OpenSpec.upto fnScansSpec)

/-- 'laws.FnCompaction', WHERE WHAT IT READS IS OF BULK AT MOST 1048576: true; the input reads as it did. -/
def fnCompactionUptoRow : OpenClaim := { program := "ytiolnbkaohioiaa", sum := "c2b0be8355d164395b34a4ce156b5c1ecd0816d2e1a0454ec6e6a5c2d5a7eeaa", func := "loop.example/g00985/laws.FnCompaction", spec := "fnCompaction", unfollowed := true, recurses := true, apart := false, narrowed := true }
def FnCompactionUptoSaid : Prop := fnCompactionUptoRow.holds Try.pinned (OpenSpec.upto fnCompactionSpec)

/-- 'laws.FnTickets', WHERE WHAT IT READS IS OF BULK AT MOST 1048576: true; the input reads as it did. -/
def fnTicketsUptoRow : OpenClaim := { program := "ytiolnbkaohioiaa", sum := "c2b0be8355d164395b34a4ce156b5c1ecd0816d2e1a0454ec6e6a5c2d5a7eeaa", func := "loop.example/g00985/laws.FnTickets", spec := "fnTickets", unfollowed := true, recurses := true, apart := false, narrowed := true }
def FnTicketsUptoSaid : Prop := fnTicketsUptoRow.holds Try.pinned (OpenSpec.upto fnTicketsSpec)

/-- 'laws.FnExactReduceRound', WHERE WHAT IT READS IS OF BULK AT MOST 1048576: true; the input reads as it did. -/
def fnExactReduceRoundUptoRow : OpenClaim := { program := "ytiolnbkaohioiaa", sum := "c2b0be8355d164395b34a4ce156b5c1ecd0816d2e1a0454ec6e6a5c2d5a7eeaa", func := "loop.example/g00985/laws.FnExactReduceRound", spec := "fnExactReduceRound", unfollowed := true, recurses := true, apart := false, narrowed := true }
def FnExactReduceRoundUptoSaid : Prop := fnExactReduceRoundUptoRow.holds Try.pinned (OpenSpec.upto fnExactReduceRoundSpec)

/-- 'laws.FnSegments', WHERE WHAT IT READS IS OF BULK AT MOST 1048576: true; the input reads as it did. -/
def fnSegmentsUptoRow : OpenClaim := { program := "ytiolnbkaohioiaa", sum := "c2b0be8355d164395b34a4ce156b5c1ecd0816d2e1a0454ec6e6a5c2d5a7eeaa", func := "loop.example/g00985/laws.FnSegments", spec := "fnSegments", unfollowed := true, recurses := true, apart := false, narrowed := true }
def FnSegmentsUptoSaid : Prop := fnSegmentsUptoRow.holds Try.pinned (OpenSpec.upto fnSegmentsSpec)

/-- 'laws.FnExactReduceAll', WHERE WHAT IT READS IS OF BULK AT MOST 1048576: true; the input reads as it did. -/
def fnExactReduceAllUptoRow : OpenClaim := { program := "ytiolnbkaohioiaa", sum := "c2b0be8355d164395b34a4ce156b5c1ecd0816d2e1a0454ec6e6a5c2d5a7eeaa", func := "loop.example/g00985/laws.FnExactReduceAll", spec := "fnExactReduceAll", unfollowed := true, recurses := true, apart := false, narrowed := true }
def FnExactReduceAllUptoSaid : Prop := fnExactReduceAllUptoRow.holds Try.pinned (OpenSpec.upto fnExactReduceAllSpec)

/-- 'laws.FnSplitReductions', WHERE WHAT IT READS IS OF BULK AT MOST 1048576: true; the input reads as it did. -/
def fnSplitReductionsUptoRow : OpenClaim := { program := "ytiolnbkaohioiaa", sum := "c2b0be8355d164395b34a4ce156b5c1ecd0816d2e1a0454ec6e6a5c2d5a7eeaa", func := "loop.example/g00985/laws.FnSplitReductions", spec := "fnSplitReductions", unfollowed := true, recurses := true, apart := false, narrowed := true }
def FnSplitReductionsUptoSaid : Prop := fnSplitReductionsUptoRow.holds Try.pinned (OpenSpec.upto fnSplitReductionsSpec)

/-- 'laws.FnExactScanBefore', WHERE WHAT IT READS IS OF BULK AT MOST 1048576: true; the input reads as it did. -/
def fnExactScanBeforeUptoRow : OpenClaim := { program := "ytiolnbkaohioiaa", sum := "c2b0be8355d164395b34a4ce156b5c1ecd0816d2e1a0454ec6e6a5c2d5a7eeaa", func := "loop.example/g00985/laws.FnExactScanBefore", spec := "fnExactScanBefore", unfollowed := true, recurses := true, apart := false, narrowed := true }
def FnExactScanBeforeUptoSaid : Prop := fnExactScanBeforeUptoRow.holds Try.pinned (OpenSpec.upto fnExactScanBeforeSpec)

end Rows
end Go.Proofs.Ytiolnbkaohioiaa
