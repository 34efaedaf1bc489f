/-
  No cell of these rows narrows 'for every input' (looked for: loops, veiled, ifaces, maps, wideKeys, modest, calm, conditions, laid).
  DERIVED. THE GIVEN ROWS OF THIS SEAT. 11 by the template 'for every input the law returns true; each argument reads behind the call as it read before'; 0 by the template 'total and deterministic' (their statements: YtfbhnlpbibiecaaTotals.lean).
  GIVEN WITH THE SEED: the statements are not yours to turn. If you find one false, say at which input.
  Laid BY PROGRAM, IN A SANDBOX (cutbox-rows.mjs): the forced cells as the released guide's own fill.sh prints them over the translation 67b32c3a02f0d66f… (all of the seat's roots in one cut). By AI agents, Wed Nov 11 2026. No macro, syntax, notation, axiom, sorry.
-/
import Derived.Test.YtfbhnlpbibiecaaChecked
import GoSem.Claim
import GoSem.ClaimJoined
import GoSem.ClaimMapViews
import Derived.JoinedTies
import Derived.KernelRfl
namespace Go.Proofs.Ytfbhnlpbibiecaa
/- THE CELL 'sum', in the pinned program and in every row, IS THE sha256 OF THE DUMP (.gsa) THAT YtfbhnlpbibiecaaProg.lean LOADS. Nothing in Lean hashes anything: it is a label: what it is worth is what the hold of that sum in a sandbox is worth. -/
noncomputable def Try.pinned : Pinned := { name := "ytfbhnlpbibiecaa", sum := "67b32c3a02f0d66fd7f049f7e9b3742bb256a3c70de6122169b5375eb24b0ccb", checked := Try.checked }
namespace Rows
def none {H : Type} : Left H := { results := [], args := [] }

/-- 'laws.FnLines': WHATEVER THE INPUT: true; the input reads as it did. -/
def fnLinesSpec : ChangeSpec := { name := "fnLines", fn := fun _ => fun
  | [d] => { results := [.lit (.bool true)], args := [d] }
  | _ => none }
def fnLinesRow : OpenClaim := { program := "ytfbhnlpbibiecaa", sum := "67b32c3a02f0d66fd7f049f7e9b3742bb256a3c70de6122169b5375eb24b0ccb", func := "loop.example/g00985/laws.FnLines", spec := "fnLines", unfollowed := true, recurses := true, apart := false }
def FnLinesSaid : Prop := fnLinesRow.holds Try.pinned (OpenSpec.ofChange fnLinesSpec)

/-- ITS FALSE NEIGHBOUR: 'it returns false'. Refute it at one input. -/
def fnLinesWrong : ChangeSpec := { name := "fnLines", fn := fun _ => fun
  | [d] => { results := [.lit (.bool false)], args := [d] }
  | _ => none }
def FnLinesWrongFalsely : Prop := fnLinesRow.holds Try.pinned (OpenSpec.ofChange fnLinesWrong)

/-- 'laws.FnExactUsedWords': WHATEVER THE INPUT: true; the input reads as it did. -/
def fnExactUsedWordsSpec : ChangeSpec := { name := "fnExactUsedWords", fn := fun _ => fun
  | [d1, d2] => { results := [.lit (.bool true)], args := [d1, d2] }
  | _ => none }
def fnExactUsedWordsRow : OpenClaim := { program := "ytfbhnlpbibiecaa", sum := "67b32c3a02f0d66fd7f049f7e9b3742bb256a3c70de6122169b5375eb24b0ccb", func := "loop.example/g00985/laws.FnExactUsedWords", spec := "fnExactUsedWords", unfollowed := true, recurses := true, apart := false }
def FnExactUsedWordsSaid : Prop := fnExactUsedWordsRow.holds Try.pinned (OpenSpec.ofChange fnExactUsedWordsSpec)

/-- ITS FALSE NEIGHBOUR: 'it returns false'. Refute it at one input. -/
def fnExactUsedWordsWrong : ChangeSpec := { name := "fnExactUsedWords", fn := fun _ => fun
  | [d1, d2] => { results := [.lit (.bool false)], args := [d1, d2] }
  | _ => none }
def FnExactUsedWordsWrongFalsely : Prop := fnExactUsedWordsRow.holds Try.pinned (OpenSpec.ofChange fnExactUsedWordsWrong)

/-- 'laws.FnExactLinesOf': WHATEVER THE INPUT: true; the input reads as it did. -/
def fnExactLinesOfSpec : ChangeSpec := { name := "fnExactLinesOf", fn := fun _ => fun
  | [d1, d2] => { results := [.lit (.bool true)], args := [d1, d2] }
  | _ => none }
def fnExactLinesOfRow : OpenClaim := { program := "ytfbhnlpbibiecaa", sum := "67b32c3a02f0d66fd7f049f7e9b3742bb256a3c70de6122169b5375eb24b0ccb", func := "loop.example/g00985/laws.FnExactLinesOf", spec := "fnExactLinesOf", unfollowed := true, recurses := true, apart := false }
def FnExactLinesOfSaid : Prop := fnExactLinesOfRow.holds Try.pinned (OpenSpec.ofChange fnExactLinesOfSpec)

/-- ITS FALSE NEIGHBOUR: 'it returns false'. Refute it at one input. -/
def fnExactLinesOfWrong : ChangeSpec := { name := "fnExactLinesOf", fn := fun _ => fun
  | [d1, d2] => { results := [.lit (.bool false)], args := [d1, d2] }
  | _ => none }
def FnExactLinesOfWrongFalsely : Prop := fnExactLinesOfRow.holds Try.pinned (OpenSpec.ofChange fnExactLinesOfWrong)

/-- 'laws.FnStrides': WHATEVER THE INPUT: true; the input reads as it did. -/
def fnStridesSpec : ChangeSpec := { name := "fnStrides", fn := fun _ => fun
  | [d] => { results := [.lit (.bool true)], args := [d] }
  | _ => none }
def fnStridesRow : OpenClaim := { program := "ytfbhnlpbibiecaa", sum := "67b32c3a02f0d66fd7f049f7e9b3742bb256a3c70de6122169b5375eb24b0ccb", func := "loop.example/g00985/laws.FnStrides", spec := "fnStrides", unfollowed := true, recurses := true, apart := false }
def FnStridesSaid : Prop := fnStridesRow.holds Try.pinned (OpenSpec.ofChange fnStridesSpec)

/-- ITS FALSE NEIGHBOUR: 'it returns false'. Refute it at one input. -/
def fnStridesWrong : ChangeSpec := { name := "fnStrides", fn := fun _ => fun
  | [d] => { results := [.lit (.bool false)], args := [d] }
  | _ => none }
def FnStridesWrongFalsely : Prop := fnStridesRow.holds Try.pinned (OpenSpec.ofChange fnStridesWrong)

/-- 'laws.FnExactStrideLines': WHATEVER THE INPUT: true; the input reads as it did. -/
def fnExactStrideLinesSpec : ChangeSpec := { name := "fnExactStrideLines", fn := fun _ => fun
  | [d1, d2] => { results := [.lit (.bool true)], args := [d1, d2] }
  | _ => none }
def fnExactStrideLinesRow : OpenClaim := { program := "ytfbhnlpbibiecaa", sum := "67b32c3a02f0d66fd7f049f7e9b3742bb256a3c70de6122169b5375eb24b0ccb", func := "loop.example/g00985/laws.FnExactStrideLines", spec := "fnExactStrideLines", unfollowed := true, recurses := true, apart := false }
def FnExactStrideLinesSaid : Prop := fnExactStrideLinesRow.holds Try.pinned (OpenSpec.ofChange fnExactStrideLinesSpec)

/-- ITS FALSE NEIGHBOUR: 'it returns false'. Refute it at one input. -/
def fnExactStrideLinesWrong : ChangeSpec := { name := "fnExactStrideLines", fn := fun _ => fun
  | [d1, d2] => { results := [.lit (.bool false)], args := [d1, d2] }
  | _ => none }
def FnExactStrideLinesWrongFalsely : Prop := fnExactStrideLinesRow.holds Try.pinned (OpenSpec.ofChange fnExactStrideLinesWrong)

/-- 'laws.FnExactLineUse': WHATEVER THE INPUT: true; the input reads as it did. -/
def fnExactLineUseSpec : ChangeSpec := { name := "fnExactLineUse", fn := fun _ => fun
  | [d1, d2] => { results := [.lit (.bool true)], args := [d1, d2] }
  | _ => none }
def fnExactLineUseRow : OpenClaim := { program := "ytfbhnlpbibiecaa", sum := "67b32c3a02f0d66fd7f049f7e9b3742bb256a3c70de6122169b5375eb24b0ccb", func := "loop.example/g00985/laws.FnExactLineUse", spec := "fnExactLineUse", unfollowed := true, recurses := true, apart := false }
def FnExactLineUseSaid : Prop := fnExactLineUseRow.holds Try.pinned (OpenSpec.ofChange fnExactLineUseSpec)

/-- ITS FALSE NEIGHBOUR: 'it returns false'. Refute it at one input. -/
def fnExactLineUseWrong : ChangeSpec := { name := "fnExactLineUse", fn := fun _ => fun
  | [d1, d2] => { results := [.lit (.bool false)], args := [d1, d2] }
  | _ => none }
def FnExactLineUseWrongFalsely : Prop := fnExactLineUseRow.holds Try.pinned (OpenSpec.ofChange fnExactLineUseWrong)

/-- 'laws.FnSorts': WHATEVER THE INPUT: true; the input reads as it did. -/
def fnSortsSpec : ChangeSpec := { name := "fnSorts", fn := fun _ => fun
  | [d] => { results := [.lit (.bool true)], args := [d] }
  | _ => none }
def fnSortsRow : OpenClaim := { program := "ytfbhnlpbibiecaa", sum := "67b32c3a02f0d66fd7f049f7e9b3742bb256a3c70de6122169b5375eb24b0ccb", func := "loop.example/g00985/laws.FnSorts", spec := "fnSorts", unfollowed := true, recurses := true, apart := false }
def FnSortsSaid : Prop := fnSortsRow.holds Try.pinned (OpenSpec.ofChange fnSortsSpec)

/-- ITS FALSE NEIGHBOUR: 'it returns false'. Refute it at one input. -/
def fnSortsWrong : ChangeSpec := { name := "fnSorts", fn := fun _ => fun
  | [d] => { results := [.lit (.bool false)], args := [d] }
  | _ => none }
def FnSortsWrongFalsely : Prop := fnSortsRow.holds Try.pinned (OpenSpec.ofChange fnSortsWrong)

/-- 'laws.FnExactSortValues': WHATEVER THE INPUT: true; the input reads as it did. -/
def fnExactSortValuesSpec : ChangeSpec := { name := "fnExactSortValues", fn := fun _ => fun
  | [d] => { results := [.lit (.bool true)], args := [d] }
  | _ => none }
def fnExactSortValuesRow : OpenClaim := { program := "ytfbhnlpbibiecaa", sum := "67b32c3a02f0d66fd7f049f7e9b3742bb256a3c70de6122169b5375eb24b0ccb", func := "loop.example/g00985/laws.FnExactSortValues", spec := "fnExactSortValues", unfollowed := true, recurses := true, apart := false }
def FnExactSortValuesSaid : Prop := fnExactSortValuesRow.holds Try.pinned (OpenSpec.ofChange fnExactSortValuesSpec)

/-- ITS FALSE NEIGHBOUR: 'it returns false'. Refute it at one input. -/
def fnExactSortValuesWrong : ChangeSpec := { name := "fnExactSortValues", fn := fun _ => fun
  | [d] => { results := [.lit (.bool false)], args := [d] }
  | _ => none }
def FnExactSortValuesWrongFalsely : Prop := fnExactSortValuesRow.holds Try.pinned (OpenSpec.ofChange fnExactSortValuesWrong)

/-- 'laws.FnExactSortStage': WHATEVER THE INPUT: true; the input reads as it did. -/
def fnExactSortStageSpec : ChangeSpec := { name := "fnExactSortStage", fn := fun _ => fun
  | [d] => { results := [.lit (.bool true)], args := [d] }
  | _ => none }
def fnExactSortStageRow : OpenClaim := { program := "ytfbhnlpbibiecaa", sum := "67b32c3a02f0d66fd7f049f7e9b3742bb256a3c70de6122169b5375eb24b0ccb", func := "loop.example/g00985/laws.FnExactSortStage", spec := "fnExactSortStage", unfollowed := true, recurses := true, apart := false }
def FnExactSortStageSaid : Prop := fnExactSortStageRow.holds Try.pinned (OpenSpec.ofChange fnExactSortStageSpec)

/-- ITS FALSE NEIGHBOUR: 'it returns false'. Refute it at one input. -/
def fnExactSortStageWrong : ChangeSpec := { name := "fnExactSortStage", fn := fun _ => fun
  | [d] => { results := [.lit (.bool false)], args := [d] }
  | _ => none }
def FnExactSortStageWrongFalsely : Prop := fnExactSortStageRow.holds Try.pinned (OpenSpec.ofChange fnExactSortStageWrong)

/-- 'laws.FnStages': WHATEVER THE INPUT: true; the input reads as it did. -/
def fnStagesSpec : ChangeSpec := { name := "fnStages", fn := fun _ => fun
  | [d] => { results := [.lit (.bool true)], args := [d] }
  | _ => none }
def fnStagesRow : OpenClaim := { program := "ytfbhnlpbibiecaa", sum := "67b32c3a02f0d66fd7f049f7e9b3742bb256a3c70de6122169b5375eb24b0ccb", func := "loop.example/g00985/laws.FnStages", spec := "fnStages", unfollowed := true, recurses := true, apart := false }
def FnStagesSaid : Prop := fnStagesRow.holds Try.pinned (OpenSpec.ofChange fnStagesSpec)

/-- ITS FALSE NEIGHBOUR: 'it returns false'. Refute it at one input. -/
def fnStagesWrong : ChangeSpec := { name := "fnStages", fn := fun _ => fun
  | [d] => { results := [.lit (.bool false)], args := [d] }
  | _ => none }
def FnStagesWrongFalsely : Prop := fnStagesRow.holds Try.pinned (OpenSpec.ofChange fnStagesWrong)

/-- 'laws.FnExactApplyStage': WHATEVER THE INPUT: true; the input reads as it did. -/
def fnExactApplyStageSpec : ChangeSpec := { name := "fnExactApplyStage", fn := fun _ => fun
  | [d1, d2] => { results := [.lit (.bool true)], args := [d1, d2] }
  | _ => none }
def fnExactApplyStageRow : OpenClaim := { program := "ytfbhnlpbibiecaa", sum := "67b32c3a02f0d66fd7f049f7e9b3742bb256a3c70de6122169b5375eb24b0ccb", func := "loop.example/g00985/laws.FnExactApplyStage", spec := "fnExactApplyStage", unfollowed := true, recurses := true, apart := false }
def FnExactApplyStageSaid : Prop := fnExactApplyStageRow.holds Try.pinned (OpenSpec.ofChange fnExactApplyStageSpec)

/-- ITS FALSE NEIGHBOUR: 'it returns false'. Refute it at one input. -/
def fnExactApplyStageWrong : ChangeSpec := { name := "fnExactApplyStage", fn := fun _ => fun
  | [d1, d2] => { results := [.lit (.bool false)], args := [d1, d2] }
  | _ => none }
def FnExactApplyStageWrongFalsely : Prop := fnExactApplyStageRow.holds Try.pinned (OpenSpec.ofChange fnExactApplyStageWrong)

/- THE SECOND FORM. 'bulk': how many values and letters a reading holds, each counted each time it is reached (what is shared counts as often as it is met; a slice's spare places count too). A statement '..UptoSaid' is the law's where the arguments, and the package variables that the reading takes, are together of bulk at most 1048576: NARROWER than '..Said'. Prove '..Said' where nothing that the law and all that it calls make is longer than what came in: it says more and counts as full. Else prove '..UptoSaid'. A law counts once. -/
mutual
def uptoBulk {H : Type} : DataW H → Nat
  | .lit (.string bytes) => bytes.length + 1
  | .lit _ => 1
  | .nil => 1
  | .ptr d => uptoBulk d + 1
  | .slice elems spare => uptoBulkAll elems + uptoBulkAll spare + 1
  | .agg parts => uptoBulkAll parts + 1
  | .iface _ d => uptoBulk d + 1
  | .map entries => uptoBulkEntries entries + 1
  | .held _ => 1
def uptoBulkAll {H : Type} : List (DataW H) → Nat
  | [] => 0
  | d :: r => uptoBulk d + uptoBulkAll r
def uptoBulkEntries {H : Type} : List (Lit × DataW H) → Nat
  | [] => 0
  | x :: r => uptoBulkEntry x + uptoBulkEntries r
def uptoBulkEntry {H : Type} : Lit × DataW H → Nat
  | (.string bytes, d) => bytes.length + uptoBulk d + 1
  | (_, d) => uptoBulk d + 1
 end
def uptoSmall : (H : Type) → List (DataW H) → Bool := fun _ ds => decide (uptoBulkAll ds ≤ 1048576)
def OpenSpec.upto (s : _root_.Go.ChangeSpec) : _root_.Go.OpenSpec := { _root_.Go.OpenSpec.ofChange s with cond := some uptoSmall }

/-- 'laws.FnLines', WHERE WHAT IT READS IS OF BULK AT MOST 1048576: true; the input reads as it did. -/
def fnLinesUptoRow : OpenClaim := { program := "ytfbhnlpbibiecaa", sum := "67b32c3a02f0d66fd7f049f7e9b3742bb256a3c70de6122169b5375eb24b0ccb", func := "loop.example/g00985/laws.FnLines", spec := "fnLines", unfollowed := true, recurses := true, apart := false, narrowed := true }
def FnLinesUptoSaid : Prop := fnLinesUptoRow.holds Try.pinned (OpenSpec.upto fnLinesSpec)

/-- 'laws.FnExactUsedWords', WHERE WHAT IT READS IS OF BULK AT MOST 1048576: true; the input reads as it did. -/
def fnExactUsedWordsUptoRow : OpenClaim := { program := "ytfbhnlpbibiecaa", sum := "67b32c3a02f0d66fd7f049f7e9b3742bb256a3c70de6122169b5375eb24b0ccb", func := "loop.example/g00985/laws.FnExactUsedWords", spec := "fnExactUsedWords", unfollowed := true, recurses := true, apart := false, narrowed := true }
def FnExactUsedWordsUptoSaid : Prop := fnExactUsedWordsUptoRow.holds Try.pinned (OpenSpec.upto fnExactUsedWordsSpec)

/-- 'laws.FnExactLinesOf', WHERE WHAT IT READS IS OF BULK AT MOST 1048576: true; the input reads as it did. -/
def fnExactLinesOfUptoRow : OpenClaim := { program := "ytfbhnlpbibiecaa", sum := "67b32c3a02f0d66fd7f049f7e9b3742bb256a3c70de6122169b5375eb24b0ccb", func := "loop.example/g00985/laws.FnExactLinesOf", spec := "fnExactLinesOf", unfollowed := true, recurses := true, apart := false, narrowed := true }
def FnExactLinesOfUptoSaid : Prop := fnExactLinesOfUptoRow.holds Try.pinned (OpenSpec.upto fnExactLinesOfSpec)

/-- 'laws.FnStrides', WHERE WHAT IT READS IS OF BULK AT MOST 1048576: true; the input reads as it did. -/
def fnStridesUptoRow : OpenClaim := { program := "ytfbhnlpbibiecaa", sum := "67b32c3a02f0d66fd7f049f7e9b3742bb256a3c70de6122169b5375eb24b0ccb", func := "loop.example/g00985/laws.FnStrides", spec := "fnStrides", unfollowed := true, recurses := true, apart := false, narrowed := true }
def FnStridesUptoSaid : Prop := fnStridesUptoRow.holds Try.pinned (OpenSpec.upto fnStridesSpec)

/-- 'laws.FnExactStrideLines', WHERE WHAT IT READS IS OF BULK AT MOST 1048576: true; the input reads as it did. -/
def fnExactStrideLinesUptoRow : OpenClaim := { program := "ytfbhnlpbibiecaa", sum := "67b32c3a02f0d66fd7f049f7e9b3742bb256a3c70de6122169b5375eb24b0ccb", func := "loop.example/g00985/laws.FnExactStrideLines", spec := "fnExactStrideLines", unfollowed := true, recurses := true, apart := false, narrowed := true }
def FnExactStrideLinesUptoSaid : Prop := fnExactStrideLinesUptoRow.holds Try.pinned (OpenSpec.upto fnExactStrideLinesSpec)

/-- 'laws.FnExactLineUse', WHERE WHAT IT READS IS OF BULK AT MOST 1048576: true; the input reads as it did. -/
def fnExactLineUseUptoRow : OpenClaim := { program := "ytfbhnlpbibiecaa", sum := "67b32c3a02f0d66fd7f049f7e9b3742bb256a3c70de6122169b5375eb24b0ccb", func := "loop.example/g00985/laws.FnExactLineUse", spec := "fnExactLineUse", unfollowed := true, recurses := true, apart := false, narrowed := true }
def FnExactLineUseUptoSaid : Prop := fnExactLineUseUptoRow.holds Try.pinned (OpenSpec.upto fnExactLineUseSpec)

/-- 'laws.FnSorts', WHERE WHAT IT READS IS OF BULK AT MOST 1048576: true; the input reads as it did. -/
def fnSortsUptoRow : OpenClaim := { program := "ytfbhnlpbibiecaa", sum := "67b32c3a02f0d66fd7f049f7e9b3742bb256a3c70de6122169b5375eb24b0ccb", func := "loop.example/g00985/laws.FnSorts", spec := "fnSorts", unfollowed := true, recurses := true, apart := false, narrowed := true }
def FnSortsUptoSaid : Prop := fnSortsUptoRow.holds Try.pinned (OpenSpec.upto fnSortsSpec)

/-- 'laws.FnExactSortValues', WHERE WHAT IT READS IS OF BULK AT MOST 1048576: true; the input reads as it did. -/
def fnExactSortValuesUptoRow : OpenClaim := { program := "ytfbhnlpbibiecaa", sum := "67b32c3a02f0d66fd7f049f7e9b3742bb256a3c70de6122169b5375eb24b0ccb", func := "loop.example/g00985/laws.FnExactSortValues", spec := "fnExactSortValues", unfollowed := true, recurses := true, apart := false, narrowed := true }
def FnExactSortValuesUptoSaid : Prop := fnExactSortValuesUptoRow.holds Try.pinned (OpenSpec.upto fnExactSortValuesSpec)

/-- 'laws.FnExactSortStage', WHERE WHAT IT READS IS OF BULK AT MOST 1048576: true; the input reads as it did. -/
def fnExactSortStageUptoRow : OpenClaim := { program := "ytfbhnlpbibiecaa", sum := "67b32c3a02f0d66fd7f049f7e9b3742bb256a3c70de6122169b5375eb24b0ccb", func := "loop.example/g00985/laws.FnExactSortStage", spec := "fnExactSortStage", unfollowed := true, recurses := true, apart := false, narrowed := true }
def FnExactSortStageUptoSaid : Prop := fnExactSortStageUptoRow.holds Try.pinned (OpenSpec.upto fnExactSortStageSpec)

/-- 'laws.FnStages', WHERE WHAT IT READS IS OF BULK AT MOST 1048576: true; the input reads as it did. -/
def fnStagesUptoRow : OpenClaim := { program := "ytfbhnlpbibiecaa", sum := "67b32c3a02f0d66fd7f049f7e9b3742bb256a3c70de6122169b5375eb24b0ccb", func := "loop.example/g00985/laws.FnStages", spec := "fnStages", unfollowed := true, recurses := true, apart := false, narrowed := true }
def FnStagesUptoSaid : Prop := fnStagesUptoRow.holds Try.pinned (OpenSpec.upto fnStagesSpec)

/-- 'laws.FnExactApplyStage', WHERE WHAT IT READS IS OF BULK AT MOST 1048576: true; the input reads as it did. -/
def fnExactApplyStageUptoRow : OpenClaim := { program := "ytfbhnlpbibiecaa", sum := "67b32c3a02f0d66fd7f049f7e9b3742bb256a3c70de6122169b5375eb24b0ccb", func := "loop.example/g00985/laws.FnExactApplyStage", spec := "fnExactApplyStage", unfollowed := true, recurses := true, apart := false, narrowed := true }
def FnExactApplyStageUptoSaid : Prop := fnExactApplyStageUptoRow.holds Try.pinned (OpenSpec.upto fnExactApplyStageSpec)

end Rows
end Go.Proofs.Ytfbhnlpbibiecaa
