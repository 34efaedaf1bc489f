/-
  No cell of these rows narrows 'for every input' (looked for: loops, veiled, ifaces, maps, wideKeys, modest, calm, conditions, laid).
  DERIVED. THE GIVEN ROWS OF THIS SEAT. 8 by the template 'for every input the law returns true; each argument reads behind the call as it read before'; 0 by the template 'total and deterministic' (their statements: YtfeadincafegcaaTotals.lean).
  GIVEN WITH THE SEED: the statements are not yours to turn. If you find one false, say at which input.
  Laid BY PROGRAM, IN A SANDBOX (cutbox-rows.mjs): the forced cells as the released guide's own fill.sh prints them over the translation 40adc9210fcad82b… (all of the seat's roots in one cut). By AI agents, Wed Nov 11 2026. No macro, syntax, notation, axiom, sorry.
-/
import Derived.Test.YtfeadincafegcaaChecked
import GoSem.Claim
import GoSem.ClaimJoined
import GoSem.ClaimMapViews
import Derived.JoinedTies
import Derived.KernelRfl
namespace Go.Proofs.Ytfeadincafegcaa
/- THE CELL 'sum', in the pinned program and in every row, IS THE sha256 OF THE DUMP (.gsa) THAT YtfeadincafegcaaProg.lean LOADS. Nothing in Lean hashes anything: it is a label: what it is worth is what the hold of that sum in a sandbox is worth. -/
noncomputable def Try.pinned : Pinned := { name := "ytfeadincafegcaa", sum := "40adc9210fcad82b0b2a5f74f2d527844f4d7e9d5016825fa12705e41fb37e46", checked := Try.checked }
namespace Rows
def none {H : Type} : Left H := { results := [], args := [] }

/-- 'laws.FnLines': WHATEVER THE INPUT: true; the input reads as it did. -/
def fnLinesSpec : ChangeSpec := { name := "fnLines", fn := fun _ => fun
  | [d] => { results := [.lit (.bool true)], args := [d] }
  | _ => none }
def fnLinesRow : OpenClaim := { program := "ytfeadincafegcaa", sum := "40adc9210fcad82b0b2a5f74f2d527844f4d7e9d5016825fa12705e41fb37e46", func := "loop.example/g00985/laws.FnLines", spec := "fnLines", unfollowed := true, recurses := true, apart := false }
def FnLinesSaid : Prop := fnLinesRow.holds Try.pinned (OpenSpec.ofChange fnLinesSpec)

/-- ITS FALSE NEIGHBOUR: 'it returns false'. Refute it at one input. -/
def fnLinesWrong : ChangeSpec := { name := "fnLines", fn := fun _ => fun
  | [d] => { results := [.lit (.bool false)], args := [d] }
  | _ => none }
def FnLinesWrongFalsely : Prop := fnLinesRow.holds Try.pinned (OpenSpec.ofChange fnLinesWrong)

/-- 'laws.FnStrides': WHATEVER THE INPUT: true; the input reads as it did. -/
def fnStridesSpec : ChangeSpec := { name := "fnStrides", fn := fun _ => fun
  | [d] => { results := [.lit (.bool true)], args := [d] }
  | _ => none }
def fnStridesRow : OpenClaim := { program := "ytfeadincafegcaa", sum := "40adc9210fcad82b0b2a5f74f2d527844f4d7e9d5016825fa12705e41fb37e46", func := "loop.example/g00985/laws.FnStrides", spec := "fnStrides", unfollowed := true, recurses := true, apart := false }
def FnStridesSaid : Prop := fnStridesRow.holds Try.pinned (OpenSpec.ofChange fnStridesSpec)

/-- ITS FALSE NEIGHBOUR: 'it returns false'. Refute it at one input. -/
def fnStridesWrong : ChangeSpec := { name := "fnStrides", fn := fun _ => fun
  | [d] => { results := [.lit (.bool false)], args := [d] }
  | _ => none }
def FnStridesWrongFalsely : Prop := fnStridesRow.holds Try.pinned (OpenSpec.ofChange fnStridesWrong)

/-- 'laws.FnExactLineUse': WHATEVER THE INPUT: true; the input reads as it did. -/
def fnExactLineUseSpec : ChangeSpec := { name := "fnExactLineUse", fn := fun _ => fun
  | [d1, d2] => { results := [.lit (.bool true)], args := [d1, d2] }
  | _ => none }
def fnExactLineUseRow : OpenClaim := { program := "ytfeadincafegcaa", sum := "40adc9210fcad82b0b2a5f74f2d527844f4d7e9d5016825fa12705e41fb37e46", func := "loop.example/g00985/laws.FnExactLineUse", spec := "fnExactLineUse", unfollowed := true, recurses := true, apart := false }
def FnExactLineUseSaid : Prop := fnExactLineUseRow.holds Try.pinned (OpenSpec.ofChange fnExactLineUseSpec)

/-- ITS FALSE NEIGHBOUR: 'it returns false'. Refute it at one input. -/
def fnExactLineUseWrong : ChangeSpec := { name := "fnExactLineUse", fn := fun _ => fun
  | [d1, d2] => { results := [.lit (.bool false)], args := [d1, d2] }
  | _ => none }
def FnExactLineUseWrongFalsely : Prop := fnExactLineUseRow.holds Try.pinned (OpenSpec.ofChange fnExactLineUseWrong)

/-- 'laws.FnSorts': WHATEVER THE INPUT: true; the input reads as it did. -/
def fnSortsSpec : ChangeSpec := { name := "fnSorts", fn := fun _ => fun
  | [d] => { results := [.lit (.bool true)], args := [d] }
  | _ => none }
def fnSortsRow : OpenClaim := { program := "ytfeadincafegcaa", sum := "40adc9210fcad82b0b2a5f74f2d527844f4d7e9d5016825fa12705e41fb37e46", func := "loop.example/g00985/laws.FnSorts", spec := "fnSorts", unfollowed := true, recurses := true, apart := false }
def FnSortsSaid : Prop := fnSortsRow.holds Try.pinned (OpenSpec.ofChange fnSortsSpec)

/-- ITS FALSE NEIGHBOUR: 'it returns false'. Refute it at one input. -/
def fnSortsWrong : ChangeSpec := { name := "fnSorts", fn := fun _ => fun
  | [d] => { results := [.lit (.bool false)], args := [d] }
  | _ => none }
def FnSortsWrongFalsely : Prop := fnSortsRow.holds Try.pinned (OpenSpec.ofChange fnSortsWrong)

/-- 'laws.FnExactSortValues': WHATEVER THE INPUT: true; the input reads as it did. -/
def fnExactSortValuesSpec : ChangeSpec := { name := "fnExactSortValues", fn := fun _ => fun
  | [d] => { results := [.lit (.bool true)], args := [d] }
  | _ => none }
def fnExactSortValuesRow : OpenClaim := { program := "ytfeadincafegcaa", sum := "40adc9210fcad82b0b2a5f74f2d527844f4d7e9d5016825fa12705e41fb37e46", func := "loop.example/g00985/laws.FnExactSortValues", spec := "fnExactSortValues", unfollowed := true, recurses := true, apart := false }
def FnExactSortValuesSaid : Prop := fnExactSortValuesRow.holds Try.pinned (OpenSpec.ofChange fnExactSortValuesSpec)

/-- ITS FALSE NEIGHBOUR: 'it returns false'. Refute it at one input. -/
def fnExactSortValuesWrong : ChangeSpec := { name := "fnExactSortValues", fn := fun _ => fun
  | [d] => { results := [.lit (.bool false)], args := [d] }
  | _ => none }
def FnExactSortValuesWrongFalsely : Prop := fnExactSortValuesRow.holds Try.pinned (OpenSpec.ofChange fnExactSortValuesWrong)

/-- 'laws.FnExactSortStage': WHATEVER THE INPUT: true; the input reads as it did. -/
def fnExactSortStageSpec : ChangeSpec := { name := "fnExactSortStage", fn := fun _ => fun
  | [d] => { results := [.lit (.bool true)], args := [d] }
  | _ => none }
def fnExactSortStageRow : OpenClaim := { program := "ytfeadincafegcaa", sum := "40adc9210fcad82b0b2a5f74f2d527844f4d7e9d5016825fa12705e41fb37e46", func := "loop.example/g00985/laws.FnExactSortStage", spec := "fnExactSortStage", unfollowed := true, recurses := true, apart := false }
def FnExactSortStageSaid : Prop := fnExactSortStageRow.holds Try.pinned (OpenSpec.ofChange fnExactSortStageSpec)

/-- ITS FALSE NEIGHBOUR: 'it returns false'. Refute it at one input. -/
def fnExactSortStageWrong : ChangeSpec := { name := "fnExactSortStage", fn := fun _ => fun
  | [d] => { results := [.lit (.bool false)], args := [d] }
  | _ => none }
def FnExactSortStageWrongFalsely : Prop := fnExactSortStageRow.holds Try.pinned (OpenSpec.ofChange fnExactSortStageWrong)

/-- 'laws.FnStages': WHATEVER THE INPUT: true; the input reads as it did. -/
def fnStagesSpec : ChangeSpec := { name := "fnStages", fn := fun _ => fun
  | [d] => { results := [.lit (.bool true)], args := [d] }
  | _ => none }
def fnStagesRow : OpenClaim := { program := "ytfeadincafegcaa", sum := "40adc9210fcad82b0b2a5f74f2d527844f4d7e9d5016825fa12705e41fb37e46", func := "loop.example/g00985/laws.FnStages", spec := "fnStages", unfollowed := true, recurses := true, apart := false }
def FnStagesSaid : Prop := fnStagesRow.holds Try.pinned (OpenSpec.ofChange fnStagesSpec)

/-- ITS FALSE NEIGHBOUR: 'it returns false'. Refute it at one input. -/
def fnStagesWrong : ChangeSpec := { name := "fnStages", fn := fun _ => fun
  | [d] => { results := [.lit (.bool false)], args := [d] }
  | _ => none }
def FnStagesWrongFalsely : Prop := fnStagesRow.holds Try.pinned (OpenSpec.ofChange fnStagesWrong)

/-- 'laws.FnExactApplyStage': WHATEVER THE INPUT: true; the input reads as it did. -/
def fnExactApplyStageSpec : ChangeSpec := { name := "fnExactApplyStage", fn := fun _ => fun
  | [d1, d2] => { results := [.lit (.bool true)], args := [d1, d2] }
  | _ => none }
def fnExactApplyStageRow : OpenClaim := { program := "ytfeadincafegcaa", sum := "40adc9210fcad82b0b2a5f74f2d527844f4d7e9d5016825fa12705e41fb37e46", func := "loop.example/g00985/laws.FnExactApplyStage", spec := "fnExactApplyStage", unfollowed := true, recurses := true, apart := false }
def FnExactApplyStageSaid : Prop := fnExactApplyStageRow.holds Try.pinned (OpenSpec.ofChange fnExactApplyStageSpec)

/-- ITS FALSE NEIGHBOUR: 'it returns false'. Refute it at one input. -/
def fnExactApplyStageWrong : ChangeSpec := { name := "fnExactApplyStage", fn := fun _ => fun
  | [d1, d2] => { results := [.lit (.bool false)], args := [d1, d2] }
  | _ => none }
def FnExactApplyStageWrongFalsely : Prop := fnExactApplyStageRow.holds Try.pinned (OpenSpec.ofChange fnExactApplyStageWrong)

/- THE SECOND FORM. 'bulk': how many values and letters a reading holds, each counted each time it is reached (what is shared counts as often as it is met; a slice's spare places count too). A statement '..UptoSaid' is the law's where the arguments, and the package variables that the reading takes, are together of bulk at most 1048576: NARROWER than '..Said'. Prove '..Said' where nothing that the law and all that it calls make is longer than what came in: it says more and counts as full. Else prove '..UptoSaid'. A law counts once. -/
mutual
def uptoBulk {H : Type} : DataW H → Nat
  | .lit (.string bytes) => bytes.length + 1
  | .lit _ => 1
  | .nil => 1
  | .ptr d => uptoBulk d + 1
  | .slice elems spare => uptoBulkAll elems + uptoBulkAll spare + 1
  | .agg parts => uptoBulkAll parts + 1
  | .iface _ d => uptoBulk d + 1
  | .map entries => uptoBulkEntries entries + 1
  | .held _ => 1
def uptoBulkAll {H : Type} : List (DataW H) → Nat
  | [] => 0
  | d :: r => uptoBulk d + uptoBulkAll r
def uptoBulkEntries {H : Type} : List (Lit × DataW H) → Nat
  | [] => 0
  | x :: r => uptoBulkEntry x + uptoBulkEntries r
def uptoBulkEntry {H : Type} : Lit × DataW H → Nat
  | (.string bytes, d) => bytes.length + uptoBulk d + 1
  | (_, d) => uptoBulk d + 1
 end
def uptoSmall : (H : Type) → List (DataW H) → Bool := fun _ ds => decide (uptoBulkAll ds ≤ 1048576)
def OpenSpec.upto (s : _root_.Go.ChangeSpec) : _root_.Go.OpenSpec := { _root_.Go.OpenSpec.ofChange s with cond := some uptoSmall }

/-- 'laws.FnLines', WHERE WHAT IT READS IS OF BULK AT MOST 1048576: true; the input reads as it did. -/
def fnLinesUptoRow : OpenClaim := { program := "ytfeadincafegcaa", sum := "40adc9210fcad82b0b2a5f74f2d527844f4d7e9d5016825fa12705e41fb37e46", func := "loop.example/g00985/laws.FnLines", spec := "fnLines", unfollowed := true, recurses := true, apart := false, narrowed := true }
def FnLinesUptoSaid : Prop := fnLinesUptoRow.holds Try.pinned (OpenSpec.upto fnLinesSpec)

/-- 'laws.FnStrides', WHERE WHAT IT READS IS OF BULK AT MOST 1048576: true; the input reads as it did. -/
def fnStridesUptoRow : OpenClaim := { program := "ytfeadincafegcaa", sum := "40adc9210fcad82b0b2a5f74f2d527844f4d7e9d5016825fa12705e41fb37e46", func := "loop.example/g00985/laws.FnStrides", spec := "fnStrides", unfollowed := true, recurses := true, apart := false, narrowed := true }
def FnStridesUptoSaid : Prop := fnStridesUptoRow.holds Try.pinned (OpenSpec.upto fnStridesSpec)

/-- 'laws.FnExactLineUse', WHERE WHAT IT READS IS OF BULK AT MOST 1048576: true; the input reads as it did. -/
def fnExactLineUseUptoRow : OpenClaim := { program := "ytfeadincafegcaa", sum := "40adc9210fcad82b0b2a5f74f2d527844f4d7e9d5016825fa12705e41fb37e46", func := "loop.example/g00985/laws.FnExactLineUse", spec := "fnExactLineUse", unfollowed := true, recurses := true, apart := false, narrowed := true }
def FnExactLineUseUptoSaid : Prop := fnExactLineUseUptoRow.holds Try.pinned (OpenSpec.upto fnExactLineUseSpec)

/-- 'laws.FnSorts', WHERE WHAT IT READS IS OF BULK AT MOST 1048576: true; the input reads as it did. -/
def fnSortsUptoRow : OpenClaim := { program := "ytfeadincafegcaa", sum := "40adc9210fcad82b0b2a5f74f2d527844f4d7e9d5016825fa12705e41fb37e46", func := "loop.example/g00985/laws.FnSorts", spec := "fnSorts", unfollowed := true, recurses := true, apart := false, narrowed := true }
def FnSortsUptoSaid : Prop := fnSortsUptoRow.holds Try.pinned (OpenSpec.upto fnSortsSpec)

/-- 'laws.FnExactSortValues', WHERE WHAT IT READS IS OF BULK AT MOST 1048576: true; the input reads as it did. -/
def fnExactSortValuesUptoRow : OpenClaim := { program := "ytfeadincafegcaa", sum := "40adc9210fcad82b0b2a5f74f2d527844f4d7e9d5016825fa12705e41fb37e46", func := "loop.example/g00985/laws.FnExactSortValues", spec := "fnExactSortValues", unfollowed := true, recurses := true, apart := false, narrowed := true }
def FnExactSortValuesUptoSaid : Prop := fnExactSortValuesUptoRow.holds Try.pinned (OpenSpec.upto fnExactSortValuesSpec)

/-- 'laws.FnExactSortStage', WHERE WHAT IT READS IS OF BULK AT MOST 1048576: true; the input reads as it did. -/
def fnExactSortStageUptoRow : OpenClaim := { program := "ytfeadincafegcaa", sum := "40adc9210fcad82b0b2a5f74f2d527844f4d7e9d5016825fa12705e41fb37e46", func := "loop.example/g00985/laws.FnExactSortStage", spec := "fnExactSortStage", unfollowed := true, recurses := true, apart := false, narrowed := true }
def FnExactSortStageUptoSaid : Prop := fnExactSortStageUptoRow.holds Try.pinned (OpenSpec.upto fnExactSortStageSpec)

/-- 'laws.FnStages', WHERE WHAT IT READS IS OF BULK AT MOST 1048576: true; the input reads as it did. -/
def fnStagesUptoRow : OpenClaim := { program := "ytfeadincafegcaa", sum := "40adc9210fcad82b0b2a5f74f2d527844f4d7e9d5016825fa12705e41fb37e46", func := "loop.example/g00985/laws.FnStages", spec := "fnStages", unfollowed := true, recurses := true, apart := false, narrowed := true }
def FnStagesUptoSaid : Prop := fnStagesUptoRow.holds Try.pinned (OpenSpec.upto fnStagesSpec)

/-- 'laws.FnExactApplyStage', WHERE WHAT IT READS IS OF BULK AT MOST 1048576: true; the input reads as it did. -/
def fnExactApplyStageUptoRow : OpenClaim := { program := "ytfeadincafegcaa", sum := "40adc9210fcad82b0b2a5f74f2d527844f4d7e9d5016825fa12705e41fb37e46", func := "loop.example/g00985/laws.FnExactApplyStage", spec := "fnExactApplyStage", unfollowed := true, recurses := true, apart := false, narrowed := true }
def FnExactApplyStageUptoSaid : Prop := fnExactApplyStageUptoRow.holds Try.pinned (OpenSpec.upto fnExactApplyStageSpec)

end Rows
end Go.Proofs.Ytfeadincafegcaa
