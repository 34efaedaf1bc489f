/-
  No cell of these rows narrows 'for every input' (looked for: loops, veiled, ifaces, maps, wideKeys, modest, calm, conditions, laid).
  DERIVED. THE GIVEN ROWS OF THIS SEAT. 9 by the template 'for every input the law returns true; each argument reads behind the call as it read before'; 0 by the template 'total and deterministic' (their statements: YtpaoajlangbceaaTotals.lean).
  GIVEN WITH THE SEED: the statements are not yours to turn. If you find one false, say at which input.
  Laid BY PROGRAM, IN A SANDBOX (cutbox-rows.mjs): the forced cells as the released guide's own fill.sh prints them over the translation f4f19ba23379dfb9… (all of the seat's roots in one cut). By AI agents, Wed Nov 11 2026. No macro, syntax, notation, axiom, sorry.
-/
import Derived.Test.YtpaoajlangbceaaChecked
import GoSem.Claim
import GoSem.ClaimJoined
import GoSem.ClaimMapViews
import Derived.JoinedTies
import Derived.KernelRfl
namespace Go.Proofs.Ytpaoajlangbceaa
/- THE CELL 'sum', in the pinned program and in every row, IS THE sha256 OF THE DUMP (.gsa) THAT YtpaoajlangbceaaProg.lean LOADS. Nothing in Lean hashes anything: it is a label: what it is worth is what the hold of that sum in a sandbox is worth. -/
noncomputable def Try.pinned : Pinned := { name := "ytpaoajlangbceaa", sum := "f4f19ba23379dfb96613831ffaef82d8d0d6598097ad448e39677c5451ba3ab5", checked := Try.checked }
namespace Rows
def none {H : Type} : Left H := { results := [], args := [] }

/-- 'laws.FnExactConflictDegree': WHATEVER THE INPUT: true; the input reads as it did. -/
def fnExactConflictDegreeSpec : ChangeSpec := { name := "fnExactConflictDegree", fn := fun _ => fun
  | [d1, d2] => { results := [.lit (.bool true)], args := [d1, d2] }
  | _ => none }
def fnExactConflictDegreeRow : OpenClaim := { program := "ytpaoajlangbceaa", sum := "f4f19ba23379dfb96613831ffaef82d8d0d6598097ad448e39677c5451ba3ab5", func := "loop.example/g00985/laws.FnExactConflictDegree", spec := "fnExactConflictDegree", unfollowed := true, recurses := true, apart := false }
def FnExactConflictDegreeSaid : Prop := fnExactConflictDegreeRow.holds Try.pinned (OpenSpec.ofChange fnExactConflictDegreeSpec)

/-- ITS FALSE NEIGHBOUR: 'it returns false'. Refute it at one input. -/
def fnExactConflictDegreeWrong : ChangeSpec := { name := "fnExactConflictDegree", fn := fun _ => fun
  | [d1, d2] => { results := [.lit (.bool false)], args := [d1, d2] }
  | _ => none }
def FnExactConflictDegreeWrongFalsely : Prop := fnExactConflictDegreeRow.holds Try.pinned (OpenSpec.ofChange fnExactConflictDegreeWrong)

/-- 'laws.FnExactColumnDegree': WHATEVER THE INPUT: true; the input reads as it did. -/
def fnExactColumnDegreeSpec : ChangeSpec := { name := "fnExactColumnDegree", fn := fun _ => fun
  | [d] => { results := [.lit (.bool true)], args := [d] }
  | _ => none }
def fnExactColumnDegreeRow : OpenClaim := { program := "ytpaoajlangbceaa", sum := "f4f19ba23379dfb96613831ffaef82d8d0d6598097ad448e39677c5451ba3ab5", func := "loop.example/g00985/laws.FnExactColumnDegree", spec := "fnExactColumnDegree", unfollowed := true, recurses := true, apart := false }
def FnExactColumnDegreeSaid : Prop := fnExactColumnDegreeRow.holds Try.pinned (OpenSpec.ofChange fnExactColumnDegreeSpec)

/-- ITS FALSE NEIGHBOUR: 'it returns false'. Refute it at one input. -/
def fnExactColumnDegreeWrong : ChangeSpec := { name := "fnExactColumnDegree", fn := fun _ => fun
  | [d] => { results := [.lit (.bool false)], args := [d] }
  | _ => none }
def FnExactColumnDegreeWrongFalsely : Prop := fnExactColumnDegreeRow.holds Try.pinned (OpenSpec.ofChange fnExactColumnDegreeWrong)

/-- 'laws.FnExactBankRounds': WHATEVER THE INPUT: true; the input reads as it did. -/
def fnExactBankRoundsSpec : ChangeSpec := { name := "fnExactBankRounds", fn := fun _ => fun
  | [d1, d2] => { results := [.lit (.bool true)], args := [d1, d2] }
  | _ => none }
def fnExactBankRoundsRow : OpenClaim := { program := "ytpaoajlangbceaa", sum := "f4f19ba23379dfb96613831ffaef82d8d0d6598097ad448e39677c5451ba3ab5", func := "loop.example/g00985/laws.FnExactBankRounds", spec := "fnExactBankRounds", unfollowed := true, recurses := true, apart := false }
def FnExactBankRoundsSaid : Prop := fnExactBankRoundsRow.holds Try.pinned (OpenSpec.ofChange fnExactBankRoundsSpec)

/-- ITS FALSE NEIGHBOUR: 'it returns false'. Refute it at one input. -/
def fnExactBankRoundsWrong : ChangeSpec := { name := "fnExactBankRounds", fn := fun _ => fun
  | [d1, d2] => { results := [.lit (.bool false)], args := [d1, d2] }
  | _ => none }
def FnExactBankRoundsWrongFalsely : Prop := fnExactBankRoundsRow.holds Try.pinned (OpenSpec.ofChange fnExactBankRoundsWrong)

/-- 'laws.FnExactTransposeTile': WHATEVER THE INPUT: true; the input reads as it did. -/
def fnExactTransposeTileSpec : ChangeSpec := { name := "fnExactTransposeTile", fn := fun _ => fun
  | [d] => { results := [.lit (.bool true)], args := [d] }
  | _ => none }
def fnExactTransposeTileRow : OpenClaim := { program := "ytpaoajlangbceaa", sum := "f4f19ba23379dfb96613831ffaef82d8d0d6598097ad448e39677c5451ba3ab5", func := "loop.example/g00985/laws.FnExactTransposeTile", spec := "fnExactTransposeTile", unfollowed := true, recurses := true, apart := false }
def FnExactTransposeTileSaid : Prop := fnExactTransposeTileRow.holds Try.pinned (OpenSpec.ofChange fnExactTransposeTileSpec)

/-- ITS FALSE NEIGHBOUR: 'it returns false'. Refute it at one input. -/
def fnExactTransposeTileWrong : ChangeSpec := { name := "fnExactTransposeTile", fn := fun _ => fun
  | [d] => { results := [.lit (.bool false)], args := [d] }
  | _ => none }
def FnExactTransposeTileWrongFalsely : Prop := fnExactTransposeTileRow.holds Try.pinned (OpenSpec.ofChange fnExactTransposeTileWrong)

/-- 'laws.FnTransposes': WHATEVER THE INPUT: true; the input reads as it did. -/
def fnTransposesSpec : ChangeSpec := { name := "fnTransposes", fn := fun _ => fun
  | [d] => { results := [.lit (.bool true)], args := [d] }
  | _ => none }
def fnTransposesRow : OpenClaim := { program := "ytpaoajlangbceaa", sum := "f4f19ba23379dfb96613831ffaef82d8d0d6598097ad448e39677c5451ba3ab5", func := "loop.example/g00985/laws.FnTransposes", spec := "fnTransposes", unfollowed := true, recurses := true, apart := false }
def FnTransposesSaid : Prop := fnTransposesRow.holds Try.pinned (OpenSpec.ofChange fnTransposesSpec)

/-- ITS FALSE NEIGHBOUR: 'it returns false'. Refute it at one input. -/
def fnTransposesWrong : ChangeSpec := { name := "fnTransposes", fn := fun _ => fun
  | [d] => { results := [.lit (.bool false)], args := [d] }
  | _ => none }
def FnTransposesWrongFalsely : Prop := fnTransposesRow.holds Try.pinned (OpenSpec.ofChange fnTransposesWrong)

/-- 'laws.FnColumns': WHATEVER THE INPUT: true; the input reads as it did. -/
def fnColumnsSpec : ChangeSpec := { name := "fnColumns", fn := fun _ => fun
  | [d] => { results := [.lit (.bool true)], args := [d] }
  | _ => none }
def fnColumnsRow : OpenClaim := { program := "ytpaoajlangbceaa", sum := "f4f19ba23379dfb96613831ffaef82d8d0d6598097ad448e39677c5451ba3ab5", func := "loop.example/g00985/laws.FnColumns", spec := "fnColumns", unfollowed := true, recurses := true, apart := false }
def FnColumnsSaid : Prop := fnColumnsRow.holds Try.pinned (OpenSpec.ofChange fnColumnsSpec)

/-- ITS FALSE NEIGHBOUR: 'it returns false'. Refute it at one input. -/
def fnColumnsWrong : ChangeSpec := { name := "fnColumns", fn := fun _ => fun
  | [d] => { results := [.lit (.bool false)], args := [d] }
  | _ => none }
def FnColumnsWrongFalsely : Prop := fnColumnsRow.holds Try.pinned (OpenSpec.ofChange fnColumnsWrong)

/-- 'laws.FnSwizzles': WHATEVER THE INPUT: true; the input reads as it did. -/
def fnSwizzlesSpec : ChangeSpec := { name := "fnSwizzles", fn := fun _ => fun
  | [d] => { results := [.lit (.bool true)], args := [d] }
  | _ => none }
def fnSwizzlesRow : OpenClaim := { program := "ytpaoajlangbceaa", sum := "f4f19ba23379dfb96613831ffaef82d8d0d6598097ad448e39677c5451ba3ab5", func := "loop.example/g00985/laws.FnSwizzles", spec := "fnSwizzles", unfollowed := true, recurses := true, apart := false }
def FnSwizzlesSaid : Prop := fnSwizzlesRow.holds Try.pinned (OpenSpec.ofChange fnSwizzlesSpec)

/-- ITS FALSE NEIGHBOUR: 'it returns false'. Refute it at one input. -/
def fnSwizzlesWrong : ChangeSpec := { name := "fnSwizzles", fn := fun _ => fun
  | [d] => { results := [.lit (.bool false)], args := [d] }
  | _ => none }
def FnSwizzlesWrongFalsely : Prop := fnSwizzlesRow.holds Try.pinned (OpenSpec.ofChange fnSwizzlesWrong)

/-- 'laws.FnBanks': WHATEVER THE INPUT: true; the input reads as it did. -/
def fnBanksSpec : ChangeSpec := { name := "fnBanks", fn := fun _ => fun
  | [d] => { results := [.lit (.bool true)], args := [d] }
  | _ => none }
def fnBanksRow : OpenClaim := { program := "ytpaoajlangbceaa", sum := "f4f19ba23379dfb96613831ffaef82d8d0d6598097ad448e39677c5451ba3ab5", func := "loop.example/g00985/laws.FnBanks", spec := "fnBanks", unfollowed := true, recurses := true, apart := false }
def FnBanksSaid : Prop := fnBanksRow.holds Try.pinned (OpenSpec.ofChange fnBanksSpec)

/-- ITS FALSE NEIGHBOUR: 'it returns false'. Refute it at one input. -/
def fnBanksWrong : ChangeSpec := { name := "fnBanks", fn := fun _ => fun
  | [d] => { results := [.lit (.bool false)], args := [d] }
  | _ => none }
def FnBanksWrongFalsely : Prop := fnBanksRow.holds Try.pinned (OpenSpec.ofChange fnBanksWrong)

/-- 'laws.FnBroadcasts': WHATEVER THE INPUT: true; the input reads as it did. -/
def fnBroadcastsSpec : ChangeSpec := { name := "fnBroadcasts", fn := fun _ => fun
  | [d] => { results := [.lit (.bool true)], args := [d] }
  | _ => none }
def fnBroadcastsRow : OpenClaim := { program := "ytpaoajlangbceaa", sum := "f4f19ba23379dfb96613831ffaef82d8d0d6598097ad448e39677c5451ba3ab5", func := "loop.example/g00985/laws.FnBroadcasts", spec := "fnBroadcasts", unfollowed := true, recurses := true, apart := false }
def FnBroadcastsSaid : Prop := fnBroadcastsRow.holds Try.pinned (OpenSpec.ofChange fnBroadcastsSpec)

/-- ITS FALSE NEIGHBOUR: 'it returns false'. Refute it at one input. -/
def fnBroadcastsWrong : ChangeSpec := { name := "fnBroadcasts", fn := fun _ => fun
  | [d] => { results := [.lit (.bool false)], args := [d] }
  | _ => none }
def FnBroadcastsWrongFalsely : Prop := fnBroadcastsRow.holds Try.pinned (OpenSpec.ofChange fnBroadcastsWrong)

/- THE SECOND FORM. 'bulk': how many values and letters a reading holds, each counted each time it is reached (what is shared counts as often as it is met; a slice's spare places count too). A statement '..UptoSaid' is the law's where the arguments, and the package variables that the reading takes, are together of bulk at most 1048576: NARROWER than '..Said'. Prove '..Said' where nothing that the law and all that it calls make is longer than what came in: it says more and counts as full. Else prove '..UptoSaid'. A law counts once. -/
mutual
def uptoBulk {H : Type} : DataW H → Nat
  | .lit (.string bytes) => bytes.length + 1
  | .lit _ => 1
  | .nil => 1
  | .ptr d => uptoBulk d + 1
  | .slice elems spare => uptoBulkAll elems + uptoBulkAll spare + 1
  | .agg parts => uptoBulkAll parts + 1
  | .iface _ d => uptoBulk d + 1
  | .map entries => uptoBulkEntries entries + 1
  | .held _ => 1
def uptoBulkAll {H : Type} : List (DataW H) → Nat
  | [] => 0
  | d :: r => uptoBulk d + uptoBulkAll r
def uptoBulkEntries {H : Type} : List (Lit × DataW H) → Nat
  | [] => 0
  | x :: r => uptoBulkEntry x + uptoBulkEntries r
def uptoBulkEntry {H : Type} : Lit × DataW H → Nat
  | (.string bytes, d) => bytes.length + uptoBulk d + 1
  | (_, d) => uptoBulk d + 1
 end
def uptoSmall : (H : Type) → List (DataW H) → Bool := fun _ ds => decide (uptoBulkAll ds ≤ 1048576)
def OpenSpec.upto (s : _root_.Go.ChangeSpec) : _root_.Go.OpenSpec := { _root_.Go.OpenSpec.ofChange s with cond := some uptoSmall }

/-- 'laws.FnExactConflictDegree', WHERE WHAT IT READS IS OF BULK AT MOST 1048576: true; the input reads as it did. -/
def fnExactConflictDegreeUptoRow : OpenClaim := { program := "ytpaoajlangbceaa", sum := "f4f19ba23379dfb96613831ffaef82d8d0d6598097ad448e39677c5451ba3ab5", func := "loop.example/g00985/laws.FnExactConflictDegree", spec := "fnExactConflictDegree", unfollowed := true, recurses := true, apart := false, narrowed := true }
def FnExactConflictDegreeUptoSaid : Prop := fnExactConflictDegreeUptoRow.holds Try.pinned (OpenSpec.upto fnExactConflictDegreeSpec)

/-- 'laws.FnExactColumnDegree', WHERE WHAT IT READS IS OF BULK AT MOST 1048576: true; the input reads as it did. -/
def fnExactColumnDegreeUptoRow : OpenClaim := { program := "ytpaoajlangbceaa", sum := "f4f19ba23379dfb96613831ffaef82d8d0d6598097ad448e39677c5451ba3ab5", func := "loop.example/g00985/laws.FnExactColumnDegree", spec := "fnExactColumnDegree", unfollowed := true, recurses := true, apart := false, narrowed := true }
def FnExactColumnDegreeUptoSaid : Prop := fnExactColumnDegreeUptoRow.holds Try.pinned (OpenSpec.upto fnExactColumnDegreeSpec)

/-- 'laws.FnExactBankRounds', WHERE WHAT IT READS IS OF BULK AT MOST 1048576: true; the input reads as it did. -/
def fnExactBankRoundsUptoRow : OpenClaim := { program := "ytpaoajlangbceaa", sum := "f4f19ba23379dfb96613831ffaef82d8d0d6598097ad448e39677c5451ba3ab5", func := "loop.example/g00985/laws.FnExactBankRounds", spec := "fnExactBankRounds", unfollowed := true, recurses := true, apart := false, narrowed := true }
def FnExactBankRoundsUptoSaid : Prop := fnExactBankRoundsUptoRow.holds Try.pinned (OpenSpec.upto fnExactBankRoundsSpec)

/-- 'laws.FnExactTransposeTile', WHERE WHAT IT READS IS OF BULK AT MOST 1048576: true; the input reads as it did. -/
def fnExactTransposeTileUptoRow : OpenClaim := { program := "ytpaoajlangbceaa", sum := "f4f19ba23379dfb96613831ffaef82d8d0d6598097ad448e39677c5451ba3ab5", func := "loop.example/g00985/laws.FnExactTransposeTile", spec := "fnExactTransposeTile", unfollowed := true, recurses := true, apart := false, narrowed := true }
def FnExactTransposeTileUptoSaid : Prop := fnExactTransposeTileUptoRow.holds Try.pinned (OpenSpec.upto fnExactTransposeTileSpec)

/-- 'laws.FnTransposes', WHERE WHAT IT READS IS OF BULK AT MOST 1048576: true; the input reads as it did. -/
def fnTransposesUptoRow : OpenClaim := { program := "ytpaoajlangbceaa", sum := "f4f19ba23379dfb96613831ffaef82d8d0d6598097ad448e39677c5451ba3ab5", func := "loop.example/g00985/laws.FnTransposes", spec := "fnTransposes", unfollowed := true, recurses := true, apart := false, narrowed := true }
def FnTransposesUptoSaid : Prop := fnTransposesUptoRow.holds Try.pinned (OpenSpec.upto fnTransposesSpec)

/-- 'laws.FnColumns', WHERE WHAT IT READS IS OF BULK AT MOST 1048576: true; the input reads as it did. -/
def fnColumnsUptoRow : OpenClaim := { program := "ytpaoajlangbceaa", sum := "f4f19ba23379dfb96613831ffaef82d8d0d6598097ad448e39677c5451ba3ab5", func := "loop.example/g00985/laws.FnColumns", spec := "fnColumns", unfollowed := true, recurses := true, apart := false, narrowed := true }
def FnColumnsUptoSaid : Prop := fnColumnsUptoRow.holds Try.pinned (OpenSpec.upto fnColumnsSpec)

/-- 'laws.FnSwizzles', WHERE WHAT IT READS IS OF BULK AT MOST 1048576: true; the input reads as it did. -/
def fnSwizzlesUptoRow : OpenClaim := { program := "ytpaoajlangbceaa", sum := "f4f19ba23379dfb96613831ffaef82d8d0d6598097ad448e39677c5451ba3ab5", func := "loop.example/g00985/laws.FnSwizzles", spec := "fnSwizzles", unfollowed := true, recurses := true, apart := false, narrowed := true }
def FnSwizzlesUptoSaid : Prop := fnSwizzlesUptoRow.holds Try.pinned (OpenSpec.upto fnSwizzlesSpec)

/-- 'laws.FnBanks', WHERE WHAT IT READS IS OF BULK AT MOST 1048576: true; the input reads as it did. -/
def fnBanksUptoRow : OpenClaim := { program := "ytpaoajlangbceaa", sum := "f4f19ba23379dfb96613831ffaef82d8d0d6598097ad448e39677c5451ba3ab5", func := "loop.example/g00985/laws.FnBanks", spec := "fnBanks", unfollowed := true, recurses := true, apart := false, narrowed := true }
def FnBanksUptoSaid : Prop := fnBanksUptoRow.holds Try.pinned (OpenSpec.upto fnBanksSpec)

/-- 'laws.FnBroadcasts', WHERE WHAT IT READS IS OF BULK AT MOST 1048576: true; the input reads as it did. -/
def fnBroadcastsUptoRow : OpenClaim := { program := "ytpaoajlangbceaa", sum := "f4f19ba23379dfb96613831ffaef82d8d0d6598097ad448e39677c5451ba3ab5", func := "loop.example/g00985/laws.FnBroadcasts", spec := "fnBroadcasts", unfollowed := true, recurses := true, apart := false, narrowed := true }
def FnBroadcastsUptoSaid : Prop := fnBroadcastsUptoRow.holds Try.pinned (OpenSpec.upto fnBroadcastsSpec)

end Rows
end Go.Proofs.Ytpaoajlangbceaa
