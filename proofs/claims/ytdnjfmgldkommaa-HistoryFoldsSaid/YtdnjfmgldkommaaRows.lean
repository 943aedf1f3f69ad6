/-
  No cell of these rows narrows 'for every input' (looked for: loops, veiled, ifaces, maps, wideKeys, modest, calm, conditions, laid).
  DERIVED. THE GIVEN ROWS OF THIS SEAT. 12 by the template 'for every input the law returns true; each argument reads behind the call as it read before'; 0 by the template 'total and deterministic' (their statements: YtdnjfmgldkommaaTotals.lean).
  GIVEN WITH THE SEED: the statements are not yours to turn. If you find one false, say at which input.
  Laid BY PROGRAM, IN A SANDBOX (cutbox-rows.mjs): the forced cells as the released guide's own fill.sh prints them over the translation 0b32bab82567b63c… (all of the seat's roots in one cut). By AI agents, Wed Nov 11 2026. No macro, syntax, notation, axiom, sorry.
-/
import Derived.Test.YtdnjfmgldkommaaChecked
import GoSem.Claim
import GoSem.ClaimJoined
import GoSem.ClaimMapViews
import Derived.JoinedTies
import Derived.KernelRfl
namespace Go.Proofs.Ytdnjfmgldkommaa
/- THE CELL 'sum', in the pinned program and in every row, IS THE sha256 OF THE DUMP (.gsa) THAT YtdnjfmgldkommaaProg.lean LOADS. Nothing in Lean hashes anything: it is a label: what it is worth is what the hold of that sum in a sandbox is worth. -/
noncomputable def Try.pinned : Pinned := { name := "ytdnjfmgldkommaa", sum := "0b32bab82567b63c881356197890ba76bbe71fd663248f869f09214fef83328c", checked := Try.checked }
namespace Rows
def none {H : Type} : Left H := { results := [], args := [] }

/-- 'tillerlaw09.HistoryExact': WHATEVER THE INPUT: true; the input reads as it did. -/
def historyExactSpec : ChangeSpec := { name := "historyExact", fn := fun _ => fun
  | [d1, d2] => { results := [.lit (.bool true)], args := [d1, d2] }
  | _ => none }
def historyExactRow : OpenClaim := { program := "ytdnjfmgldkommaa", sum := "0b32bab82567b63c881356197890ba76bbe71fd663248f869f09214fef83328c", func := "tiller/tillerlaw09.HistoryExact", spec := "historyExact", inPlace := ["internal/bytealg.IndexByteString", "internal/bytealg.IndexString"], unfollowed := true, recurses := true, named := ["internal/bytealg.MaxLen"], apart := false }
def HistoryExactSaid : Prop := historyExactRow.holds Try.pinned (OpenSpec.ofChange historyExactSpec)

/-- ITS FALSE NEIGHBOUR: 'it returns false'. Refute it at one input. -/
def historyExactWrong : ChangeSpec := { name := "historyExact", fn := fun _ => fun
  | [d1, d2] => { results := [.lit (.bool false)], args := [d1, d2] }
  | _ => none }
def HistoryExactWrongFalsely : Prop := historyExactRow.holds Try.pinned (OpenSpec.ofChange historyExactWrong)

/-- 'tillerlaw09.HistoryEnds': WHATEVER THE INPUT: true; the input reads as it did. -/
def historyEndsSpec : ChangeSpec := { name := "historyEnds", fn := fun _ => fun
  | [d1, d2, d3] => { results := [.lit (.bool true)], args := [d1, d2, d3] }
  | _ => none }
def historyEndsRow : OpenClaim := { program := "ytdnjfmgldkommaa", sum := "0b32bab82567b63c881356197890ba76bbe71fd663248f869f09214fef83328c", func := "tiller/tillerlaw09.HistoryEnds", spec := "historyEnds", inPlace := ["internal/bytealg.IndexByteString", "internal/bytealg.IndexString"], unfollowed := true, recurses := true, named := ["internal/bytealg.MaxLen"], apart := false }
def HistoryEndsSaid : Prop := historyEndsRow.holds Try.pinned (OpenSpec.ofChange historyEndsSpec)

/-- ITS FALSE NEIGHBOUR: 'it returns false'. Refute it at one input. -/
def historyEndsWrong : ChangeSpec := { name := "historyEnds", fn := fun _ => fun
  | [d1, d2, d3] => { results := [.lit (.bool false)], args := [d1, d2, d3] }
  | _ => none }
def HistoryEndsWrongFalsely : Prop := historyEndsRow.holds Try.pinned (OpenSpec.ofChange historyEndsWrong)

/-- 'tillerlaw09.HistoryTasks': WHATEVER THE INPUT: true; the input reads as it did. -/
def historyTasksSpec : ChangeSpec := { name := "historyTasks", fn := fun _ => fun
  | [d1, d2] => { results := [.lit (.bool true)], args := [d1, d2] }
  | _ => none }
def historyTasksRow : OpenClaim := { program := "ytdnjfmgldkommaa", sum := "0b32bab82567b63c881356197890ba76bbe71fd663248f869f09214fef83328c", func := "tiller/tillerlaw09.HistoryTasks", spec := "historyTasks", inPlace := ["internal/bytealg.IndexByteString", "internal/bytealg.IndexString"], unfollowed := true, recurses := true, named := ["internal/bytealg.MaxLen"], apart := false }
def HistoryTasksSaid : Prop := historyTasksRow.holds Try.pinned (OpenSpec.ofChange historyTasksSpec)

/-- ITS FALSE NEIGHBOUR: 'it returns false'. Refute it at one input. -/
def historyTasksWrong : ChangeSpec := { name := "historyTasks", fn := fun _ => fun
  | [d1, d2] => { results := [.lit (.bool false)], args := [d1, d2] }
  | _ => none }
def HistoryTasksWrongFalsely : Prop := historyTasksRow.holds Try.pinned (OpenSpec.ofChange historyTasksWrong)

/-- 'tillerlaw09.HistoryLong': WHATEVER THE INPUT: true; the input reads as it did. -/
def historyLongSpec : ChangeSpec := { name := "historyLong", fn := fun _ => fun
  | [d1, d2] => { results := [.lit (.bool true)], args := [d1, d2] }
  | _ => none }
def historyLongRow : OpenClaim := { program := "ytdnjfmgldkommaa", sum := "0b32bab82567b63c881356197890ba76bbe71fd663248f869f09214fef83328c", func := "tiller/tillerlaw09.HistoryLong", spec := "historyLong", inPlace := ["internal/bytealg.IndexByteString", "internal/bytealg.IndexString"], unfollowed := true, recurses := true, named := ["internal/bytealg.MaxLen"], apart := false }
def HistoryLongSaid : Prop := historyLongRow.holds Try.pinned (OpenSpec.ofChange historyLongSpec)

/-- ITS FALSE NEIGHBOUR: 'it returns false'. Refute it at one input. -/
def historyLongWrong : ChangeSpec := { name := "historyLong", fn := fun _ => fun
  | [d1, d2] => { results := [.lit (.bool false)], args := [d1, d2] }
  | _ => none }
def HistoryLongWrongFalsely : Prop := historyLongRow.holds Try.pinned (OpenSpec.ofChange historyLongWrong)

/-- 'tillerlaw09.HistoryTries': WHATEVER THE INPUT: true; the input reads as it did. -/
def historyTriesSpec : ChangeSpec := { name := "historyTries", fn := fun _ => fun
  | [d1, d2, d3] => { results := [.lit (.bool true)], args := [d1, d2, d3] }
  | _ => none }
def historyTriesRow : OpenClaim := { program := "ytdnjfmgldkommaa", sum := "0b32bab82567b63c881356197890ba76bbe71fd663248f869f09214fef83328c", func := "tiller/tillerlaw09.HistoryTries", spec := "historyTries", inPlace := ["internal/bytealg.IndexByteString", "internal/bytealg.IndexString"], unfollowed := true, recurses := true, named := ["internal/bytealg.MaxLen"], apart := false }
def HistoryTriesSaid : Prop := historyTriesRow.holds Try.pinned (OpenSpec.ofChange historyTriesSpec)

/-- ITS FALSE NEIGHBOUR: 'it returns false'. Refute it at one input. -/
def historyTriesWrong : ChangeSpec := { name := "historyTries", fn := fun _ => fun
  | [d1, d2, d3] => { results := [.lit (.bool false)], args := [d1, d2, d3] }
  | _ => none }
def HistoryTriesWrongFalsely : Prop := historyTriesRow.holds Try.pinned (OpenSpec.ofChange historyTriesWrong)

/-- 'tillerlaw09.HistoryCancels': WHATEVER THE INPUT: true; the input reads as it did. -/
def historyCancelsSpec : ChangeSpec := { name := "historyCancels", fn := fun _ => fun
  | [d] => { results := [.lit (.bool true)], args := [d] }
  | _ => none }
def historyCancelsRow : OpenClaim := { program := "ytdnjfmgldkommaa", sum := "0b32bab82567b63c881356197890ba76bbe71fd663248f869f09214fef83328c", func := "tiller/tillerlaw09.HistoryCancels", spec := "historyCancels", inPlace := ["internal/bytealg.IndexByteString", "internal/bytealg.IndexString"], unfollowed := true, recurses := true, named := ["internal/bytealg.MaxLen"], apart := false }
def HistoryCancelsSaid : Prop := historyCancelsRow.holds Try.pinned (OpenSpec.ofChange historyCancelsSpec)

/-- ITS FALSE NEIGHBOUR: 'it returns false'. Refute it at one input. -/
def historyCancelsWrong : ChangeSpec := { name := "historyCancels", fn := fun _ => fun
  | [d] => { results := [.lit (.bool false)], args := [d] }
  | _ => none }
def HistoryCancelsWrongFalsely : Prop := historyCancelsRow.holds Try.pinned (OpenSpec.ofChange historyCancelsWrong)

/-- 'tillerlaw09.HistorySignals': WHATEVER THE INPUT: true; the input reads as it did. -/
def historySignalsSpec : ChangeSpec := { name := "historySignals", fn := fun _ => fun
  | [d1, d2] => { results := [.lit (.bool true)], args := [d1, d2] }
  | _ => none }
def historySignalsRow : OpenClaim := { program := "ytdnjfmgldkommaa", sum := "0b32bab82567b63c881356197890ba76bbe71fd663248f869f09214fef83328c", func := "tiller/tillerlaw09.HistorySignals", spec := "historySignals", inPlace := ["internal/bytealg.IndexByteString", "internal/bytealg.IndexString"], unfollowed := true, recurses := true, named := ["internal/bytealg.MaxLen"], apart := false }
def HistorySignalsSaid : Prop := historySignalsRow.holds Try.pinned (OpenSpec.ofChange historySignalsSpec)

/-- ITS FALSE NEIGHBOUR: 'it returns false'. Refute it at one input. -/
def historySignalsWrong : ChangeSpec := { name := "historySignals", fn := fun _ => fun
  | [d1, d2] => { results := [.lit (.bool false)], args := [d1, d2] }
  | _ => none }
def HistorySignalsWrongFalsely : Prop := historySignalsRow.holds Try.pinned (OpenSpec.ofChange historySignalsWrong)

/-- 'tillerlaw09.HistoryRoots': WHATEVER THE INPUT: true; the input reads as it did. -/
def historyRootsSpec : ChangeSpec := { name := "historyRoots", fn := fun _ => fun
  | [d1, d2] => { results := [.lit (.bool true)], args := [d1, d2] }
  | _ => none }
def historyRootsRow : OpenClaim := { program := "ytdnjfmgldkommaa", sum := "0b32bab82567b63c881356197890ba76bbe71fd663248f869f09214fef83328c", func := "tiller/tillerlaw09.HistoryRoots", spec := "historyRoots", inPlace := ["internal/bytealg.IndexByteString", "internal/bytealg.IndexString"], unfollowed := true, recurses := true, named := ["internal/bytealg.MaxLen"], apart := false }
def HistoryRootsSaid : Prop := historyRootsRow.holds Try.pinned (OpenSpec.ofChange historyRootsSpec)

/-- ITS FALSE NEIGHBOUR: 'it returns false'. Refute it at one input. -/
def historyRootsWrong : ChangeSpec := { name := "historyRoots", fn := fun _ => fun
  | [d1, d2] => { results := [.lit (.bool false)], args := [d1, d2] }
  | _ => none }
def HistoryRootsWrongFalsely : Prop := historyRootsRow.holds Try.pinned (OpenSpec.ofChange historyRootsWrong)

/-- 'tillerlaw09.HistoryTwins': WHATEVER THE INPUT: true; the input reads as it did. -/
def historyTwinsSpec : ChangeSpec := { name := "historyTwins", fn := fun _ => fun
  | [d1, d2] => { results := [.lit (.bool true)], args := [d1, d2] }
  | _ => none }
def historyTwinsRow : OpenClaim := { program := "ytdnjfmgldkommaa", sum := "0b32bab82567b63c881356197890ba76bbe71fd663248f869f09214fef83328c", func := "tiller/tillerlaw09.HistoryTwins", spec := "historyTwins", inPlace := ["internal/bytealg.IndexByteString", "internal/bytealg.IndexString"], unfollowed := true, recurses := true, named := ["internal/bytealg.MaxLen"], apart := false }
def HistoryTwinsSaid : Prop := historyTwinsRow.holds Try.pinned (OpenSpec.ofChange historyTwinsSpec)

/-- ITS FALSE NEIGHBOUR: 'it returns false'. Refute it at one input. -/
def historyTwinsWrong : ChangeSpec := { name := "historyTwins", fn := fun _ => fun
  | [d1, d2] => { results := [.lit (.bool false)], args := [d1, d2] }
  | _ => none }
def HistoryTwinsWrongFalsely : Prop := historyTwinsRow.holds Try.pinned (OpenSpec.ofChange historyTwinsWrong)

/-- 'tillerlaw09.HistoryApply': WHATEVER THE INPUT: true; the input reads as it did. -/
def historyApplySpec : ChangeSpec := { name := "historyApply", fn := fun _ => fun
  | [d1, d2, d3] => { results := [.lit (.bool true)], args := [d1, d2, d3] }
  | _ => none }
def historyApplyRow : OpenClaim := { program := "ytdnjfmgldkommaa", sum := "0b32bab82567b63c881356197890ba76bbe71fd663248f869f09214fef83328c", func := "tiller/tillerlaw09.HistoryApply", spec := "historyApply", inPlace := ["internal/bytealg.IndexByteString", "internal/bytealg.IndexString"], unfollowed := true, recurses := true, named := ["internal/bytealg.MaxLen"], apart := false }
def HistoryApplySaid : Prop := historyApplyRow.holds Try.pinned (OpenSpec.ofChange historyApplySpec)

/-- ITS FALSE NEIGHBOUR: 'it returns false'. Refute it at one input. -/
def historyApplyWrong : ChangeSpec := { name := "historyApply", fn := fun _ => fun
  | [d1, d2, d3] => { results := [.lit (.bool false)], args := [d1, d2, d3] }
  | _ => none }
def HistoryApplyWrongFalsely : Prop := historyApplyRow.holds Try.pinned (OpenSpec.ofChange historyApplyWrong)

/-- 'tillerlaw09.HistoryFolds': WHATEVER THE INPUT: true; the input reads as it did. -/
def historyFoldsSpec : ChangeSpec := { name := "historyFolds", fn := fun _ => fun
  | [d1, d2, d3] => { results := [.lit (.bool true)], args := [d1, d2, d3] }
  | _ => none }
def historyFoldsRow : OpenClaim := { program := "ytdnjfmgldkommaa", sum := "0b32bab82567b63c881356197890ba76bbe71fd663248f869f09214fef83328c", func := "tiller/tillerlaw09.HistoryFolds", spec := "historyFolds", inPlace := ["internal/bytealg.IndexByteString", "internal/bytealg.IndexString"], unfollowed := true, recurses := true, named := ["internal/bytealg.MaxLen"], apart := false }
def HistoryFoldsSaid : Prop := historyFoldsRow.holds Try.pinned (OpenSpec.ofChange historyFoldsSpec)

/-- ITS FALSE NEIGHBOUR: 'it returns false'. Refute it at one input. -/
def historyFoldsWrong : ChangeSpec := { name := "historyFolds", fn := fun _ => fun
  | [d1, d2, d3] => { results := [.lit (.bool false)], args := [d1, d2, d3] }
  | _ => none }
def HistoryFoldsWrongFalsely : Prop := historyFoldsRow.holds Try.pinned (OpenSpec.ofChange historyFoldsWrong)

/-- 'tillerlaw09.HistoryMoves': WHATEVER THE INPUT: true; the input reads as it did. -/
def historyMovesSpec : ChangeSpec := { name := "historyMoves", fn := fun _ => fun
  | [d1, d2] => { results := [.lit (.bool true)], args := [d1, d2] }
  | _ => none }
def historyMovesRow : OpenClaim := { program := "ytdnjfmgldkommaa", sum := "0b32bab82567b63c881356197890ba76bbe71fd663248f869f09214fef83328c", func := "tiller/tillerlaw09.HistoryMoves", spec := "historyMoves", inPlace := ["internal/bytealg.IndexByteString", "internal/bytealg.IndexString"], unfollowed := true, recurses := true, named := ["internal/bytealg.MaxLen"], apart := false }
def HistoryMovesSaid : Prop := historyMovesRow.holds Try.pinned (OpenSpec.ofChange historyMovesSpec)

/-- ITS FALSE NEIGHBOUR: 'it returns false'. Refute it at one input. -/
def historyMovesWrong : ChangeSpec := { name := "historyMoves", fn := fun _ => fun
  | [d1, d2] => { results := [.lit (.bool false)], args := [d1, d2] }
  | _ => none }
def HistoryMovesWrongFalsely : Prop := historyMovesRow.holds Try.pinned (OpenSpec.ofChange historyMovesWrong)

/- THE SECOND FORM. 'bulk': how many values and letters a reading holds, each counted each time it is reached (what is shared counts as often as it is met; a slice's spare places count too). A statement '..UptoSaid' is the law's where the arguments, and the package variables that the reading takes, are together of bulk at most 1048576: NARROWER than '..Said'. Prove '..Said' where nothing that the law and all that it calls make is longer than what came in: it says more and counts as full. Else prove '..UptoSaid'. A law counts once. -/
mutual
def uptoBulk {H : Type} : DataW H → Nat
  | .lit (.string bytes) => bytes.length + 1
  | .lit _ => 1
  | .nil => 1
  | .ptr d => uptoBulk d + 1
  | .slice elems spare => uptoBulkAll elems + uptoBulkAll spare + 1
  | .agg parts => uptoBulkAll parts + 1
  | .iface _ d => uptoBulk d + 1
  | .map entries => uptoBulkEntries entries + 1
  | .held _ => 1
def uptoBulkAll {H : Type} : List (DataW H) → Nat
  | [] => 0
  | d :: r => uptoBulk d + uptoBulkAll r
def uptoBulkEntries {H : Type} : List (Lit × DataW H) → Nat
  | [] => 0
  | x :: r => uptoBulkEntry x + uptoBulkEntries r
def uptoBulkEntry {H : Type} : Lit × DataW H → Nat
  | (.string bytes, d) => bytes.length + uptoBulk d + 1
  | (_, d) => uptoBulk d + 1
 end
def uptoSmall : (H : Type) → List (DataW H) → Bool := fun _ ds => decide (uptoBulkAll ds ≤ 1048576)
def OpenSpec.upto (s : _root_.Go.ChangeSpec) : _root_.Go.OpenSpec := { _root_.Go.OpenSpec.ofChange s with cond := some uptoSmall }

/-- 'tillerlaw09.HistoryExact', WHERE WHAT IT READS IS OF BULK AT MOST 1048576: true; the input reads as it did. -/
def historyExactUptoRow : OpenClaim := { program := "ytdnjfmgldkommaa", sum := "0b32bab82567b63c881356197890ba76bbe71fd663248f869f09214fef83328c", func := "tiller/tillerlaw09.HistoryExact", spec := "historyExact", inPlace := ["internal/bytealg.IndexByteString", "internal/bytealg.IndexString"], unfollowed := true, recurses := true, named := ["internal/bytealg.MaxLen"], apart := false, narrowed := true }
def HistoryExactUptoSaid : Prop := historyExactUptoRow.holds Try.pinned (OpenSpec.upto historyExactSpec)

/-- 'tillerlaw09.HistoryEnds', WHERE WHAT IT READS IS OF BULK AT MOST 1048576: true; the input reads as it did. -/
def historyEndsUptoRow : OpenClaim := { program := "ytdnjfmgldkommaa", sum := "0b32bab82567b63c881356197890ba76bbe71fd663248f869f09214fef83328c", func := "tiller/tillerlaw09.HistoryEnds", spec := "historyEnds", inPlace := ["internal/bytealg.IndexByteString", "internal/bytealg.IndexString"], unfollowed := true, recurses := true, named := ["internal/bytealg.MaxLen"], apart := false, narrowed := true }
def HistoryEndsUptoSaid : Prop := historyEndsUptoRow.holds Try.pinned (OpenSpec.upto historyEndsSpec)

/-- 'tillerlaw09.HistoryTasks', WHERE WHAT IT READS IS OF BULK AT MOST 1048576: true; the input reads as it did. -/
def historyTasksUptoRow : OpenClaim := { program := "ytdnjfmgldkommaa", sum := "0b32bab82567b63c881356197890ba76bbe71fd663248f869f09214fef83328c", func := "tiller/tillerlaw09.HistoryTasks", spec := "historyTasks", inPlace := ["internal/bytealg.IndexByteString", "internal/bytealg.IndexString"], unfollowed := true, recurses := true, named := ["internal/bytealg.MaxLen"], apart := false, narrowed := true }
def HistoryTasksUptoSaid : Prop := historyTasksUptoRow.holds Try.pinned (OpenSpec.upto historyTasksSpec)

/-- 'tillerlaw09.HistoryLong', WHERE WHAT IT READS IS OF BULK AT MOST 1048576: true; the input reads as it did. -/
def historyLongUptoRow : OpenClaim := { program := "ytdnjfmgldkommaa", sum := "0b32bab82567b63c881356197890ba76bbe71fd663248f869f09214fef83328c", func := "tiller/tillerlaw09.HistoryLong", spec := "historyLong", inPlace := ["internal/bytealg.IndexByteString", "internal/bytealg.IndexString"], unfollowed := true, recurses := true, named := ["internal/bytealg.MaxLen"], apart := false, narrowed := true }
def HistoryLongUptoSaid : Prop := historyLongUptoRow.holds Try.pinned (OpenSpec.upto historyLongSpec)

/-- 'tillerlaw09.HistoryTries', WHERE WHAT IT READS IS OF BULK AT MOST 1048576: true; the input reads as it did. -/
def historyTriesUptoRow : OpenClaim := { program := "ytdnjfmgldkommaa", sum := "0b32bab82567b63c881356197890ba76bbe71fd663248f869f09214fef83328c", func := "tiller/tillerlaw09.HistoryTries", spec := "historyTries", inPlace := ["internal/bytealg.IndexByteString", "internal/bytealg.IndexString"], unfollowed := true, recurses := true, named := ["internal/bytealg.MaxLen"], apart := false, narrowed := true }
def HistoryTriesUptoSaid : Prop := historyTriesUptoRow.holds Try.pinned (OpenSpec.upto historyTriesSpec)

/-- 'tillerlaw09.HistoryCancels', WHERE WHAT IT READS IS OF BULK AT MOST 1048576: true; the input reads as it did. -/
def historyCancelsUptoRow : OpenClaim := { program := "ytdnjfmgldkommaa", sum := "0b32bab82567b63c881356197890ba76bbe71fd663248f869f09214fef83328c", func := "tiller/tillerlaw09.HistoryCancels", spec := "historyCancels", inPlace := ["internal/bytealg.IndexByteString", "internal/bytealg.IndexString"], unfollowed := true, recurses := true, named := ["internal/bytealg.MaxLen"], apart := false, narrowed := true }
def HistoryCancelsUptoSaid : Prop := historyCancelsUptoRow.holds Try.pinned (OpenSpec.upto historyCancelsSpec)

/-- 'tillerlaw09.HistorySignals', WHERE WHAT IT READS IS OF BULK AT MOST 1048576: true; the input reads as it did. -/
def historySignalsUptoRow : OpenClaim := { program := "ytdnjfmgldkommaa", sum := "0b32bab82567b63c881356197890ba76bbe71fd663248f869f09214fef83328c", func := "tiller/tillerlaw09.HistorySignals", spec := "historySignals", inPlace := ["internal/bytealg.IndexByteString", "internal/bytealg.IndexString"], unfollowed := true, recurses := true, named := ["internal/bytealg.MaxLen"], apart := false, narrowed := true }
def HistorySignalsUptoSaid : Prop := historySignalsUptoRow.holds Try.pinned (OpenSpec.upto historySignalsSpec)

/-- 'tillerlaw09.HistoryRoots', WHERE WHAT IT READS IS OF BULK AT MOST 1048576: true; the input reads as it did. -/
def historyRootsUptoRow : OpenClaim := { program := "ytdnjfmgldkommaa", sum := "0b32bab82567b63c881356197890ba76bbe71fd663248f869f09214fef83328c", func := "tiller/tillerlaw09.HistoryRoots", spec := "historyRoots", inPlace := ["internal/bytealg.IndexByteString", "internal/bytealg.IndexString"], unfollowed := true, recurses := true, named := ["internal/bytealg.MaxLen"], apart := false, narrowed := true }
def HistoryRootsUptoSaid : Prop := historyRootsUptoRow.holds Try.pinned (OpenSpec.upto historyRootsSpec)

/-- 'tillerlaw09.HistoryTwins', WHERE WHAT IT READS IS OF BULK AT MOST 1048576: true; the input reads as it did. -/
def historyTwinsUptoRow : OpenClaim := { program := "ytdnjfmgldkommaa", sum := "0b32bab82567b63c881356197890ba76bbe71fd663248f869f09214fef83328c", func := "tiller/tillerlaw09.HistoryTwins", spec := "historyTwins", inPlace := ["internal/bytealg.IndexByteString", "internal/bytealg.IndexString"], unfollowed := true, recurses := true, named := ["internal/bytealg.MaxLen"], apart := false, narrowed := true }
def HistoryTwinsUptoSaid : Prop := historyTwinsUptoRow.holds Try.pinned (OpenSpec.upto historyTwinsSpec)

/-- 'tillerlaw09.HistoryApply', WHERE WHAT IT READS IS OF BULK AT MOST 1048576: true; the input reads as it did. -/
def historyApplyUptoRow : OpenClaim := { program := "ytdnjfmgldkommaa", sum := "0b32bab82567b63c881356197890ba76bbe71fd663248f869f09214fef83328c", func := "tiller/tillerlaw09.HistoryApply", spec := "historyApply", inPlace := ["internal/bytealg.IndexByteString", "internal/bytealg.IndexString"], unfollowed := true, recurses := true, named := ["internal/bytealg.MaxLen"], apart := false, narrowed := true }
def HistoryApplyUptoSaid : Prop := historyApplyUptoRow.holds Try.pinned (OpenSpec.upto historyApplySpec)

/-- 'tillerlaw09.HistoryFolds', WHERE WHAT IT READS IS OF BULK AT MOST 1048576: true; the input reads as it did. -/
def historyFoldsUptoRow : OpenClaim := { program := "ytdnjfmgldkommaa", sum := "0b32bab82567b63c881356197890ba76bbe71fd663248f869f09214fef83328c", func := "tiller/tillerlaw09.HistoryFolds", spec := "historyFolds", inPlace := ["internal/bytealg.IndexByteString", "internal/bytealg.IndexString"], unfollowed := true, recurses := true, named := ["internal/bytealg.MaxLen"], apart := false, narrowed := true }
def HistoryFoldsUptoSaid : Prop := historyFoldsUptoRow.holds Try.pinned (OpenSpec.upto historyFoldsSpec)

/-- 'tillerlaw09.HistoryMoves', WHERE WHAT IT READS IS OF BULK AT MOST 1048576: true; the input reads as it did. -/
def historyMovesUptoRow : OpenClaim := { program := "ytdnjfmgldkommaa", sum := "0b32bab82567b63c881356197890ba76bbe71fd663248f869f09214fef83328c", func := "tiller/tillerlaw09.HistoryMoves", spec := "historyMoves", inPlace := ["internal/bytealg.IndexByteString", "internal/bytealg.IndexString"], unfollowed := true, recurses := true, named := ["internal/bytealg.MaxLen"], apart := false, narrowed := true }
def HistoryMovesUptoSaid : Prop := historyMovesUptoRow.holds Try.pinned (OpenSpec.upto historyMovesSpec)

end Rows
end Go.Proofs.Ytdnjfmgldkommaa
