/-
  No cell of these rows narrows 'for every input' (looked for: loops, veiled, ifaces, maps, wideKeys, modest, calm, conditions, laid).
  DERIVED. THE GIVEN ROWS OF THIS SEAT. 9 by the template 'for every input the law returns true; each argument reads behind the call as it read before'; 0 by the template 'total and deterministic' (their statements: YtbhkpefjnomncaaTotals.lean).
  GIVEN WITH THE SEED: the statements are not yours to turn. If you find one false, say at which input.
  Laid BY PROGRAM, IN A SANDBOX (cutbox-rows.mjs): the forced cells as the released guide's own fill.sh prints them over the translation a664cf4615a4040b… (all of the seat's roots in one cut). By AI agents, Wed Nov 11 2026. No macro, syntax, notation, axiom, sorry.
-/
import Derived.Test.YtbhkpefjnomncaaChecked
import GoSem.Claim
import GoSem.ClaimJoined
import GoSem.ClaimMapViews
import Derived.JoinedTies
import Derived.KernelRfl
namespace Go.Proofs.Ytbhkpefjnomncaa
/- THE CELL 'sum', in the pinned program and in every row, IS THE sha256 OF THE DUMP (.gsa) THAT YtbhkpefjnomncaaProg.lean LOADS. Nothing in Lean hashes anything: it is a label: what it is worth is what the hold of that sum in a sandbox is worth. -/
noncomputable def Try.pinned : Pinned := { name := "ytbhkpefjnomncaa", sum := "a664cf4615a4040bc8464ca6cf0f845c12af64a4575bd96c31f3458fd1a1c240", checked := Try.checked }
namespace Rows
def none {H : Type} : Left H := { results := [], args := [] }

/-- 'millracelaw12.BufmodeOwn': WHATEVER THE INPUT: true; the input reads as it did. -/
def bufmodeOwnSpec : ChangeSpec := { name := "bufmodeOwn", fn := fun _ => fun
  | [d1, d2, d3, d4] => { results := [.lit (.bool true)], args := [d1, d2, d3, d4] }
  | _ => none }
def bufmodeOwnRow : OpenClaim := { program := "ytbhkpefjnomncaa", sum := "a664cf4615a4040bc8464ca6cf0f845c12af64a4575bd96c31f3458fd1a1c240", func := "millrace/millracelaw12.BufmodeOwn", spec := "bufmodeOwn", unfollowed := true, recurses := true, apart := false }
def BufmodeOwnSaid : Prop := bufmodeOwnRow.holds Try.pinned (OpenSpec.ofChange bufmodeOwnSpec)

/-- ITS FALSE NEIGHBOUR: 'it returns false'. Refute it at one input. -/
def bufmodeOwnWrong : ChangeSpec := { name := "bufmodeOwn", fn := fun _ => fun
  | [d1, d2, d3, d4] => { results := [.lit (.bool false)], args := [d1, d2, d3, d4] }
  | _ => none }
def BufmodeOwnWrongFalsely : Prop := bufmodeOwnRow.holds Try.pinned (OpenSpec.ofChange bufmodeOwnWrong)

/-- 'millracelaw12.BufmodeTaken': WHATEVER THE INPUT: true; the input reads as it did. -/
def bufmodeTakenSpec : ChangeSpec := { name := "bufmodeTaken", fn := fun _ => fun
  | [d1, d2, d3, d4] => { results := [.lit (.bool true)], args := [d1, d2, d3, d4] }
  | _ => none }
def bufmodeTakenRow : OpenClaim := { program := "ytbhkpefjnomncaa", sum := "a664cf4615a4040bc8464ca6cf0f845c12af64a4575bd96c31f3458fd1a1c240", func := "millrace/millracelaw12.BufmodeTaken", spec := "bufmodeTaken", inPlace := ["internal/bytealg.IndexByteString"], unfollowed := true, recurses := true, apart := false }
def BufmodeTakenSaid : Prop := bufmodeTakenRow.holds Try.pinned (OpenSpec.ofChange bufmodeTakenSpec)

/-- ITS FALSE NEIGHBOUR: 'it returns false'. Refute it at one input. -/
def bufmodeTakenWrong : ChangeSpec := { name := "bufmodeTaken", fn := fun _ => fun
  | [d1, d2, d3, d4] => { results := [.lit (.bool false)], args := [d1, d2, d3, d4] }
  | _ => none }
def BufmodeTakenWrongFalsely : Prop := bufmodeTakenRow.holds Try.pinned (OpenSpec.ofChange bufmodeTakenWrong)

/-- 'millracelaw11.StreamFew': WHATEVER THE INPUT: true; the input reads as it did. -/
def streamFewSpec : ChangeSpec := { name := "streamFew", fn := fun _ => fun
  | [d1, d2] => { results := [.lit (.bool true)], args := [d1, d2] }
  | _ => none }
def streamFewRow : OpenClaim := { program := "ytbhkpefjnomncaa", sum := "a664cf4615a4040bc8464ca6cf0f845c12af64a4575bd96c31f3458fd1a1c240", func := "millrace/millracelaw11.StreamFew", spec := "streamFew", inPlace := ["internal/bytealg.IndexByteString"], unfollowed := true, recurses := true, apart := false }
def StreamFewSaid : Prop := streamFewRow.holds Try.pinned (OpenSpec.ofChange streamFewSpec)

/-- ITS FALSE NEIGHBOUR: 'it returns false'. Refute it at one input. -/
def streamFewWrong : ChangeSpec := { name := "streamFew", fn := fun _ => fun
  | [d1, d2] => { results := [.lit (.bool false)], args := [d1, d2] }
  | _ => none }
def StreamFewWrongFalsely : Prop := streamFewRow.holds Try.pinned (OpenSpec.ofChange streamFewWrong)

/-- 'millracelaw12.BufmodeTrue': WHATEVER THE INPUT: true; the input reads as it did. -/
def bufmodeTrueSpec : ChangeSpec := { name := "bufmodeTrue", fn := fun _ => fun
  | [d1, d2, d3, d4] => { results := [.lit (.bool true)], args := [d1, d2, d3, d4] }
  | _ => none }
def bufmodeTrueRow : OpenClaim := { program := "ytbhkpefjnomncaa", sum := "a664cf4615a4040bc8464ca6cf0f845c12af64a4575bd96c31f3458fd1a1c240", func := "millrace/millracelaw12.BufmodeTrue", spec := "bufmodeTrue", inPlace := ["internal/bytealg.IndexByteString"], unfollowed := true, recurses := true, apart := false }
def BufmodeTrueSaid : Prop := bufmodeTrueRow.holds Try.pinned (OpenSpec.ofChange bufmodeTrueSpec)

/-- ITS FALSE NEIGHBOUR: 'it returns false'. Refute it at one input. -/
def bufmodeTrueWrong : ChangeSpec := { name := "bufmodeTrue", fn := fun _ => fun
  | [d1, d2, d3, d4] => { results := [.lit (.bool false)], args := [d1, d2, d3, d4] }
  | _ => none }
def BufmodeTrueWrongFalsely : Prop := bufmodeTrueRow.holds Try.pinned (OpenSpec.ofChange bufmodeTrueWrong)

/-- 'millracelaw15.LinesBytes': WHATEVER THE INPUT: true; the input reads as it did. -/
def linesBytesSpec : ChangeSpec := { name := "linesBytes", fn := fun _ => fun
  | [d1, d2, d3] => { results := [.lit (.bool true)], args := [d1, d2, d3] }
  | _ => none }
def linesBytesRow : OpenClaim := { program := "ytbhkpefjnomncaa", sum := "a664cf4615a4040bc8464ca6cf0f845c12af64a4575bd96c31f3458fd1a1c240", func := "millrace/millracelaw15.LinesBytes", spec := "linesBytes", inPlace := ["internal/bytealg.IndexByteString"], unfollowed := true, recurses := true, apart := false }
def LinesBytesSaid : Prop := linesBytesRow.holds Try.pinned (OpenSpec.ofChange linesBytesSpec)

/-- ITS FALSE NEIGHBOUR: 'it returns false'. Refute it at one input. -/
def linesBytesWrong : ChangeSpec := { name := "linesBytes", fn := fun _ => fun
  | [d1, d2, d3] => { results := [.lit (.bool false)], args := [d1, d2, d3] }
  | _ => none }
def LinesBytesWrongFalsely : Prop := linesBytesRow.holds Try.pinned (OpenSpec.ofChange linesBytesWrong)

/-- 'millracelaw14.PositionTells': WHATEVER THE INPUT: true; the input reads as it did. -/
def positionTellsSpec : ChangeSpec := { name := "positionTells", fn := fun _ => fun
  | [d1, d2, d3, d4, d5, d6] => { results := [.lit (.bool true)], args := [d1, d2, d3, d4, d5, d6] }
  | _ => none }
def positionTellsRow : OpenClaim := { program := "ytbhkpefjnomncaa", sum := "a664cf4615a4040bc8464ca6cf0f845c12af64a4575bd96c31f3458fd1a1c240", func := "millrace/millracelaw14.PositionTells", spec := "positionTells", inPlace := ["internal/bytealg.IndexByteString"], unfollowed := true, recurses := true, apart := false }
def PositionTellsSaid : Prop := positionTellsRow.holds Try.pinned (OpenSpec.ofChange positionTellsSpec)

/-- ITS FALSE NEIGHBOUR: 'it returns false'. Refute it at one input. -/
def positionTellsWrong : ChangeSpec := { name := "positionTells", fn := fun _ => fun
  | [d1, d2, d3, d4, d5, d6] => { results := [.lit (.bool false)], args := [d1, d2, d3, d4, d5, d6] }
  | _ => none }
def PositionTellsWrongFalsely : Prop := positionTellsRow.holds Try.pinned (OpenSpec.ofChange positionTellsWrong)

/-- 'millracelaw15.LinesBack': WHATEVER THE INPUT: true; the input reads as it did. -/
def linesBackSpec : ChangeSpec := { name := "linesBack", fn := fun _ => fun
  | [d1, d2, d3, d4] => { results := [.lit (.bool true)], args := [d1, d2, d3, d4] }
  | _ => none }
def linesBackRow : OpenClaim := { program := "ytbhkpefjnomncaa", sum := "a664cf4615a4040bc8464ca6cf0f845c12af64a4575bd96c31f3458fd1a1c240", func := "millrace/millracelaw15.LinesBack", spec := "linesBack", inPlace := ["internal/bytealg.IndexByteString"], unfollowed := true, recurses := true, apart := false }
def LinesBackSaid : Prop := linesBackRow.holds Try.pinned (OpenSpec.ofChange linesBackSpec)

/-- ITS FALSE NEIGHBOUR: 'it returns false'. Refute it at one input. -/
def linesBackWrong : ChangeSpec := { name := "linesBack", fn := fun _ => fun
  | [d1, d2, d3, d4] => { results := [.lit (.bool false)], args := [d1, d2, d3, d4] }
  | _ => none }
def LinesBackWrongFalsely : Prop := linesBackRow.holds Try.pinned (OpenSpec.ofChange linesBackWrong)

/-- 'millracelaw14.PositionCounts': WHATEVER THE INPUT: true; the input reads as it did. -/
def positionCountsSpec : ChangeSpec := { name := "positionCounts", fn := fun _ => fun
  | [d1, d2, d3, d4, d5] => { results := [.lit (.bool true)], args := [d1, d2, d3, d4, d5] }
  | _ => none }
def positionCountsRow : OpenClaim := { program := "ytbhkpefjnomncaa", sum := "a664cf4615a4040bc8464ca6cf0f845c12af64a4575bd96c31f3458fd1a1c240", func := "millrace/millracelaw14.PositionCounts", spec := "positionCounts", inPlace := ["internal/bytealg.IndexByteString"], unfollowed := true, recurses := true, apart := false }
def PositionCountsSaid : Prop := positionCountsRow.holds Try.pinned (OpenSpec.ofChange positionCountsSpec)

/-- ITS FALSE NEIGHBOUR: 'it returns false'. Refute it at one input. -/
def positionCountsWrong : ChangeSpec := { name := "positionCounts", fn := fun _ => fun
  | [d1, d2, d3, d4, d5] => { results := [.lit (.bool false)], args := [d1, d2, d3, d4, d5] }
  | _ => none }
def PositionCountsWrongFalsely : Prop := positionCountsRow.holds Try.pinned (OpenSpec.ofChange positionCountsWrong)

/-- 'millracelaw16.BlocksBack': WHATEVER THE INPUT: true; the input reads as it did. -/
def blocksBackSpec : ChangeSpec := { name := "blocksBack", fn := fun _ => fun
  | [d1, d2, d3, d4, d5] => { results := [.lit (.bool true)], args := [d1, d2, d3, d4, d5] }
  | _ => none }
def blocksBackRow : OpenClaim := { program := "ytbhkpefjnomncaa", sum := "a664cf4615a4040bc8464ca6cf0f845c12af64a4575bd96c31f3458fd1a1c240", func := "millrace/millracelaw16.BlocksBack", spec := "blocksBack", inPlace := ["internal/bytealg.IndexByteString"], unfollowed := true, recurses := true, apart := false }
def BlocksBackSaid : Prop := blocksBackRow.holds Try.pinned (OpenSpec.ofChange blocksBackSpec)

/-- ITS FALSE NEIGHBOUR: 'it returns false'. Refute it at one input. -/
def blocksBackWrong : ChangeSpec := { name := "blocksBack", fn := fun _ => fun
  | [d1, d2, d3, d4, d5] => { results := [.lit (.bool false)], args := [d1, d2, d3, d4, d5] }
  | _ => none }
def BlocksBackWrongFalsely : Prop := blocksBackRow.holds Try.pinned (OpenSpec.ofChange blocksBackWrong)

/- THE SECOND FORM. 'bulk': how many values and letters a reading holds, each counted each time it is reached (what is shared counts as often as it is met; a slice's spare places count too). A statement '..UptoSaid' is the law's where the arguments, and the package variables that the reading takes, are together of bulk at most 1048576: NARROWER than '..Said'. Prove '..Said' where nothing that the law and all that it calls make is longer than what came in: it says more and counts as full. Else prove '..UptoSaid'. A law counts once. -/
mutual
def uptoBulk {H : Type} : DataW H → Nat
  | .lit (.string bytes) => bytes.length + 1
  | .lit _ => 1
  | .nil => 1
  | .ptr d => uptoBulk d + 1
  | .slice elems spare => uptoBulkAll elems + uptoBulkAll spare + 1
  | .agg parts => uptoBulkAll parts + 1
  | .iface _ d => uptoBulk d + 1
  | .map entries => uptoBulkEntries entries + 1
  | .held _ => 1
def uptoBulkAll {H : Type} : List (DataW H) → Nat
  | [] => 0
  | d :: r => uptoBulk d + uptoBulkAll r
def uptoBulkEntries {H : Type} : List (Lit × DataW H) → Nat
  | [] => 0
  | x :: r => uptoBulkEntry x + uptoBulkEntries r
def uptoBulkEntry {H : Type} : Lit × DataW H → Nat
  | (.string bytes, d) => bytes.length + uptoBulk d + 1
  | (_, d) => uptoBulk d + 1
 end
def uptoSmall : (H : Type) → List (DataW H) → Bool := fun _ ds => decide (uptoBulkAll ds ≤ 1048576)
def OpenSpec.upto (s : _root_.Go.ChangeSpec) : _root_.Go.OpenSpec := { _root_.Go.OpenSpec.ofChange s with cond := some uptoSmall }

/-- 'millracelaw12.BufmodeOwn', WHERE WHAT IT READS IS OF BULK AT MOST 1048576: true; the input reads as it did. -/
def bufmodeOwnUptoRow : OpenClaim := { program := "ytbhkpefjnomncaa", sum := "a664cf4615a4040bc8464ca6cf0f845c12af64a4575bd96c31f3458fd1a1c240", func := "millrace/millracelaw12.BufmodeOwn", spec := "bufmodeOwn", unfollowed := true, recurses := true, apart := false, narrowed := true }
def BufmodeOwnUptoSaid : Prop := bufmodeOwnUptoRow.holds Try.pinned (OpenSpec.upto bufmodeOwnSpec)

/-- 'millracelaw12.BufmodeTaken', WHERE WHAT IT READS IS OF BULK AT MOST 1048576: true; the input reads as it did. -/
def bufmodeTakenUptoRow : OpenClaim := { program := "ytbhkpefjnomncaa", sum := "a664cf4615a4040bc8464ca6cf0f845c12af64a4575bd96c31f3458fd1a1c240", func := "millrace/millracelaw12.BufmodeTaken", spec := "bufmodeTaken", inPlace := ["internal/bytealg.IndexByteString"], unfollowed := true, recurses := true, apart := false, narrowed := true }
def BufmodeTakenUptoSaid : Prop := bufmodeTakenUptoRow.holds Try.pinned (OpenSpec.upto bufmodeTakenSpec)

/-- 'millracelaw11.StreamFew', WHERE WHAT IT READS IS OF BULK AT MOST 1048576: true; the input reads as it did. -/
def streamFewUptoRow : OpenClaim := { program := "ytbhkpefjnomncaa", sum := "a664cf4615a4040bc8464ca6cf0f845c12af64a4575bd96c31f3458fd1a1c240", func := "millrace/millracelaw11.StreamFew", spec := "streamFew", inPlace := ["internal/bytealg.IndexByteString"], unfollowed := true, recurses := true, apart := false, narrowed := true }
def StreamFewUptoSaid : Prop := streamFewUptoRow.holds Try.pinned (OpenSpec.upto streamFewSpec)

/-- 'millracelaw12.BufmodeTrue', WHERE WHAT IT READS IS OF BULK AT MOST 1048576: true; the input reads as it did. -/
def bufmodeTrueUptoRow : OpenClaim := { program := "ytbhkpefjnomncaa", sum := "a664cf4615a4040bc8464ca6cf0f845c12af64a4575bd96c31f3458fd1a1c240", func := "millrace/millracelaw12.BufmodeTrue", spec := "bufmodeTrue", inPlace := ["internal/bytealg.IndexByteString"], unfollowed := true, recurses := true, apart := false, narrowed := true }
def BufmodeTrueUptoSaid : Prop := bufmodeTrueUptoRow.holds Try.pinned (OpenSpec.upto bufmodeTrueSpec)

/-- 'millracelaw15.LinesBytes', WHERE WHAT IT READS IS OF BULK AT MOST 1048576: true; the input reads as it did. -/
def linesBytesUptoRow : OpenClaim := { program := "ytbhkpefjnomncaa", sum := "a664cf4615a4040bc8464ca6cf0f845c12af64a4575bd96c31f3458fd1a1c240", func := "millrace/millracelaw15.LinesBytes", spec := "linesBytes", inPlace := ["internal/bytealg.IndexByteString"], unfollowed := true, recurses := true, apart := false, narrowed := true }
def LinesBytesUptoSaid : Prop := linesBytesUptoRow.holds Try.pinned (OpenSpec.upto linesBytesSpec)

/-- 'millracelaw14.PositionTells', WHERE WHAT IT READS IS OF BULK AT MOST 1048576: true; the input reads as it did. -/
def positionTellsUptoRow : OpenClaim := { program := "ytbhkpefjnomncaa", sum := "a664cf4615a4040bc8464ca6cf0f845c12af64a4575bd96c31f3458fd1a1c240", func := "millrace/millracelaw14.PositionTells", spec := "positionTells", inPlace := ["internal/bytealg.IndexByteString"], unfollowed := true, recurses := true, apart := false, narrowed := true }
def PositionTellsUptoSaid : Prop := positionTellsUptoRow.holds Try.pinned (OpenSpec.upto positionTellsSpec)

/-- 'millracelaw15.LinesBack', WHERE WHAT IT READS IS OF BULK AT MOST 1048576: true; the input reads as it did. -/
def linesBackUptoRow : OpenClaim := { program := "ytbhkpefjnomncaa", sum := "a664cf4615a4040bc8464ca6cf0f845c12af64a4575bd96c31f3458fd1a1c240", func := "millrace/millracelaw15.LinesBack", spec := "linesBack", inPlace := ["internal/bytealg.IndexByteString"], unfollowed := true, recurses := true, apart := false, narrowed := true }
def LinesBackUptoSaid : Prop := linesBackUptoRow.holds Try.pinned (OpenSpec.upto linesBackSpec)

/-- 'millracelaw14.PositionCounts', WHERE WHAT IT READS IS OF BULK AT MOST 1048576: true; the input reads as it did. -/
def positionCountsUptoRow : OpenClaim := { program := "ytbhkpefjnomncaa", sum := "a664cf4615a4040bc8464ca6cf0f845c12af64a4575bd96c31f3458fd1a1c240", func := "millrace/millracelaw14.PositionCounts", spec := "positionCounts", inPlace := ["internal/bytealg.IndexByteString"], unfollowed := true, recurses := true, apart := false, narrowed := true }
def PositionCountsUptoSaid : Prop := positionCountsUptoRow.holds Try.pinned (OpenSpec.upto positionCountsSpec)

/-- 'millracelaw16.BlocksBack', WHERE WHAT IT READS IS OF BULK AT MOST 1048576: true; the input reads as it did. -/
def blocksBackUptoRow : OpenClaim := { program := "ytbhkpefjnomncaa", sum := "a664cf4615a4040bc8464ca6cf0f845c12af64a4575bd96c31f3458fd1a1c240", func := "millrace/millracelaw16.BlocksBack", spec := "blocksBack", inPlace := ["internal/bytealg.IndexByteString"], unfollowed := true, recurses := true, apart := false, narrowed := true }
def BlocksBackUptoSaid : Prop := blocksBackUptoRow.holds Try.pinned (OpenSpec.upto blocksBackSpec)

end Rows
end Go.Proofs.Ytbhkpefjnomncaa
