/-
  No cell of these rows narrows 'for every input' (looked for: loops, veiled, ifaces, maps, wideKeys, modest, calm, conditions, laid).
  DERIVED. THE GIVEN ROWS OF THIS SEAT. 8 by the template 'for every input the law returns true; each argument reads behind the call as it read before'; 0 by the template 'total and deterministic' (their statements: YtdbhgnjpjpmioaaTotals.lean).
  GIVEN WITH THE SEED: the statements are not yours to turn. If you find one false, say at which input.
  Laid BY PROGRAM, IN A SANDBOX (cutbox-rows.mjs): the forced cells as the released guide's own fill.sh prints them over the translation 3cd876cd7180801a… (all of the seat's roots in one cut). By AI agents, Wed Nov 11 2026. No macro, syntax, notation, axiom, sorry.
-/
import Derived.Test.YtdbhgnjpjpmioaaChecked
import GoSem.Claim
import GoSem.ClaimJoined
import GoSem.ClaimMapViews
import Derived.JoinedTies
import Derived.KernelRfl
namespace Go.Proofs.Ytdbhgnjpjpmioaa
/- THE CELL 'sum', in the pinned program and in every row, IS THE sha256 OF THE DUMP (.gsa) THAT YtdbhgnjpjpmioaaProg.lean LOADS. Nothing in Lean hashes anything: it is a label: what it is worth is what the hold of that sum in a sandbox is worth. -/
noncomputable def Try.pinned : Pinned := { name := "ytdbhgnjpjpmioaa", sum := "3cd876cd7180801aff5b4e165e21de281d9dca32ed6013e223ada64da1943a5e", checked := Try.checked }
namespace Rows
def none {H : Type} : Left H := { results := [], args := [] }

/-- 'millracelaw12.BufmodeCounts': WHATEVER THE INPUT: true; the input reads as it did. -/
def bufmodeCountsSpec : ChangeSpec := { name := "bufmodeCounts", fn := fun _ => fun
  | [d1, d2, d3, d4, d5] => { results := [.lit (.bool true)], args := [d1, d2, d3, d4, d5] }
  | _ => none }
def bufmodeCountsRow : OpenClaim := { program := "ytdbhgnjpjpmioaa", sum := "3cd876cd7180801aff5b4e165e21de281d9dca32ed6013e223ada64da1943a5e", func := "millrace/millracelaw12.BufmodeCounts", spec := "bufmodeCounts", unfollowed := true, recurses := true, apart := false }
def BufmodeCountsSaid : Prop := bufmodeCountsRow.holds Try.pinned (OpenSpec.ofChange bufmodeCountsSpec)

/-- ITS FALSE NEIGHBOUR: 'it returns false'. Refute it at one input. -/
def bufmodeCountsWrong : ChangeSpec := { name := "bufmodeCounts", fn := fun _ => fun
  | [d1, d2, d3, d4, d5] => { results := [.lit (.bool false)], args := [d1, d2, d3, d4, d5] }
  | _ => none }
def BufmodeCountsWrongFalsely : Prop := bufmodeCountsRow.holds Try.pinned (OpenSpec.ofChange bufmodeCountsWrong)

/-- 'millracelaw12.BufmodeSums': WHATEVER THE INPUT: true; the input reads as it did. -/
def bufmodeSumsSpec : ChangeSpec := { name := "bufmodeSums", fn := fun _ => fun
  | [d1, d2, d3] => { results := [.lit (.bool true)], args := [d1, d2, d3] }
  | _ => none }
def bufmodeSumsRow : OpenClaim := { program := "ytdbhgnjpjpmioaa", sum := "3cd876cd7180801aff5b4e165e21de281d9dca32ed6013e223ada64da1943a5e", func := "millrace/millracelaw12.BufmodeSums", spec := "bufmodeSums", unfollowed := true, recurses := true, apart := false }
def BufmodeSumsSaid : Prop := bufmodeSumsRow.holds Try.pinned (OpenSpec.ofChange bufmodeSumsSpec)

/-- ITS FALSE NEIGHBOUR: 'it returns false'. Refute it at one input. -/
def bufmodeSumsWrong : ChangeSpec := { name := "bufmodeSums", fn := fun _ => fun
  | [d1, d2, d3] => { results := [.lit (.bool false)], args := [d1, d2, d3] }
  | _ => none }
def BufmodeSumsWrongFalsely : Prop := bufmodeSumsRow.holds Try.pinned (OpenSpec.ofChange bufmodeSumsWrong)

/-- 'millracelaw15.LinesJoin': WHATEVER THE INPUT: true; the input reads as it did. -/
def linesJoinSpec : ChangeSpec := { name := "linesJoin", fn := fun _ => fun
  | [d1, d2, d3, d4, d5] => { results := [.lit (.bool true)], args := [d1, d2, d3, d4, d5] }
  | _ => none }
def linesJoinRow : OpenClaim := { program := "ytdbhgnjpjpmioaa", sum := "3cd876cd7180801aff5b4e165e21de281d9dca32ed6013e223ada64da1943a5e", func := "millrace/millracelaw15.LinesJoin", spec := "linesJoin", inPlace := ["internal/bytealg.IndexByteString"], unfollowed := true, recurses := true, apart := false }
def LinesJoinSaid : Prop := linesJoinRow.holds Try.pinned (OpenSpec.ofChange linesJoinSpec)

/-- ITS FALSE NEIGHBOUR: 'it returns false'. Refute it at one input. -/
def linesJoinWrong : ChangeSpec := { name := "linesJoin", fn := fun _ => fun
  | [d1, d2, d3, d4, d5] => { results := [.lit (.bool false)], args := [d1, d2, d3, d4, d5] }
  | _ => none }
def LinesJoinWrongFalsely : Prop := linesJoinRow.holds Try.pinned (OpenSpec.ofChange linesJoinWrong)

/-- 'millracelaw15.LinesGrow': WHATEVER THE INPUT: true; the input reads as it did. -/
def linesGrowSpec : ChangeSpec := { name := "linesGrow", fn := fun _ => fun
  | [d1, d2, d3, d4, d5] => { results := [.lit (.bool true)], args := [d1, d2, d3, d4, d5] }
  | _ => none }
def linesGrowRow : OpenClaim := { program := "ytdbhgnjpjpmioaa", sum := "3cd876cd7180801aff5b4e165e21de281d9dca32ed6013e223ada64da1943a5e", func := "millrace/millracelaw15.LinesGrow", spec := "linesGrow", inPlace := ["internal/bytealg.IndexByteString"], unfollowed := true, recurses := true, apart := false }
def LinesGrowSaid : Prop := linesGrowRow.holds Try.pinned (OpenSpec.ofChange linesGrowSpec)

/-- ITS FALSE NEIGHBOUR: 'it returns false'. Refute it at one input. -/
def linesGrowWrong : ChangeSpec := { name := "linesGrow", fn := fun _ => fun
  | [d1, d2, d3, d4, d5] => { results := [.lit (.bool false)], args := [d1, d2, d3, d4, d5] }
  | _ => none }
def LinesGrowWrongFalsely : Prop := linesGrowRow.holds Try.pinned (OpenSpec.ofChange linesGrowWrong)

/-- 'millracelaw12.BufmodeOwn': WHATEVER THE INPUT: true; the input reads as it did. -/
def bufmodeOwnSpec : ChangeSpec := { name := "bufmodeOwn", fn := fun _ => fun
  | [d1, d2, d3, d4] => { results := [.lit (.bool true)], args := [d1, d2, d3, d4] }
  | _ => none }
def bufmodeOwnRow : OpenClaim := { program := "ytdbhgnjpjpmioaa", sum := "3cd876cd7180801aff5b4e165e21de281d9dca32ed6013e223ada64da1943a5e", func := "millrace/millracelaw12.BufmodeOwn", spec := "bufmodeOwn", unfollowed := true, recurses := true, apart := false }
def BufmodeOwnSaid : Prop := bufmodeOwnRow.holds Try.pinned (OpenSpec.ofChange bufmodeOwnSpec)

/-- ITS FALSE NEIGHBOUR: 'it returns false'. Refute it at one input. -/
def bufmodeOwnWrong : ChangeSpec := { name := "bufmodeOwn", fn := fun _ => fun
  | [d1, d2, d3, d4] => { results := [.lit (.bool false)], args := [d1, d2, d3, d4] }
  | _ => none }
def BufmodeOwnWrongFalsely : Prop := bufmodeOwnRow.holds Try.pinned (OpenSpec.ofChange bufmodeOwnWrong)

/-- 'millracelaw16.BlocksBytes': WHATEVER THE INPUT: true; the input reads as it did. -/
def blocksBytesSpec : ChangeSpec := { name := "blocksBytes", fn := fun _ => fun
  | [d1, d2] => { results := [.lit (.bool true)], args := [d1, d2] }
  | _ => none }
def blocksBytesRow : OpenClaim := { program := "ytdbhgnjpjpmioaa", sum := "3cd876cd7180801aff5b4e165e21de281d9dca32ed6013e223ada64da1943a5e", func := "millrace/millracelaw16.BlocksBytes", spec := "blocksBytes", inPlace := ["internal/bytealg.IndexByteString"], unfollowed := true, recurses := true, apart := false }
def BlocksBytesSaid : Prop := blocksBytesRow.holds Try.pinned (OpenSpec.ofChange blocksBytesSpec)

/-- ITS FALSE NEIGHBOUR: 'it returns false'. Refute it at one input. -/
def blocksBytesWrong : ChangeSpec := { name := "blocksBytes", fn := fun _ => fun
  | [d1, d2] => { results := [.lit (.bool false)], args := [d1, d2] }
  | _ => none }
def BlocksBytesWrongFalsely : Prop := blocksBytesRow.holds Try.pinned (OpenSpec.ofChange blocksBytesWrong)

/-- 'millracelaw16.BlocksWhole': WHATEVER THE INPUT: true; the input reads as it did. -/
def blocksWholeSpec : ChangeSpec := { name := "blocksWhole", fn := fun _ => fun
  | [d1, d2, d3, d4, d5] => { results := [.lit (.bool true)], args := [d1, d2, d3, d4, d5] }
  | _ => none }
def blocksWholeRow : OpenClaim := { program := "ytdbhgnjpjpmioaa", sum := "3cd876cd7180801aff5b4e165e21de281d9dca32ed6013e223ada64da1943a5e", func := "millrace/millracelaw16.BlocksWhole", spec := "blocksWhole", inPlace := ["internal/bytealg.IndexByteString"], unfollowed := true, recurses := true, apart := false }
def BlocksWholeSaid : Prop := blocksWholeRow.holds Try.pinned (OpenSpec.ofChange blocksWholeSpec)

/-- ITS FALSE NEIGHBOUR: 'it returns false'. Refute it at one input. -/
def blocksWholeWrong : ChangeSpec := { name := "blocksWhole", fn := fun _ => fun
  | [d1, d2, d3, d4, d5] => { results := [.lit (.bool false)], args := [d1, d2, d3, d4, d5] }
  | _ => none }
def BlocksWholeWrongFalsely : Prop := blocksWholeRow.holds Try.pinned (OpenSpec.ofChange blocksWholeWrong)

/-- 'millracelaw12.BufmodeTaken': WHATEVER THE INPUT: true; the input reads as it did. -/
def bufmodeTakenSpec : ChangeSpec := { name := "bufmodeTaken", fn := fun _ => fun
  | [d1, d2, d3, d4] => { results := [.lit (.bool true)], args := [d1, d2, d3, d4] }
  | _ => none }
def bufmodeTakenRow : OpenClaim := { program := "ytdbhgnjpjpmioaa", sum := "3cd876cd7180801aff5b4e165e21de281d9dca32ed6013e223ada64da1943a5e", func := "millrace/millracelaw12.BufmodeTaken", spec := "bufmodeTaken", inPlace := ["internal/bytealg.IndexByteString"], unfollowed := true, recurses := true, apart := false }
def BufmodeTakenSaid : Prop := bufmodeTakenRow.holds Try.pinned (OpenSpec.ofChange bufmodeTakenSpec)

/-- ITS FALSE NEIGHBOUR: 'it returns false'. Refute it at one input. -/
def bufmodeTakenWrong : ChangeSpec := { name := "bufmodeTaken", fn := fun _ => fun
  | [d1, d2, d3, d4] => { results := [.lit (.bool false)], args := [d1, d2, d3, d4] }
  | _ => none }
def BufmodeTakenWrongFalsely : Prop := bufmodeTakenRow.holds Try.pinned (OpenSpec.ofChange bufmodeTakenWrong)

/- THE SECOND FORM. 'bulk': how many values and letters a reading holds, each counted each time it is reached (what is shared counts as often as it is met; a slice's spare places count too). A statement '..UptoSaid' is the law's where the arguments, and the package variables that the reading takes, are together of bulk at most 1048576: NARROWER than '..Said'. Prove '..Said' where nothing that the law and all that it calls make is longer than what came in: it says more and counts as full. Else prove '..UptoSaid'. A law counts once. -/
mutual
def uptoBulk {H : Type} : DataW H → Nat
  | .lit (.string bytes) => bytes.length + 1
  | .lit _ => 1
  | .nil => 1
  | .ptr d => uptoBulk d + 1
  | .slice elems spare => uptoBulkAll elems + uptoBulkAll spare + 1
  | .agg parts => uptoBulkAll parts + 1
  | .iface _ d => uptoBulk d + 1
  | .map entries => uptoBulkEntries entries + 1
  | .held _ => 1
def uptoBulkAll {H : Type} : List (DataW H) → Nat
  | [] => 0
  | d :: r => uptoBulk d + uptoBulkAll r
def uptoBulkEntries {H : Type} : List (Lit × DataW H) → Nat
  | [] => 0
  | x :: r => uptoBulkEntry x + uptoBulkEntries r
def uptoBulkEntry {H : Type} : Lit × DataW H → Nat
  | (.string bytes, d) => bytes.length + uptoBulk d + 1
  | (_, d) => uptoBulk d + 1
 end
def uptoSmall : (H : Type) → List (DataW H) → Bool := fun _ ds => decide (uptoBulkAll ds ≤ 1048576)
def OpenSpec.upto (s : _root_.Go.ChangeSpec) : _root_.Go.OpenSpec := { _root_.Go.OpenSpec.ofChange s with cond := some uptoSmall }

/-- 'millracelaw12.BufmodeCounts', WHERE WHAT IT READS IS OF BULK AT MOST 1048576: true; the input reads as it did. -/
def bufmodeCountsUptoRow : OpenClaim := { program := "ytdbhgnjpjpmioaa", sum := "3cd876cd7180801aff5b4e165e21de281d9dca32ed6013e223ada64da1943a5e", func := "millrace/millracelaw12.BufmodeCounts", spec := "bufmodeCounts", unfollowed := true, recurses := true, apart := false, narrowed := true }
def BufmodeCountsUptoSaid : Prop := bufmodeCountsUptoRow.holds Try.pinned (OpenSpec.upto bufmodeCountsSpec)

/-- 'millracelaw12.BufmodeSums', WHERE WHAT IT READS IS OF BULK AT MOST 1048576: true; the input reads as it did. -/
def bufmodeSumsUptoRow : OpenClaim := { program := "ytdbhgnjpjpmioaa", sum := "3cd876cd7180801aff5b4e165e21de281d9dca32ed6013e223ada64da1943a5e", func := "millrace/millracelaw12.BufmodeSums", spec := "bufmodeSums", unfollowed := true, recurses := true, apart := false, narrowed := true }
def BufmodeSumsUptoSaid : Prop := bufmodeSumsUptoRow.holds Try.pinned (OpenSpec.upto bufmodeSumsSpec)

/-- 'millracelaw15.LinesJoin', WHERE WHAT IT READS IS OF BULK AT MOST 1048576: true; the input reads as it did. -/
def linesJoinUptoRow : OpenClaim := { program := "ytdbhgnjpjpmioaa", sum := "3cd876cd7180801aff5b4e165e21de281d9dca32ed6013e223ada64da1943a5e", func := "millrace/millracelaw15.LinesJoin", spec := "linesJoin", inPlace := ["internal/bytealg.IndexByteString"], unfollowed := true, recurses := true, apart := false, narrowed := true }
def LinesJoinUptoSaid : Prop := linesJoinUptoRow.holds Try.pinned (OpenSpec.upto linesJoinSpec)

/-- 'millracelaw15.LinesGrow', WHERE WHAT IT READS IS OF BULK AT MOST 1048576: true; the input reads as it did. -/
def linesGrowUptoRow : OpenClaim := { program := "ytdbhgnjpjpmioaa", sum := "3cd876cd7180801aff5b4e165e21de281d9dca32ed6013e223ada64da1943a5e", func := "millrace/millracelaw15.LinesGrow", spec := "linesGrow", inPlace := ["internal/bytealg.IndexByteString"], unfollowed := true, recurses := true, apart := false, narrowed := true }
def LinesGrowUptoSaid : Prop := linesGrowUptoRow.holds Try.pinned (OpenSpec.upto linesGrowSpec)

/-- 'millracelaw12.BufmodeOwn', WHERE WHAT IT READS IS OF BULK AT MOST 1048576: true; the input reads as it did. -/
def bufmodeOwnUptoRow : OpenClaim := { program := "ytdbhgnjpjpmioaa", sum := "3cd876cd7180801aff5b4e165e21de281d9dca32ed6013e223ada64da1943a5e", func := "millrace/millracelaw12.BufmodeOwn", spec := "bufmodeOwn", unfollowed := true, recurses := true, apart := false, narrowed := true }
def BufmodeOwnUptoSaid : Prop := bufmodeOwnUptoRow.holds Try.pinned (OpenSpec.upto bufmodeOwnSpec)

/-- 'millracelaw16.BlocksBytes', WHERE WHAT IT READS IS OF BULK AT MOST 1048576: true; the input reads as it did. -/
def blocksBytesUptoRow : OpenClaim := { program := "ytdbhgnjpjpmioaa", sum := "3cd876cd7180801aff5b4e165e21de281d9dca32ed6013e223ada64da1943a5e", func := "millrace/millracelaw16.BlocksBytes", spec := "blocksBytes", inPlace := ["internal/bytealg.IndexByteString"], unfollowed := true, recurses := true, apart := false, narrowed := true }
def BlocksBytesUptoSaid : Prop := blocksBytesUptoRow.holds Try.pinned (OpenSpec.upto blocksBytesSpec)

/-- 'millracelaw16.BlocksWhole', WHERE WHAT IT READS IS OF BULK AT MOST 1048576: true; the input reads as it did. -/
def blocksWholeUptoRow : OpenClaim := { program := "ytdbhgnjpjpmioaa", sum := "3cd876cd7180801aff5b4e165e21de281d9dca32ed6013e223ada64da1943a5e", func := "millrace/millracelaw16.BlocksWhole", spec := "blocksWhole", inPlace := ["internal/bytealg.IndexByteString"], unfollowed := true, recurses := true, apart := false, narrowed := true }
def BlocksWholeUptoSaid : Prop := blocksWholeUptoRow.holds Try.pinned (OpenSpec.upto blocksWholeSpec)

/-- 'millracelaw12.BufmodeTaken', WHERE WHAT IT READS IS OF BULK AT MOST 1048576: true; the input reads as it did. -/
def bufmodeTakenUptoRow : OpenClaim := { program := "ytdbhgnjpjpmioaa", sum := "3cd876cd7180801aff5b4e165e21de281d9dca32ed6013e223ada64da1943a5e", func := "millrace/millracelaw12.BufmodeTaken", spec := "bufmodeTaken", inPlace := ["internal/bytealg.IndexByteString"], unfollowed := true, recurses := true, apart := false, narrowed := true }
def BufmodeTakenUptoSaid : Prop := bufmodeTakenUptoRow.holds Try.pinned (OpenSpec.upto bufmodeTakenSpec)

end Rows
end Go.Proofs.Ytdbhgnjpjpmioaa
