/-
  No cell of these rows narrows 'for every input' (looked for: loops, veiled, ifaces, maps, wideKeys, modest, calm, conditions, laid).
  DERIVED. THE GIVEN ROWS OF THIS SEAT. 5 by the template 'for every input the law returns true; each argument reads behind the call as it read before'; 0 by the template 'total and deterministic' (their statements: YtbbbmoldmoianaaGreatTotals.lean).
  GIVEN WITH THE SEED: the statements are not yours to turn. If you find one false, say at which input.
  Laid BY PROGRAM, IN A SANDBOX (cutbox-rows.mjs): the forced cells as the released guide's own fill.sh prints them over the translation d34e31957be2debc… (all of the seat's roots in one cut). By AI agents, Wed Nov 11 2026. No macro, syntax, notation, axiom, sorry.
-/
import Derived.Test.YtbbbmoldmoianaaGreatChecked
import GoSem.Claim
import GoSem.ClaimJoined
import GoSem.ClaimMapViews
import Derived.JoinedTies
import Derived.KernelRfl
namespace Go.Proofs.YtbbbmoldmoianaaGreat
/- THE CELL 'sum', in the pinned program and in every row, IS THE sha256 OF THE DUMP (.gsa) THAT YtbbbmoldmoianaaGreatProg.lean LOADS. Nothing in Lean hashes anything: it is a label: what it is worth is what the hold of that sum in a sandbox is worth. -/
noncomputable def Tryz.pinned : Pinned := { name := "ytbbbmoldmoianaagreat", sum := "d34e31957be2debce2ac711b5d85007a0dbfd93dca27611b906fd3868bbcda54", checked := Tryz.checked }
namespace Rows
def none {H : Type} : Left H := { results := [], args := [] }

/-- 'millracelaw18.ScanOwn': WHATEVER THE INPUT: true; the input reads as it did. -/
def scanOwnSpec : ChangeSpec := { name := "scanOwn", fn := fun _ => fun
  | [d1, d2, d3] => { results := [.lit (.bool true)], args := [d1, d2, d3] }
  | _ => none }
def scanOwnRow : OpenClaim := { program := "ytbbbmoldmoianaagreat", sum := "d34e31957be2debce2ac711b5d85007a0dbfd93dca27611b906fd3868bbcda54", func := "millrace/millracelaw18.ScanOwn", spec := "scanOwn", inPlace := ["internal/bytealg.IndexByteString", "internal/bytealg.IndexByte", "math/bits.Add64"], unfollowed := true, recurses := true, apart := false }
def ScanOwnSaid : Prop := scanOwnRow.holds Tryz.pinned (OpenSpec.ofChange scanOwnSpec)

/-- ITS FALSE NEIGHBOUR: 'it returns false'. Refute it at one input. -/
def scanOwnWrong : ChangeSpec := { name := "scanOwn", fn := fun _ => fun
  | [d1, d2, d3] => { results := [.lit (.bool false)], args := [d1, d2, d3] }
  | _ => none }
def ScanOwnWrongFalsely : Prop := scanOwnRow.holds Tryz.pinned (OpenSpec.ofChange scanOwnWrong)

/-- 'millracelaw11.StreamOwn': WHATEVER THE INPUT: true; the input reads as it did. -/
def streamOwnSpec : ChangeSpec := { name := "streamOwn", fn := fun _ => fun
  | [d1, d2] => { results := [.lit (.bool true)], args := [d1, d2] }
  | _ => none }
def streamOwnRow : OpenClaim := { program := "ytbbbmoldmoianaagreat", sum := "d34e31957be2debce2ac711b5d85007a0dbfd93dca27611b906fd3868bbcda54", func := "millrace/millracelaw11.StreamOwn", spec := "streamOwn", inPlace := ["internal/bytealg.IndexByteString"], unfollowed := true, recurses := true, apart := false }
def StreamOwnSaid : Prop := streamOwnRow.holds Tryz.pinned (OpenSpec.ofChange streamOwnSpec)

/-- ITS FALSE NEIGHBOUR: 'it returns false'. Refute it at one input. -/
def streamOwnWrong : ChangeSpec := { name := "streamOwn", fn := fun _ => fun
  | [d1, d2] => { results := [.lit (.bool false)], args := [d1, d2] }
  | _ => none }
def StreamOwnWrongFalsely : Prop := streamOwnRow.holds Tryz.pinned (OpenSpec.ofChange streamOwnWrong)

/-- 'millracelaw14.PositionOwn': WHATEVER THE INPUT: true; the input reads as it did. -/
def positionOwnSpec : ChangeSpec := { name := "positionOwn", fn := fun _ => fun
  | [d1, d2, d3] => { results := [.lit (.bool true)], args := [d1, d2, d3] }
  | _ => none }
def positionOwnRow : OpenClaim := { program := "ytbbbmoldmoianaagreat", sum := "d34e31957be2debce2ac711b5d85007a0dbfd93dca27611b906fd3868bbcda54", func := "millrace/millracelaw14.PositionOwn", spec := "positionOwn", inPlace := ["internal/bytealg.IndexByteString"], unfollowed := true, recurses := true, apart := false }
def PositionOwnSaid : Prop := positionOwnRow.holds Tryz.pinned (OpenSpec.ofChange positionOwnSpec)

/-- ITS FALSE NEIGHBOUR: 'it returns false'. Refute it at one input. -/
def positionOwnWrong : ChangeSpec := { name := "positionOwn", fn := fun _ => fun
  | [d1, d2, d3] => { results := [.lit (.bool false)], args := [d1, d2, d3] }
  | _ => none }
def PositionOwnWrongFalsely : Prop := positionOwnRow.holds Tryz.pinned (OpenSpec.ofChange positionOwnWrong)

/-- 'millracelaw15.LinesOwn': WHATEVER THE INPUT: true; the input reads as it did. -/
def linesOwnSpec : ChangeSpec := { name := "linesOwn", fn := fun _ => fun
  | [d1, d2] => { results := [.lit (.bool true)], args := [d1, d2] }
  | _ => none }
def linesOwnRow : OpenClaim := { program := "ytbbbmoldmoianaagreat", sum := "d34e31957be2debce2ac711b5d85007a0dbfd93dca27611b906fd3868bbcda54", func := "millrace/millracelaw15.LinesOwn", spec := "linesOwn", inPlace := ["internal/bytealg.IndexByteString"], unfollowed := true, recurses := true, apart := false }
def LinesOwnSaid : Prop := linesOwnRow.holds Tryz.pinned (OpenSpec.ofChange linesOwnSpec)

/-- ITS FALSE NEIGHBOUR: 'it returns false'. Refute it at one input. -/
def linesOwnWrong : ChangeSpec := { name := "linesOwn", fn := fun _ => fun
  | [d1, d2] => { results := [.lit (.bool false)], args := [d1, d2] }
  | _ => none }
def LinesOwnWrongFalsely : Prop := linesOwnRow.holds Tryz.pinned (OpenSpec.ofChange linesOwnWrong)

/-- 'millracelaw16.BlocksOwn': WHATEVER THE INPUT: true; the input reads as it did. -/
def blocksOwnSpec : ChangeSpec := { name := "blocksOwn", fn := fun _ => fun
  | [d1, d2, d3] => { results := [.lit (.bool true)], args := [d1, d2, d3] }
  | _ => none }
def blocksOwnRow : OpenClaim := { program := "ytbbbmoldmoianaagreat", sum := "d34e31957be2debce2ac711b5d85007a0dbfd93dca27611b906fd3868bbcda54", func := "millrace/millracelaw16.BlocksOwn", spec := "blocksOwn", inPlace := ["internal/bytealg.IndexByteString"], unfollowed := true, recurses := true, apart := false }
def BlocksOwnSaid : Prop := blocksOwnRow.holds Tryz.pinned (OpenSpec.ofChange blocksOwnSpec)

/-- ITS FALSE NEIGHBOUR: 'it returns false'. Refute it at one input. -/
def blocksOwnWrong : ChangeSpec := { name := "blocksOwn", fn := fun _ => fun
  | [d1, d2, d3] => { results := [.lit (.bool false)], args := [d1, d2, d3] }
  | _ => none }
def BlocksOwnWrongFalsely : Prop := blocksOwnRow.holds Tryz.pinned (OpenSpec.ofChange blocksOwnWrong)

/- THE SECOND FORM. 'bulk': how many values and letters a reading holds, each counted each time it is reached (what is shared counts as often as it is met; a slice's spare places count too). A statement '..UptoSaid' is the law's where the arguments, and the package variables that the reading takes, are together of bulk at most 1048576: NARROWER than '..Said'. Prove '..Said' where nothing that the law and all that it calls make is longer than what came in: it says more and counts as full. Else prove '..UptoSaid'. A law counts once. -/
mutual
def uptoBulk {H : Type} : DataW H → Nat
  | .lit (.string bytes) => bytes.length + 1
  | .lit _ => 1
  | .nil => 1
  | .ptr d => uptoBulk d + 1
  | .slice elems spare => uptoBulkAll elems + uptoBulkAll spare + 1
  | .agg parts => uptoBulkAll parts + 1
  | .iface _ d => uptoBulk d + 1
  | .map entries => uptoBulkEntries entries + 1
  | .held _ => 1
def uptoBulkAll {H : Type} : List (DataW H) → Nat
  | [] => 0
  | d :: r => uptoBulk d + uptoBulkAll r
def uptoBulkEntries {H : Type} : List (Lit × DataW H) → Nat
  | [] => 0
  | x :: r => uptoBulkEntry x + uptoBulkEntries r
def uptoBulkEntry {H : Type} : Lit × DataW H → Nat
  | (.string bytes, d) => bytes.length + uptoBulk d + 1
  | (_, d) => uptoBulk d + 1
 end
def uptoSmall : (H : Type) → List (DataW H) → Bool := fun _ ds => decide (uptoBulkAll ds ≤ 1048576)
def OpenSpec.upto (s : _root_.Go.ChangeSpec) : _root_.Go.OpenSpec := { _root_.Go.OpenSpec.ofChange s with cond := some uptoSmall }

/-- 'millracelaw18.ScanOwn', WHERE WHAT IT READS IS OF BULK AT MOST 1048576: true; the input reads as it did. -/
def scanOwnUptoRow : OpenClaim := { program := "ytbbbmoldmoianaagreat", sum := "d34e31957be2debce2ac711b5d85007a0dbfd93dca27611b906fd3868bbcda54", func := "millrace/millracelaw18.ScanOwn", spec := "scanOwn", inPlace := ["internal/bytealg.IndexByteString", "internal/bytealg.IndexByte", "math/bits.Add64"], unfollowed := true, recurses := true, apart := false, narrowed := true }
def ScanOwnUptoSaid : Prop := scanOwnUptoRow.holds Tryz.pinned (OpenSpec.upto scanOwnSpec)

/-- 'millracelaw11.StreamOwn', WHERE WHAT IT READS IS OF BULK AT MOST 1048576: true; the input reads as it did. -/
def streamOwnUptoRow : OpenClaim := { program := "ytbbbmoldmoianaagreat", sum := "d34e31957be2debce2ac711b5d85007a0dbfd93dca27611b906fd3868bbcda54", func := "millrace/millracelaw11.StreamOwn", spec := "streamOwn", inPlace := ["internal/bytealg.IndexByteString"], unfollowed := true, recurses := true, apart := false, narrowed := true }
def StreamOwnUptoSaid : Prop := streamOwnUptoRow.holds Tryz.pinned (OpenSpec.upto streamOwnSpec)

/-- 'millracelaw14.PositionOwn', WHERE WHAT IT READS IS OF BULK AT MOST 1048576: true; the input reads as it did. -/
def positionOwnUptoRow : OpenClaim := { program := "ytbbbmoldmoianaagreat", sum := "d34e31957be2debce2ac711b5d85007a0dbfd93dca27611b906fd3868bbcda54", func := "millrace/millracelaw14.PositionOwn", spec := "positionOwn", inPlace := ["internal/bytealg.IndexByteString"], unfollowed := true, recurses := true, apart := false, narrowed := true }
def PositionOwnUptoSaid : Prop := positionOwnUptoRow.holds Tryz.pinned (OpenSpec.upto positionOwnSpec)

/-- 'millracelaw15.LinesOwn', WHERE WHAT IT READS IS OF BULK AT MOST 1048576: true; the input reads as it did. -/
def linesOwnUptoRow : OpenClaim := { program := "ytbbbmoldmoianaagreat", sum := "d34e31957be2debce2ac711b5d85007a0dbfd93dca27611b906fd3868bbcda54", func := "millrace/millracelaw15.LinesOwn", spec := "linesOwn", inPlace := ["internal/bytealg.IndexByteString"], unfollowed := true, recurses := true, apart := false, narrowed := true }
def LinesOwnUptoSaid : Prop := linesOwnUptoRow.holds Tryz.pinned (OpenSpec.upto linesOwnSpec)

/-- 'millracelaw16.BlocksOwn', WHERE WHAT IT READS IS OF BULK AT MOST 1048576: true; the input reads as it did. -/
def blocksOwnUptoRow : OpenClaim := { program := "ytbbbmoldmoianaagreat", sum := "d34e31957be2debce2ac711b5d85007a0dbfd93dca27611b906fd3868bbcda54", func := "millrace/millracelaw16.BlocksOwn", spec := "blocksOwn", inPlace := ["internal/bytealg.IndexByteString"], unfollowed := true, recurses := true, apart := false, narrowed := true }
def BlocksOwnUptoSaid : Prop := blocksOwnUptoRow.holds Tryz.pinned (OpenSpec.upto blocksOwnSpec)

end Rows
end Go.Proofs.YtbbbmoldmoianaaGreat
