/-
  No cell of these rows narrows 'for every input' (looked for: loops, veiled, ifaces, maps, wideKeys, modest, calm, conditions, laid).
  DERIVED. THE GIVEN ROWS OF THIS SEAT. 3 by the template 'for every input the law returns true; each argument reads behind the call as it read before'; 0 by the template 'total and deterministic' (their statements: YtlgpcngfcglanaaGreatTotals.lean).
  GIVEN WITH THE SEED: the statements are not yours to turn. If you find one false, say at which input.
  Laid BY PROGRAM, IN A SANDBOX (cutbox-rows.mjs): the forced cells as the released guide's own fill.sh prints them over the translation f775112b303aba74… (all of the seat's roots in one cut). By AI agents, Wed Nov 11 2026. No macro, syntax, notation, axiom, sorry.
-/
import Derived.Test.YtlgpcngfcglanaaGreatChecked
import GoSem.Claim
import GoSem.ClaimJoined
import GoSem.ClaimMapViews
import Derived.JoinedTies
import Derived.KernelRfl
namespace Go.Proofs.YtlgpcngfcglanaaGreat
/- THE CELL 'sum', in the pinned program and in every row, IS THE sha256 OF THE DUMP (.gsa) THAT YtlgpcngfcglanaaGreatProg.lean LOADS. Nothing in Lean hashes anything: it is a label: what it is worth is what the hold of that sum in a sandbox is worth. -/
noncomputable def Tryz.pinned : Pinned := { name := "ytlgpcngfcglanaagreat", sum := "f775112b303aba7405ce52b71cfa06e9c2ecbc9f443e0e8d6f6590a1de7297f5", checked := Tryz.checked }
namespace Rows
def none {H : Type} : Left H := { results := [], args := [] }

/-- 'millracelaw11.StreamTells': WHATEVER THE INPUT: true; the input reads as it did. -/
def streamTellsSpec : ChangeSpec := { name := "streamTells", fn := fun _ => fun
  | [d1, d2, d3, d4] => { results := [.lit (.bool true)], args := [d1, d2, d3, d4] }
  | _ => none }
def streamTellsRow : OpenClaim := { program := "ytlgpcngfcglanaagreat", sum := "f775112b303aba7405ce52b71cfa06e9c2ecbc9f443e0e8d6f6590a1de7297f5", func := "millrace/millracelaw11.StreamTells", spec := "streamTells", inPlace := ["internal/bytealg.IndexByteString"], unfollowed := true, recurses := true, apart := false }
def StreamTellsSaid : Prop := streamTellsRow.holds Tryz.pinned (OpenSpec.ofChange streamTellsSpec)

/-- ITS FALSE NEIGHBOUR: 'it returns false'. Refute it at one input. -/
def streamTellsWrong : ChangeSpec := { name := "streamTells", fn := fun _ => fun
  | [d1, d2, d3, d4] => { results := [.lit (.bool false)], args := [d1, d2, d3, d4] }
  | _ => none }
def StreamTellsWrongFalsely : Prop := streamTellsRow.holds Tryz.pinned (OpenSpec.ofChange streamTellsWrong)

/-- 'millracelaw11.StreamKeeps': WHATEVER THE INPUT: true; the input reads as it did. -/
def streamKeepsSpec : ChangeSpec := { name := "streamKeeps", fn := fun _ => fun
  | [d1, d2, d3] => { results := [.lit (.bool true)], args := [d1, d2, d3] }
  | _ => none }
def streamKeepsRow : OpenClaim := { program := "ytlgpcngfcglanaagreat", sum := "f775112b303aba7405ce52b71cfa06e9c2ecbc9f443e0e8d6f6590a1de7297f5", func := "millrace/millracelaw11.StreamKeeps", spec := "streamKeeps", inPlace := ["internal/bytealg.IndexByteString"], unfollowed := true, recurses := true, apart := false }
def StreamKeepsSaid : Prop := streamKeepsRow.holds Tryz.pinned (OpenSpec.ofChange streamKeepsSpec)

/-- ITS FALSE NEIGHBOUR: 'it returns false'. Refute it at one input. -/
def streamKeepsWrong : ChangeSpec := { name := "streamKeeps", fn := fun _ => fun
  | [d1, d2, d3] => { results := [.lit (.bool false)], args := [d1, d2, d3] }
  | _ => none }
def StreamKeepsWrongFalsely : Prop := streamKeepsRow.holds Tryz.pinned (OpenSpec.ofChange streamKeepsWrong)

/-- 'millracelaw14.PositionAppend': WHATEVER THE INPUT: true; the input reads as it did. -/
def positionAppendSpec : ChangeSpec := { name := "positionAppend", fn := fun _ => fun
  | [d1, d2, d3, d4, d5, d6] => { results := [.lit (.bool true)], args := [d1, d2, d3, d4, d5, d6] }
  | _ => none }
def positionAppendRow : OpenClaim := { program := "ytlgpcngfcglanaagreat", sum := "f775112b303aba7405ce52b71cfa06e9c2ecbc9f443e0e8d6f6590a1de7297f5", func := "millrace/millracelaw14.PositionAppend", spec := "positionAppend", inPlace := ["internal/bytealg.IndexByteString"], unfollowed := true, recurses := true, apart := false }
def PositionAppendSaid : Prop := positionAppendRow.holds Tryz.pinned (OpenSpec.ofChange positionAppendSpec)

/-- ITS FALSE NEIGHBOUR: 'it returns false'. Refute it at one input. -/
def positionAppendWrong : ChangeSpec := { name := "positionAppend", fn := fun _ => fun
  | [d1, d2, d3, d4, d5, d6] => { results := [.lit (.bool false)], args := [d1, d2, d3, d4, d5, d6] }
  | _ => none }
def PositionAppendWrongFalsely : Prop := positionAppendRow.holds Tryz.pinned (OpenSpec.ofChange positionAppendWrong)

/- THE SECOND FORM. 'bulk': how many values and letters a reading holds, each counted each time it is reached (what is shared counts as often as it is met; a slice's spare places count too). A statement '..UptoSaid' is the law's where the arguments, and the package variables that the reading takes, are together of bulk at most 1048576: NARROWER than '..Said'. Prove '..Said' where nothing that the law and all that it calls make is longer than what came in: it says more and counts as full. Else prove '..UptoSaid'. A law counts once. -/
mutual
def uptoBulk {H : Type} : DataW H → Nat
  | .lit (.string bytes) => bytes.length + 1
  | .lit _ => 1
  | .nil => 1
  | .ptr d => uptoBulk d + 1
  | .slice elems spare => uptoBulkAll elems + uptoBulkAll spare + 1
  | .agg parts => uptoBulkAll parts + 1
  | .iface _ d => uptoBulk d + 1
  | .map entries => uptoBulkEntries entries + 1
  | .held _ => 1
def uptoBulkAll {H : Type} : List (DataW H) → Nat
  | [] => 0
  | d :: r => uptoBulk d + uptoBulkAll r
def uptoBulkEntries {H : Type} : List (Lit × DataW H) → Nat
  | [] => 0
  | x :: r => uptoBulkEntry x + uptoBulkEntries r
def uptoBulkEntry {H : Type} : Lit × DataW H → Nat
  | (.string bytes, d) => bytes.length + uptoBulk d + 1
  | (_, d) => uptoBulk d + 1
 end
def uptoSmall : (H : Type) → List (DataW H) → Bool := fun _ ds => decide (uptoBulkAll ds ≤ 1048576)
def OpenSpec.upto (s : _root_.Go.ChangeSpec) : _root_.Go.OpenSpec := { _root_.Go.OpenSpec.ofChange s with cond := some uptoSmall }

/-- 'millracelaw11.StreamTells', WHERE WHAT IT READS IS OF BULK AT MOST 1048576: true; the input reads as it did. -/
def streamTellsUptoRow : OpenClaim := { program := "ytlgpcngfcglanaagreat", sum := "f775112b303aba7405ce52b71cfa06e9c2ecbc9f443e0e8d6f6590a1de7297f5", func := "millrace/millracelaw11.StreamTells", spec := "streamTells", inPlace := ["internal/bytealg.IndexByteString"], unfollowed := true, recurses := true, apart := false, narrowed := true }
def StreamTellsUptoSaid : Prop := streamTellsUptoRow.holds Tryz.pinned (OpenSpec.upto streamTellsSpec)

/-- 'millracelaw11.StreamKeeps', WHERE WHAT IT READS IS OF BULK AT MOST 1048576: true; the input reads as it did. -/
def streamKeepsUptoRow : OpenClaim := { program := "ytlgpcngfcglanaagreat", sum := "f775112b303aba7405ce52b71cfa06e9c2ecbc9f443e0e8d6f6590a1de7297f5", func := "millrace/millracelaw11.StreamKeeps", spec := "streamKeeps", inPlace := ["internal/bytealg.IndexByteString"], unfollowed := true, recurses := true, apart := false, narrowed := true }
def StreamKeepsUptoSaid : Prop := streamKeepsUptoRow.holds Tryz.pinned (OpenSpec.upto streamKeepsSpec)

/-- 'millracelaw14.PositionAppend', WHERE WHAT IT READS IS OF BULK AT MOST 1048576: true; the input reads as it did. -/
def positionAppendUptoRow : OpenClaim := { program := "ytlgpcngfcglanaagreat", sum := "f775112b303aba7405ce52b71cfa06e9c2ecbc9f443e0e8d6f6590a1de7297f5", func := "millrace/millracelaw14.PositionAppend", spec := "positionAppend", inPlace := ["internal/bytealg.IndexByteString"], unfollowed := true, recurses := true, apart := false, narrowed := true }
def PositionAppendUptoSaid : Prop := positionAppendUptoRow.holds Tryz.pinned (OpenSpec.upto positionAppendSpec)

end Rows
end Go.Proofs.YtlgpcngfcglanaaGreat
