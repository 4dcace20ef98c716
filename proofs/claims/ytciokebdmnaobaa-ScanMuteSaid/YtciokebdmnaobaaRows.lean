/-
  No cell of these rows narrows 'for every input' (looked for: loops, veiled, ifaces, maps, wideKeys, modest, calm, conditions, laid).
  DERIVED. THE GIVEN ROWS OF THIS SEAT. 4 by the template 'for every input the law returns true; each argument reads behind the call as it read before'; 0 by the template 'total and deterministic' (their statements: YtciokebdmnaobaaTotals.lean).
  GIVEN WITH THE SEED: the statements are not yours to turn. If you find one false, say at which input.
  Laid BY PROGRAM, IN A SANDBOX (cutbox-rows.mjs): the forced cells as the released guide's own fill.sh prints them over the translation f500fd77ab32ac1f… (all of the seat's roots in one cut). By AI agents, Wed Nov 11 2026. No macro, syntax, notation, axiom, sorry.
-/
import Derived.Test.YtciokebdmnaobaaChecked
import GoSem.Claim
import GoSem.ClaimJoined
import GoSem.ClaimMapViews
import Derived.JoinedTies
import Derived.KernelRfl
namespace Go.Proofs.Ytciokebdmnaobaa
/- THE CELL 'sum', in the pinned program and in every row, IS THE sha256 OF THE DUMP (.gsa) THAT YtciokebdmnaobaaProg.lean LOADS. Nothing in Lean hashes anything: it is a label: what it is worth is what the hold of that sum in a sandbox is worth. -/
noncomputable def Try.pinned : Pinned := { name := "ytciokebdmnaobaa", sum := "f500fd77ab32ac1f74a304cc9c9aec773dd5a89cbd70a1018048080075791b19", checked := Try.checked }
namespace Rows
def none {H : Type} : Left H := { results := [], args := [] }

/-- 'millracelaw12.BufmodeOwn': WHATEVER THE INPUT: true; the input reads as it did. -/
def bufmodeOwnSpec : ChangeSpec := { name := "bufmodeOwn", fn := fun _ => fun
  | [d1, d2, d3, d4] => { results := [.lit (.bool true)], args := [d1, d2, d3, d4] }
  | _ => none }
def bufmodeOwnRow : OpenClaim := { program := "ytciokebdmnaobaa", sum := "f500fd77ab32ac1f74a304cc9c9aec773dd5a89cbd70a1018048080075791b19", func := "millrace/millracelaw12.BufmodeOwn", spec := "bufmodeOwn", unfollowed := true, recurses := true, apart := false }
def BufmodeOwnSaid : Prop := bufmodeOwnRow.holds Try.pinned (OpenSpec.ofChange bufmodeOwnSpec)

/-- ITS FALSE NEIGHBOUR: 'it returns false'. Refute it at one input. -/
def bufmodeOwnWrong : ChangeSpec := { name := "bufmodeOwn", fn := fun _ => fun
  | [d1, d2, d3, d4] => { results := [.lit (.bool false)], args := [d1, d2, d3, d4] }
  | _ => none }
def BufmodeOwnWrongFalsely : Prop := bufmodeOwnRow.holds Try.pinned (OpenSpec.ofChange bufmodeOwnWrong)

/-- 'millracelaw18.ScanMute': WHATEVER THE INPUT: true; the input reads as it did. -/
def scanMuteSpec : ChangeSpec := { name := "scanMute", fn := fun _ => fun
  | [d1, d2, d3] => { results := [.lit (.bool true)], args := [d1, d2, d3] }
  | _ => none }
def scanMuteRow : OpenClaim := { program := "ytciokebdmnaobaa", sum := "f500fd77ab32ac1f74a304cc9c9aec773dd5a89cbd70a1018048080075791b19", func := "millrace/millracelaw18.ScanMute", spec := "scanMute", inPlace := ["internal/bytealg.IndexByteString", "internal/bytealg.IndexByte", "math/bits.Add64"], unfollowed := true, recurses := true, apart := false }
def ScanMuteSaid : Prop := scanMuteRow.holds Try.pinned (OpenSpec.ofChange scanMuteSpec)

/-- ITS FALSE NEIGHBOUR: 'it returns false'. Refute it at one input. -/
def scanMuteWrong : ChangeSpec := { name := "scanMute", fn := fun _ => fun
  | [d1, d2, d3] => { results := [.lit (.bool false)], args := [d1, d2, d3] }
  | _ => none }
def ScanMuteWrongFalsely : Prop := scanMuteRow.holds Try.pinned (OpenSpec.ofChange scanMuteWrong)

/-- 'millracelaw18.ScanTells': WHATEVER THE INPUT: true; the input reads as it did. -/
def scanTellsSpec : ChangeSpec := { name := "scanTells", fn := fun _ => fun
  | [d1, d2] => { results := [.lit (.bool true)], args := [d1, d2] }
  | _ => none }
def scanTellsRow : OpenClaim := { program := "ytciokebdmnaobaa", sum := "f500fd77ab32ac1f74a304cc9c9aec773dd5a89cbd70a1018048080075791b19", func := "millrace/millracelaw18.ScanTells", spec := "scanTells", inPlace := ["internal/bytealg.IndexByteString", "internal/bytealg.IndexByte", "math/bits.Add64"], unfollowed := true, recurses := true, apart := false }
def ScanTellsSaid : Prop := scanTellsRow.holds Try.pinned (OpenSpec.ofChange scanTellsSpec)

/-- ITS FALSE NEIGHBOUR: 'it returns false'. Refute it at one input. -/
def scanTellsWrong : ChangeSpec := { name := "scanTells", fn := fun _ => fun
  | [d1, d2] => { results := [.lit (.bool false)], args := [d1, d2] }
  | _ => none }
def ScanTellsWrongFalsely : Prop := scanTellsRow.holds Try.pinned (OpenSpec.ofChange scanTellsWrong)

/-- 'millracelaw18.ScanSame': WHATEVER THE INPUT: true; the input reads as it did. -/
def scanSameSpec : ChangeSpec := { name := "scanSame", fn := fun _ => fun
  | [d1, d2, d3, d4] => { results := [.lit (.bool true)], args := [d1, d2, d3, d4] }
  | _ => none }
def scanSameRow : OpenClaim := { program := "ytciokebdmnaobaa", sum := "f500fd77ab32ac1f74a304cc9c9aec773dd5a89cbd70a1018048080075791b19", func := "millrace/millracelaw18.ScanSame", spec := "scanSame", inPlace := ["internal/bytealg.IndexByteString", "internal/bytealg.IndexByte", "math/bits.Add64"], unfollowed := true, recurses := true, apart := false }
def ScanSameSaid : Prop := scanSameRow.holds Try.pinned (OpenSpec.ofChange scanSameSpec)

/-- ITS FALSE NEIGHBOUR: 'it returns false'. Refute it at one input. -/
def scanSameWrong : ChangeSpec := { name := "scanSame", fn := fun _ => fun
  | [d1, d2, d3, d4] => { results := [.lit (.bool false)], args := [d1, d2, d3, d4] }
  | _ => none }
def ScanSameWrongFalsely : Prop := scanSameRow.holds Try.pinned (OpenSpec.ofChange scanSameWrong)

/- THE SECOND FORM. 'bulk': how many values and letters a reading holds, each counted each time it is reached (what is shared counts as often as it is met; a slice's spare places count too). A statement '..UptoSaid' is the law's where the arguments, and the package variables that the reading takes, are together of bulk at most 1048576: NARROWER than '..Said'. Prove '..Said' where nothing that the law and all that it calls make is longer than what came in: it says more and counts as full. Else prove '..UptoSaid'. A law counts once. -/
mutual
def uptoBulk {H : Type} : DataW H → Nat
  | .lit (.string bytes) => bytes.length + 1
  | .lit _ => 1
  | .nil => 1
  | .ptr d => uptoBulk d + 1
  | .slice elems spare => uptoBulkAll elems + uptoBulkAll spare + 1
  | .agg parts => uptoBulkAll parts + 1
  | .iface _ d => uptoBulk d + 1
  | .map entries => uptoBulkEntries entries + 1
  | .held _ => 1
def uptoBulkAll {H : Type} : List (DataW H) → Nat
  | [] => 0
  | d :: r => uptoBulk d + uptoBulkAll r
def uptoBulkEntries {H : Type} : List (Lit × DataW H) → Nat
  | [] => 0
  | x :: r => uptoBulkEntry x + uptoBulkEntries r
def uptoBulkEntry {H : Type} : Lit × DataW H → Nat
  | (.string bytes, d) => bytes.length + uptoBulk d + 1
  | (_, d) => uptoBulk d + 1
 end
def uptoSmall : (H : Type) → List (DataW H) → Bool := fun _ ds => decide (uptoBulkAll ds ≤ 1048576)
def OpenSpec.upto (s : _root_.Go.ChangeSpec) : _root_.Go.OpenSpec := { _root_.Go.OpenSpec.ofChange s with cond := some uptoSmall }

/-- 'millracelaw12.BufmodeOwn', WHERE WHAT IT READS IS OF BULK AT MOST 1048576: true; the input reads as it did. -/
def bufmodeOwnUptoRow : OpenClaim := { program := "ytciokebdmnaobaa", sum := "f500fd77ab32ac1f74a304cc9c9aec773dd5a89cbd70a1018048080075791b19", func := "millrace/millracelaw12.BufmodeOwn", spec := "bufmodeOwn", unfollowed := true, recurses := true, apart := false, narrowed := true }
def BufmodeOwnUptoSaid : Prop := bufmodeOwnUptoRow.holds Try.pinned (OpenSpec.upto bufmodeOwnSpec)

/-- 'millracelaw18.ScanMute', WHERE WHAT IT READS IS OF BULK AT MOST 1048576: true; the input reads as it did. -/
def scanMuteUptoRow : OpenClaim := { program := "ytciokebdmnaobaa", sum := "f500fd77ab32ac1f74a304cc9c9aec773dd5a89cbd70a1018048080075791b19", func := "millrace/millracelaw18.ScanMute", spec := "scanMute", inPlace := ["internal/bytealg.IndexByteString", "internal/bytealg.IndexByte", "math/bits.Add64"], unfollowed := true, recurses := true, apart := false, narrowed := true }
def ScanMuteUptoSaid : Prop := scanMuteUptoRow.holds Try.pinned (OpenSpec.upto scanMuteSpec)

/-- 'millracelaw18.ScanTells', WHERE WHAT IT READS IS OF BULK AT MOST 1048576: true; the input reads as it did. -/
def scanTellsUptoRow : OpenClaim := { program := "ytciokebdmnaobaa", sum := "f500fd77ab32ac1f74a304cc9c9aec773dd5a89cbd70a1018048080075791b19", func := "millrace/millracelaw18.ScanTells", spec := "scanTells", inPlace := ["internal/bytealg.IndexByteString", "internal/bytealg.IndexByte", "math/bits.Add64"], unfollowed := true, recurses := true, apart := false, narrowed := true }
def ScanTellsUptoSaid : Prop := scanTellsUptoRow.holds Try.pinned (OpenSpec.upto scanTellsSpec)

/-- 'millracelaw18.ScanSame', WHERE WHAT IT READS IS OF BULK AT MOST 1048576: true; the input reads as it did. -/
def scanSameUptoRow : OpenClaim := { program := "ytciokebdmnaobaa", sum := "f500fd77ab32ac1f74a304cc9c9aec773dd5a89cbd70a1018048080075791b19", func := "millrace/millracelaw18.ScanSame", spec := "scanSame", inPlace := ["internal/bytealg.IndexByteString", "internal/bytealg.IndexByte", "math/bits.Add64"], unfollowed := true, recurses := true, apart := false, narrowed := true }
def ScanSameUptoSaid : Prop := scanSameUptoRow.holds Try.pinned (OpenSpec.upto scanSameSpec)

end Rows
end Go.Proofs.Ytciokebdmnaobaa
