/- Texts joined, in order: Ca, Ix, Sh, Ua, Ub, Uc, Ud, Ue, Uf, Ug, Uh, Um. -/
import Derived.Test.YtlajpggoncelhaaDoorZEmGb
import Derived.Test.YtlajpggoncelhaaDoorZGeTab
import Derived.Lib.Bytealg
import Derived.Ground.NamesProg
import Derived.Shelf.Bits.Mul64
import Derived.Shelf.Bytes.GrowSlice
import Derived.Shelf.Bytes.GrowSliceCatch
import Derived.Shelf.Bytes.IndexByte
import Derived.Shelf.LaysM
import Derived.Shelf.Small.Strs
import Derived.Shelf.Small.Utf8
import Derived.Shelf.Strings.Builder1
import Derived.Shelf.Strings.Builder2
import Derived.Shelf.Strings.BuilderF
import Derived.Shelf.Strings.OnBuilder
import Derived.Shelf.Strings.Prefix
import Derived.Shelf.Strings.Repeat
import Derived.Shelf.Strings.Search1
import Derived.Shelf.Unicode.CaseConvert
import Derived.Shelf.Unicode.CaseLaid
import Derived.Shelf.Unicode.CaseLookup
import Derived.Shelf.Unicode.CaseTo
import Derived.Shelf.Unicode.Decode
import Derived.Shelf.Unicode.DecodeAny
import Derived.Shelf.Unicode.DecodeSlow
import Derived.Shelf.Unicode.Latin
import Derived.Test.YtlajpggoncelhaaDoorProg
import Derived.Lib.IndexAny
/- Contracts of the small functions of the buffer's mode. -/
namespace Go.Proofs.YtlajpggoncelhaaDoor
open Go Go.Eng
set_option maxHeartbeats 4000000
set_option linter.unusedSimpArgs false
set_option linter.unusedVariables false
set_option maxRecDepth 100000

def mayV (m s : Int) : Int := if m < 1 ∨ 3 < m then 1 else if s < 1 ∨ 65536 < s then 4 else 0



theorem mixed : Tryd.prog.follows .mixedOrders = true := by kernel_rfl

end Go.Proofs.YtlajpggoncelhaaDoor
/- A byte's place in a text. -/
namespace Go.Proofs.YtlajpggoncelhaaDoor
open Go Go.Eng
set_option maxHeartbeats 4000000
set_option linter.unusedSimpArgs false
set_option linter.unusedVariables false
set_option maxRecDepth 100000

/-- A byte's place in a text; -1: it is not there. -/
def idxB (x : ByteArray) (c : Int) : Int := Go.Lib.indexByte x.data.toList c.toNat.toUInt8
theorem ext_index (x : ByteArray) (c : Int) : ExtPure Tryd.prog 54 [.s x, .i .u8 c] (.i .i64 (idxB x c)) := by
  intro E w vs hv
  match vs, hv with
  | [a, b], hv =>
    simp only [DenL, Den] at hv
    obtain ⟨rfl, rfl, _⟩ := hv
    refine ⟨.int .i64 (idxB x c), ?_, by simp only [Den]⟩
    rw [run_callFunc_extern Tryd.func54 (by kernel_rfl) (by kernel_rfl) (by kernel_rfl) (e := Extern.BytealgIndexByte.indexByte) (by kernel_rfl)]
    have := Go.Lib.run_indexByteString (P := Tryd.prog) x c w
    rw [show ([Value.string x, Value.int IntKind.u8 c] : List Value).toArray = #[Value.string x, Value.int IntKind.u8 c] from rfl, this]
    rfl
  | [], hv => simp only [DenL] at hv
  | [_], hv => simp only [DenL] at hv; exact hv.2.elim
  | _ :: _ :: _ :: _, hv => simp only [DenL] at hv; exact hv.2.2.elim
theorem indexL_c (x : ByteArray) (c : Int) : Contract Tryd.prog 34 nilSS [.s x, .i .u8 c] (fun sv post => sv = .i .i64 (idxB x c) ∧ post = nilSS) := by
  refine contract_ev Γok Tryd.func34 rfl rfl [] ?_
  simp (maxSteps := 4000000) only [push_cast, Int.reduceEq, Int.reduceBNe, Int.reduceBEq, Int.reduceAdd, Int.reduceSub, Int.reduceMul, Int.reduceNeg, Int.reduceLT, Int.reduceLE, Int.reduceToNat, Nat.reduceLT, Nat.reduceAdd, Nat.reduceSub, Nat.reduceMul, Nat.reduceEqDiff, Nat.reduceLeDiff, Nat.reduceBEq, reduceIte, reduceCtorEq, Tryd.f34]
  refine .inr ⟨_, ext_index x c, ?_⟩
  simp (maxSteps := 4000000) only [push_cast, Int.reduceEq, Int.reduceBNe, Int.reduceBEq, Int.reduceAdd, Int.reduceSub, Int.reduceMul, Int.reduceNeg, Int.reduceLT, Int.reduceLE, Int.reduceToNat, Nat.reduceLT, Nat.reduceAdd, Nat.reduceSub, Nat.reduceMul, Nat.reduceEqDiff, Nat.reduceLeDiff, Nat.reduceBEq, reduceIte, reduceCtorEq]
  exact Fin.nil rfl (psv := .i .i64 (idxB x c)) (by simp (maxSteps := 4000000) only [push_cast, Int.reduceEq, Int.reduceBNe, Int.reduceBEq, Int.reduceAdd, Int.reduceSub, Int.reduceMul, Int.reduceNeg, Int.reduceLT, Int.reduceLE, Int.reduceToNat, Nat.reduceLT, Nat.reduceAdd, Nat.reduceSub, Nat.reduceMul, Nat.reduceEqDiff, Nat.reduceLeDiff, Nat.reduceBEq, reduceIte, reduceCtorEq]) ⟨rfl, rfl⟩
theorem index_c (x : ByteArray) (c : Int) : Contract Tryd.prog 22 nilSS [.s x, .i .u8 c] (fun sv post => sv = .i .i64 (idxB x c) ∧ post = nilSS) := by
  refine contract_ev Γok Tryd.func22 rfl rfl [] ?_
  simp (maxSteps := 4000000) only [push_cast, Int.reduceEq, Int.reduceBNe, Int.reduceBEq, Int.reduceAdd, Int.reduceSub, Int.reduceMul, Int.reduceNeg, Int.reduceLT, Int.reduceLE, Int.reduceToNat, Nat.reduceLT, Nat.reduceAdd, Nat.reduceSub, Nat.reduceMul, Nat.reduceEqDiff, Nat.reduceLeDiff, Nat.reduceBEq, reduceIte, reduceCtorEq, Tryd.f22]
  refine call_w (indexL_c x c) [] (by simp (maxSteps := 4000000) only [push_cast, Int.reduceEq, Int.reduceBNe, Int.reduceBEq, Int.reduceAdd, Int.reduceSub, Int.reduceMul, Int.reduceNeg, Int.reduceLT, Int.reduceLE, Int.reduceToNat, Nat.reduceLT, Nat.reduceAdd, Nat.reduceSub, Nat.reduceMul, Nat.reduceEqDiff, Nat.reduceLeDiff, Nat.reduceBEq, reduceIte, reduceCtorEq]) ?_
  rintro sv post ⟨rfl, rfl⟩
  simp (maxSteps := 4000000) only [push_cast, Int.reduceEq, Int.reduceBNe, Int.reduceBEq, Int.reduceAdd, Int.reduceSub, Int.reduceMul, Int.reduceNeg, Int.reduceLT, Int.reduceLE, Int.reduceToNat, Nat.reduceLT, Nat.reduceAdd, Nat.reduceSub, Nat.reduceMul, Nat.reduceEqDiff, Nat.reduceLeDiff, Nat.reduceBEq, reduceIte, reduceCtorEq]
  exact Fin.nil rfl (psv := .i .i64 (idxB x c)) (by simp (maxSteps := 4000000) only [push_cast, Int.reduceEq, Int.reduceBNe, Int.reduceBEq, Int.reduceAdd, Int.reduceSub, Int.reduceMul, Int.reduceNeg, Int.reduceLT, Int.reduceLE, Int.reduceToNat, Nat.reduceLT, Nat.reduceAdd, Nat.reduceSub, Nat.reduceMul, Nat.reduceEqDiff, Nat.reduceLeDiff, Nat.reduceBEq, reduceIte, reduceCtorEq]) ⟨rfl, rfl⟩

end Go.Proofs.YtlajpggoncelhaaDoor
/-
  DERIVED: THE SHELF's CONTRACTS AT THIS DUMP, IN PLAIN WORDS (tools/lay-plain.mjs out of 'YtlajpggoncelhaaDoorSh.lean', which tools/lay-shelf.mjs wrote): THE SAME DECLARATIONS UNDER THE SAME NAMES: 'import', 'namespace', 'open', 'def', 'theorem' AND NOTHING ELSE: no command of the shelf's: FOR A HAND-IN. Each laying: the table of numbers ('.._ren') and one theorem, a field a fact of the dump's own or the kernel's comparison; each contract: ONE APPLICATION.
-/
namespace Go.Proofs
open Go.Shelf
def Tryd.lays158_ren : Go.Shelf.Ren := ⟨fun | 158 => 36 | 165 => 38 | 166 => 39 | 167 => 56 | 169 => 41 | 230 => 57 | 203 => 58 | 240 => 61 | 241 => 62 | 197 => 71 | 118 => 72 | 168 => 73 | 270 => 74 | 262 => 75 | 276 => 76 | 277 => 77 | 260 => 81 | 242 => 82 | 313 => 83 | 278 => 85 | 274 => 86 | 275 => 87 | n => n, fun | 9 => 9 | 4 => 4 | 3 => 3 | 5 => 5 | 72 => 94 | 0 => 0 | 76 => 52 | 75 => 51 | 107 => 106 | 70 => 92 | 20 => 20 | 37 => 31 | 127 => 112 | 21 => 21 | 105 => 121 | 164 => 126 | 162 => 134 | 203 => 132 | 119 => 136 | 46 => 89 | 139 => 139 | 138 => 138 | 51 => 107 | 160 => 140 | 208 => 146 | 206 => 144 | 80 => 96 | n => n, fun | 13 => 2 | 3 => 3 | 4 => 4 | n => n⟩
theorem Tryd.lays158 : Go.Proofs.Lays.n158 Tryd.prog Tryd.lays158_ren := {
  mixed := by kernel_rfl
  f118 := Tryd.func72.trans (congrArg some (by kernel_rfl))
  f158 := Tryd.func36.trans (congrArg some (by kernel_rfl))
  f165 := Tryd.func38.trans (congrArg some (by kernel_rfl))
  f166 := Tryd.func39.trans (congrArg some (by kernel_rfl))
  f167 := Tryd.func56.trans (congrArg some (by kernel_rfl))
  f168 := Tryd.func73.trans (congrArg some (by kernel_rfl))
  f169 := Tryd.func41.trans (congrArg some (by kernel_rfl))
  f197 := Tryd.func71.trans (congrArg some (by kernel_rfl))
  f203 := Tryd.func58.trans (congrArg some (by kernel_rfl))
  f230 := Tryd.func57.trans (congrArg some (by kernel_rfl))
  f240 := Tryd.func61.trans (congrArg some (by kernel_rfl))
  f241 := Tryd.func62.trans (congrArg some (by kernel_rfl))
  f242 := Tryd.func82.trans (congrArg some (by kernel_rfl))
  f260 := Tryd.func81.trans (congrArg some (by kernel_rfl))
  f262 := Tryd.func75.trans (congrArg some (by kernel_rfl))
  f270 := Tryd.func74.trans (congrArg some (by kernel_rfl))
  f274 := Tryd.func86.trans (congrArg some (by kernel_rfl))
  f275 := Tryd.func87.trans (congrArg some (by kernel_rfl))
  f276 := Tryd.func76.trans (congrArg some (by kernel_rfl))
  f277 := Tryd.func77.trans (congrArg some (by kernel_rfl))
  f278 := Tryd.func85.trans (congrArg some (by kernel_rfl))
  f313 := Tryd.func83.trans (congrArg some (by kernel_rfl))
  t0 := Tryd.underlying0
  a0 := Tryd.isAgg0
  z0 := Tryd.sizeOf0
  v0 := Tryd.zeroValue0
  t3 := Tryd.underlying3
  a3 := Tryd.isAgg3
  z3 := Tryd.sizeOf3
  v3 := Tryd.zeroValue3
  t4 := Tryd.underlying4
  a4 := Tryd.isAgg4
  z4 := Tryd.sizeOf4
  v4 := Tryd.zeroValue4
  t5 := Tryd.underlying5
  a5 := Tryd.isAgg5
  z5 := Tryd.sizeOf5
  v5 := Tryd.zeroValue5
  t9 := Tryd.underlying9
  a9 := Tryd.isAgg9
  z9 := Tryd.sizeOf9
  v9 := Tryd.zeroValue9
  t20 := Tryd.underlying20
  a20 := Tryd.isAgg20
  z20 := Tryd.sizeOf20
  v20 := Tryd.zeroValue20
  t21 := Tryd.underlying21
  a21 := Tryd.isAgg21
  z21 := Tryd.sizeOf21
  v21 := Tryd.zeroValue21
  t37 := Tryd.underlying31
  a37 := Tryd.isAgg31
  z37 := Tryd.sizeOf31
  v37 := Tryd.zeroValue31
  t46 := Tryd.underlying89
  a46 := Tryd.isAgg89
  z46 := Tryd.sizeOf89
  v46 := Tryd.zeroValue89
  t51 := Tryd.underlying107
  a51 := Tryd.isAgg107
  z51 := Tryd.sizeOf107
  v51 := Tryd.zeroValue107
  t70 := Tryd.underlying92
  a70 := Tryd.isAgg92
  z70 := Tryd.sizeOf92
  v70 := Tryd.zeroValue92
  t72 := Tryd.underlying94
  a72 := Tryd.isAgg94
  z72 := Tryd.sizeOf94
  v72 := Tryd.zeroValue94
  t75 := Tryd.underlying51
  a75 := Tryd.isAgg51
  z75 := Tryd.sizeOf51
  v75 := Tryd.zeroValue51
  t76 := Tryd.underlying52
  a76 := Tryd.isAgg52
  z76 := Tryd.sizeOf52
  v76 := Tryd.zeroValue52
  t105 := Tryd.underlying121
  a105 := Tryd.isAgg121
  z105 := Tryd.sizeOf121
  v105 := Tryd.zeroValue121
  t107 := Tryd.underlying106
  a107 := Tryd.isAgg106
  z107 := Tryd.sizeOf106
  v107 := Tryd.zeroValue106
  t119 := Tryd.underlying136
  a119 := Tryd.isAgg136
  z119 := Tryd.sizeOf136
  t127 := Tryd.underlying112
  a127 := Tryd.isAgg112
  z127 := Tryd.sizeOf112
  v127 := Tryd.zeroValue112
  t138 := Tryd.underlying138
  a138 := Tryd.isAgg138
  z138 := Tryd.sizeOf138
  v138 := Tryd.zeroValue138
  t139 := Tryd.underlying139
  a139 := Tryd.isAgg139
  z139 := Tryd.sizeOf139
  v139 := Tryd.zeroValue139
  t160 := Tryd.underlying140
  a160 := Tryd.isAgg140
  z160 := Tryd.sizeOf140
  v160 := Tryd.zeroValue140
  t162 := Tryd.underlying134
  a162 := Tryd.isAgg134
  z162 := Tryd.sizeOf134
  v162 := Tryd.zeroValue134
  t164 := Tryd.underlying126
  a164 := Tryd.isAgg126
  z164 := Tryd.sizeOf126
  v164 := Tryd.zeroValue126
  t203 := Tryd.underlying132
  a203 := Tryd.isAgg132
  z203 := Tryd.sizeOf132
  v203 := Tryd.zeroValue132
  t206 := Tryd.underlying144
  a206 := Tryd.isAgg144
  z206 := Tryd.sizeOf144
  v206 := Tryd.zeroValue144
  t208 := Tryd.underlying146
  a208 := Tryd.isAgg146
  z208 := Tryd.sizeOf146
  v208 := Tryd.zeroValue146
  g3 := by kernel_rfl
  g4 := by kernel_rfl
  g13 := by kernel_rfl }
theorem Tryd.Builder_Extra_158 : Builder.Extra Tryd.prog Tryd.lays158_ren := {
  sizeBuilder := by kernel_rfl
  liesBuilder := by kernel_rfl
  t5 := Tryd.underlying5
  a5 := Tryd.isAgg5
  z5 := Tryd.sizeOf5
  v5 := Tryd.zeroValue5
  infoByte := by kernel_rfl
  cellsByte := by kernel_rfl
  sizeByte := by kernel_rfl
  neB5 := by decide }
open Go.RowKit in
/-- strings.ToUpper: "ToUpper returns s with all Unicode letters mapped to their upper case.": ON ASCII TEXT OF AT MOST 2^47 BYTES. Below the heap's end the world is as it was: where a letter turns, the call makes a builder and its buffer. (LAID: no walk: one application.) -/
theorem Tryd.strings_ToUpper_ascii (s : ByteArray) (w : World) (hs : s.size ≤ 140737488355328) (hascii : ∀ (j : Nat) (b : UInt8), s.data.toList[j]? = some b → b.toNat < 128) :
    Calls Tryd.prog 36 #[.string s] w fun e w' => e = .returned (.string ⟨(Lib.toUpperA s.data.toList).toArray⟩) ∧ Below w.heap.size w w' := Any.strings_ToUpper_ascii Tryd.lays158 Tryd.Builder_Extra_158 s w hs hascii
def Tryd.laysM290_ren : Go.Shelf.Ren := ⟨fun | 290 => 43 | 324 => 63 | n => n, fun | 37 => 31 | 3 => 3 | 0 => 0 | 4 => 4 | 20 => 20 | 75 => 51 | 5 => 5 | 80 => 96 | 9 => 9 | n => n, fun | 14 => 0 | n => n⟩
theorem Tryd.laysM290 : Go.Proofs.LaysM.n290 Tryd.prog Tryd.laysM290_ren := {
  mixed := by kernel_rfl
  f290 := Tryd.func43.trans (congrArg some (by kernel_rfl))
  f324 := Tryd.func63.trans (congrArg some (by kernel_rfl))
  t0 := Tryd.underlying0
  a0 := Tryd.isAgg0
  z0 := Tryd.sizeOf0
  v0 := Tryd.zeroValue0
  t3 := Tryd.underlying3
  a3 := Tryd.isAgg3
  z3 := Tryd.sizeOf3
  v3 := Tryd.zeroValue3
  t4 := Tryd.underlying4
  a4 := Tryd.isAgg4
  z4 := Tryd.sizeOf4
  v4 := Tryd.zeroValue4
  t20 := Tryd.underlying20
  a20 := Tryd.isAgg20
  z20 := Tryd.sizeOf20
  v20 := Tryd.zeroValue20
  t37 := Tryd.underlying31
  a37 := Tryd.isAgg31
  z37 := Tryd.sizeOf31
  v37 := Tryd.zeroValue31
  t75 := Tryd.underlying51
  a75 := Tryd.isAgg51
  z75 := Tryd.sizeOf51
  v75 := Tryd.zeroValue51
  g14 := by kernel_rfl
  t5 := Tryd.underlying5
  a5 := Tryd.isAgg5
  z5 := Tryd.sizeOf5
  v5 := Tryd.zeroValue5
  t9 := Tryd.underlying9
  a9 := Tryd.isAgg9
  z9 := Tryd.sizeOf9
  v9 := Tryd.zeroValue9
  t80 := Tryd.underlying96
  a80 := Tryd.isAgg96
  z80 := Tryd.sizeOf96
  v80 := Tryd.zeroValue96
  i0 := by kernel_rfl
  i3 := by kernel_rfl
  i4 := by kernel_rfl
  i5 := by kernel_rfl
  i9 := by kernel_rfl
  i20 := by kernel_rfl
  i37 := by kernel_rfl
  i75 := by kernel_rfl
  i80 := by kernel_rfl
  m14 := by kernel_rfl }
open Go.RowKit in
/-- bytes.growSlice: "growSlice grows b by n, preserving the original content of b.": OF A SLICE THAT LIES AT THE HEAD OF A ROW: a new row, number 'w.heap.size': it begins with b's l cells; its capacity has room for n more; whatever lay below is as it was. (LAID: no walk: one application.) -/
theorem Tryd.bytes_growSlice_row (g l c n : Nat) (cur : Array Value) (w : World) (hg : w.heap[g]? = some (.cells cur 5 (0, 0))) (hcs : cur.size = c) (hlc : l ≤ c) (hn : 1 ≤ n) (hlim : l + n ≤ 140737488355328) (hc2 : c ≤ 140737488355328) (h1 : ∀ v ∈ cur.toList.take l, v.oneCell' = true) :
    Calls Tryd.prog 43 #[.slice (some ⟨g, 0, none⟩) l c, .int .i64 n] w fun e w' => ∃ cap2 cells, e = .returned (.slice (some ⟨w.heap.size, 0, none⟩) l cap2) ∧ w'.heap[w.heap.size]? = some (.cells cells 5 (0, 0)) ∧
      cells.size = cap2 ∧ cells.toList.take l = cur.toList.take l ∧ l + n ≤ cap2 ∧ cap2 ≤ maxLen ∧ Below w.heap.size w w' := Any.bytes_growSlice_row Tryd.laysM290 g l c n cur w hg hcs hlc hn hlim hc2 h1
open Go.RowKit in
/-- .. OF THE NIL SLICE: a new row with room for n. (LAID: no walk: one application.) -/
theorem Tryd.bytes_growSlice_nil (n : Nat) (w : World) (hn : 1 ≤ n) (hlim : n ≤ 140737488355328) :
    Calls Tryd.prog 43 #[.slice none 0 0, .int .i64 n] w fun e w' => ∃ cap2 cells, e = .returned (.slice (some ⟨w.heap.size, 0, none⟩) 0 cap2) ∧ w'.heap[w.heap.size]? = some (.cells cells 5 (0, 0)) ∧
      cells.size = cap2 ∧ n ≤ cap2 ∧ cap2 ≤ maxLen ∧ Below w.heap.size w w' := Any.bytes_growSlice_nil Tryd.laysM290 n w hn hlim
def Tryd.lays99_ren : Go.Shelf.Ren := ⟨fun | 99 => 21 | 206 => 33 | n => n, fun | 9 => 9 | 4 => 4 | 3 => 3 | n => n, fun | n => n⟩
theorem Tryd.lays99 : Go.Proofs.Lays.n99 Tryd.prog Tryd.lays99_ren := {
  mixed := by kernel_rfl
  f99 := Tryd.func21.trans (congrArg some (by kernel_rfl))
  f206 := Tryd.func33.trans (congrArg some (by kernel_rfl))
  t3 := Tryd.underlying3
  a3 := Tryd.isAgg3
  z3 := Tryd.sizeOf3
  v3 := Tryd.zeroValue3
  t4 := Tryd.underlying4
  a4 := Tryd.isAgg4
  z4 := Tryd.sizeOf4
  v4 := Tryd.zeroValue4
  t9 := Tryd.underlying9
  a9 := Tryd.isAgg9
  z9 := Tryd.sizeOf9
  v9 := Tryd.zeroValue9 }
open Go.RowKit Go.Lib in
/-- strings.HasPrefix: "HasPrefix reports whether the string s begins with prefix.": IT RETURNS 'Lib.hasPrefix s prefix'; the world is as it was. (LAID: no walk: one application.) -/
theorem Tryd.strings_HasPrefix (s p : ByteArray) (w : World) :
    Calls Tryd.prog 21 #[.string s, .string p] w fun e w' => e = .returned (.bool (Lib.hasPrefix s.data.toList p.data.toList)) ∧ w' = w := Any.strings_HasPrefix Tryd.lays99 s p w
def Tryd.lays105_ren : Go.Shelf.Ren := ⟨fun | 105 => 27 | 212 => 37 | 99 => 21 | 165 => 38 | 166 => 39 | 170 => 40 | 169 => 41 | 263 => 59 | 264 => 60 | 206 => 33 | 240 => 61 | 241 => 62 | 276 => 76 | 277 => 77 | n => n, fun | 9 => 9 | 3 => 3 | 4 => 4 | 20 => 20 | 0 => 0 | 46 => 89 | 109 => 90 | 5 => 5 | 72 => 94 | 76 => 52 | 51 => 107 | 146 => 108 | 53 => 22 | 148 => 110 | 70 => 92 | 37 => 31 | 75 => 51 | 127 => 112 | 164 => 126 | 80 => 96 | n => n, fun | n => n⟩
theorem Tryd.lays105 : Go.Proofs.Lays.n105 Tryd.prog Tryd.lays105_ren := {
  mixed := by kernel_rfl
  f99 := Tryd.func21.trans (congrArg some (by kernel_rfl))
  f105 := Tryd.func27.trans (congrArg some (by kernel_rfl))
  f165 := Tryd.func38.trans (congrArg some (by kernel_rfl))
  f166 := Tryd.func39.trans (congrArg some (by kernel_rfl))
  f169 := Tryd.func41.trans (congrArg some (by kernel_rfl))
  f170 := Tryd.func40.trans (congrArg some (by kernel_rfl))
  f206 := Tryd.func33.trans (congrArg some (by kernel_rfl))
  f212 := Tryd.func37.trans (congrArg some (by kernel_rfl))
  f240 := Tryd.func61.trans (congrArg some (by kernel_rfl))
  f241 := Tryd.func62.trans (congrArg some (by kernel_rfl))
  f263 := Tryd.func59.trans (congrArg some (by kernel_rfl))
  f264 := Tryd.func60.trans (congrArg some (by kernel_rfl))
  f276 := Tryd.func76.trans (congrArg some (by kernel_rfl))
  f277 := Tryd.func77.trans (congrArg some (by kernel_rfl))
  t0 := Tryd.underlying0
  a0 := Tryd.isAgg0
  z0 := Tryd.sizeOf0
  v0 := Tryd.zeroValue0
  t3 := Tryd.underlying3
  a3 := Tryd.isAgg3
  z3 := Tryd.sizeOf3
  v3 := Tryd.zeroValue3
  t4 := Tryd.underlying4
  a4 := Tryd.isAgg4
  z4 := Tryd.sizeOf4
  v4 := Tryd.zeroValue4
  t5 := Tryd.underlying5
  a5 := Tryd.isAgg5
  z5 := Tryd.sizeOf5
  v5 := Tryd.zeroValue5
  t9 := Tryd.underlying9
  a9 := Tryd.isAgg9
  z9 := Tryd.sizeOf9
  v9 := Tryd.zeroValue9
  t20 := Tryd.underlying20
  a20 := Tryd.isAgg20
  z20 := Tryd.sizeOf20
  v20 := Tryd.zeroValue20
  t37 := Tryd.underlying31
  a37 := Tryd.isAgg31
  z37 := Tryd.sizeOf31
  v37 := Tryd.zeroValue31
  t46 := Tryd.underlying89
  a46 := Tryd.isAgg89
  z46 := Tryd.sizeOf89
  v46 := Tryd.zeroValue89
  t51 := Tryd.underlying107
  a51 := Tryd.isAgg107
  z51 := Tryd.sizeOf107
  v51 := Tryd.zeroValue107
  t53 := Tryd.underlying22
  a53 := Tryd.isAgg22
  z53 := Tryd.sizeOf22
  v53 := Tryd.zeroValue22
  t70 := Tryd.underlying92
  a70 := Tryd.isAgg92
  z70 := Tryd.sizeOf92
  v70 := Tryd.zeroValue92
  t72 := Tryd.underlying94
  a72 := Tryd.isAgg94
  z72 := Tryd.sizeOf94
  v72 := Tryd.zeroValue94
  t75 := Tryd.underlying51
  a75 := Tryd.isAgg51
  z75 := Tryd.sizeOf51
  v75 := Tryd.zeroValue51
  t76 := Tryd.underlying52
  a76 := Tryd.isAgg52
  z76 := Tryd.sizeOf52
  v76 := Tryd.zeroValue52
  t109 := Tryd.underlying90
  a109 := Tryd.isAgg90
  z109 := Tryd.sizeOf90
  v109 := Tryd.zeroValue90
  t127 := Tryd.underlying112
  a127 := Tryd.isAgg112
  z127 := Tryd.sizeOf112
  v127 := Tryd.zeroValue112
  t146 := Tryd.underlying108
  a146 := Tryd.isAgg108
  z146 := Tryd.sizeOf108
  v146 := Tryd.zeroValue108
  t148 := Tryd.underlying110
  a148 := Tryd.isAgg110
  z148 := Tryd.sizeOf110
  v148 := Tryd.zeroValue110
  t164 := Tryd.underlying126
  a164 := Tryd.isAgg126
  z164 := Tryd.sizeOf126
  v164 := Tryd.zeroValue126 }
theorem Tryd.Builder_Extra_105 : Builder.Extra Tryd.prog Tryd.lays105_ren := {
  sizeBuilder := by kernel_rfl
  liesBuilder := by kernel_rfl
  t5 := Tryd.underlying5
  a5 := Tryd.isAgg5
  z5 := Tryd.sizeOf5
  v5 := Tryd.zeroValue5
  infoByte := by kernel_rfl
  cellsByte := by kernel_rfl
  sizeByte := by kernel_rfl
  neB5 := by decide }
open Go.RowKit Go.Lib in
/-- **strings.Repeat: count ≥ 0, the result within one allocation: count copies of s.** (LAID: no walk: one application.) -/
theorem Tryd.strings_Repeat (s : ByteArray) (c : Nat) (w : World) (hc : c ≤ 9223372036854775807) (hlen : s.size * c ≤ 140737488355328) :
    Calls Tryd.prog 27 #[.string s, .int .i64 c] w fun e w' => e = .returned (.string ⟨(Lib.repeatL s.data.toList c).toArray⟩) ∧ Below w.heap.size w w' := Any.strings_Repeat Tryd.lays105 Tryd.Builder_Extra_105 s c w hc hlen
def Tryd.lays187_ren : Go.Shelf.Ren := ⟨fun | 187 => 84 | 255 => 88 | n => n, fun | 37 => 31 | 5 => 5 | 3 => 3 | n => n, fun | n => n⟩
theorem Tryd.lays187 : Go.Proofs.Lays.n187 Tryd.prog Tryd.lays187_ren := {
  mixed := by kernel_rfl
  f187 := Tryd.func84.trans (congrArg some (by kernel_rfl))
  f255 := Tryd.func88.trans (congrArg some (by kernel_rfl))
  t3 := Tryd.underlying3
  a3 := Tryd.isAgg3
  z3 := Tryd.sizeOf3
  v3 := Tryd.zeroValue3
  t5 := Tryd.underlying5
  a5 := Tryd.isAgg5
  z5 := Tryd.sizeOf5
  v5 := Tryd.zeroValue5
  t37 := Tryd.underlying31
  a37 := Tryd.isAgg31
  z37 := Tryd.sizeOf31
  v37 := Tryd.zeroValue31 }
/-- bytes.IndexByte: "IndexByte returns the index of the first instance of c in b, or -1 if c is not present in b.": IT RETURNS 'Lib.indexByte (the bytes of b) c'; the world is as it was. 'xs': the numbers that the slice's cells hold. (LAID: no walk: one application.) -/
theorem Tryd.bytes_IndexByte (b o n c : Nat) (xs : List Int) (cv : Int) (w : World) (hx : xs.length = n) (hc : ∀ i, i < n → w.cell? ⟨b, o + i, none⟩ = some (.int .u8 (xs.getD i 0))) :
    Calls Tryd.prog 84 #[.slice (some ⟨b, o, none⟩) n c, .int .u8 cv] w fun e w' => e = .returned (.int .i64 (Lib.indexByte (Lib.bytesOf xs) cv.toNat.toUInt8)) ∧ w' = w := Any.bytes_IndexByte Tryd.lays187 b o n c xs cv w hx hc
end Go.Proofs
/- Format, the plain law: what a pattern with values is, over lists of bytes. -/
namespace Go.Proofs.YtlajpggoncelhaaDoor
open Go Go.Eng
set_option maxHeartbeats 4000000
set_option linter.unusedSimpArgs false
set_option linter.unusedVariables false

/-- A text of bytes. -/
def bs (l : List UInt8) : ByteArray := ⟨l.toArray⟩
def ofU (l : List UInt8) : List Int := l.map fun c => (c.toNat : Int)
theorem mk_bs (l : List UInt8) : (⟨l.toArray⟩ : ByteArray) = bs l := rfl
theorem bs_of (x : ByteArray) : bs x.data.toList = x := by obtain ⟨⟨x⟩⟩ := x; rfl
theorem bs_data (l : List UInt8) : (bs l).data.toList = l := rfl
theorem bs_size (l : List UInt8) : (bs l).size = l.length := rfl
theorem bs_inj {l m : List UInt8} : bs l = bs m ↔ l = m := ⟨fun h => by rw [← bs_data l, h, bs_data], fun h => by rw [h]⟩
theorem bs_cut (l : List UInt8) (a b : Nat) : (bs l).extract a b = bs ((l.take b).drop a) := by
  apply ByteArray.ext
  simp [bs, ByteArray.data_extract, List.drop_take]
theorem bs_app (l m : List UInt8) : bs l ++ bs m = bs (l ++ m) := by
  apply ByteArray.ext
  simp [bs, ByteArray.data_append]
theorem bs_at (l : List UInt8) (i : Int) : byteAt (bs l) i = (((l[i.toNat]?).getD 0).toNat : Int) := by
  unfold byteAt
  congr 2
  show ((bs l)[i.toNat]?).getD 0 = _
  congr 1
  by_cases h : i.toNat < l.length
  · rw [getElem?_pos _ _ (by simpa [bs_size] using h), List.getElem?_eq_getElem h]
    rfl
  · rw [getElem?_neg _ _ (by simpa [bs_size] using h), List.getElem?_eq_none (by omega)]
theorem bs_at0 (c : UInt8) (l : List UInt8) : byteAt (bs (c :: l)) 0 = (c.toNat : Int) := by rw [bs_at]; rfl
theorem bs_beq (l m : List UInt8) : ((bs l).toList == (bs m).toList) = (l == m) := by
  rw [ByteArray.toList_eq, ByteArray.toList_eq, bs_data, bs_data]
theorem bs_tl (l m : List UInt8) : ((bs l).toList = (bs m).toList) = (l = m) := by
  rw [ByteArray.toList_eq, ByteArray.toList_eq, bs_data, bs_data]
theorem bs_str (l : List UInt8) : strOf (ofU l) = bs l := by
  unfold strOf ofU bs
  congr 2
  rw [List.map_map]
  conv => rhs; rw [← List.map_id l]
  apply List.map_congr_left
  intro c _
  simp
theorem bs_bytes (l : List UInt8) : bytesOf (bs l) = ofU l := rfl
theorem idx_bs (l : List UInt8) (c : UInt8) : idxB (bs l) (c.toNat : Int) = Go.Lib.indexByte l c := by
  unfold idxB
  rw [bs_data]
  congr 1
  simp
theorem indexU_c (s : List UInt8) (c : UInt8) : Contract Tryd.prog 22 nilSS [.s (bs s), .i .u8 (c.toNat : Int)] (fun sv post => sv = .i .i64 (Go.Lib.indexByte s c) ∧ post = nilSS) := by
  have h := index_c (bs s) (c.toNat : Int)
  rw [idx_bs] at h
  exact h
theorem idx_nn (l : List UInt8) (c : UInt8) : 0 ≤ Go.Lib.indexByte l c ↔ l.contains c = true := by rw [Go.Lib.contains_iff_indexByte]; simp
theorem ofU_app (l m : List UInt8) : ofU (l ++ m) = ofU l ++ ofU m := by simp [ofU]
theorem ofU_len (l : List UInt8) : (ofU l).length = l.length := by simp [ofU]
theorem ofU_inj {l m : List UInt8} : ofU l = ofU m ↔ l = m := ⟨fun h => by
  have := congrArg strOf h
  rw [bs_str, bs_str] at this
  exact bs_inj.1 this, fun h => by rw [h]⟩
theorem idx_ng (l : List UInt8) (c : UInt8) : Go.Lib.indexByte l c < 0 ↔ l.contains c = false := by
  have := idx_nn l c
  cases h : l.contains c <;> rw [h] at this <;> simp at this ⊢ <;> omega
theorem u8c (c : UInt8) : ((c.toNat : Int)).toNat.toUInt8 = c := by simp
theorem u8_lt (c : UInt8) : c.toNat < 256 := by simpa using c.toNat_lt

/-! The directive at the beginning of a text behind its percent sign. -/
def isDig (c : UInt8) : Bool := decide (48 ≤ c.toNat) && decide (c.toNat ≤ 57)
def flagSet : List UInt8 := [45, 43, 48, 32]
def verbSet : List UInt8 := [100, 117, 120, 88, 111, 99, 115]
def flagsP : List UInt8 → List UInt8 → List UInt8 × List UInt8
  | acc, [] => (acc, [])
  | acc, c :: r => if flagSet.contains c && !acc.contains c then flagsP (acc ++ [c]) r else (acc, c :: r)
def digsP : Nat → List UInt8 → List UInt8
  | 0, _ => []
  | _, [] => []
  | n + 1, c :: r => if isDig c then c :: digsP n r else []
def valP (l : List UInt8) : Nat := l.foldl (fun n c => 10 * n + (c.toNat - 48)) 0
structure Dir where
  flags : List UInt8
  width : Nat
  prec : Int
  verb : UInt8
  size : Nat
deriving DecidableEq, Repr
def precP (r : List UInt8) : Int × List UInt8 :=
  match r with
  | [] => (-1, [])
  | c :: r => if c = 46 then ((valP (digsP 4 r) : Int), r.drop (digsP 4 r).length) else (-1, c :: r)
def headIs (c : UInt8) : List UInt8 → Bool
  | [] => false
  | d :: _ => d == c
def verbP (fl : List UInt8) (w : Nat) (p : Int) (n : Nat) : List UInt8 → Option Dir
  | [] => none
  | v :: r => if verbSet.contains v && decide (w ≤ 4096) && decide (p ≤ 4096) then some ⟨fl, w, p, v, n - r.length⟩ else none
def widthP (fl : List UInt8) (n : Nat) (r : List UInt8) : Option Dir :=
  if headIs 48 (digsP 4 r) then none
  else verbP fl (valP (digsP 4 r)) (precP (r.drop (digsP 4 r).length)).1 n (precP (r.drop (digsP 4 r).length)).2
def parseP (l : List UInt8) : Option Dir :=
  if headIs 37 l then some ⟨[], 0, -1, 37, 2⟩
  else widthP (flagsP [] l).1 (l.length + 1) (flagsP [] l).2

/-! A value as a text. -/
structure AV where
  kind : Int
  n : Int
  u : Int
  t : List UInt8
deriving DecidableEq, Repr
structure AV.ok (a : AV) : Prop where
  n0 : -9223372036854775808 ≤ a.n
  n1 : a.n ≤ 9223372036854775807
  u0 : 0 ≤ a.u
  u1 : a.u ≤ 18446744073709551615
def dchar (d : Nat) : UInt8 := if d < 10 then UInt8.ofNat (48 + d) else UInt8.ofNat (87 + d)
def lowF : Nat → Nat → Nat → List UInt8
  | 0, _, _ => []
  | f + 1, n, b => dchar (n % b) :: (if n / b = 0 then [] else lowF f (n / b) b)
def placesP (n b : Nat) : List UInt8 := (lowF 64 n b).reverse
def upC (c : UInt8) : UInt8 := if decide (97 ≤ c.toNat) && decide (c.toNat ≤ 122) then c - 32 else c
def baseP (v : UInt8) : Nat := if v = 120 then 16 else if v = 88 then 16 else if v = 111 then 8 else 10
def wantsP (v : UInt8) : Int := if v = 100 then 1 else if v = 99 then 3 else if v = 115 then 4 else 2
def signP (d : Dir) (a : AV) : List UInt8 :=
  if d.verb = 100 then (if a.n < 0 then [45] else if d.flags.contains 43 then [43] else if d.flags.contains 32 then [32] else []) else []
def magP (d : Dir) (a : AV) : Nat := if d.verb = 100 then a.n.natAbs else a.u.toNat
def barP (d : Dir) (a : AV) : List UInt8 := if magP d a = 0 ∧ d.prec = 0 then [] else placesP (magP d a) (baseP d.verb)
def fillP (d : Dir) (a : AV) : List UInt8 := List.replicate (d.prec - (barP d a).length).toNat 48 ++ barP d a
def digitsP (d : Dir) (a : AV) : List UInt8 := if d.verb = 88 then (fillP d a).map upC else fillP d a
def coreP (d : Dir) (a : AV) : List UInt8 × List UInt8 :=
  if d.verb = 99 then ([], [UInt8.ofNat a.u.toNat])
  else if d.verb = 115 then ([], if 0 ≤ d.prec then a.t.take d.prec.toNat else a.t)
  else (signP d a, digitsP d a)
def layP (d : Dir) (sign s : List UInt8) : List UInt8 :=
  if d.flags.contains 45 then sign ++ s ++ List.replicate (d.width - sign.length - s.length) 32
  else if d.flags.contains 48 && (d.verb != 99 && d.verb != 115) && decide (d.prec < 0) then sign ++ List.replicate (d.width - sign.length - s.length) 48 ++ s
  else List.replicate (d.width - sign.length - s.length) 32 ++ sign ++ s
def textP (d : Dir) (a : AV) : List UInt8 := layP d (coreP d a).1 (coreP d a).2

/-! A pattern with its values: the text, the fault, its place. -/
def fitP (d : Dir) (a : AV) : Bool := a.kind == wantsP d.verb && !(a.kind == 3 && decide (255 < a.u))
def fmtF : Nat → Nat → List UInt8 → List AV → List UInt8 → List UInt8 × Int × Nat
  | 0, at_, _, _, out => (out, 0, at_)
  | f + 1, at_, [], args, out => if args.length = 0 then (out, 0, at_) else ([], 3, at_)
  | f + 1, at_, c :: r, args, out =>
    if c = 37 then
      match parseP r with
      | none => ([], 171, at_)
      | some d =>
        if d.verb = 37 then (if 65536 < out.length + 1 then ([], 5, at_) else fmtF f (at_ + d.size) ((c :: r).drop d.size) args (out ++ [37]))
        else
          match args with
          | [] => ([], 3, at_)
          | a :: more =>
            if fitP d a then (if 65536 < out.length + (textP d a).length then ([], 5, at_) else fmtF f (at_ + d.size) ((c :: r).drop d.size) more (out ++ textP d a))
            else ([], 1, at_)
    else (if 65536 < out.length + 1 then ([], 5, at_) else fmtF f (at_ + 1) r args (out ++ [c]))
def formatP (l : List UInt8) (args : List AV) : List UInt8 × Int × Nat :=
  if 65536 < l.length then ([], 5, 0) else fmtF (l.length + 1) 0 l args []

theorem digsP_le : ∀ (n : Nat) (l : List UInt8), (digsP n l).length ≤ n ∧ (digsP n l).length ≤ l.length
  | 0, l => by simp [digsP]
  | n + 1, [] => by simp [digsP]
  | n + 1, c :: r => by
    have := digsP_le n r
    simp only [digsP]
    split <;> simp <;> omega
theorem digsP_take : ∀ (n : Nat) (l : List UInt8), digsP n l = l.take (digsP n l).length
  | 0, l => by simp [digsP]
  | n + 1, [] => by simp [digsP]
  | n + 1, c :: r => by
    simp only [digsP]
    split
    · simp only [List.length_cons, List.take_succ_cons]
      rw [← digsP_take n r]
    · simp
theorem flagsP_len : ∀ (l acc : List UInt8), (flagsP acc l).2.length + (flagsP acc l).1.length = l.length + acc.length
  | [], acc => by simp [flagsP]
  | c :: r, acc => by
    simp only [flagsP]
    split
    · rw [flagsP_len r]; simp; omega
    · simp
theorem precP_len (r : List UInt8) : (precP r).2.length ≤ r.length := by
  unfold precP
  split
  · simp
  · split
    · simp; omega
    · simp
theorem parseP_size {l : List UInt8} {d : Dir} (h : parseP l = some d) : 2 ≤ d.size ∧ (d.verb ≠ 37 → d.size ≤ l.length + 1 ∧ 1 ≤ l.length) ∧ (d.verb = 37 → d.size = 2 ∧ headIs 37 l = true) ∧ d.width ≤ 4096 ∧ -1 ≤ d.prec ∧ d.prec ≤ 4096 := by
  unfold parseP at h
  split at h
  · rename_i hh
    simp only [Option.some.injEq] at h
    subst h
    exact ⟨by simp, by simp, fun _ => ⟨rfl, hh⟩, by simp, by simp, by simp⟩
  · unfold widthP at h
    split at h
    · cases h
    · have h1 := flagsP_len l []
      have h2 := digsP_le 4 (flagsP [] l).2
      have h3 := precP_len ((flagsP [] l).2.drop (digsP 4 (flagsP [] l).2).length)
      have h4 : -1 ≤ (precP ((flagsP [] l).2.drop (digsP 4 (flagsP [] l).2).length)).1 := by
        unfold precP
        split
        · simp
        · split
          · simp only; omega
          · simp
      generalize precP ((flagsP [] l).2.drop (digsP 4 (flagsP [] l).2).length) = q at h h3 h4
      obtain ⟨p, r⟩ := q
      cases r with
      | nil => simp [verbP] at h
      | cons v r =>
        simp only [verbP] at h
        split at h
        · rename_i hv
          simp only [Option.some.injEq] at h
          subst h
          simp only [List.length_drop, List.length_cons, List.length_nil] at h1 h3 h4 ⊢
          simp only [Bool.and_eq_true, decide_eq_true_eq] at hv
          refine ⟨by omega, fun _ => by omega, fun e => ?_, hv.1.2, h4, hv.2⟩
          subst e
          have : verbSet.contains 37 = false := by decide
          rw [this] at hv
          simp at hv
        · cases h
end Go.Proofs.YtlajpggoncelhaaDoor
/- Contracts of the library that the shelf lays, as contracts of the engine. -/
namespace Go.Proofs.YtlajpggoncelhaaDoor
open Go Go.Eng
set_option maxHeartbeats 4000000
set_option linter.unusedSimpArgs false
set_option linter.unusedVariables false
set_option maxRecDepth 100000

theorem hasPrefix_c (s p : List UInt8) : Contract Tryd.prog 21 nilSS [.s (bs s), .s (bs p)] (fun sv post => sv = .b (Go.Lib.hasPrefix s p) ∧ post = nilSS) := by
  refine contract_lib Tryd.func21 rfl rfl ?_
  intro E w vs hv
  obtain ⟨v1, r1, rfl, h1, hv⟩ := denL_cons hv
  obtain ⟨v2, r2, rfl, h2, hv⟩ := denL_cons hv
  obtain rfl := denL_nil hv
  simp only [Den] at h1 h2
  subst h1 h2
  refine (Tryd.strings_HasPrefix (bs s) (bs p) w).mono ?_
  rintro e w' ⟨rfl, rfl⟩
  exact ⟨_, rfl, fun E' _ => by simp only [Den]; rfl, RowKit.Below.refl _ _⟩
theorem repeat_c (s : List UInt8) (c : Nat) (hs : s.length * c ≤ 140737488355328) (hc : c ≤ 9223372036854775807) : Contract Tryd.prog 27 nilSS [.s (bs s), .i .i64 c] (fun sv post => sv = .s (bs (Go.Lib.repeatL s c)) ∧ post = nilSS) := by
  refine contract_lib Tryd.func27 rfl rfl ?_
  intro E w vs hv
  obtain ⟨v1, r1, rfl, h1, hv⟩ := denL_cons hv
  obtain ⟨v2, r2, rfl, h2, hv⟩ := denL_cons hv
  obtain rfl := denL_nil hv
  simp only [Den] at h1 h2
  subst h1 h2
  refine (Tryd.strings_Repeat (bs s) c w hc hs).mono ?_
  rintro e w' ⟨rfl, hB⟩
  exact ⟨_, rfl, fun E' _ => by simp only [Den]; rfl, hB⟩
theorem toUpper_c (s : List UInt8) (hs : s.length ≤ 140737488355328) (ha : ∀ b ∈ s, b.toNat < 128) : Contract Tryd.prog 36 nilSS [.s (bs s)] (fun sv post => sv = .s (bs (Go.Lib.toUpperA s)) ∧ post = nilSS) := by
  refine contract_lib Tryd.func36 rfl rfl ?_
  intro E w vs hv
  obtain ⟨v1, r1, rfl, h1, hv⟩ := denL_cons hv
  obtain rfl := denL_nil hv
  simp only [Den] at h1
  subst h1
  refine (Tryd.strings_ToUpper_ascii (bs s) w hs (fun j b hb => ha b (List.mem_of_getElem? hb))).mono ?_
  rintro e w' ⟨rfl, hB⟩
  exact ⟨_, rfl, fun E' _ => by simp only [Den]; rfl, hB⟩
/-- A row grows: as many more bytes. -/
theorem growSlice_c (p : Option Addr) (c : Nat) (l : List Int) (n : Nat) (hn : 1 ≤ n) (hlim : l.length + n ≤ 140737488355328) (hc : c ≤ 140737488355328) :
    Contract Tryd.prog 43 (preR (RowZ 5 .u8 p c l)) [.raw (.slice p l.length c), .i .i64 n]
      (fun sv post => ∃ p' c', sv = .raw (.slice p' l.length c') ∧ l.length + n ≤ c' ∧ c' ≤ 9223372036854775807 ∧ post = preR (RowZ 5 .u8 p' c' l)) := by
  refine contract_row_lib Tryd.func43 rfl rfl ?_
  intro E w vs hv hz hlc
  obtain ⟨v1, r1, rfl, h1, hv⟩ := denL_cons hv
  obtain rfl := denL_nil hv
  simp only [Den] at h1
  subst h1
  have hmax : ∀ c2, c2 ≤ maxLen → c2 ≤ 9223372036854775807 := fun c2 h => by unfold maxLen at h; omega
  rcases hz with ⟨rfl, rfl⟩ | ⟨b, cs, rfl, hb, hcs, hl⟩
  · have hl0 : l = [] := List.eq_nil_of_length_eq_zero (by omega)
    subst hl0
    refine (Tryd.bytes_growSlice_nil n w hn (by simpa using hlim)).mono ?_
    rintro e w' ⟨cap2, cells, rfl, h2, h3, h4, h5, hB⟩
    exact ⟨_, cap2, cells, rfl, rfl, by simp, hmax _ h5, h2, h3, fun i x hx => by simp at hx, hB, _, cap2, rfl, by simpa using h4, hmax _ h5, rfl⟩
  · have htk : cs.toList.take l.length = l.map (Value.int .u8) := by
      apply List.ext_getElem?
      intro i
      rw [List.getElem?_take, List.getElem?_map]
      split
      · rename_i hi
        have := hl i l[i] (List.getElem?_eq_getElem hi)
        rw [Array.getElem?_toList, this, List.getElem?_eq_getElem hi]
        rfl
      · rename_i hi
        rw [List.getElem?_eq_none (by omega)]
        rfl
    refine (Tryd.bytes_growSlice_row b l.length c n cs w hb hcs hlc hn hlim hc (fun v hv => by
      rw [htk] at hv
      simp only [List.mem_map] at hv
      obtain ⟨x, _, rfl⟩ := hv
      rfl)).mono ?_
    rintro e w' ⟨cap2, cells, rfl, h2, h3, h4, h5, h6, hB⟩
    rw [htk] at h4
    refine ⟨_, cap2, cells, rfl, rfl, by omega, hmax _ h6, h2, h3, fun i x hx => ?_, hB, _, cap2, rfl, h5, hmax _ h6, rfl⟩
    have hi : i < l.length := by
      rcases Nat.lt_or_ge i l.length with h' | h'
      · exact h'
      · rw [List.getElem?_eq_none h'] at hx; cases hx
    have e := congrArg (fun q => q[i]?) h4
    simp only [List.getElem?_take, if_pos hi, List.getElem?_map, hx, Option.map_some] at e
    rw [← Array.getElem?_toList]
    exact e
end Go.Proofs.YtlajpggoncelhaaDoor
/- bytes.Buffer: what has been written. -/
namespace Go.Proofs.YtlajpggoncelhaaDoor
open Go Go.Eng
set_option maxHeartbeats 4000000
set_option linter.unusedSimpArgs false
set_option linter.unusedVariables false
set_option maxRecDepth 100000

theorem contract_rowz {P : Program} {f : FuncId} {s : SS} {pargs : List SV} {R : SV → SS → Prop} (r : Nat) {T : TypeId} {k : IntKind} {p : Option Addr} {cap : Nat} {l : List Int} (hr : rsFind s.rs r = some (RowZ T k p cap l))
    (h : l.length ≤ cap → cap ≤ 9223372036854775807 → (cap ≠ 0 → p ≠ none) → (p = none → cap = 0) → Contract P f s pargs R) : Contract P f s pargs R := by
  intro E w vs h0 hw hv
  obtain ⟨κ, ho⟩ := hw.own
  obtain ⟨F, ⟨q0, q1, q2⟩, _⟩ := ho.rs _ _ (rsFind_mem _ _ _ hr)
  refine h q0 q1 (fun hc => ?_) (fun hp => ?_) E w vs h0 hw hv
  · rcases q2 with ⟨_, e⟩ | ⟨b, cs, rfl, _⟩
    · exact absurd e hc
    · simp
  · rcases q2 with ⟨_, e⟩ | ⟨b, cs, rfl, _⟩
    · exact e
    · cases hp

theorem showsIn_cut {p : Option Addr} {c : Nat} {l : List Int} {i n : Nat} (h : i ≤ l.length) (hc : i + n ≤ c) : ShowsIn (cutp p c i) n p l c i := by
  refine ⟨h, hc, ?_⟩
  unfold cutp
  by_cases e : c = i
  · exact .inl (by omega)
  · exact .inr (by rw [if_neg e])

/-- A buffer: its slice's length, what its row reads. -/
def bufN (p : Option Addr) (c n : Nat) (l : List Int) (lr : Int) : SS := ⟨[], [(0, 43, [.raw (.slice p n c), .i .i64 0, .i .i8 lr])], [], [(1, RowZ 5 .u8 p c l)], 2, 1, []⟩

theorem bufLen_c (p : Option Addr) (c n : Nat) (l : List Int) (lr : Int) (hn : n ≤ 9223372036854775807) : Contract Tryd.prog 16 (bufN p c n l lr) [.ptr 0 0] (fun sv post => sv = .i .i64 n ∧ post = bufN p c n l lr) := by
  refine contract_ev Γok Tryd.func16 rfl rfl [] ?_
  simp (maxSteps := 4000000) only [push_cast, Int.reduceEq, Int.reduceBNe, Int.reduceBEq, Int.reduceAdd, Int.reduceSub, Int.reduceMul, Int.reduceNeg, Int.reduceLT, Int.reduceLE, Int.reduceToNat, Nat.reduceLT, Nat.reduceAdd, Nat.reduceSub, Nat.reduceMul, Nat.reduceEqDiff, Nat.reduceLeDiff, Nat.reduceBEq, reduceIte, reduceCtorEq, Tryd.f16, bufN]
  refine (region_plan rfl Γok mixed (.pure 0 (.pure 1 (.pure 2 (.pure 3 (.pure 4 (.pure 5 (.pure 6 (.pure 7 (.pure 8 (.pure 9 (.pure 10 .done))))))))))) 13 rfl (by kernel_rfl) ?_)
  simp (maxSteps := 4000000) only [push_cast, Int.reduceEq, Int.reduceBNe, Int.reduceBEq, Int.reduceAdd, Int.reduceSub, Int.reduceMul, Int.reduceNeg, Int.reduceLT, Int.reduceLE, Int.reduceToNat, Nat.reduceLT, Nat.reduceAdd, Nat.reduceSub, Nat.reduceMul, Nat.reduceEqDiff, Nat.reduceLeDiff, Nat.reduceBEq, reduceIte, reduceCtorEq]
  rw [wrap64 (by omega) (by omega), Int.sub_zero]
  exact Fin.w [0, 1] (.i .i64 n) _ (by simp (maxSteps := 4000000) only [push_cast, Int.reduceEq, Int.reduceBNe, Int.reduceBEq, Int.reduceAdd, Int.reduceSub, Int.reduceMul, Int.reduceNeg, Int.reduceLT, Int.reduceLE, Int.reduceToNat, Nat.reduceLT, Nat.reduceAdd, Nat.reduceSub, Nat.reduceMul, Nat.reduceEqDiff, Nat.reduceLeDiff, Nat.reduceBEq, reduceIte, reduceCtorEq, bufN]) ⟨rfl, rfl⟩

theorem tryGrow_c (p : Option Addr) (c : Nat) (l : List Int) (lr : Int) (q : Nat) (hq : q ≤ 140737488355328) (hl : l.length ≤ 140737488355328) : Contract Tryd.prog 28 (bufN p c l.length l lr) [.ptr 0 0, .i .i64 q]
    (fun sv post => (l.length + q ≤ c ∧ sv = .tup [.i .i64 l.length, .b true] ∧ post = bufN p c (l.length + q) l lr) ∨ (c < l.length + q ∧ sv = .tup [.i .i64 0, .b false] ∧ post = bufN p c l.length l lr)) := by
  refine contract_rowz 1 rfl fun h0 h1 h2 h3 => ?_
  refine contract_ev Γok Tryd.func28 rfl rfl [] ?_
  simp (maxSteps := 4000000) only [push_cast, Int.reduceEq, Int.reduceBNe, Int.reduceBEq, Int.reduceAdd, Int.reduceSub, Int.reduceMul, Int.reduceNeg, Int.reduceLT, Int.reduceLE, Int.reduceToNat, Nat.reduceLT, Nat.reduceAdd, Nat.reduceSub, Nat.reduceMul, Nat.reduceEqDiff, Nat.reduceLeDiff, Nat.reduceBEq, reduceIte, reduceCtorEq, Tryd.f28, bufN]
  rw [wrap64 (n := (c : Int) - l.length) (by omega) (by omega)]
  refine ⟨fun h4 => ?_, fun h4 => ?_⟩
  · rw [wrap64 (n := (l.length : Int) + q) (by omega) (by omega)]
    refine ⟨by omega, ?_⟩
    rw [show ((l.length : Int) + (q : Int)).toNat = l.length + q by omega]
    exact Fin.w [0, 1] (.tup [.i .i64 l.length, .b true]) _ (by simp (maxSteps := 4000000) only [push_cast, Int.reduceEq, Int.reduceBNe, Int.reduceBEq, Int.reduceAdd, Int.reduceSub, Int.reduceMul, Int.reduceNeg, Int.reduceLT, Int.reduceLE, Int.reduceToNat, Nat.reduceLT, Nat.reduceAdd, Nat.reduceSub, Nat.reduceMul, Nat.reduceEqDiff, Nat.reduceLeDiff, Nat.reduceBEq, reduceIte, reduceCtorEq, bufN]) (.inl ⟨by omega, rfl, rfl⟩)
  · exact Fin.w [0, 1] (.tup [.i .i64 0, .b false]) _ (by simp (maxSteps := 4000000) only [push_cast, Int.reduceEq, Int.reduceBNe, Int.reduceBEq, Int.reduceAdd, Int.reduceSub, Int.reduceMul, Int.reduceNeg, Int.reduceLT, Int.reduceLE, Int.reduceToNat, Nat.reduceLT, Nat.reduceAdd, Nat.reduceSub, Nat.reduceMul, Nat.reduceEqDiff, Nat.reduceLeDiff, Nat.reduceBEq, reduceIte, reduceCtorEq, bufN]) (.inr ⟨by omega, rfl, rfl⟩)

def isGrown (l : List Int) (q : Nat) (lr : Int) (sv : SV) (post : SS) : Prop :=
  ∃ p' c' l', sv = .i .i64 l.length ∧ l'.take l.length = l ∧ l.length ≤ l'.length ∧ l'.length ≤ l.length + q ∧ l.length + q ≤ c' ∧ post = bufN p' c' (l.length + q) l' lr

theorem grow_c (p : Option Addr) (c : Nat) (l : List Int) (lr : Int) (q : Nat) (hq : l.length + q ≤ 70368744177664) (hno : c < l.length + q) : Contract Tryd.prog 29 (bufN p c l.length l lr) [.ptr 0 0, .i .i64 q] (isGrown l q lr) := by
  refine contract_rowz 1 rfl fun h0 h1 h2 h3 => ?_
  refine contract_ev Γok Tryd.func29 rfl rfl [] ?_
  simp (maxSteps := 4000000) only [push_cast, Int.reduceEq, Int.reduceBNe, Int.reduceBEq, Int.reduceAdd, Int.reduceSub, Int.reduceMul, Int.reduceNeg, Int.reduceLT, Int.reduceLE, Int.reduceToNat, Nat.reduceLT, Nat.reduceAdd, Nat.reduceSub, Nat.reduceMul, Nat.reduceEqDiff, Nat.reduceLeDiff, Nat.reduceBEq, reduceIte, reduceCtorEq, Tryd.f29, bufN]
  refine call_w (bufLen_c p c l.length l lr (by omega)) [0, 1] (by simp (maxSteps := 4000000) only [push_cast, Int.reduceEq, Int.reduceBNe, Int.reduceBEq, Int.reduceAdd, Int.reduceSub, Int.reduceMul, Int.reduceNeg, Int.reduceLT, Int.reduceLE, Int.reduceToNat, Nat.reduceLT, Nat.reduceAdd, Nat.reduceSub, Nat.reduceMul, Nat.reduceEqDiff, Nat.reduceLeDiff, Nat.reduceBEq, reduceIte, reduceCtorEq, bufN]) ?_
  rintro sv post ⟨rfl, rfl⟩
  simp (maxSteps := 4000000) only [push_cast, Int.reduceEq, Int.reduceBNe, Int.reduceBEq, Int.reduceAdd, Int.reduceSub, Int.reduceMul, Int.reduceNeg, Int.reduceLT, Int.reduceLE, Int.reduceToNat, Nat.reduceLT, Nat.reduceAdd, Nat.reduceSub, Nat.reduceMul, Nat.reduceEqDiff, Nat.reduceLeDiff, Nat.reduceBEq, reduceIte, reduceCtorEq, bufN]
  refine ⟨fun h => h.2.elim, call_w (tryGrow_c p c l lr q (by omega) (by omega)) [0, 2] (by simp (maxSteps := 4000000) only [push_cast, Int.reduceEq, Int.reduceBNe, Int.reduceBEq, Int.reduceAdd, Int.reduceSub, Int.reduceMul, Int.reduceNeg, Int.reduceLT, Int.reduceLE, Int.reduceToNat, Nat.reduceLT, Nat.reduceAdd, Nat.reduceSub, Nat.reduceMul, Nat.reduceEqDiff, Nat.reduceLeDiff, Nat.reduceBEq, reduceIte, reduceCtorEq, bufN]) ?_⟩
  rintro sv post (⟨hh, rfl, rfl⟩ | ⟨_, rfl, rfl⟩)
  · omega
  simp (maxSteps := 4000000) only [push_cast, Int.reduceEq, Int.reduceBNe, Int.reduceBEq, Int.reduceAdd, Int.reduceSub, Int.reduceMul, Int.reduceNeg, Int.reduceLT, Int.reduceLE, Int.reduceToNat, Nat.reduceLT, Nat.reduceAdd, Nat.reduceSub, Nat.reduceMul, Nat.reduceEqDiff, Nat.reduceLeDiff, Nat.reduceBEq, reduceIte, reduceCtorEq, bufN]
  have e1 : IntKind.i64.wrap ((c : Int).tdiv 2) = (c : Int) / 2 := by
    rw [Int.tdiv_eq_ediv_of_nonneg (by omega)]
    exact wrap64 (n := (c : Int) / 2) (by omega) (by omega)
  have e2 : IntKind.i64.wrap ((c : Int) / 2 - l.length) = (c : Int) / 2 - l.length := wrap64 (n := (c : Int) / 2 - l.length) (by omega) (by omega)
  have e3 : IntKind.i64.wrap (9223372036854775807 - (c : Int)) = 9223372036854775807 - (c : Int) := wrap64 (n := 9223372036854775807 - (c : Int)) (by omega) (by omega)
  have e4 : IntKind.i64.wrap (9223372036854775807 - (c : Int) - q) = 9223372036854775807 - (c : Int) - q := wrap64 (n := 9223372036854775807 - (c : Int) - q) (by omega) (by omega)
  have e5 : IntKind.i64.wrap (0 + (q : Int)) = q := by rw [wrap64 (n := 0 + (q : Int)) (by omega) (by omega)]; omega
  have e6 : IntKind.i64.wrap ((l.length : Int) + (q : Int)) = (l.length : Int) + q := wrap64 (n := (l.length : Int) + q) (by omega) (by omega)
  rw [e1, e2, e3, e4]
  refine ⟨fun h4 => ⟨fun h5 => ?_, fun h5 => ?_⟩, fun h4 => ?_⟩
  · have hc0 := h3 h4
    have hl0 : l = [] := List.eq_nil_of_length_eq_zero (by omega)
    subst hl0
    refine ⟨by omega, h5, fun b => ?_⟩
    rw [Int.toNat_natCast]
    exact Fin.w [0, 4] (.i .i64 0) (bufN (some ⟨b, 0, none⟩) 64 q (List.replicate q 0) lr) (by simp (maxSteps := 4000000) only [push_cast, Int.reduceEq, Int.reduceBNe, Int.reduceBEq, Int.reduceAdd, Int.reduceSub, Int.reduceMul, Int.reduceNeg, Int.reduceLT, Int.reduceLE, Int.reduceToNat, Nat.reduceLT, Nat.reduceAdd, Nat.reduceSub, Nat.reduceMul, Nat.reduceEqDiff, Nat.reduceLeDiff, Nat.reduceBEq, reduceIte, reduceCtorEq, bufN]) ⟨some ⟨b, 0, none⟩, 64, List.replicate q 0, rfl, by simp, by simp, by simp, by simp only [List.length_nil]; omega, by simp⟩
  · refine ⟨fun h => by omega, fun _ => ⟨fun h => by omega, fun _ => ?_⟩⟩
    refine (region_plan rfl Γok mixed (.pure 0 (.pure 1 (.pure 2 (.pure 3 (.pure 4 (.pure 5 (.pure 6 (.pure 7 (.pure 8 (.pure 9 (.pure 10 (.pure 11 (.pure 12 (.pure 13 (.pure 14 (.pure 15 (.eff (.cons 16 [] (.pure 17 (.pure 18 (.eff (.cons 19 [] .done .nil)))) .nil)))))))))))))))))) 110 rfl (by kernel_rfl) ?_)
    simp (maxSteps := 4000000) only [push_cast, Int.reduceEq, Int.reduceBNe, Int.reduceBEq, Int.reduceAdd, Int.reduceSub, Int.reduceMul, Int.reduceNeg, Int.reduceLT, Int.reduceLE, Int.reduceToNat, Nat.reduceLT, Nat.reduceAdd, Nat.reduceSub, Nat.reduceMul, Nat.reduceEqDiff, Nat.reduceLeDiff, Nat.reduceBEq, reduceIte, reduceCtorEq]
    rw [e5]
    refine ⟨⟨by omega, h0⟩, call_w (growSlice_c p c l q (by omega) (by omega) (by omega)) [3] (by simp (maxSteps := 4000000) only [push_cast, Int.reduceEq, Int.reduceBNe, Int.reduceBEq, Int.reduceAdd, Int.reduceSub, Int.reduceMul, Int.reduceNeg, Int.reduceLT, Int.reduceLE, Int.reduceToNat, Nat.reduceLT, Nat.reduceAdd, Nat.reduceSub, Nat.reduceMul, Nat.reduceEqDiff, Nat.reduceLeDiff, Nat.reduceBEq, reduceIte, reduceCtorEq, preR]) ?_⟩
    rintro sv post ⟨p', c', rfl, hc1, hc2, rfl⟩
    simp (maxSteps := 4000000) only [push_cast, Int.reduceEq, Int.reduceBNe, Int.reduceBEq, Int.reduceAdd, Int.reduceSub, Int.reduceMul, Int.reduceNeg, Int.reduceLT, Int.reduceLE, Int.reduceToNat, Nat.reduceLT, Nat.reduceAdd, Nat.reduceSub, Nat.reduceMul, Nat.reduceEqDiff, Nat.reduceLeDiff, Nat.reduceBEq, reduceIte, reduceCtorEq, preR]
    rw [e6]
    refine ⟨⟨by omega, by omega⟩, ?_⟩
    rw [show ((l.length : Int) + (q : Int)).toNat = l.length + q by omega]
    exact Fin.w [0, 3] (.i .i64 l.length) (bufN p' c' (l.length + q) l lr) (by simp (maxSteps := 4000000) only [push_cast, Int.reduceEq, Int.reduceBNe, Int.reduceBEq, Int.reduceAdd, Int.reduceSub, Int.reduceMul, Int.reduceNeg, Int.reduceLT, Int.reduceLE, Int.reduceToNat, Nat.reduceLT, Nat.reduceAdd, Nat.reduceSub, Nat.reduceMul, Nat.reduceEqDiff, Nat.reduceLeDiff, Nat.reduceBEq, reduceIte, reduceCtorEq, bufN]) ⟨p', c', l, rfl, List.take_length, Nat.le_refl _, Nat.le_add_right _ _, hc1, rfl⟩
  · refine ⟨fun h => h.1.elim, fun h => by omega, fun _ => ⟨fun h => by omega, fun _ => ?_⟩⟩
    refine (region_plan rfl Γok mixed (.pure 0 (.pure 1 (.pure 2 (.pure 3 (.pure 4 (.pure 5 (.pure 6 (.pure 7 (.pure 8 (.pure 9 (.pure 10 (.pure 11 (.pure 12 (.pure 13 (.pure 14 (.pure 15 (.eff (.cons 16 [] (.pure 17 (.pure 18 (.eff (.cons 19 [] .done .nil)))) .nil)))))))))))))))))) 110 rfl (by kernel_rfl) ?_)
    simp (maxSteps := 4000000) only [push_cast, Int.reduceEq, Int.reduceBNe, Int.reduceBEq, Int.reduceAdd, Int.reduceSub, Int.reduceMul, Int.reduceNeg, Int.reduceLT, Int.reduceLE, Int.reduceToNat, Nat.reduceLT, Nat.reduceAdd, Nat.reduceSub, Nat.reduceMul, Nat.reduceEqDiff, Nat.reduceLeDiff, Nat.reduceBEq, reduceIte, reduceCtorEq]
    rw [e5]
    refine ⟨⟨by omega, h0⟩, call_w (growSlice_c p c l q (by omega) (by omega) (by omega)) [3] (by simp (maxSteps := 4000000) only [push_cast, Int.reduceEq, Int.reduceBNe, Int.reduceBEq, Int.reduceAdd, Int.reduceSub, Int.reduceMul, Int.reduceNeg, Int.reduceLT, Int.reduceLE, Int.reduceToNat, Nat.reduceLT, Nat.reduceAdd, Nat.reduceSub, Nat.reduceMul, Nat.reduceEqDiff, Nat.reduceLeDiff, Nat.reduceBEq, reduceIte, reduceCtorEq, preR]) ?_⟩
    rintro sv post ⟨p', c', rfl, hc1, hc2, rfl⟩
    simp (maxSteps := 4000000) only [push_cast, Int.reduceEq, Int.reduceBNe, Int.reduceBEq, Int.reduceAdd, Int.reduceSub, Int.reduceMul, Int.reduceNeg, Int.reduceLT, Int.reduceLE, Int.reduceToNat, Nat.reduceLT, Nat.reduceAdd, Nat.reduceSub, Nat.reduceMul, Nat.reduceEqDiff, Nat.reduceLeDiff, Nat.reduceBEq, reduceIte, reduceCtorEq, preR]
    rw [e6]
    refine ⟨⟨by omega, by omega⟩, ?_⟩
    rw [show ((l.length : Int) + (q : Int)).toNat = l.length + q by omega]
    exact Fin.w [0, 3] (.i .i64 l.length) (bufN p' c' (l.length + q) l lr) (by simp (maxSteps := 4000000) only [push_cast, Int.reduceEq, Int.reduceBNe, Int.reduceBEq, Int.reduceAdd, Int.reduceSub, Int.reduceMul, Int.reduceNeg, Int.reduceLT, Int.reduceLE, Int.reduceToNat, Nat.reduceLT, Nat.reduceAdd, Nat.reduceSub, Nat.reduceMul, Nat.reduceEqDiff, Nat.reduceLeDiff, Nat.reduceBEq, reduceIte, reduceCtorEq, bufN]) ⟨p', c', l, rfl, List.take_length, Nat.le_refl _, Nat.le_add_right _ _, hc1, rfl⟩

/-- What is written stands behind what was. -/
def isWrote (l : List Int) (m : List Int) (sv : SV) (post : SS) : Prop :=
  ∃ p' c' lr', sv = .tup [.i .i64 m.length, .nili] ∧ post = bufN p' c' (l ++ m).length (l ++ m) lr'
theorem writeString_c (p : Option Addr) (c : Nat) (l : List Int) (lr : Int) (s : List UInt8) (hq : l.length + s.length ≤ 70368744177664) : Contract Tryd.prog 17 (bufN p c l.length l lr) [.ptr 0 0, .s (bs s)] (isWrote l (ofU s)) := by
  refine contract_rowz 1 rfl fun h0 h1 h2 h3 => ?_
  have hs := ofU_len s
  refine contract_ev Γok Tryd.func17 rfl rfl [] ?_
  simp (maxSteps := 4000000) only [push_cast, Int.reduceEq, Int.reduceBNe, Int.reduceBEq, Int.reduceAdd, Int.reduceSub, Int.reduceMul, Int.reduceNeg, Int.reduceLT, Int.reduceLE, Int.reduceToNat, Nat.reduceLT, Nat.reduceAdd, Nat.reduceSub, Nat.reduceMul, Nat.reduceEqDiff, Nat.reduceLeDiff, Nat.reduceBEq, reduceIte, reduceCtorEq, Tryd.f17, bufN, bs_size]
  refine call_w (tryGrow_c p c l 0 s.length (by omega) (by omega)) [0, 1] (by simp (maxSteps := 4000000) only [push_cast, Int.reduceEq, Int.reduceBNe, Int.reduceBEq, Int.reduceAdd, Int.reduceSub, Int.reduceMul, Int.reduceNeg, Int.reduceLT, Int.reduceLE, Int.reduceToNat, Nat.reduceLT, Nat.reduceAdd, Nat.reduceSub, Nat.reduceMul, Nat.reduceEqDiff, Nat.reduceLeDiff, Nat.reduceBEq, reduceIte, reduceCtorEq, bufN]) ?_
  rintro sv post (⟨hh, rfl, rfl⟩ | ⟨hh, rfl, rfl⟩)
  · simp (maxSteps := 4000000) only [push_cast, Int.reduceEq, Int.reduceBNe, Int.reduceBEq, Int.reduceAdd, Int.reduceSub, Int.reduceMul, Int.reduceNeg, Int.reduceLT, Int.reduceLE, Int.reduceToNat, Nat.reduceLT, Nat.reduceAdd, Nat.reduceSub, Nat.reduceMul, Nat.reduceEqDiff, Nat.reduceLeDiff, Nat.reduceBEq, reduceIte, reduceCtorEq, bufN]
    rw [Int.toNat_natCast, Nat.add_sub_cancel_left]
    refine ⟨⟨by omega, hh⟩, 2, .u8, p, c, l, l.length, ofU s, RowZ 5 .u8 p c, .z _, .inl rfl, showsIn_cut (Nat.le_refl _) hh, rfl, rfl, ?_⟩
    rw [← hs, List.take_length, List.take_length, List.drop_of_length_le (by omega), List.append_nil, if_pos rfl]
    exact Fin.w [0, 2] (.tup [.i .i64 (ofU s).length, .nili]) (bufN p c (l ++ ofU s).length (l ++ ofU s) 0) (by simp (maxSteps := 4000000) only [push_cast, Int.reduceEq, Int.reduceBNe, Int.reduceBEq, Int.reduceAdd, Int.reduceSub, Int.reduceMul, Int.reduceNeg, Int.reduceLT, Int.reduceLE, Int.reduceToNat, Nat.reduceLT, Nat.reduceAdd, Nat.reduceSub, Nat.reduceMul, Nat.reduceEqDiff, Nat.reduceLeDiff, Nat.reduceBEq, reduceIte, reduceCtorEq, bufN, List.length_append]) ⟨p, c, 0, rfl, rfl⟩
  · simp (maxSteps := 4000000) only [push_cast, Int.reduceEq, Int.reduceBNe, Int.reduceBEq, Int.reduceAdd, Int.reduceSub, Int.reduceMul, Int.reduceNeg, Int.reduceLT, Int.reduceLE, Int.reduceToNat, Nat.reduceLT, Nat.reduceAdd, Nat.reduceSub, Nat.reduceMul, Nat.reduceEqDiff, Nat.reduceLeDiff, Nat.reduceBEq, reduceIte, reduceCtorEq, bufN, bs_size]
    refine call_w (grow_c p c l 0 s.length (by omega) (by omega)) [0, 2] (by simp (maxSteps := 4000000) only [push_cast, Int.reduceEq, Int.reduceBNe, Int.reduceBEq, Int.reduceAdd, Int.reduceSub, Int.reduceMul, Int.reduceNeg, Int.reduceLT, Int.reduceLE, Int.reduceToNat, Nat.reduceLT, Nat.reduceAdd, Nat.reduceSub, Nat.reduceMul, Nat.reduceEqDiff, Nat.reduceLeDiff, Nat.reduceBEq, reduceIte, reduceCtorEq, bufN]) ?_
    rintro sv post ⟨p', c', l', rfl, q1, q2, q3, q4, rfl⟩
    simp (maxSteps := 4000000) only [push_cast, Int.reduceEq, Int.reduceBNe, Int.reduceBEq, Int.reduceAdd, Int.reduceSub, Int.reduceMul, Int.reduceNeg, Int.reduceLT, Int.reduceLE, Int.reduceToNat, Nat.reduceLT, Nat.reduceAdd, Nat.reduceSub, Nat.reduceMul, Nat.reduceEqDiff, Nat.reduceLeDiff, Nat.reduceBEq, reduceIte, reduceCtorEq, bufN]
    rw [Int.toNat_natCast, Nat.add_sub_cancel_left]
    refine ⟨⟨by omega, q4⟩, 3, .u8, p', c', l', l.length, ofU s, RowZ 5 .u8 p' c', .z _, .inl rfl, showsIn_cut q2 q4, rfl, rfl, ?_⟩
    rw [← hs, List.take_length, q1, List.drop_of_length_le (by omega), List.append_nil, if_pos rfl]
    exact Fin.w [0, 3] (.tup [.i .i64 (ofU s).length, .nili]) (bufN p' c' (l ++ ofU s).length (l ++ ofU s) 0) (by simp (maxSteps := 4000000) only [push_cast, Int.reduceEq, Int.reduceBNe, Int.reduceBEq, Int.reduceAdd, Int.reduceSub, Int.reduceMul, Int.reduceNeg, Int.reduceLT, Int.reduceLE, Int.reduceToNat, Nat.reduceLT, Nat.reduceAdd, Nat.reduceSub, Nat.reduceMul, Nat.reduceEqDiff, Nat.reduceLeDiff, Nat.reduceBEq, reduceIte, reduceCtorEq, bufN, List.length_append]) ⟨p', c', 0, rfl, rfl⟩

theorem bufBytes_c (p : Option Addr) (c n : Nat) (l : List Int) (lr : Int) (hn : n ≤ c) : Contract Tryd.prog 18 (bufN p c n l lr) [.ptr 0 0] (fun sv post => sv = .raw (.slice p n c) ∧ post = bufN p c n l lr) := by
  refine contract_ev Γok Tryd.func18 rfl rfl [] ?_
  simp (maxSteps := 4000000) only [push_cast, Int.reduceEq, Int.reduceBNe, Int.reduceBEq, Int.reduceAdd, Int.reduceSub, Int.reduceMul, Int.reduceNeg, Int.reduceLT, Int.reduceLE, Int.reduceToNat, Nat.reduceLT, Nat.reduceAdd, Nat.reduceSub, Nat.reduceMul, Nat.reduceEqDiff, Nat.reduceLeDiff, Nat.reduceBEq, reduceIte, reduceCtorEq, Tryd.f18, bufN]
  refine (region_plan rfl Γok mixed (.pure 0 (.pure 1 (.pure 2 (.pure 3 (.pure 4 (.pure 5 (.pure 6 (.pure 7 (.pure 8 (.pure 9 .done)))))))))) 12 rfl (by kernel_rfl) ?_)
  simp (maxSteps := 4000000) only [push_cast, Int.reduceEq, Int.reduceBNe, Int.reduceBEq, Int.reduceAdd, Int.reduceSub, Int.reduceMul, Int.reduceNeg, Int.reduceLT, Int.reduceLE, Int.reduceToNat, Nat.reduceLT, Nat.reduceAdd, Nat.reduceSub, Nat.reduceMul, Nat.reduceEqDiff, Nat.reduceLeDiff, Nat.reduceBEq, reduceIte, reduceCtorEq]
  refine ⟨⟨by omega, hn⟩, ?_⟩
  exact Fin.w [0, 1] (.raw (.slice p n c)) (bufN p c n l lr) (by simp (maxSteps := 4000000) only [push_cast, Int.reduceEq, Int.reduceBNe, Int.reduceBEq, Int.reduceAdd, Int.reduceSub, Int.reduceMul, Int.reduceNeg, Int.reduceLT, Int.reduceLE, Int.reduceToNat, Nat.reduceLT, Nat.reduceAdd, Nat.reduceSub, Nat.reduceMul, Nat.reduceEqDiff, Nat.reduceLeDiff, Nat.reduceBEq, reduceIte, reduceCtorEq, bufN]) ⟨rfl, rfl⟩
end Go.Proofs.YtlajpggoncelhaaDoor
/- The program's patterns: a directive is read. -/
namespace Go.Proofs.YtlajpggoncelhaaDoor
open Go Go.Eng
set_option maxHeartbeats 4000000
set_option linter.unusedSimpArgs false
set_option linter.unusedVariables false
set_option maxRecDepth 100000

def decs : List UInt8 := [48, 49, 50, 51, 52, 53, 54, 55, 56, 57]
theorem decs_has (c : UInt8) : decs.contains c = isDig c := by
  have h : ∀ n : Fin 256, decs.contains (UInt8.ofNat n.1) = isDig (UInt8.ofNat n.1) := by decide
  have := h ⟨c.toNat, u8_lt c⟩
  simpa using this
theorem digsP_step (m : Nat) (l : List UInt8) (h : 0 < m) : digsP m l = match l with | [] => [] | c :: r => if isDig c then c :: digsP (m - 1) r else [] := by
  obtain ⟨k, rfl⟩ : ∃ k, m = k + 1 := ⟨m - 1, by omega⟩
  cases l <;> rfl
theorem drop_cons {l : List UInt8} {n : Nat} (h : n < l.length) : l.drop n = l[n] :: l.drop (n + 1) := List.drop_eq_getElem_cons h
theorem getD_lt {l : List UInt8} {n : Nat} (h : n < l.length) : (l[n]?).getD 0 = l[n] := by rw [List.getElem?_eq_getElem h]; rfl

theorem digs_next {m n : Nat} {l : List UInt8} (hn : n < m) (hl : n < l.length) (hd : isDig ((l[n]?).getD 0) = true) (h3 : digsP m l = l.take n ++ digsP (m - n) (l.drop n)) : digsP m l = l.take (n + 1) ++ digsP (m - (n + 1)) (l.drop (n + 1)) := by
  rw [getD_lt hl] at hd
  rw [h3, drop_cons hl, digsP_step _ _ (by omega)]
  simp only [hd, if_true]
  rw [← List.take_append_getElem hl, List.append_assoc, show m - n - 1 = m - (n + 1) by omega]
  rfl
theorem digs_stop {m n : Nat} {l : List UInt8} (h : m ≤ n ∨ l.length ≤ n ∨ isDig ((l[n]?).getD 0) = false) (h3 : digsP m l = l.take n ++ digsP (m - n) (l.drop n)) : digsP m l = l.take n := by
  have e : digsP (m - n) (l.drop n) = [] := by
    by_cases h1 : m ≤ n
    · rw [show m - n = 0 by omega]; rfl
    by_cases h2 : l.length ≤ n
    · rw [List.drop_of_length_le h2, digsP_step _ _ (by omega)]
    rw [drop_cons (by omega), digsP_step _ _ (by omega)]
    rcases h with h | h | h
    · exact absurd h h1
    · exact absurd h h2
    · rw [getD_lt (by omega)] at h
      simp [h]
  rw [h3, e, List.append_nil]

theorem upTo_c (l : List UInt8) (hl : l.length ≤ 1000000) : Contract Tryd.prog 23 nilSS [.s (bs l), .s (bs decs), .i .i64 4] (fun sv post => sv = .s (bs (digsP 4 l)) ∧ post = nilSS) := by
  refine contract_ev Γok Tryd.func23 rfl rfl [] ?_
  simp (maxSteps := 4000000) only [push_cast, Int.reduceEq, Int.reduceBNe, Int.reduceBEq, Int.reduceAdd, Int.reduceSub, Int.reduceMul, Int.reduceNeg, Int.reduceLT, Int.reduceLE, Int.reduceToNat, Nat.reduceLT, Nat.reduceAdd, Nat.reduceSub, Nat.reduceMul, Nat.reduceEqDiff, Nat.reduceLeDiff, Nat.reduceBEq, reduceIte, reduceCtorEq, Tryd.f23]
  refine loop_ok (ι := {n : Nat // n ≤ 4 ∧ n ≤ l.length ∧ digsP 4 l = l.take n ++ digsP (4 - n) (l.drop n)}) (fun n => ⟨[.s (bs l), .s (bs decs), .i .i64 4, .any, .any, .any, .any, .i .i64 n.1] ++ List.replicate 22 .any, [], [], [], 0, 0, []⟩) (fun n => 4 - n.1) ⟨0, by omega, by omega, by simp⟩ ?_ ?_
  · exact Sub.w [] (by simp (maxSteps := 4000000) only [push_cast, Int.reduceEq, Int.reduceBNe, Int.reduceBEq, Int.reduceAdd, Int.reduceSub, Int.reduceMul, Int.reduceNeg, Int.reduceLT, Int.reduceLE, Int.reduceToNat, Nat.reduceLT, Nat.reduceAdd, Nat.reduceSub, Nat.reduceMul, Nat.reduceEqDiff, Nat.reduceLeDiff, Nat.reduceBEq, reduceIte, reduceCtorEq])
  rintro ⟨n, h1, h2, h3⟩
  refine evCode_sound Γok _ _ _ ?_
  simp (maxSteps := 4000000) only [push_cast, Int.reduceEq, Int.reduceBNe, Int.reduceBEq, Int.reduceAdd, Int.reduceSub, Int.reduceMul, Int.reduceNeg, Int.reduceLT, Int.reduceLE, Int.reduceToNat, Nat.reduceLT, Nat.reduceAdd, Nat.reduceSub, Nat.reduceMul, Nat.reduceEqDiff, Nat.reduceLeDiff, Nat.reduceBEq, reduceIte, reduceCtorEq, bs_size, bs_at, Int.toNat_natCast]
  generalize hc : (l[n]?).getD 0 = c
  refine ⟨fun h => by omega, fun h => ⟨h, call_w (indexU_c decs c) [] (by simp (maxSteps := 4000000) only [push_cast, Int.reduceEq, Int.reduceBNe, Int.reduceBEq, Int.reduceAdd, Int.reduceSub, Int.reduceMul, Int.reduceNeg, Int.reduceLT, Int.reduceLE, Int.reduceToNat, Nat.reduceLT, Nat.reduceAdd, Nat.reduceSub, Nat.reduceMul, Nat.reduceEqDiff, Nat.reduceLeDiff, Nat.reduceBEq, reduceIte, reduceCtorEq]) ?_⟩, fun h => ⟨fun h4 => by omega, fun h4 => by omega, fun _ => ⟨by omega, ?_⟩⟩⟩
  · rintro sv post ⟨rfl, rfl⟩
    simp (maxSteps := 4000000) only [push_cast, Int.reduceEq, Int.reduceBNe, Int.reduceBEq, Int.reduceAdd, Int.reduceSub, Int.reduceMul, Int.reduceNeg, Int.reduceLT, Int.reduceLE, Int.reduceToNat, Nat.reduceLT, Nat.reduceAdd, Nat.reduceSub, Nat.reduceMul, Nat.reduceEqDiff, Nat.reduceLeDiff, Nat.reduceBEq, reduceIte, reduceCtorEq, idx_nn, idx_ng, decs_has]
    refine ⟨fun h5 => ⟨⟨n + 1, by omega, by omega, digs_next (by omega) (by omega) (by rw [hc]; exact h5.2) h3⟩, by simp only; omega, Sub.w [] ?_⟩, fun h5 => ⟨by rw [bs_size]; omega, ?_⟩⟩
    · simp (maxSteps := 4000000) only [push_cast, Int.reduceEq, Int.reduceBNe, Int.reduceBEq, Int.reduceAdd, Int.reduceSub, Int.reduceMul, Int.reduceNeg, Int.reduceLT, Int.reduceLE, Int.reduceToNat, Nat.reduceLT, Nat.reduceAdd, Nat.reduceSub, Nat.reduceMul, Nat.reduceEqDiff, Nat.reduceLeDiff, Nat.reduceBEq, reduceIte, reduceCtorEq]
      exact (wrap64 (n := (n : Int) + 1) (by omega) (by omega)).symm
    · rw [Int.toNat_natCast, bs_cut, List.drop_zero, ← digs_stop (by
        rcases h5 with h5 | h5
        · omega
        · exact .inr (.inr (by rw [hc]; exact h5))) h3]
      exact Fin.nil rfl (psv := .s _) (by simp (maxSteps := 4000000) only [push_cast, Int.reduceEq, Int.reduceBNe, Int.reduceBEq, Int.reduceAdd, Int.reduceSub, Int.reduceMul, Int.reduceNeg, Int.reduceLT, Int.reduceLE, Int.reduceToNat, Nat.reduceLT, Nat.reduceAdd, Nat.reduceSub, Nat.reduceMul, Nat.reduceEqDiff, Nat.reduceLeDiff, Nat.reduceBEq, reduceIte, reduceCtorEq]) ⟨rfl, rfl⟩
  · rw [bs_cut, List.drop_zero, ← digs_stop (by omega) h3]
    exact Fin.nil rfl (psv := .s _) (by simp (maxSteps := 4000000) only [push_cast, Int.reduceEq, Int.reduceBNe, Int.reduceBEq, Int.reduceAdd, Int.reduceSub, Int.reduceMul, Int.reduceNeg, Int.reduceLT, Int.reduceLE, Int.reduceToNat, Nat.reduceLT, Nat.reduceAdd, Nat.reduceSub, Nat.reduceMul, Nat.reduceEqDiff, Nat.reduceLeDiff, Nat.reduceBEq, reduceIte, reduceCtorEq]) ⟨rfl, rfl⟩

theorem decode_bs {l : List UInt8} {i : Nat} (h : i < l.length) (ha : l[i].toNat < 128) : Utf8.decode (bs l) i = (l[i].toNat, 1) := by
  have e : (bs l).get! (i + 0) = l[i] := by
    show (l.toArray)[i + 0]! = _
    simp [h]
  unfold Utf8.decode
  simp only [e]
  rw [if_pos (by omega)]
theorem valP_app (l : List UInt8) (c : UInt8) : valP (l ++ [c]) = 10 * valP l + (c.toNat - 48) := by simp [valP]
theorem valP_lt : ∀ (n : Nat) (l : List UInt8), l.length = n → (∀ c, c ∈ l → isDig c = true) → valP l < 10 ^ n
  | 0, l, h, _ => by
    obtain rfl := List.eq_nil_of_length_eq_zero h
    simp [valP]
  | n + 1, l, h, hd => by
    have hne : l ≠ [] := by rintro rfl; simp at h
    have e := List.dropLast_concat_getLast hne
    have h1 := valP_lt n l.dropLast (by simp [h]) (fun c hc => hd c (List.dropLast_subset _ hc))
    have h2 := hd _ (List.getLast_mem hne)
    rw [← e, valP_app]
    simp only [isDig, Bool.and_eq_true, decide_eq_true_eq] at h2
    rw [Nat.pow_succ]
    omega
theorem digsP_dig : ∀ (n : Nat) (l : List UInt8) (c : UInt8), c ∈ digsP n l → isDig c = true
  | 0, l, c, h => by simp [digsP] at h
  | n + 1, [], c, h => by simp [digsP] at h
  | n + 1, d :: r, c, h => by
    simp only [digsP] at h
    split at h
    · rename_i hd
      rcases List.mem_cons.1 h with rfl | h
      · exact hd
      · exact digsP_dig n r c h
    · simp at h

theorem value_c (l : List UInt8) (hl : l.length ≤ 4) (hd : ∀ c, c ∈ l → isDig c = true) : Contract Tryd.prog 24 nilSS [.s (bs l)] (fun sv post => sv = .i .i64 (valP l) ∧ post = nilSS) := by
  refine contract_ev Γok Tryd.func24 rfl rfl [3] ?_
  simp (maxSteps := 4000000) only [push_cast, Int.reduceEq, Int.reduceBNe, Int.reduceBEq, Int.reduceAdd, Int.reduceSub, Int.reduceMul, Int.reduceNeg, Int.reduceLT, Int.reduceLE, Int.reduceToNat, Nat.reduceLT, Nat.reduceAdd, Nat.reduceSub, Nat.reduceMul, Nat.reduceEqDiff, Nat.reduceLeDiff, Nat.reduceBEq, reduceIte, reduceCtorEq, Tryd.f24]
  intro b
  refine loop_ok (ι := {i : Nat // i ≤ l.length}) (fun i => ⟨[.s (bs l), .any, .any, .i .i64 (valP (l.take i.1)), .any, .any, .any, .raw (.pointer (some ⟨b, 0, none⟩))] ++ List.replicate 10 .any, [], [], [(0, RObj b (.stringIter (bs l) i.1))], 1, 0, []⟩) (fun i => l.length - i.1) ⟨0, Nat.zero_le _⟩ ?_ ?_
  · exact Sub.w [0] (by simp (maxSteps := 4000000) only [push_cast, Int.reduceEq, Int.reduceBNe, Int.reduceBEq, Int.reduceAdd, Int.reduceSub, Int.reduceMul, Int.reduceNeg, Int.reduceLT, Int.reduceLE, Int.reduceToNat, Nat.reduceLT, Nat.reduceAdd, Nat.reduceSub, Nat.reduceMul, Nat.reduceEqDiff, Nat.reduceLeDiff, Nat.reduceBEq, reduceIte, reduceCtorEq]; rfl)
  rintro ⟨i, hi⟩
  refine evCode_sound Γok _ _ _ ?_
  simp (maxSteps := 4000000) only [push_cast, Int.reduceEq, Int.reduceBNe, Int.reduceBEq, Int.reduceAdd, Int.reduceSub, Int.reduceMul, Int.reduceNeg, Int.reduceLT, Int.reduceLE, Int.reduceToNat, Nat.reduceLT, Nat.reduceAdd, Nat.reduceSub, Nat.reduceMul, Nat.reduceEqDiff, Nat.reduceLeDiff, Nat.reduceBEq, reduceIte, reduceCtorEq]
  refine next_ok Γok 0 b (bs l) i rfl rfl rfl trivial (by simp) ?_
  simp (maxSteps := 4000000) only [push_cast, Int.reduceEq, Int.reduceBNe, Int.reduceBEq, Int.reduceAdd, Int.reduceSub, Int.reduceMul, Int.reduceNeg, Int.reduceLT, Int.reduceLE, Int.reduceToNat, Nat.reduceLT, Nat.reduceAdd, Nat.reduceSub, Nat.reduceMul, Nat.reduceEqDiff, Nat.reduceLeDiff, Nat.reduceBEq, reduceIte, reduceCtorEq, bs_size]
  refine ⟨fun h => ?_, fun h => ?_⟩
  · have hc := hd l[i] (List.getElem_mem h)
    simp only [isDig, Bool.and_eq_true, decide_eq_true_eq] at hc
    rw [decode_bs h (by omega)]
    have hv := valP_lt i (l.take i) (by simp; omega) (fun c hc => hd c (List.mem_of_mem_take hc))
    have hp : 10 ^ i ≤ 10 ^ 3 := Nat.pow_le_pow_right (by omega) (by omega)
    have e : valP (l.take (i + 1)) = 10 * valP (l.take i) + (l[i].toNat - 48) := by rw [← List.take_append_getElem h, valP_app]
    refine ⟨⟨i + 1, h⟩, by simp only; omega, Sub.w [0] ?_⟩
    simp (maxSteps := 4000000) only [push_cast, Int.reduceEq, Int.reduceBNe, Int.reduceBEq, Int.reduceAdd, Int.reduceSub, Int.reduceMul, Int.reduceNeg, Int.reduceLT, Int.reduceLE, Int.reduceToNat, Nat.reduceLT, Nat.reduceAdd, Nat.reduceSub, Nat.reduceMul, Nat.reduceEqDiff, Nat.reduceLeDiff, Nat.reduceBEq, reduceIte, reduceCtorEq]
    rw [e]
    have e1 : IntKind.i32.wrap ((l[i].toNat : Int) - 48) = l[i].toNat - 48 := by rw [IntKind.wrap_i32]; omega
    have e2 : IntKind.i64.wrap ((l[i].toNat : Int) - 48) = l[i].toNat - 48 := wrap64 (n := (l[i].toNat : Int) - 48) (by omega) (by omega)
    have e3 : IntKind.i64.wrap (10 * (valP (l.take i) : Int)) = 10 * (valP (l.take i) : Int) := wrap64 (n := 10 * (valP (l.take i) : Int)) (by omega) (by omega)
    rw [e1, e2, e3, wrap64 (n := 10 * (valP (l.take i) : Int) + ((l[i].toNat : Int) - 48)) (by omega) (by omega)]
    omega
  · have : l.take i = l := List.take_of_length_le (by omega)
    rw [this]
    exact Fin.nil rfl (psv := .i .i64 (valP l)) (by simp (maxSteps := 4000000) only [push_cast, Int.reduceEq, Int.reduceBNe, Int.reduceBEq, Int.reduceAdd, Int.reduceSub, Int.reduceMul, Int.reduceNeg, Int.reduceLT, Int.reduceLE, Int.reduceToNat, Nat.reduceLT, Nat.reduceAdd, Nat.reduceSub, Nat.reduceMul, Nat.reduceEqDiff, Nat.reduceLeDiff, Nat.reduceBEq, reduceIte, reduceCtorEq]) ⟨rfl, rfl⟩
end Go.Proofs.YtlajpggoncelhaaDoor
/- The program's patterns: a directive is read. -/
namespace Go.Proofs.YtlajpggoncelhaaDoor
open Go Go.Eng
set_option maxHeartbeats 4000000
set_option linter.unusedSimpArgs false
set_option linter.unusedVariables false
set_option maxRecDepth 100000

def dirC (d : Dir) : List SV := [.s (bs d.flags), .i .i64 d.width, .i .i64 d.prec, .i .u8 (d.verb.toNat : Int), .i .i64 d.size]
def dirV (d : Dir) : SV := .agg (dirC d)
def isParse (l : List UInt8) (sv : SV) (post : SS) : Prop :=
  post = nilSS ∧ match parseP l with
    | some d => sv = .tup [dirV d, .b true]
    | none => ∃ (fl : ByteArray) (w p v z : Int), sv = .tup [.agg [.s fl, .i .i64 w, .i .i64 p, .i .u8 v, .i .i64 z], .b false]
theorem isPrefix_one (c : UInt8) (l : List UInt8) : Go.Lib.hasPrefix l [c] = headIs c l := by
  cases l with
  | nil => rfl
  | cons d r => simp [Go.Lib.hasPrefix, headIs, List.isPrefixOf]; rw [Bool.beq_comm]

def goOn (acc : List UInt8) : List UInt8 → Bool
  | [] => false
  | d :: _ => flagSet.contains d && !acc.contains d
def flS (c : UInt8) (l acc r : List UInt8) (x : SV) : SS := ⟨[.s (bs (c :: l)), .any, .ptr 0 0, .b false, .ptr 1 0, .s (bs r)] ++ List.replicate 24 .any ++ [x] ++ List.replicate 61 .any, [(0, 45, [.s (bs []), .i .i64 0, .i .i64 0, .i .u8 0, .i .i64 0]), (1, 45, [.s (bs acc), .i .i64 0, .i .i64 (-1), .i .u8 0, .i .i64 0])], [], [], 2, 0, []⟩
theorem flagsP_on {acc : List UInt8} {d : UInt8} {r : List UInt8} (h : goOn acc (d :: r) = true) : flagsP acc (d :: r) = flagsP (acc ++ [d]) r := by
  simp only [goOn] at h
  simp only [flagsP, h, if_true]
theorem flagsP_off {acc r : List UInt8} (h : goOn acc r = false) : flagsP acc r = (acc, r) := by
  cases r with
  | nil => rfl
  | cons d r =>
    simp only [goOn] at h
    simp only [flagsP, h]
    simp

theorem parse_c (c : UInt8) (l : List UInt8) (hl : l.length ≤ 100000) : Contract Tryd.prog 13 nilSS [.s (bs (c :: l))] (isParse l) := by
  refine contract_ev Γok Tryd.func13 rfl rfl [] ?_
  simp (maxSteps := 4000000) only [push_cast, Int.reduceEq, Int.reduceBNe, Int.reduceBEq, Int.reduceAdd, Int.reduceSub, Int.reduceMul, Int.reduceNeg, Int.reduceLT, Int.reduceLE, Int.reduceToNat, Nat.reduceLT, Nat.reduceAdd, Nat.reduceSub, Nat.reduceMul, Nat.reduceEqDiff, Nat.reduceLeDiff, Nat.reduceBEq, reduceIte, reduceCtorEq, Tryd.f13, mk_bs, bs_size, bs_cut]
  rw [List.take_length]
  refine ⟨by omega, call_w (hasPrefix_c l [37]) [] (by simp (maxSteps := 4000000) only [push_cast, Int.reduceEq, Int.reduceBNe, Int.reduceBEq, Int.reduceAdd, Int.reduceSub, Int.reduceMul, Int.reduceNeg, Int.reduceLT, Int.reduceLE, Int.reduceToNat, Nat.reduceLT, Nat.reduceAdd, Nat.reduceSub, Nat.reduceMul, Nat.reduceEqDiff, Nat.reduceLeDiff, Nat.reduceBEq, reduceIte, reduceCtorEq]) ?_⟩
  rintro sv post ⟨rfl, rfl⟩
  rw [isPrefix_one]
  simp (maxSteps := 4000000) only [push_cast, Int.reduceEq, Int.reduceBNe, Int.reduceBEq, Int.reduceAdd, Int.reduceSub, Int.reduceMul, Int.reduceNeg, Int.reduceLT, Int.reduceLE, Int.reduceToNat, Nat.reduceLT, Nat.reduceAdd, Nat.reduceSub, Nat.reduceMul, Nat.reduceEqDiff, Nat.reduceLeDiff, Nat.reduceBEq, reduceIte, reduceCtorEq, mk_bs]
  refine ⟨fun h => ?_, fun h => ?_⟩
  · have e : parseP l = some ⟨[], 0, -1, 37, 2⟩ := by unfold parseP; rw [if_pos h]
    refine Fin.nil rfl (psv := .tup [dirV ⟨[], 0, -1, 37, 2⟩, .b true]) (by simp (maxSteps := 4000000) only [push_cast, Int.reduceEq, Int.reduceBNe, Int.reduceBEq, Int.reduceAdd, Int.reduceSub, Int.reduceMul, Int.reduceNeg, Int.reduceLT, Int.reduceLE, Int.reduceToNat, Nat.reduceLT, Nat.reduceAdd, Nat.reduceSub, Nat.reduceMul, Nat.reduceEqDiff, Nat.reduceLeDiff, Nat.reduceBEq, reduceIte, reduceCtorEq, dirV, dirC]; rfl) ⟨rfl, by rw [e]⟩
  have e0 : parseP l = widthP (flagsP [] l).1 (l.length + 1) (flagsP [] l).2 := by unfold parseP; rw [if_neg (by simp [h])]
  refine loop_ok (ι := {q : List UInt8 × List UInt8 // flagsP [] l = flagsP q.1 q.2 ∧ q.1.length + q.2.length = l.length}) (fun q => flS c l q.1.1 q.1.2 .any) (fun q => q.1.2.length) ⟨([], l), rfl, by simp⟩ ?_ ?_
  · exact Sub.w [0, 1] (by simp (maxSteps := 4000000) only [push_cast, Int.reduceEq, Int.reduceBNe, Int.reduceBEq, Int.reduceAdd, Int.reduceSub, Int.reduceMul, Int.reduceNeg, Int.reduceLT, Int.reduceLE, Int.reduceToNat, Nat.reduceLT, Nat.reduceAdd, Nat.reduceSub, Nat.reduceMul, Nat.reduceEqDiff, Nat.reduceLeDiff, Nat.reduceBEq, reduceIte, reduceCtorEq, flS])
  rintro ⟨⟨acc, r⟩, h1, h2⟩
  simp only at h1 h2
  refine evCode_sound Γok _ _ _ ?_
  simp (maxSteps := 4000000) only [push_cast, Int.reduceEq, Int.reduceBNe, Int.reduceBEq, Int.reduceAdd, Int.reduceSub, Int.reduceMul, Int.reduceNeg, Int.reduceLT, Int.reduceLE, Int.reduceToNat, Nat.reduceLT, Nat.reduceAdd, Nat.reduceSub, Nat.reduceMul, Nat.reduceEqDiff, Nat.reduceLeDiff, Nat.reduceBEq, reduceIte, reduceCtorEq, mk_bs, bs_size, flS]
  refine (region_planS (S := ?S) rfl Γok mixed (.pure 0 (.pure 1 (.pure 2 (.pure 3 (.pure 4 (.pure 5 (.eff (.cons 6 [] (.pure 7 (.pure 8 (.pure 9 (.pure 10 (.pure 11 (.pure 12 (.pure 13 (.eff (.cons 14 [] (.pure 15 (.pure 16 .done)) .nil))))))))) .nil)))))))) 92 rfl (by kernel_rfl) ?_ ?_)
  case S => exact flS c l acc r (.b (goOn acc r))
  · simp (maxSteps := 4000000) only [push_cast, Int.reduceEq, Int.reduceBNe, Int.reduceBEq, Int.reduceAdd, Int.reduceSub, Int.reduceMul, Int.reduceNeg, Int.reduceLT, Int.reduceLE, Int.reduceToNat, Nat.reduceLT, Nat.reduceAdd, Nat.reduceSub, Nat.reduceMul, Nat.reduceEqDiff, Nat.reduceLeDiff, Nat.reduceBEq, reduceIte, reduceCtorEq, mk_bs, bs_size]
    refine ⟨fun h3 => ?_, fun h3 => ?_⟩
    · obtain ⟨d, r, rfl⟩ : ∃ d r', r = d :: r' := by
        cases r with
        | nil => simp at h3
        | cons d r => exact ⟨d, r, rfl⟩
      rw [bs_at0]
      refine ⟨h3, call_w (indexU_c [45, 43, 48, 32] d) [] (by simp (maxSteps := 4000000) only [push_cast, Int.reduceEq, Int.reduceBNe, Int.reduceBEq, Int.reduceAdd, Int.reduceSub, Int.reduceMul, Int.reduceNeg, Int.reduceLT, Int.reduceLE, Int.reduceToNat, Nat.reduceLT, Nat.reduceAdd, Nat.reduceSub, Nat.reduceMul, Nat.reduceEqDiff, Nat.reduceLeDiff, Nat.reduceBEq, reduceIte, reduceCtorEq]) ?_⟩
      rintro sv post ⟨rfl, rfl⟩
      simp (maxSteps := 4000000) only [push_cast, Int.reduceEq, Int.reduceBNe, Int.reduceBEq, Int.reduceAdd, Int.reduceSub, Int.reduceMul, Int.reduceNeg, Int.reduceLT, Int.reduceLE, Int.reduceToNat, Nat.reduceLT, Nat.reduceAdd, Nat.reduceSub, Nat.reduceMul, Nat.reduceEqDiff, Nat.reduceLeDiff, Nat.reduceBEq, reduceIte, reduceCtorEq, mk_bs, bs_size, idx_nn, idx_ng, bs_at0]
      refine ⟨fun _ => by omega, fun h4 => ⟨h4, call_w (indexU_c acc d) [] (by simp (maxSteps := 4000000) only [push_cast, Int.reduceEq, Int.reduceBNe, Int.reduceBEq, Int.reduceAdd, Int.reduceSub, Int.reduceMul, Int.reduceNeg, Int.reduceLT, Int.reduceLE, Int.reduceToNat, Nat.reduceLT, Nat.reduceAdd, Nat.reduceSub, Nat.reduceMul, Nat.reduceEqDiff, Nat.reduceLeDiff, Nat.reduceBEq, reduceIte, reduceCtorEq]) ?_⟩, fun h4 => ?_⟩
      · rintro sv post ⟨rfl, rfl⟩
        simp (maxSteps := 4000000) only [push_cast, Int.reduceEq, Int.reduceBNe, Int.reduceBEq, Int.reduceAdd, Int.reduceSub, Int.reduceMul, Int.reduceNeg, Int.reduceLT, Int.reduceLE, Int.reduceToNat, Nat.reduceLT, Nat.reduceAdd, Nat.reduceSub, Nat.reduceMul, Nat.reduceEqDiff, Nat.reduceLeDiff, Nat.reduceBEq, reduceIte, reduceCtorEq, idx_ng]
        refine Sub.w [0, 1] ?_
        simp (maxSteps := 4000000) only [push_cast, Int.reduceEq, Int.reduceBNe, Int.reduceBEq, Int.reduceAdd, Int.reduceSub, Int.reduceMul, Int.reduceNeg, Int.reduceLT, Int.reduceLE, Int.reduceToNat, Nat.reduceLT, Nat.reduceAdd, Nat.reduceSub, Nat.reduceMul, Nat.reduceEqDiff, Nat.reduceLeDiff, Nat.reduceBEq, reduceIte, reduceCtorEq, flS, goOn]
        rw [decide_eq_true (by omega : (0 : Int) < r.length + 1)]
        show (flagSet.contains d && !acc.contains d) = (true && decide (flagSet.contains d = true) && decide (acc.contains d = false))
        cases flagSet.contains d <;> cases acc.contains d <;> rfl
      · have h5 : flagSet.contains d = false := by
          rcases h4 with h4 | h4
          · omega
          · exact h4
        refine ⟨fun _ h7 => Bool.noConfusion (h5.symm.trans h7.2), Sub.w [0, 1] ?_⟩
        simp (maxSteps := 4000000) only [push_cast, Int.reduceEq, Int.reduceBNe, Int.reduceBEq, Int.reduceAdd, Int.reduceSub, Int.reduceMul, Int.reduceNeg, Int.reduceLT, Int.reduceLE, Int.reduceToNat, Nat.reduceLT, Nat.reduceAdd, Nat.reduceSub, Nat.reduceMul, Nat.reduceEqDiff, Nat.reduceLeDiff, Nat.reduceBEq, reduceIte, reduceCtorEq, flS, goOn]
        rw [h5, show decide ([45, 43, 48, 32].contains d = true) = false from by rw [show ([45, 43, 48, 32] : List UInt8).contains d = false from h5]; rfl]
        simp
    · obtain rfl : r = [] := List.eq_nil_of_length_eq_zero (by omega)
      refine ⟨fun h => absurd h (by simp), fun h => absurd h (by simp), fun _ => ⟨fun h => absurd h (by simp), Sub.w [0, 1] ?_⟩⟩
      simp (maxSteps := 4000000) only [push_cast, Int.reduceEq, Int.reduceBNe, Int.reduceBEq, Int.reduceAdd, Int.reduceSub, Int.reduceMul, Int.reduceNeg, Int.reduceLT, Int.reduceLE, Int.reduceToNat, Nat.reduceLT, Nat.reduceAdd, Nat.reduceSub, Nat.reduceMul, Nat.reduceEqDiff, Nat.reduceLeDiff, Nat.reduceBEq, reduceIte, reduceCtorEq, flS, goOn]
      simp
  · simp (maxSteps := 4000000) only [push_cast, Int.reduceEq, Int.reduceBNe, Int.reduceBEq, Int.reduceAdd, Int.reduceSub, Int.reduceMul, Int.reduceNeg, Int.reduceLT, Int.reduceLE, Int.reduceToNat, Nat.reduceLT, Nat.reduceAdd, Nat.reduceSub, Nat.reduceMul, Nat.reduceEqDiff, Nat.reduceLeDiff, Nat.reduceBEq, reduceIte, reduceCtorEq, flS]
    refine ⟨fun h3 => ?_, fun h3 => ?_⟩
    · obtain ⟨d, r, rfl⟩ : ∃ d r', r = d :: r' := by
        cases r with
        | nil => simp [goOn] at h3
        | cons d r => exact ⟨d, r, rfl⟩
      refine (region_plan rfl Γok mixed (.pure 0 (.pure 1 (.pure 2 (.pure 3 (.pure 4 (.pure 5 (.eff (.cons 6 [] .done .nil)))))))) 92 rfl (by kernel_rfl) ?_)
      simp (maxSteps := 4000000) only [push_cast, Int.reduceEq, Int.reduceBNe, Int.reduceBEq, Int.reduceAdd, Int.reduceSub, Int.reduceMul, Int.reduceNeg, Int.reduceLT, Int.reduceLE, Int.reduceToNat, Nat.reduceLT, Nat.reduceAdd, Nat.reduceSub, Nat.reduceMul, Nat.reduceEqDiff, Nat.reduceLeDiff, Nat.reduceBEq, reduceIte, reduceCtorEq, mk_bs, bs_size, bs_cut, bs_app]
      refine ⟨by omega, by simp only [List.length_cons] at h2; omega, by omega, ⟨(acc ++ [d], r), by rw [h1, flagsP_on h3], by simp only [List.length_append, List.length_cons, List.length_nil] at h2 ⊢; omega⟩, by simp, Sub.w [0, 1] ?_⟩
      simp (maxSteps := 4000000) only [push_cast, Int.reduceEq, Int.reduceBNe, Int.reduceBEq, Int.reduceAdd, Int.reduceSub, Int.reduceMul, Int.reduceNeg, Int.reduceLT, Int.reduceLE, Int.reduceToNat, Nat.reduceLT, Nat.reduceAdd, Nat.reduceSub, Nat.reduceMul, Nat.reduceEqDiff, Nat.reduceLeDiff, Nat.reduceBEq, reduceIte, reduceCtorEq, flS, List.take_length]
    · have e1 := flagsP_off h3
      rw [e1] at h1
      rw [h1] at e0
      refine call_w (upTo_c r (by omega)) [] (by simp (maxSteps := 4000000) only [push_cast, Int.reduceEq, Int.reduceBNe, Int.reduceBEq, Int.reduceAdd, Int.reduceSub, Int.reduceMul, Int.reduceNeg, Int.reduceLT, Int.reduceLE, Int.reduceToNat, Nat.reduceLT, Nat.reduceAdd, Nat.reduceSub, Nat.reduceMul, Nat.reduceEqDiff, Nat.reduceLeDiff, Nat.reduceBEq, reduceIte, reduceCtorEq, decs]) ?_
      rintro sv post ⟨rfl, rfl⟩
      simp (maxSteps := 4000000) only [push_cast, Int.reduceEq, Int.reduceBNe, Int.reduceBEq, Int.reduceAdd, Int.reduceSub, Int.reduceMul, Int.reduceNeg, Int.reduceLT, Int.reduceLE, Int.reduceToNat, Nat.reduceLT, Nat.reduceAdd, Nat.reduceSub, Nat.reduceMul, Nat.reduceEqDiff, Nat.reduceLeDiff, Nat.reduceBEq, reduceIte, reduceCtorEq, mk_bs, bs_size]
      refine call_w (hasPrefix_c (digsP 4 r) [48]) [] (by simp (maxSteps := 4000000) only [push_cast, Int.reduceEq, Int.reduceBNe, Int.reduceBEq, Int.reduceAdd, Int.reduceSub, Int.reduceMul, Int.reduceNeg, Int.reduceLT, Int.reduceLE, Int.reduceToNat, Nat.reduceLT, Nat.reduceAdd, Nat.reduceSub, Nat.reduceMul, Nat.reduceEqDiff, Nat.reduceLeDiff, Nat.reduceBEq, reduceIte, reduceCtorEq]) ?_
      rintro sv post ⟨rfl, rfl⟩
      rw [isPrefix_one]
      simp (maxSteps := 4000000) only [push_cast, Int.reduceEq, Int.reduceBNe, Int.reduceBEq, Int.reduceAdd, Int.reduceSub, Int.reduceMul, Int.reduceNeg, Int.reduceLT, Int.reduceLE, Int.reduceToNat, Nat.reduceLT, Nat.reduceAdd, Nat.reduceSub, Nat.reduceMul, Nat.reduceEqDiff, Nat.reduceLeDiff, Nat.reduceBEq, reduceIte, reduceCtorEq, mk_bs, bs_size]
      refine ⟨fun h4 => ?_, fun h4 => ?_⟩
      · refine Fin.nil rfl (psv := .tup [.agg [.s (bs acc), .i .i64 0, .i .i64 (-1), .i .u8 0, .i .i64 0], .b false]) (by simp (maxSteps := 4000000) only [push_cast, Int.reduceEq, Int.reduceBNe, Int.reduceBEq, Int.reduceAdd, Int.reduceSub, Int.reduceMul, Int.reduceNeg, Int.reduceLT, Int.reduceLE, Int.reduceToNat, Nat.reduceLT, Nat.reduceAdd, Nat.reduceSub, Nat.reduceMul, Nat.reduceEqDiff, Nat.reduceLeDiff, Nat.reduceBEq, reduceIte, reduceCtorEq]) ⟨rfl, ?_⟩
        rw [e0]
        unfold widthP
        rw [if_pos h4]
        exact ⟨_, _, _, _, _, rfl⟩
      have hk := digsP_le 4 r
      have hw := valP_lt _ (digsP 4 r) rfl (digsP_dig 4 r)
      have hw2 : 10 ^ (digsP 4 r).length ≤ 10 ^ 4 := Nat.pow_le_pow_right (by omega) (by omega)
      unfold widthP at e0
      simp only [h4, Bool.false_eq_true, if_false] at e0
      refine call_w (value_c (digsP 4 r) hk.1 (digsP_dig 4 r)) [] (by simp (maxSteps := 4000000) only [push_cast, Int.reduceEq, Int.reduceBNe, Int.reduceBEq, Int.reduceAdd, Int.reduceSub, Int.reduceMul, Int.reduceNeg, Int.reduceLT, Int.reduceLE, Int.reduceToNat, Nat.reduceLT, Nat.reduceAdd, Nat.reduceSub, Nat.reduceMul, Nat.reduceEqDiff, Nat.reduceLeDiff, Nat.reduceBEq, reduceIte, reduceCtorEq]) ?_
      rintro sv post ⟨rfl, rfl⟩
      simp (maxSteps := 4000000) only [push_cast, Int.reduceEq, Int.reduceBNe, Int.reduceBEq, Int.reduceAdd, Int.reduceSub, Int.reduceMul, Int.reduceNeg, Int.reduceLT, Int.reduceLE, Int.reduceToNat, Nat.reduceLT, Nat.reduceAdd, Nat.reduceSub, Nat.reduceMul, Nat.reduceEqDiff, Nat.reduceLeDiff, Nat.reduceBEq, reduceIte, reduceCtorEq, mk_bs, bs_size, bs_cut, List.take_length, Int.toNat_natCast]
      generalize valP (digsP 4 r) = wd at hw e0 ⊢
      have hr3 : (r.drop (digsP 4 r).length).length ≤ r.length := by simp
      generalize r.drop (digsP 4 r).length = r2 at e0 hr3 ⊢
      refine ⟨by omega, call_w (hasPrefix_c r2 [46]) [] (by simp (maxSteps := 4000000) only [push_cast, Int.reduceEq, Int.reduceBNe, Int.reduceBEq, Int.reduceAdd, Int.reduceSub, Int.reduceMul, Int.reduceNeg, Int.reduceLT, Int.reduceLE, Int.reduceToNat, Nat.reduceLT, Nat.reduceAdd, Nat.reduceSub, Nat.reduceMul, Nat.reduceEqDiff, Nat.reduceLeDiff, Nat.reduceBEq, reduceIte, reduceCtorEq]) ?_⟩
      rintro sv post ⟨rfl, rfl⟩
      rw [isPrefix_one]
      simp (maxSteps := 4000000) only [push_cast, Int.reduceEq, Int.reduceBNe, Int.reduceBEq, Int.reduceAdd, Int.reduceSub, Int.reduceMul, Int.reduceNeg, Int.reduceLT, Int.reduceLE, Int.reduceToNat, Nat.reduceLT, Nat.reduceAdd, Nat.reduceSub, Nat.reduceMul, Nat.reduceEqDiff, Nat.reduceLeDiff, Nat.reduceBEq, reduceIte, reduceCtorEq, mk_bs, bs_size, bs_cut, List.take_length, bs_tl]
      refine ⟨fun h5 => ?_, fun h5 => ?_⟩
      · obtain ⟨d, r2, rfl⟩ : ∃ d r', r2 = d :: r' := by
          cases r2 with
          | nil => simp [headIs] at h5
          | cons d r => exact ⟨d, r, rfl⟩
        have hd : d = 46 := by simpa [headIs] using h5
        have hk2 := digsP_le 4 r2
        have hw3 := valP_lt _ (digsP 4 r2) rfl (digsP_dig 4 r2)
        have hw4 : 10 ^ (digsP 4 r2).length ≤ 10 ^ 4 := Nat.pow_le_pow_right (by omega) (by omega)
        rw [show precP (d :: r2) = ((valP (digsP 4 r2) : Int), r2.drop (digsP 4 r2).length) from if_pos hd] at e0
        simp only at e0
        simp (maxSteps := 4000000) only [push_cast, Int.reduceEq, Int.reduceBNe, Int.reduceBEq, Int.reduceAdd, Int.reduceSub, Int.reduceMul, Int.reduceNeg, Int.reduceLT, Int.reduceLE, Int.reduceToNat, Nat.reduceLT, Nat.reduceAdd, Nat.reduceSub, Nat.reduceMul, Nat.reduceEqDiff, Nat.reduceLeDiff, Nat.reduceBEq, reduceIte, reduceCtorEq, List.take_length]
        refine ⟨by omega, call_w (upTo_c r2 (by simp only [List.length_cons] at hr3; omega)) [] (by simp (maxSteps := 4000000) only [push_cast, Int.reduceEq, Int.reduceBNe, Int.reduceBEq, Int.reduceAdd, Int.reduceSub, Int.reduceMul, Int.reduceNeg, Int.reduceLT, Int.reduceLE, Int.reduceToNat, Nat.reduceLT, Nat.reduceAdd, Nat.reduceSub, Nat.reduceMul, Nat.reduceEqDiff, Nat.reduceLeDiff, Nat.reduceBEq, reduceIte, reduceCtorEq, decs]) ?_⟩
        rintro sv post ⟨rfl, rfl⟩
        simp (maxSteps := 4000000) only [push_cast, Int.reduceEq, Int.reduceBNe, Int.reduceBEq, Int.reduceAdd, Int.reduceSub, Int.reduceMul, Int.reduceNeg, Int.reduceLT, Int.reduceLE, Int.reduceToNat, Nat.reduceLT, Nat.reduceAdd, Nat.reduceSub, Nat.reduceMul, Nat.reduceEqDiff, Nat.reduceLeDiff, Nat.reduceBEq, reduceIte, reduceCtorEq, mk_bs, bs_size]
        refine call_w (value_c (digsP 4 r2) hk2.1 (digsP_dig 4 r2)) [] (by simp (maxSteps := 4000000) only [push_cast, Int.reduceEq, Int.reduceBNe, Int.reduceBEq, Int.reduceAdd, Int.reduceSub, Int.reduceMul, Int.reduceNeg, Int.reduceLT, Int.reduceLE, Int.reduceToNat, Nat.reduceLT, Nat.reduceAdd, Nat.reduceSub, Nat.reduceMul, Nat.reduceEqDiff, Nat.reduceLeDiff, Nat.reduceBEq, reduceIte, reduceCtorEq]) ?_
        rintro sv post ⟨rfl, rfl⟩
        have e7 : IntKind.i64.wrap (1 + ((digsP 4 r2).length : Int)) = ((digsP 4 r2).length + 1 : Nat) := by rw [wrap64 (n := 1 + ((digsP 4 r2).length : Int)) (by omega) (by omega)]; omega
        have e8 : (((digsP 4 r2).length : Int) + 1).toNat = (digsP 4 r2).length + 1 := by omega
        simp (maxSteps := 4000000) only [push_cast, Int.reduceEq, Int.reduceBNe, Int.reduceBEq, Int.reduceAdd, Int.reduceSub, Int.reduceMul, Int.reduceNeg, Int.reduceLT, Int.reduceLE, Int.reduceToNat, Nat.reduceLT, Nat.reduceAdd, Nat.reduceSub, Nat.reduceMul, Nat.reduceEqDiff, Nat.reduceLeDiff, Nat.reduceBEq, reduceIte, reduceCtorEq, mk_bs, bs_size, bs_cut, List.take_length, e7, e8, Int.toNat_natCast, bs_tl]
        generalize (valP (digsP 4 r2) : Nat) = p at hw3 e0 ⊢
        have hr4 : (r2.drop (digsP 4 r2).length).length ≤ r2.length := by simp
        generalize r2.drop (digsP 4 r2).length = r3 at e0 hr4 ⊢
        cases r3 with
        | nil =>
          refine ⟨by omega, fun h => absurd rfl h, fun h => absurd rfl h, fun _ => ⟨fun h => absurd rfl h, fun _ => ?_, fun h => absurd rfl h.1⟩⟩
          refine Fin.nil rfl (psv := .tup [.agg [.s (bs acc), .i .i64 wd, .i .i64 p, .i .u8 0, .i .i64 0], .b false]) (by simp (maxSteps := 4000000) only [push_cast, Int.reduceEq, Int.reduceBNe, Int.reduceBEq, Int.reduceAdd, Int.reduceSub, Int.reduceMul, Int.reduceNeg, Int.reduceLT, Int.reduceLE, Int.reduceToNat, Nat.reduceLT, Nat.reduceAdd, Nat.reduceSub, Nat.reduceMul, Nat.reduceEqDiff, Nat.reduceLeDiff, Nat.reduceBEq, reduceIte, reduceCtorEq]) ⟨rfl, ?_⟩
          rw [e0]
          exact ⟨_, _, _, _, _, rfl⟩
        | cons v r3 =>
          simp (maxSteps := 4000000) only [push_cast, Int.reduceEq, Int.reduceBNe, Int.reduceBEq, Int.reduceAdd, Int.reduceSub, Int.reduceMul, Int.reduceNeg, Int.reduceLT, Int.reduceLE, Int.reduceToNat, Nat.reduceLT, Nat.reduceAdd, Nat.reduceSub, Nat.reduceMul, Nat.reduceEqDiff, Nat.reduceLeDiff, Nat.reduceBEq, reduceIte, reduceCtorEq, bs_at0]
          refine ⟨by omega, by omega, call_w (indexU_c verbSet v) [] (by simp (maxSteps := 4000000) only [push_cast, Int.reduceEq, Int.reduceBNe, Int.reduceBEq, Int.reduceAdd, Int.reduceSub, Int.reduceMul, Int.reduceNeg, Int.reduceLT, Int.reduceLE, Int.reduceToNat, Nat.reduceLT, Nat.reduceAdd, Nat.reduceSub, Nat.reduceMul, Nat.reduceEqDiff, Nat.reduceLeDiff, Nat.reduceBEq, reduceIte, reduceCtorEq, verbSet]) ?_⟩
          rintro sv post ⟨rfl, rfl⟩
          simp (maxSteps := 4000000) only [push_cast, Int.reduceEq, Int.reduceBNe, Int.reduceBEq, Int.reduceAdd, Int.reduceSub, Int.reduceMul, Int.reduceNeg, Int.reduceLT, Int.reduceLE, Int.reduceToNat, Nat.reduceLT, Nat.reduceAdd, Nat.reduceSub, Nat.reduceMul, Nat.reduceEqDiff, Nat.reduceLeDiff, Nat.reduceBEq, reduceIte, reduceCtorEq, idx_ng, bs_at0, List.length_cons, bs_tl, bs_size]
          have em : maxI wd p ≤ 4096 ↔ wd ≤ 4096 ∧ p ≤ 4096 := by unfold maxI; split <;> omega
          have em2 : 4096 < maxI wd p ↔ ¬ (wd ≤ 4096 ∧ p ≤ 4096) := by rw [← em]; omega
          have hlr : r3.length + 1 ≤ l.length := by simp only [List.length_cons] at hr4 hr3; omega
          refine ⟨fun h6 => ?_, fun h6 => ?_⟩
          · refine Fin.nil rfl (psv := .tup [.agg [.s (bs acc), .i .i64 wd, .i .i64 p, .i .u8 0, .i .i64 0], .b false]) (by simp (maxSteps := 4000000) only [push_cast, Int.reduceEq, Int.reduceBNe, Int.reduceBEq, Int.reduceAdd, Int.reduceSub, Int.reduceMul, Int.reduceNeg, Int.reduceLT, Int.reduceLE, Int.reduceToNat, Nat.reduceLT, Nat.reduceAdd, Nat.reduceSub, Nat.reduceMul, Nat.reduceEqDiff, Nat.reduceLeDiff, Nat.reduceBEq, reduceIte, reduceCtorEq]) ⟨rfl, ?_⟩
            rw [e0]
            rw [em2] at h6
            have : verbP acc wd p (l.length + 1) (v :: r3) = none := by
              refine if_neg ?_
              simp only [Bool.and_eq_true, decide_eq_true_eq]
              rintro ⟨⟨c1, c2⟩, c3⟩
              rcases h6 with (h6 | h6) | h6
              · cases h6
              · rw [c1] at h6; cases h6
              · exact h6 ⟨c2, by omega⟩
            rw [this]
            exact ⟨_, _, _, _, _, rfl⟩
          · rw [em] at h6
            refine ⟨by omega, ?_⟩
            rw [wrap64 (n := (l.length : Int) + 1 - (r3.length + 1)) (by omega) (by omega), wrap64 (n := (l.length : Int) + 1 - (r3.length + 1) + 1) (by omega) (by omega)]
            rw [show (l.length : Int) + 1 - (r3.length + 1) + 1 = ((l.length + 1 - r3.length : Nat) : Int) by omega]
            refine Fin.nil rfl (psv := .tup [dirV ⟨acc, wd, p, v, l.length + 1 - r3.length⟩, .b true]) (by simp (maxSteps := 4000000) only [push_cast, Int.reduceEq, Int.reduceBNe, Int.reduceBEq, Int.reduceAdd, Int.reduceSub, Int.reduceMul, Int.reduceNeg, Int.reduceLT, Int.reduceLE, Int.reduceToNat, Nat.reduceLT, Nat.reduceAdd, Nat.reduceSub, Nat.reduceMul, Nat.reduceEqDiff, Nat.reduceLeDiff, Nat.reduceBEq, reduceIte, reduceCtorEq, dirV, dirC]) ⟨rfl, ?_⟩
            rw [e0]
            have : verbP acc wd p (l.length + 1) (v :: r3) = some ⟨acc, wd, p, v, l.length + 1 - r3.length⟩ := by
              refine if_pos ?_
              simp only [Bool.and_eq_true, decide_eq_true_eq]
              exact ⟨⟨h6.1, h6.2.1⟩, by omega⟩
            rw [this]
      · rw [show precP r2 = (-1, r2) from by
          cases r2 with
          | nil => rfl
          | cons d r => exact if_neg (by simpa [headIs] using h5)] at e0
        simp only at e0
        have hr4 : r2.length ≤ r.length := hr3
        generalize r2 = r3 at e0 hr4 ⊢
        cases r3 with
        | nil =>
          refine ⟨fun h => absurd rfl h, fun h => absurd rfl h, fun _ => ⟨fun h => absurd rfl h, fun _ => ?_, fun h => absurd rfl h.1⟩⟩
          refine Fin.nil rfl (psv := .tup [.agg [.s (bs acc), .i .i64 wd, .i .i64 (-1), .i .u8 0, .i .i64 0], .b false]) (by simp (maxSteps := 4000000) only [push_cast, Int.reduceEq, Int.reduceBNe, Int.reduceBEq, Int.reduceAdd, Int.reduceSub, Int.reduceMul, Int.reduceNeg, Int.reduceLT, Int.reduceLE, Int.reduceToNat, Nat.reduceLT, Nat.reduceAdd, Nat.reduceSub, Nat.reduceMul, Nat.reduceEqDiff, Nat.reduceLeDiff, Nat.reduceBEq, reduceIte, reduceCtorEq]) ⟨rfl, ?_⟩
          rw [e0]
          exact ⟨_, _, _, _, _, rfl⟩
        | cons v r3 =>
          simp (maxSteps := 4000000) only [push_cast, Int.reduceEq, Int.reduceBNe, Int.reduceBEq, Int.reduceAdd, Int.reduceSub, Int.reduceMul, Int.reduceNeg, Int.reduceLT, Int.reduceLE, Int.reduceToNat, Nat.reduceLT, Nat.reduceAdd, Nat.reduceSub, Nat.reduceMul, Nat.reduceEqDiff, Nat.reduceLeDiff, Nat.reduceBEq, reduceIte, reduceCtorEq, bs_at0]
          refine ⟨by omega, call_w (indexU_c verbSet v) [] (by simp (maxSteps := 4000000) only [push_cast, Int.reduceEq, Int.reduceBNe, Int.reduceBEq, Int.reduceAdd, Int.reduceSub, Int.reduceMul, Int.reduceNeg, Int.reduceLT, Int.reduceLE, Int.reduceToNat, Nat.reduceLT, Nat.reduceAdd, Nat.reduceSub, Nat.reduceMul, Nat.reduceEqDiff, Nat.reduceLeDiff, Nat.reduceBEq, reduceIte, reduceCtorEq, verbSet]) ?_⟩
          rintro sv post ⟨rfl, rfl⟩
          simp (maxSteps := 4000000) only [push_cast, Int.reduceEq, Int.reduceBNe, Int.reduceBEq, Int.reduceAdd, Int.reduceSub, Int.reduceMul, Int.reduceNeg, Int.reduceLT, Int.reduceLE, Int.reduceToNat, Nat.reduceLT, Nat.reduceAdd, Nat.reduceSub, Nat.reduceMul, Nat.reduceEqDiff, Nat.reduceLeDiff, Nat.reduceBEq, reduceIte, reduceCtorEq, idx_ng, bs_at0, List.length_cons, bs_tl, bs_size]
          have em : maxI wd (-1) ≤ 4096 ↔ wd ≤ 4096 ∧ (-1 : Int) ≤ 4096 := by unfold maxI; split <;> omega
          have em2 : 4096 < maxI wd (-1) ↔ ¬ (wd ≤ 4096 ∧ (-1 : Int) ≤ 4096) := by rw [← em]; omega
          have hlr : r3.length + 1 ≤ l.length := by simp only [List.length_cons] at hr4 hr3; omega
          refine ⟨fun h6 => ?_, fun h6 => ?_⟩
          · refine Fin.nil rfl (psv := .tup [.agg [.s (bs acc), .i .i64 wd, .i .i64 (-1), .i .u8 0, .i .i64 0], .b false]) (by simp (maxSteps := 4000000) only [push_cast, Int.reduceEq, Int.reduceBNe, Int.reduceBEq, Int.reduceAdd, Int.reduceSub, Int.reduceMul, Int.reduceNeg, Int.reduceLT, Int.reduceLE, Int.reduceToNat, Nat.reduceLT, Nat.reduceAdd, Nat.reduceSub, Nat.reduceMul, Nat.reduceEqDiff, Nat.reduceLeDiff, Nat.reduceBEq, reduceIte, reduceCtorEq]) ⟨rfl, ?_⟩
            rw [e0]
            rw [em2] at h6
            have : verbP acc wd (-1) (l.length + 1) (v :: r3) = none := by
              refine if_neg ?_
              simp only [Bool.and_eq_true, decide_eq_true_eq]
              rintro ⟨⟨c1, c2⟩, c3⟩
              rcases h6 with (h6 | h6) | h6
              · cases h6
              · rw [c1] at h6; cases h6
              · exact h6 ⟨c2, by omega⟩
            rw [this]
            exact ⟨_, _, _, _, _, rfl⟩
          · rw [em] at h6
            refine ⟨by omega, ?_⟩
            rw [wrap64 (n := (l.length : Int) + 1 - (r3.length + 1)) (by omega) (by omega), wrap64 (n := (l.length : Int) + 1 - (r3.length + 1) + 1) (by omega) (by omega)]
            rw [show (l.length : Int) + 1 - (r3.length + 1) + 1 = ((l.length + 1 - r3.length : Nat) : Int) by omega]
            refine Fin.nil rfl (psv := .tup [dirV ⟨acc, wd, (-1), v, l.length + 1 - r3.length⟩, .b true]) (by simp (maxSteps := 4000000) only [push_cast, Int.reduceEq, Int.reduceBNe, Int.reduceBEq, Int.reduceAdd, Int.reduceSub, Int.reduceMul, Int.reduceNeg, Int.reduceLT, Int.reduceLE, Int.reduceToNat, Nat.reduceLT, Nat.reduceAdd, Nat.reduceSub, Nat.reduceMul, Nat.reduceEqDiff, Nat.reduceLeDiff, Nat.reduceBEq, reduceIte, reduceCtorEq, dirV, dirC]) ⟨rfl, ?_⟩
            rw [e0]
            have : verbP acc wd (-1) (l.length + 1) (v :: r3) = some ⟨acc, wd, (-1), v, l.length + 1 - r3.length⟩ := by
              refine if_pos ?_
              simp only [Bool.and_eq_true, decide_eq_true_eq]
              exact ⟨⟨h6.1, h6.2.1⟩, by omega⟩
            rw [this]
end Go.Proofs.YtlajpggoncelhaaDoor
/- A number's digits. -/
namespace Go.Proofs.YtlajpggoncelhaaDoor
open Go Go.Eng
set_option maxHeartbeats 4000000
set_option linter.unusedSimpArgs false
set_option linter.unusedVariables false
set_option maxRecDepth 100000

def Rev (l cur : List Int) (i : Nat) : Prop := cur.length = l.length ∧ ∀ k, cur[k]? = if k < i ∨ l.length ≤ k + i then l.reverse[k]? else l[k]?
theorem Rev.start (l : List Int) : Rev l l 0 := ⟨rfl, fun k => by
  split
  · rw [List.getElem?_eq_none (by omega), List.getElem?_eq_none (by simp; omega)]
  · rfl⟩
theorem Rev.step {l cur : List Int} {i j : Nat} (h : Rev l cur i) (hij : i < j) (hj : i + j + 1 = l.length) : Rev l ((cur.set i (cur.getD j 0)).set j (cur.getD i 0)) (i + 1) := by
  obtain ⟨h1, h2⟩ := h
  refine ⟨by simp [h1], fun k => ?_⟩
  have ci : cur.getD i 0 = l[i] := by
    have := h2 i
    rw [if_neg (by omega)] at this
    rw [List.getD_eq_getElem?_getD, this, List.getElem?_eq_getElem (by omega)]
    rfl
  have cj : cur.getD j 0 = l[j] := by
    have := h2 j
    rw [if_neg (by omega)] at this
    rw [List.getD_eq_getElem?_getD, this, List.getElem?_eq_getElem (by omega)]
    rfl
  rw [ci, cj, List.getElem?_set, List.getElem?_set]
  simp only [List.length_set, h1]
  by_cases k1 : j = k
  · subst k1
    rw [if_pos rfl, if_pos (by omega), if_pos (by omega), List.getElem?_reverse (by omega), show l.length - 1 - j = i by omega, List.getElem?_eq_getElem (by omega)]
  · rw [if_neg k1]
    by_cases k2 : i = k
    · subst k2
      rw [if_pos rfl, if_pos (by omega), if_pos (by omega), List.getElem?_reverse (by omega), show l.length - 1 - i = j by omega, List.getElem?_eq_getElem (by omega)]
    · rw [if_neg k2, h2 k]
      by_cases k3 : k < i ∨ l.length ≤ k + i
      · rw [if_pos k3, if_pos (by omega)]
      · rw [if_neg k3, if_neg (by omega)]
theorem Rev.fin {l cur : List Int} {i : Nat} (h : Rev l cur i) (hi : l.length ≤ 2 * i + 1) : cur = l.reverse := by
  apply List.ext_getElem?
  intro k
  rw [h.2 k]
  split
  · rfl
  · rename_i hk
    by_cases hl : k < l.length
    · rw [List.getElem?_reverse hl, show l.length - 1 - k = k by omega]
    · rw [List.getElem?_eq_none (by omega), List.getElem?_eq_none (by simp; omega)]

theorem reverse_c (p : Option Addr) (c : Nat) (l : List Int) (hl : l.length ≤ 1000000) : Contract Tryd.prog 70 (preR (RowR .u8 p c l)) [.raw (.slice p l.length c)] (fun sv post => sv = .tup [] ∧ post = preR (RowR .u8 p c l.reverse)) := by
  refine contract_row 0 rfl fun hc hp => ?_
  refine contract_ev Γok Tryd.func70 rfl rfl [] ?_
  simp (maxSteps := 4000000) only [push_cast, Int.reduceEq, Int.reduceBNe, Int.reduceBEq, Int.reduceAdd, Int.reduceSub, Int.reduceMul, Int.reduceNeg, Int.reduceLT, Int.reduceLE, Int.reduceToNat, Nat.reduceLT, Nat.reduceAdd, Nat.reduceSub, Nat.reduceMul, Nat.reduceEqDiff, Nat.reduceLeDiff, Nat.reduceBEq, reduceIte, reduceCtorEq, Tryd.f70]
  rw [wrap64 (n := (l.length : Int) - 1) (by omega) (by omega)]
  refine loop_ok (ι := {q : Nat × List Int // Rev l q.2 q.1 ∧ 2 * q.1 ≤ l.length + 1}) (fun q => ⟨[.raw (.slice p l.length c), .any, .i .i64 q.1.1, .i .i64 ((l.length : Int) - 1 - q.1.1)] ++ List.replicate 24 .any, [], [], [(0, RowR .u8 p c q.1.2)], 1, 1, []⟩) (fun q => l.length - 2 * q.1.1) ⟨(0, l), Rev.start l, by simp⟩ ?_ ?_
  · exact Sub.w [0] (by simp (maxSteps := 4000000) only [push_cast, Int.reduceEq, Int.reduceBNe, Int.reduceBEq, Int.reduceAdd, Int.reduceSub, Int.reduceMul, Int.reduceNeg, Int.reduceLT, Int.reduceLE, Int.reduceToNat, Nat.reduceLT, Nat.reduceAdd, Nat.reduceSub, Nat.reduceMul, Nat.reduceEqDiff, Nat.reduceLeDiff, Nat.reduceBEq, reduceIte, reduceCtorEq]; simp)
  rintro ⟨⟨i, cur⟩, h1, h2⟩
  simp only at h1 h2
  have h3 := h1.1
  refine evCode_sound Γok _ _ _ ?_
  simp (maxSteps := 4000000) only [push_cast, Int.reduceEq, Int.reduceBNe, Int.reduceBEq, Int.reduceAdd, Int.reduceSub, Int.reduceMul, Int.reduceNeg, Int.reduceLT, Int.reduceLE, Int.reduceToNat, Nat.reduceLT, Nat.reduceAdd, Nat.reduceSub, Nat.reduceMul, Nat.reduceEqDiff, Nat.reduceLeDiff, Nat.reduceBEq, reduceIte, reduceCtorEq]
  refine ⟨fun h4 => ?_, fun h4 => ?_⟩
  · refine (region_plan rfl Γok mixed (.pure 0 (.pure 1 (.pure 2 (.pure 3 (.pure 4 (.pure 5 (.pure 6 (.pure 8 (.pure 9 (.pure 10 (.eff (.cons 7 [] (.eff (.cons 11 [] (.pure 12 (.eff (.cons 13 [] (.pure 14 (.eff (.cons 15 [] .done .nil))) .nil))) .nil)) (.cons 11 [] (.eff (.cons 7 [] (.pure 12 (.eff (.cons 13 [] (.pure 14 (.eff (.cons 15 [] .done .nil))) .nil))) .nil)) .nil))))))))))))) 28 rfl (by kernel_rfl) ?_)
    simp (maxSteps := 4000000) only [push_cast, Int.reduceEq, Int.reduceBNe, Int.reduceBEq, Int.reduceAdd, Int.reduceSub, Int.reduceMul, Int.reduceNeg, Int.reduceLT, Int.reduceLE, Int.reduceToNat, Nat.reduceLT, Nat.reduceAdd, Nat.reduceSub, Nat.reduceMul, Nat.reduceEqDiff, Nat.reduceLeDiff, Nat.reduceBEq, reduceIte, reduceCtorEq]
    obtain ⟨j, hj⟩ : ∃ j : Nat, (l.length : Int) - 1 - i = j := ⟨l.length - 1 - i, by omega⟩
    have hpn : ¬ p = none := hp (by omega)
    rw [hj]
    simp only [Int.toNat_natCast]
    refine ⟨⟨by omega, by omega, hpn⟩, ⟨by omega, by omega, hpn⟩, ⟨0, .u8, p, c, cur, j, .inl rfl, by omega, rfl, 0, .u8, p, c, cur, i, .inl rfl, by omega, rfl, ⟨by omega, by omega, hpn⟩, 0, .u8, p, c, cur, i, cur.getD j 0, .inl rfl, by omega, rfl, rfl, ?_⟩, ⟨0, .u8, p, c, cur, i, .inl rfl, by omega, rfl, 0, .u8, p, c, cur, j, .inl rfl, by omega, rfl, ⟨by omega, by omega, hpn⟩, 0, .u8, p, c, cur, i, cur.getD j 0, .inl rfl, by omega, rfl, rfl, ?_⟩⟩
    all_goals
      refine ⟨⟨by omega, by omega, hpn⟩, 0, .u8, p, c, cur.set i (cur.getD j 0), j, cur.getD i 0, .inl rfl, by rw [List.length_set]; omega, rfl, rfl, ?_⟩
      refine ⟨⟨(i + 1, (cur.set i (cur.getD j 0)).set j (cur.getD i 0)), h1.step (by omega) (by omega), by simp only; omega⟩, by simp only; omega, Sub.w [0] ?_⟩
      simp (maxSteps := 4000000) only [push_cast, Int.reduceEq, Int.reduceBNe, Int.reduceBEq, Int.reduceAdd, Int.reduceSub, Int.reduceMul, Int.reduceNeg, Int.reduceLT, Int.reduceLE, Int.reduceToNat, Nat.reduceLT, Nat.reduceAdd, Nat.reduceSub, Nat.reduceMul, Nat.reduceEqDiff, Nat.reduceLeDiff, Nat.reduceBEq, reduceIte, reduceCtorEq]
      rw [wrap64 (n := (i : Int) + 1) (by omega) (by omega), wrap64 (n := (j : Int) - 1) (by omega) (by omega)]
      exact ⟨rfl, by omega⟩
  · have e := h1.fin (by omega)
    exact Fin.w [0] (.tup []) _ (by simp (maxSteps := 4000000) only [push_cast, Int.reduceEq, Int.reduceBNe, Int.reduceBEq, Int.reduceAdd, Int.reduceSub, Int.reduceMul, Int.reduceNeg, Int.reduceLT, Int.reduceLE, Int.reduceToNat, Nat.reduceLT, Nat.reduceAdd, Nat.reduceSub, Nat.reduceMul, Nat.reduceEqDiff, Nat.reduceLeDiff, Nat.reduceBEq, reduceIte, reduceCtorEq]; rw [e]) ⟨rfl, rfl⟩

/-- The nil slice in a cell is a row of one's own, of any kind. -/
theorem Sub.rowHpR {s : SS} (n j : Nat) (k2 : IntKind) {T : TypeId} {l : List SV} {k : IntKind} (h1 : hfind s.hp n = some (T, l)) (h2 : lget l j = .ints k .nil []) :
    Sub s { s with hp := hset s.hp n (lset l j (.raw (.slice none 0 0))), rs := (s.nx, RowR k2 none 0 []) :: s.rs, nx := s.nx + 1 } := by
  intro E a w hf hw
  obtain ⟨E1, e1, f1, g1⟩ := Sub.rowHp (s := s) n j 0 k2 h1 h2 E a w hf hw
  refine ⟨E1, e1, ⟨f1.tmps, f1.defers⟩, g1.rsMap (fun r R hr => ?_)⟩
  rcases List.mem_cons.1 hr with hr | hr
  · injection hr with a b
    subst a b
    exact ⟨_, List.mem_cons_self, fun F hF => RowZ.row hF⟩
  · exact ⟨R, List.mem_cons_of_mem _ hr, fun F hF => hF⟩

def hexs : List UInt8 := [48, 49, 50, 51, 52, 53, 54, 55, 56, 57, 97, 98, 99, 100, 101, 102]
theorem hexs_at (d : Nat) (h : d < 16) : (hexs[d]?).getD 0 = dchar d := by
  have : ∀ d : Fin 16, (hexs[d.1]?).getD 0 = dchar d.1 := by decide
  exact this ⟨d, h⟩
theorem lowF_len : ∀ (f n b : Nat), (lowF f n b).length ≤ f
  | 0, n, b => by simp [lowF]
  | f + 1, n, b => by
    simp only [lowF, List.length_cons]
    split
    · simp
    · have := lowF_len f (n / b) b; omega

theorem places_c (n b : Int) : Contract Tryd.prog 69 nilSS [.i .u64 n, .i .u64 b] (fun sv post => sv = .fn (.func 80) [] [.ptr 0 0, .ptr 1 0] ∧ post = ⟨[], [(0, 22, [.i .u64 n]), (1, 22, [.i .u64 b])], [], [], 2, 0, []⟩) := by
  refine contract_ev Γok Tryd.func69 rfl rfl [] ?_
  simp (maxSteps := 4000000) only [push_cast, Int.reduceEq, Int.reduceBNe, Int.reduceBEq, Int.reduceAdd, Int.reduceSub, Int.reduceMul, Int.reduceNeg, Int.reduceLT, Int.reduceLE, Int.reduceToNat, Nat.reduceLT, Nat.reduceAdd, Nat.reduceSub, Nat.reduceMul, Nat.reduceEqDiff, Nat.reduceLeDiff, Nat.reduceBEq, reduceIte, reduceCtorEq, Tryd.f69]
  exact Fin.w [0, 1] (.fn (.func 80) [] [.ptr 0 0, .ptr 1 0]) _ (by simp (maxSteps := 4000000) only [push_cast, Int.reduceEq, Int.reduceBNe, Int.reduceBEq, Int.reduceAdd, Int.reduceSub, Int.reduceMul, Int.reduceNeg, Int.reduceLT, Int.reduceLE, Int.reduceToNat, Nat.reduceLT, Nat.reduceAdd, Nat.reduceSub, Nat.reduceMul, Nat.reduceEqDiff, Nat.reduceLeDiff, Nat.reduceBEq, reduceIte, reduceCtorEq]) ⟨rfl, rfl⟩

theorem written_c (n b : Nat) (hn : n < 18446744073709551616) (hb : 2 ≤ b) (hb2 : b ≤ 16) : Contract Tryd.prog 55 nilSS [.i .u64 n, .i .i64 b] (fun sv post => sv = .s (bs (placesP n b)) ∧ post = nilSS) := by
  refine contract_ev Γok Tryd.func55 rfl rfl [] ?_
  simp (maxSteps := 4000000) only [push_cast, Int.reduceEq, Int.reduceBNe, Int.reduceBEq, Int.reduceAdd, Int.reduceSub, Int.reduceMul, Int.reduceNeg, Int.reduceLT, Int.reduceLE, Int.reduceToNat, Nat.reduceLT, Nat.reduceAdd, Nat.reduceSub, Nat.reduceMul, Nat.reduceEqDiff, Nat.reduceLeDiff, Nat.reduceBEq, reduceIte, reduceCtorEq, Tryd.f55]
  have e1 : IntKind.u64.wrap (b : Int) = b := by rw [IntKind.wrap_u64]; omega
  rw [e1]
  refine call_w (places_c n b) [] (by simp (maxSteps := 4000000) only [push_cast, Int.reduceEq, Int.reduceBNe, Int.reduceBEq, Int.reduceAdd, Int.reduceSub, Int.reduceMul, Int.reduceNeg, Int.reduceLT, Int.reduceLE, Int.reduceToNat, Nat.reduceLT, Nat.reduceAdd, Nat.reduceSub, Nat.reduceMul, Nat.reduceEqDiff, Nat.reduceLeDiff, Nat.reduceBEq, reduceIte, reduceCtorEq]) ?_
  rintro sv post ⟨rfl, rfl⟩
  simp (maxSteps := 4000000) only [push_cast, Int.reduceEq, Int.reduceBNe, Int.reduceBEq, Int.reduceAdd, Int.reduceSub, Int.reduceMul, Int.reduceNeg, Int.reduceLT, Int.reduceLE, Int.reduceToNat, Nat.reduceLT, Nat.reduceAdd, Nat.reduceSub, Nat.reduceMul, Nat.reduceEqDiff, Nat.reduceLeDiff, Nat.reduceBEq, reduceIte, reduceCtorEq]
  refine CodeOK.sub (Sub.rowHpR 0 0 .u8 rfl rfl) ?_
  simp (maxSteps := 4000000) only [push_cast, Int.reduceEq, Int.reduceBNe, Int.reduceBEq, Int.reduceAdd, Int.reduceSub, Int.reduceMul, Int.reduceNeg, Int.reduceLT, Int.reduceLE, Int.reduceToNat, Nat.reduceLT, Nat.reduceAdd, Nat.reduceSub, Nat.reduceMul, Nat.reduceEqDiff, Nat.reduceLeDiff, Nat.reduceBEq, reduceIte, reduceCtorEq]
  refine rf_ok Γok rfl [5] (by simp (maxSteps := 4000000) only [push_cast, Int.reduceEq, Int.reduceBNe, Int.reduceBEq, Int.reduceAdd, Int.reduceSub, Int.reduceMul, Int.reduceNeg, Int.reduceLT, Int.reduceLE, Int.reduceToNat, Nat.reduceLT, Nat.reduceAdd, Nat.reduceSub, Nat.reduceMul, Nat.reduceEqDiff, Nat.reduceLeDiff, Nat.reduceBEq, reduceIte, reduceCtorEq]; rfl) (by simp (maxSteps := 4000000) only [push_cast, Int.reduceEq, Int.reduceBNe, Int.reduceBEq, Int.reduceAdd, Int.reduceSub, Int.reduceMul, Int.reduceNeg, Int.reduceLT, Int.reduceLE, Int.reduceToNat, Nat.reduceLT, Nat.reduceAdd, Nat.reduceSub, Nat.reduceMul, Nat.reduceEqDiff, Nat.reduceLeDiff, Nat.reduceBEq, reduceIte, reduceCtorEq]) Tryd.func80 rfl rfl rfl ?_
  intro E1 x l hk bρ bθ hden hps has hbo
  refine evCode_sound Γok _ _ _ ?_
  simp (maxSteps := 4000000) only [push_cast, Int.reduceEq, Int.reduceBNe, Int.reduceBEq, Int.reduceAdd, Int.reduceSub, Int.reduceMul, Int.reduceNeg, Int.reduceLT, Int.reduceLE, Int.reduceToNat, Nat.reduceLT, Nat.reduceAdd, Nat.reduceSub, Nat.reduceMul, Nat.reduceEqDiff, Nat.reduceLeDiff, Nat.reduceBEq, reduceIte, reduceCtorEq, Tryd.f80]
  clear hk
  refine loop_ok (ι := {q : List UInt8 × Nat × Nat × Bool × Option Addr × Nat // (q.2.2.2.1 = true → q.1 ++ lowF q.2.2.1 q.2.1 b = lowF 64 n b ∧ 1 ≤ q.2.2.1 ∧ q.2.1 < 2 ^ q.2.2.1) ∧ (q.2.2.2.1 = false → q.1 = lowF 64 n b) ∧ q.1.length + q.2.2.1 ≤ 64 ∧ q.2.1 < 18446744073709551616})
    (fun q => ⟨[.raw (.func (.yield l) #[] #[]), .ptr 1 0, .ptr 2 0, .any, .b q.1.2.2.2.1] ++ List.replicate 15 .any, [(1, 22, [.i .u64 q.1.2.1]), (2, 22, [.i .u64 b]), (0, 31, [.raw (.slice q.1.2.2.2.2.1 q.1.1.length q.1.2.2.2.2.2)])], [], [(5, x.res l .ready none), (4, RObj x.D (.deferred (some []))), (3, RowR .u8 q.1.2.2.2.2.1 q.1.2.2.2.2.2 (ofU q.1.1))], 6, 6, []⟩) (fun q => q.1.2.2.1) ⟨([], n, 64, true, none, 0), fun _ => ⟨rfl, by simp, hn⟩, (fun h => nomatch h), by simp, hn⟩ ?_ ?_
  · exact Sub.w [0, 1, 2, 3, 4, 5] (by simp (maxSteps := 4000000) only [push_cast, Int.reduceEq, Int.reduceBNe, Int.reduceBEq, Int.reduceAdd, Int.reduceSub, Int.reduceMul, Int.reduceNeg, Int.reduceLT, Int.reduceLE, Int.reduceToNat, Nat.reduceLT, Nat.reduceAdd, Nat.reduceSub, Nat.reduceMul, Nat.reduceEqDiff, Nat.reduceLeDiff, Nat.reduceBEq, reduceIte, reduceCtorEq]; rfl)
  rintro ⟨⟨acc, m, f, more, p, c⟩, q1, q2, q3, q4⟩
  simp only at q1 q2 q3 q4
  refine evCode_sound Γok _ _ _ ?_
  simp (maxSteps := 4000000) only [push_cast, Int.reduceEq, Int.reduceBNe, Int.reduceBEq, Int.reduceAdd, Int.reduceSub, Int.reduceMul, Int.reduceNeg, Int.reduceLT, Int.reduceLE, Int.reduceToNat, Nat.reduceLT, Nat.reduceAdd, Nat.reduceSub, Nat.reduceMul, Nat.reduceEqDiff, Nat.reduceLeDiff, Nat.reduceBEq, reduceIte, reduceCtorEq]
  have hb0 : ¬ (b : Int) = 0 := by omega
  have t1 : (m : Int).tmod b = ((m % b : Nat) : Int) := by rw [Int.tmod_eq_emod_of_nonneg (by omega)]; rfl
  have t2 : IntKind.u64.wrap ((m : Int).tdiv b) = ((m / b : Nat) : Int) := by
    have h1 : m / b ≤ m := Nat.div_le_self _ _
    rw [Int.tdiv_eq_ediv_of_nonneg (by omega), show (m : Int) / b = ((m / b : Nat) : Int) from rfl, IntKind.wrap_u64]
    generalize m / b = k at h1 ⊢
    omega
  have t3 : m % b < b := Nat.mod_lt _ (by omega)
  refine ⟨fun h1 => ?_, fun h1 => ?_⟩
  · obtain ⟨r1, r2, r3⟩ := q1 h1
    refine ⟨hb0, hb0, ?_⟩
    refine yield_ok Γok (l := l) bρ bθ hden 5 [] 3 rfl ?_
    clear hden
    have t4 : lowF f m b = dchar (m % b) :: (if m / b = 0 then [] else lowF (f - 1) (m / b) b) := by
      obtain ⟨k, rfl⟩ : ∃ k, f = k + 1 := ⟨f - 1, by omega⟩
      rfl
    have t5 : m / b < 2 ^ (f - 1) := by
      have h2 : (2 : Nat) ^ f = 2 * 2 ^ (f - 1) := by rw [← Nat.pow_succ']; congr 1; omega
      have h3 : m / b ≤ m / 2 := Nat.div_le_div_left hb (by omega)
      omega
    have t6 : m / b ≤ m := Nat.div_le_self _ _
    rw [t1, t2]
    generalize m % b = d at t3 t4 ⊢
    generalize m / b = m2 at t4 t5 t6 ⊢
    clear t1 t2
    simp (maxSteps := 4000000) only [push_cast, Int.reduceEq, Int.reduceBNe, Int.reduceBEq, Int.reduceAdd, Int.reduceSub, Int.reduceMul, Int.reduceNeg, Int.reduceLT, Int.reduceLE, Int.reduceToNat, Nat.reduceLT, Nat.reduceAdd, Nat.reduceSub, Nat.reduceMul, Nat.reduceEqDiff, Nat.reduceLeDiff, Nat.reduceBEq, reduceIte, reduceCtorEq, hps, has, mk_bs, bs_size, bs_at, Int.toNat_natCast]
    refine ⟨⟨by omega, by omega⟩, evCode_sound Γok _ _ _ ?_⟩
    rw [show ([48, 49, 50, 51, 52, 53, 54, 55, 56, 57, 97, 98, 99, 100, 101, 102] : List UInt8) = hexs from rfl, hexs_at d (by omega)]
    simp (maxSteps := 4000000) only [push_cast, Int.reduceEq, Int.reduceBNe, Int.reduceBEq, Int.reduceAdd, Int.reduceSub, Int.reduceMul, Int.reduceNeg, Int.reduceLT, Int.reduceLE, Int.reduceToNat, Nat.reduceLT, Nat.reduceAdd, Nat.reduceSub, Nat.reduceMul, Nat.reduceEqDiff, Nat.reduceLeDiff, Nat.reduceBEq, reduceIte, reduceCtorEq, hbo]
    refine evCode_sound Γok _ _ _ ?_
    simp (maxSteps := 4000000) only [push_cast, Int.reduceEq, Int.reduceBNe, Int.reduceBEq, Int.reduceAdd, Int.reduceSub, Int.reduceMul, Int.reduceNeg, Int.reduceLT, Int.reduceLE, Int.reduceToNat, Nat.reduceLT, Nat.reduceAdd, Nat.reduceSub, Nat.reduceMul, Nat.reduceEqDiff, Nat.reduceLeDiff, Nat.reduceBEq, reduceIte, reduceCtorEq, mk_bs, bs_size]
    refine ⟨3, .u8, ofU acc, [((dchar d).toNat : Int)], .inr (.inr (.inl rfl)), ofU_len acc, rfl, rfl, by simp only [List.length_cons, List.length_nil]; omega, fun p' c' => ⟨.inl (by simp), ⟨(acc ++ [dchar d], m2, f - 1, decide (0 < m2), p', c'), fun h => ?_, fun h => ?_, by simp only [List.length_append, List.length_cons, List.length_nil]; omega, by simp only; omega⟩, by simp only; omega, Sub.w [0, 1, 2, 3, 4, 5] ?_⟩⟩
    · have h2 : 0 < m2 := by simpa using h
      rw [if_neg (by omega)] at t4
      refine ⟨by rw [List.append_assoc]; exact (by rw [← r1, t4]; rfl), ?_, t5⟩
      rcases Nat.eq_zero_or_pos (f - 1) with h3 | h3
      · rw [h3] at t5; omega
      · exact h3
    · have h2 : m2 = 0 := by simpa using h
      rw [if_pos h2] at t4
      rw [← r1, t4]
    · simp (maxSteps := 4000000) only [push_cast, Int.reduceEq, Int.reduceBNe, Int.reduceBEq, Int.reduceAdd, Int.reduceSub, Int.reduceMul, Int.reduceNeg, Int.reduceLT, Int.reduceLE, Int.reduceToNat, Nat.reduceLT, Nat.reduceAdd, Nat.reduceSub, Nat.reduceMul, Nat.reduceEqDiff, Nat.reduceLeDiff, Nat.reduceBEq, reduceIte, reduceCtorEq, ofU_app]
      simp [ofU]
  · have e := q2 h1
    refine ⟨.ready, none, by simp, .inl rfl, ?_⟩
    simp (maxSteps := 4000000) only [push_cast, Int.reduceEq, Int.reduceBNe, Int.reduceBEq, Int.reduceAdd, Int.reduceSub, Int.reduceMul, Int.reduceNeg, Int.reduceLT, Int.reduceLE, Int.reduceToNat, Nat.reduceLT, Nat.reduceAdd, Nat.reduceSub, Nat.reduceMul, Nat.reduceEqDiff, Nat.reduceLeDiff, Nat.reduceBEq, reduceIte, reduceCtorEq]
    have hl := lowF_len 64 n b
    have hol := ofU_len acc
    rw [← hol]
    refine call_w (reverse_c p c (ofU acc) (by rw [e] at hol ⊢; omega)) [3] (by simp (maxSteps := 4000000) only [push_cast, Int.reduceEq, Int.reduceBNe, Int.reduceBEq, Int.reduceAdd, Int.reduceSub, Int.reduceMul, Int.reduceNeg, Int.reduceLT, Int.reduceLE, Int.reduceToNat, Nat.reduceLT, Nat.reduceAdd, Nat.reduceSub, Nat.reduceMul, Nat.reduceEqDiff, Nat.reduceLeDiff, Nat.reduceBEq, reduceIte, reduceCtorEq, preR]) ?_
    rintro sv post ⟨rfl, rfl⟩
    simp (maxSteps := 4000000) only [push_cast, Int.reduceEq, Int.reduceBNe, Int.reduceBEq, Int.reduceAdd, Int.reduceSub, Int.reduceMul, Int.reduceNeg, Int.reduceLT, Int.reduceLE, Int.reduceToNat, Nat.reduceLT, Nat.reduceAdd, Nat.reduceSub, Nat.reduceMul, Nat.reduceEqDiff, Nat.reduceLeDiff, Nat.reduceBEq, reduceIte, reduceCtorEq, preR]
    have hr : (ofU acc).reverse = ofU acc.reverse := by simp [ofU]
    refine ⟨(ofU acc).reverse, ⟨3, p, c, (ofU acc).reverse, 0, by simp, ⟨by simp, .inr (by cases p <;> simp [Addr.add])⟩, by rw [List.drop_zero, List.take_of_length_le (by simp)]⟩, 4, .inr (.inl rfl), ?_⟩
    rw [hr, bs_str, show acc.reverse = placesP n b by rw [e]; rfl]
    exact Fin.nil rfl (psv := .s _) (by simp (maxSteps := 4000000) only [push_cast, Int.reduceEq, Int.reduceBNe, Int.reduceBEq, Int.reduceAdd, Int.reduceSub, Int.reduceMul, Int.reduceNeg, Int.reduceLT, Int.reduceLE, Int.reduceToNat, Nat.reduceLT, Nat.reduceAdd, Nat.reduceSub, Nat.reduceMul, Nat.reduceEqDiff, Nat.reduceLeDiff, Nat.reduceBEq, reduceIte, reduceCtorEq]) ⟨rfl, rfl⟩

theorem base_c (n b : Nat) (hn : n < 18446744073709551616) (hb : 2 ≤ b) (hb2 : b ≤ 16) : Contract Tryd.prog 35 nilSS [.i .u64 n, .i .i64 b] (fun sv post => sv = .tup [.s (bs (placesP n b)), .i .i64 0] ∧ post = nilSS) := by
  refine contract_ev Γok Tryd.func35 rfl rfl [] ?_
  simp (maxSteps := 4000000) only [push_cast, Int.reduceEq, Int.reduceBNe, Int.reduceBEq, Int.reduceAdd, Int.reduceSub, Int.reduceMul, Int.reduceNeg, Int.reduceLT, Int.reduceLE, Int.reduceToNat, Nat.reduceLT, Nat.reduceAdd, Nat.reduceSub, Nat.reduceMul, Nat.reduceEqDiff, Nat.reduceLeDiff, Nat.reduceBEq, reduceIte, reduceCtorEq, Tryd.f35]
  refine ⟨fun h => by omega, fun _ => call_w (written_c n b hn hb hb2) [] (by simp (maxSteps := 4000000) only [push_cast, Int.reduceEq, Int.reduceBNe, Int.reduceBEq, Int.reduceAdd, Int.reduceSub, Int.reduceMul, Int.reduceNeg, Int.reduceLT, Int.reduceLE, Int.reduceToNat, Nat.reduceLT, Nat.reduceAdd, Nat.reduceSub, Nat.reduceMul, Nat.reduceEqDiff, Nat.reduceLeDiff, Nat.reduceBEq, reduceIte, reduceCtorEq]) ?_⟩
  rintro sv post ⟨rfl, rfl⟩
  simp (maxSteps := 4000000) only [push_cast, Int.reduceEq, Int.reduceBNe, Int.reduceBEq, Int.reduceAdd, Int.reduceSub, Int.reduceMul, Int.reduceNeg, Int.reduceLT, Int.reduceLE, Int.reduceToNat, Nat.reduceLT, Nat.reduceAdd, Nat.reduceSub, Nat.reduceMul, Nat.reduceEqDiff, Nat.reduceLeDiff, Nat.reduceBEq, reduceIte, reduceCtorEq]
  exact Fin.nil rfl (psv := .tup [.s _, .i .i64 0]) (by simp (maxSteps := 4000000) only [push_cast, Int.reduceEq, Int.reduceBNe, Int.reduceBEq, Int.reduceAdd, Int.reduceSub, Int.reduceMul, Int.reduceNeg, Int.reduceLT, Int.reduceLE, Int.reduceToNat, Nat.reduceLT, Nat.reduceAdd, Nat.reduceSub, Nat.reduceMul, Nat.reduceEqDiff, Nat.reduceLeDiff, Nat.reduceBEq, reduceIte, reduceCtorEq]) ⟨rfl, rfl⟩
end Go.Proofs.YtlajpggoncelhaaDoor
/- The program's patterns: a value as a text. -/
namespace Go.Proofs.YtlajpggoncelhaaDoor
open Go Go.Eng
set_option maxHeartbeats 4000000
set_option linter.unusedSimpArgs false
set_option linter.unusedVariables false
set_option maxRecDepth 100000


theorem u8i (v w : UInt8) : ((v.toNat : Int) = (w.toNat : Int)) ↔ v = w := ⟨fun h => UInt8.toNat_inj.1 (by omega), fun h => by rw [h]⟩
theorem v37 (v : UInt8) : ((v.toNat : Int) = 37) = (v = 37) := propext (u8i v 37)
theorem v45 (v : UInt8) : ((v.toNat : Int) = 45) = (v = 45) := propext (u8i v 45)
theorem v88 (v : UInt8) : ((v.toNat : Int) = 88) = (v = 88) := propext (u8i v 88)
theorem v99 (v : UInt8) : ((v.toNat : Int) = 99) = (v = 99) := propext (u8i v 99)
theorem v100 (v : UInt8) : ((v.toNat : Int) = 100) = (v = 100) := propext (u8i v 100)
theorem v111 (v : UInt8) : ((v.toNat : Int) = 111) = (v = 111) := propext (u8i v 111)
theorem v115 (v : UInt8) : ((v.toNat : Int) = 115) = (v = 115) := propext (u8i v 115)
theorem v120 (v : UInt8) : ((v.toNat : Int) = 120) = (v = 120) := propext (u8i v 120)

def argC (a : AV) : List SV := [.i .i64 a.kind, .i .i64 a.n, .i .u64 a.u, .s (bs a.t)]
def argV (a : AV) : SV := .agg (argC a)

theorem has_c (d : Dir) (c : UInt8) : Contract Tryd.prog 26 nilSS [dirV d, .i .u8 (c.toNat : Int)] (fun sv post => sv = .b (d.flags.contains c) ∧ post = nilSS) := by
  refine contract_ev Γok Tryd.func26 rfl rfl [] ?_
  simp (maxSteps := 4000000) only [push_cast, Int.reduceEq, Int.reduceBNe, Int.reduceBEq, Int.reduceAdd, Int.reduceSub, Int.reduceMul, Int.reduceNeg, Int.reduceLT, Int.reduceLE, Int.reduceToNat, Nat.reduceLT, Nat.reduceAdd, Nat.reduceSub, Nat.reduceMul, Nat.reduceEqDiff, Nat.reduceLeDiff, Nat.reduceBEq, reduceIte, reduceCtorEq, Tryd.f26, dirV, dirC]
  refine call_w (indexU_c d.flags c) [] (by simp (maxSteps := 4000000) only [push_cast, Int.reduceEq, Int.reduceBNe, Int.reduceBEq, Int.reduceAdd, Int.reduceSub, Int.reduceMul, Int.reduceNeg, Int.reduceLT, Int.reduceLE, Int.reduceToNat, Nat.reduceLT, Nat.reduceAdd, Nat.reduceSub, Nat.reduceMul, Nat.reduceEqDiff, Nat.reduceLeDiff, Nat.reduceBEq, reduceIte, reduceCtorEq]) ?_
  rintro sv post ⟨rfl, rfl⟩
  simp (maxSteps := 4000000) only [push_cast, Int.reduceEq, Int.reduceBNe, Int.reduceBEq, Int.reduceAdd, Int.reduceSub, Int.reduceMul, Int.reduceNeg, Int.reduceLT, Int.reduceLE, Int.reduceToNat, Nat.reduceLT, Nat.reduceAdd, Nat.reduceSub, Nat.reduceMul, Nat.reduceEqDiff, Nat.reduceLeDiff, Nat.reduceBEq, reduceIte, reduceCtorEq]
  refine Fin.nil rfl (psv := .b (d.flags.contains c)) ?_ ⟨rfl, rfl⟩
  simp (maxSteps := 4000000) only [push_cast, Int.reduceEq, Int.reduceBNe, Int.reduceBEq, Int.reduceAdd, Int.reduceSub, Int.reduceMul, Int.reduceNeg, Int.reduceLT, Int.reduceLE, Int.reduceToNat, Nat.reduceLT, Nat.reduceAdd, Nat.reduceSub, Nat.reduceMul, Nat.reduceEqDiff, Nat.reduceLeDiff, Nat.reduceBEq, reduceIte, reduceCtorEq]
  have := idx_nn d.flags c
  cases h : d.flags.contains c <;> rw [h] at this <;> simpa using this
theorem has45_c (d : Dir) : Contract Tryd.prog 26 nilSS [dirV d, .i .u8 45] (fun sv post => sv = .b (d.flags.contains 45) ∧ post = nilSS) := has_c d 45
theorem has43_c (d : Dir) : Contract Tryd.prog 26 nilSS [dirV d, .i .u8 43] (fun sv post => sv = .b (d.flags.contains 43) ∧ post = nilSS) := has_c d 43
theorem has48_c (d : Dir) : Contract Tryd.prog 26 nilSS [dirV d, .i .u8 48] (fun sv post => sv = .b (d.flags.contains 48) ∧ post = nilSS) := has_c d 48
theorem has32_c (d : Dir) : Contract Tryd.prog 26 nilSS [dirV d, .i .u8 32] (fun sv post => sv = .b (d.flags.contains 32) ∧ post = nilSS) := has_c d 32

theorem wants_c (d : Dir) : Contract Tryd.prog 14 nilSS [dirV d] (fun sv post => sv = .i .i64 (wantsP d.verb) ∧ post = nilSS) := by
  refine contract_ev Γok Tryd.func14 rfl rfl [] ?_
  simp (maxSteps := 4000000) only [push_cast, Int.reduceEq, Int.reduceBNe, Int.reduceBEq, Int.reduceAdd, Int.reduceSub, Int.reduceMul, Int.reduceNeg, Int.reduceLT, Int.reduceLE, Int.reduceToNat, Nat.reduceLT, Nat.reduceAdd, Nat.reduceSub, Nat.reduceMul, Nat.reduceEqDiff, Nat.reduceLeDiff, Nat.reduceBEq, reduceIte, reduceCtorEq, Tryd.f14, dirV, dirC, v100, v99, v115]
  refine ⟨fun h => ?_, fun h => ⟨fun h1 => ?_, fun h1 => ⟨fun h2 => ?_, fun h2 => ?_⟩⟩⟩
  all_goals
    refine Fin.nil rfl (psv := .i .i64 _) (by simp (maxSteps := 4000000) only [push_cast, Int.reduceEq, Int.reduceBNe, Int.reduceBEq, Int.reduceAdd, Int.reduceSub, Int.reduceMul, Int.reduceNeg, Int.reduceLT, Int.reduceLE, Int.reduceToNat, Nat.reduceLT, Nat.reduceAdd, Nat.reduceSub, Nat.reduceMul, Nat.reduceEqDiff, Nat.reduceLeDiff, Nat.reduceBEq, reduceIte, reduceCtorEq]; rfl) ⟨?_, rfl⟩
    simp [wantsP, *]

theorem repeat_one (x : UInt8) (n : Nat) : Go.Lib.repeatL [x] n = List.replicate n x := by
  have := Go.Lib.repeatL_replicate x 1 n
  simpa using this
theorem upper_map (l : List UInt8) : Go.Lib.toUpperA l = l.map upC := by
  unfold Go.Lib.toUpperA
  apply List.map_congr_left
  intro c _
  have h : ∀ n : Fin 256, Go.Lib.upperB (UInt8.ofNat n.1) = upC (UInt8.ofNat n.1) := by decide
  have := h ⟨c.toNat, u8_lt c⟩
  simpa using this
theorem dchar_lt (d : Nat) (h : d < 16) : (dchar d).toNat < 128 := by
  have : ∀ d : Fin 16, (dchar d.1).toNat < 128 := by decide
  exact this ⟨d, h⟩
theorem lowF_lt : ∀ (f n b : Nat), 0 < b → b ≤ 16 → ∀ c, c ∈ lowF f n b → c.toNat < 128
  | 0, n, b, _, _, c, h => by simp [lowF] at h
  | f + 1, n, b, h0, h1, c, h => by
    simp only [lowF] at h
    rcases List.mem_cons.1 h with rfl | h
    · exact dchar_lt _ (by have := Nat.mod_lt n h0; omega)
    · split at h
      · simp at h
      · exact lowF_lt f _ b h0 h1 c h
theorem baseP_ok (v : UInt8) : 2 ≤ baseP v ∧ baseP v ≤ 16 := by unfold baseP; split <;> (try split) <;> (try split) <;> omega
theorem barP_lt (d : Dir) (a : AV) : ∀ c, c ∈ barP d a → c.toNat < 128 := by
  intro c h
  unfold barP at h
  split at h
  · simp at h
  · unfold placesP at h
    have := baseP_ok d.verb
    exact lowF_lt _ _ _ (by omega) this.2 c (List.mem_reverse.1 h)
theorem fillP_lt (d : Dir) (a : AV) : ∀ c, c ∈ fillP d a → c.toNat < 128 := by
  intro c h
  unfold fillP at h
  rcases List.mem_append.1 h with h | h
  · rw [List.mem_replicate] at h
    rw [h.2]; decide
  · exact barP_lt d a c h
theorem barP_len (d : Dir) (a : AV) : (barP d a).length ≤ 64 := by
  unfold barP
  split
  · simp
  · unfold placesP; rw [List.length_reverse]; exact lowF_len _ _ _
theorem fillP_len (d : Dir) (a : AV) (hp : d.prec ≤ 4096) : (fillP d a).length ≤ 4160 := by
  have := barP_len d a
  unfold fillP
  simp
  omega

theorem number_c (d : Dir) (a : AV) (ha : a.ok) (hw : d.width ≤ 4096) (hp : -1 ≤ d.prec) (hp2 : d.prec ≤ 4096) : Contract Tryd.prog 25 nilSS [dirV d, argV a] (fun sv post => sv = .tup [.s (bs (signP d a)), .s (bs (digitsP d a))] ∧ post = nilSS) := by
  refine contract_of Γok Tryd.func25 rfl rfl (stop := []) ?_
  simp only [Tryd.f25]
  refine CodeOK.seq (evCode_sound Γok _ _ _ ?_)
  simp (maxSteps := 4000000) only [push_cast, Int.reduceEq, Int.reduceBNe, Int.reduceBEq, Int.reduceAdd, Int.reduceSub, Int.reduceMul, Int.reduceNeg, Int.reduceLT, Int.reduceLE, Int.reduceToNat, Nat.reduceLT, Nat.reduceAdd, Nat.reduceSub, Nat.reduceMul, Nat.reduceEqDiff, Nat.reduceLeDiff, Nat.reduceBEq, reduceIte, reduceCtorEq, dirV, dirC, argV, argC]
  refine CodeOK.seq (evCode_sound Γok _ _ _ ?_)
  simp (maxSteps := 4000000) only [push_cast, Int.reduceEq, Int.reduceBNe, Int.reduceBEq, Int.reduceAdd, Int.reduceSub, Int.reduceMul, Int.reduceNeg, Int.reduceLT, Int.reduceLE, Int.reduceToNat, Nat.reduceLT, Nat.reduceAdd, Nat.reduceSub, Nat.reduceMul, Nat.reduceEqDiff, Nat.reduceLeDiff, Nat.reduceBEq, reduceIte, reduceCtorEq]
  refine code_cut ⟨[.any, .any, .ptr 0 0, .ptr 1 0, .any, .any, .i .u64 (magP d a), .s (bs (signP d a)), .i .i64 (baseP d.verb)] ++ List.replicate 60 .any, [(0, 45, dirC d), (1, 26, argC a)], [], [], 2, 0, []⟩ (evCode_sound Γok _ _ _ ?_) (CodeOK.seq (evCode_sound Γok _ _ _ ?_))
  · simp (maxSteps := 4000000) only [push_cast, Int.reduceEq, Int.reduceBNe, Int.reduceBEq, Int.reduceAdd, Int.reduceSub, Int.reduceMul, Int.reduceNeg, Int.reduceLT, Int.reduceLE, Int.reduceToNat, Nat.reduceLT, Nat.reduceAdd, Nat.reduceSub, Nat.reduceMul, Nat.reduceEqDiff, Nat.reduceLeDiff, Nat.reduceBEq, reduceIte, reduceCtorEq, v100, v120, v88, v111, mk_bs]
    obtain ⟨n0, n1, u0, u1⟩ := ha
    have hm : d.verb = 100 → a.n < 0 → IntKind.u64.wrap (0 - IntKind.u64.wrap a.n) = (magP d a : Int) := fun h h1 => by
      unfold magP
      rw [if_pos h, IntKind.wrap_u64, IntKind.wrap_u64]
      omega
    have hm2 : d.verb = 100 → 0 ≤ a.n → IntKind.u64.wrap a.n = (magP d a : Int) := fun h h1 => by
      unfold magP
      rw [if_pos h, IntKind.wrap_u64]
      omega
    have hm3 : ¬ d.verb = 100 → a.u = (magP d a : Int) := fun h => by
      unfold magP
      rw [if_neg h]
      omega
    refine ⟨fun h => ⟨fun h1 => Sub.w [0, 1] ?_, fun h1 => ?_⟩, fun h => ⟨fun h1 => ⟨fun _ => Sub.w [0, 1] ?_, fun h2 => absurd h1 h2⟩, fun h1 => ⟨fun h2 => Sub.w [0, 1] ?_, fun h2 => ⟨fun h3 => Sub.w [0, 1] ?_, fun h3 => Sub.w [0, 1] ?_⟩⟩⟩⟩
    · simp (maxSteps := 4000000) only [push_cast, Int.reduceEq, Int.reduceBNe, Int.reduceBEq, Int.reduceAdd, Int.reduceSub, Int.reduceMul, Int.reduceNeg, Int.reduceLT, Int.reduceLE, Int.reduceToNat, Nat.reduceLT, Nat.reduceAdd, Nat.reduceSub, Nat.reduceMul, Nat.reduceEqDiff, Nat.reduceLeDiff, Nat.reduceBEq, reduceIte, reduceCtorEq, dirC, argC]
      exact ⟨(hm h h1).symm, by simp [signP, h, h1], by simp [baseP, h]⟩
    · have h4 : ¬ a.n < 0 := by omega
      refine call_w (has43_c d) [] (by simp (maxSteps := 4000000) only [push_cast, Int.reduceEq, Int.reduceBNe, Int.reduceBEq, Int.reduceAdd, Int.reduceSub, Int.reduceMul, Int.reduceNeg, Int.reduceLT, Int.reduceLE, Int.reduceToNat, Nat.reduceLT, Nat.reduceAdd, Nat.reduceSub, Nat.reduceMul, Nat.reduceEqDiff, Nat.reduceLeDiff, Nat.reduceBEq, reduceIte, reduceCtorEq, dirV, dirC]) ?_
      rintro sv post ⟨rfl, rfl⟩
      simp (maxSteps := 4000000) only [push_cast, Int.reduceEq, Int.reduceBNe, Int.reduceBEq, Int.reduceAdd, Int.reduceSub, Int.reduceMul, Int.reduceNeg, Int.reduceLT, Int.reduceLE, Int.reduceToNat, Nat.reduceLT, Nat.reduceAdd, Nat.reduceSub, Nat.reduceMul, Nat.reduceEqDiff, Nat.reduceLeDiff, Nat.reduceBEq, reduceIte, reduceCtorEq, mk_bs]
      refine ⟨fun h2 => Sub.w [0, 1] ?_, fun h2 => ?_⟩
      · simp (maxSteps := 4000000) only [push_cast, Int.reduceEq, Int.reduceBNe, Int.reduceBEq, Int.reduceAdd, Int.reduceSub, Int.reduceMul, Int.reduceNeg, Int.reduceLT, Int.reduceLE, Int.reduceToNat, Nat.reduceLT, Nat.reduceAdd, Nat.reduceSub, Nat.reduceMul, Nat.reduceEqDiff, Nat.reduceLeDiff, Nat.reduceBEq, reduceIte, reduceCtorEq, dirC, argC]
        exact ⟨(hm2 h h1).symm, by unfold signP; rw [if_pos h, if_neg h4, if_pos h2], by simp [baseP, h]⟩
      · refine call_w (has32_c d) [] (by simp (maxSteps := 4000000) only [push_cast, Int.reduceEq, Int.reduceBNe, Int.reduceBEq, Int.reduceAdd, Int.reduceSub, Int.reduceMul, Int.reduceNeg, Int.reduceLT, Int.reduceLE, Int.reduceToNat, Nat.reduceLT, Nat.reduceAdd, Nat.reduceSub, Nat.reduceMul, Nat.reduceEqDiff, Nat.reduceLeDiff, Nat.reduceBEq, reduceIte, reduceCtorEq, dirV, dirC]) ?_
        rintro sv post ⟨rfl, rfl⟩
        simp (maxSteps := 4000000) only [push_cast, Int.reduceEq, Int.reduceBNe, Int.reduceBEq, Int.reduceAdd, Int.reduceSub, Int.reduceMul, Int.reduceNeg, Int.reduceLT, Int.reduceLE, Int.reduceToNat, Nat.reduceLT, Nat.reduceAdd, Nat.reduceSub, Nat.reduceMul, Nat.reduceEqDiff, Nat.reduceLeDiff, Nat.reduceBEq, reduceIte, reduceCtorEq, mk_bs]
        refine ⟨fun h3 => Sub.w [0, 1] ?_, fun h3 => Sub.w [0, 1] ?_⟩
        · simp (maxSteps := 4000000) only [push_cast, Int.reduceEq, Int.reduceBNe, Int.reduceBEq, Int.reduceAdd, Int.reduceSub, Int.reduceMul, Int.reduceNeg, Int.reduceLT, Int.reduceLE, Int.reduceToNat, Nat.reduceLT, Nat.reduceAdd, Nat.reduceSub, Nat.reduceMul, Nat.reduceEqDiff, Nat.reduceLeDiff, Nat.reduceBEq, reduceIte, reduceCtorEq, dirC, argC]
          exact ⟨(hm2 h h1).symm, by unfold signP; rw [if_pos h, if_neg h4, if_neg (by rw [h2]; simp), if_pos h3], by simp [baseP, h]⟩
        · simp (maxSteps := 4000000) only [push_cast, Int.reduceEq, Int.reduceBNe, Int.reduceBEq, Int.reduceAdd, Int.reduceSub, Int.reduceMul, Int.reduceNeg, Int.reduceLT, Int.reduceLE, Int.reduceToNat, Nat.reduceLT, Nat.reduceAdd, Nat.reduceSub, Nat.reduceMul, Nat.reduceEqDiff, Nat.reduceLeDiff, Nat.reduceBEq, reduceIte, reduceCtorEq, dirC, argC]
          exact ⟨(hm2 h h1).symm, by unfold signP; rw [if_pos h, if_neg h4, if_neg (by rw [h2]; simp), if_neg (by rw [h3]; simp)], by simp [baseP, h]⟩
    all_goals
      simp (maxSteps := 4000000) only [push_cast, Int.reduceEq, Int.reduceBNe, Int.reduceBEq, Int.reduceAdd, Int.reduceSub, Int.reduceMul, Int.reduceNeg, Int.reduceLT, Int.reduceLE, Int.reduceToNat, Nat.reduceLT, Nat.reduceAdd, Nat.reduceSub, Nat.reduceMul, Nat.reduceEqDiff, Nat.reduceLeDiff, Nat.reduceBEq, reduceIte, reduceCtorEq, dirC, argC]
      first
        | exact ⟨(hm3 h).symm, by simp [signP, h], by simp [baseP, *]⟩
        | exact ⟨(hm3 h).symm, by simp [signP, h], by simp [baseP, h1, h2]⟩
  · simp (maxSteps := 4000000) only [push_cast, Int.reduceEq, Int.reduceBNe, Int.reduceBEq, Int.reduceAdd, Int.reduceSub, Int.reduceMul, Int.reduceNeg, Int.reduceLT, Int.reduceLE, Int.reduceToNat, Nat.reduceLT, Nat.reduceAdd, Nat.reduceSub, Nat.reduceMul, Nat.reduceEqDiff, Nat.reduceLeDiff, Nat.reduceBEq, reduceIte, reduceCtorEq, dirC, argC]
    have hb := baseP_ok d.verb
    have hmag : magP d a < 18446744073709551616 := by
      obtain ⟨n0, n1, u0, u1⟩ := ha
      unfold magP
      split <;> omega
    refine call_w (base_c (magP d a) (baseP d.verb) hmag hb.1 hb.2) [] (by simp (maxSteps := 4000000) only [push_cast, Int.reduceEq, Int.reduceBNe, Int.reduceBEq, Int.reduceAdd, Int.reduceSub, Int.reduceMul, Int.reduceNeg, Int.reduceLT, Int.reduceLE, Int.reduceToNat, Nat.reduceLT, Nat.reduceAdd, Nat.reduceSub, Nat.reduceMul, Nat.reduceEqDiff, Nat.reduceLeDiff, Nat.reduceBEq, reduceIte, reduceCtorEq]) ?_
    rintro sv post ⟨rfl, rfl⟩
    simp (maxSteps := 4000000) only [push_cast, Int.reduceEq, Int.reduceBNe, Int.reduceBEq, Int.reduceAdd, Int.reduceSub, Int.reduceMul, Int.reduceNeg, Int.reduceLT, Int.reduceLE, Int.reduceToNat, Nat.reduceLT, Nat.reduceAdd, Nat.reduceSub, Nat.reduceMul, Nat.reduceEqDiff, Nat.reduceLeDiff, Nat.reduceBEq, reduceIte, reduceCtorEq, mk_bs, bs_size]
    have hl2 := barP_len d a
    refine code_cut ⟨[.any, .any, .ptr 0 0, .ptr 1 0, .any, .any, .any, .s (bs (signP d a)), .any, .s (bs (barP d a))] ++ List.replicate 59 .any, [(0, 45, dirC d), (1, 26, argC a)], [], [], 2, 0, []⟩ (evCode_sound Γok _ _ _ ?_) ?_
    · simp (maxSteps := 4000000) only [push_cast, Int.reduceEq, Int.reduceBNe, Int.reduceBEq, Int.reduceAdd, Int.reduceSub, Int.reduceMul, Int.reduceNeg, Int.reduceLT, Int.reduceLE, Int.reduceToNat, Nat.reduceLT, Nat.reduceAdd, Nat.reduceSub, Nat.reduceMul, Nat.reduceEqDiff, Nat.reduceLeDiff, Nat.reduceBEq, reduceIte, reduceCtorEq, mk_bs, bs_size]
      refine ⟨fun h => Sub.w [0, 1] ?_, fun h => Sub.w [0, 1] ?_⟩ <;> simp (maxSteps := 4000000) only [push_cast, Int.reduceEq, Int.reduceBNe, Int.reduceBEq, Int.reduceAdd, Int.reduceSub, Int.reduceMul, Int.reduceNeg, Int.reduceLT, Int.reduceLE, Int.reduceToNat, Nat.reduceLT, Nat.reduceAdd, Nat.reduceSub, Nat.reduceMul, Nat.reduceEqDiff, Nat.reduceLeDiff, Nat.reduceBEq, reduceIte, reduceCtorEq, dirC, argC]
      · unfold barP; rw [if_pos ⟨by omega, h.2⟩]
      · unfold barP; rw [if_neg (by omega)]
    refine code_cut ⟨[.any, .any, .ptr 0 0, .ptr 1 0, .any, .any, .any, .s (bs (signP d a)), .any, .s (bs (fillP d a))] ++ List.replicate 59 .any, [(0, 45, dirC d), (1, 26, argC a)], [], [], 2, 0, []⟩ (evCode_sound Γok _ _ _ ?_) ?_
    · simp (maxSteps := 4000000) only [push_cast, Int.reduceEq, Int.reduceBNe, Int.reduceBEq, Int.reduceAdd, Int.reduceSub, Int.reduceMul, Int.reduceNeg, Int.reduceLT, Int.reduceLE, Int.reduceToNat, Nat.reduceLT, Nat.reduceAdd, Nat.reduceSub, Nat.reduceMul, Nat.reduceEqDiff, Nat.reduceLeDiff, Nat.reduceBEq, reduceIte, reduceCtorEq, mk_bs, bs_size, dirC]
      rw [wrap64 (n := d.prec - (barP d a).length) (by omega) (by omega)]
      refine ⟨fun h => ?_, fun h => Sub.w [0, 1] ?_⟩
      · obtain ⟨k, hk⟩ : ∃ k : Nat, d.prec - (barP d a).length = k := ⟨(d.prec - (barP d a).length).toNat, by omega⟩
        rw [hk]
        refine call_w (repeat_c [48] k (by simp; omega) (by omega)) [] (by simp (maxSteps := 4000000) only [push_cast, Int.reduceEq, Int.reduceBNe, Int.reduceBEq, Int.reduceAdd, Int.reduceSub, Int.reduceMul, Int.reduceNeg, Int.reduceLT, Int.reduceLE, Int.reduceToNat, Nat.reduceLT, Nat.reduceAdd, Nat.reduceSub, Nat.reduceMul, Nat.reduceEqDiff, Nat.reduceLeDiff, Nat.reduceBEq, reduceIte, reduceCtorEq]) ?_
        rintro sv post ⟨rfl, rfl⟩
        rw [repeat_one]
        simp (maxSteps := 4000000) only [push_cast, Int.reduceEq, Int.reduceBNe, Int.reduceBEq, Int.reduceAdd, Int.reduceSub, Int.reduceMul, Int.reduceNeg, Int.reduceLT, Int.reduceLE, Int.reduceToNat, Nat.reduceLT, Nat.reduceAdd, Nat.reduceSub, Nat.reduceMul, Nat.reduceEqDiff, Nat.reduceLeDiff, Nat.reduceBEq, reduceIte, reduceCtorEq, mk_bs, bs_size, bs_app, dirC, List.length_replicate]
        refine ⟨by omega, Sub.w [0, 1] ?_⟩
        simp (maxSteps := 4000000) only [push_cast, Int.reduceEq, Int.reduceBNe, Int.reduceBEq, Int.reduceAdd, Int.reduceSub, Int.reduceMul, Int.reduceNeg, Int.reduceLT, Int.reduceLE, Int.reduceToNat, Nat.reduceLT, Nat.reduceAdd, Nat.reduceSub, Nat.reduceMul, Nat.reduceEqDiff, Nat.reduceLeDiff, Nat.reduceBEq, reduceIte, reduceCtorEq, dirC, argC]
        unfold fillP
        rw [hk, Int.toNat_natCast]
      · simp (maxSteps := 4000000) only [push_cast, Int.reduceEq, Int.reduceBNe, Int.reduceBEq, Int.reduceAdd, Int.reduceSub, Int.reduceMul, Int.reduceNeg, Int.reduceLT, Int.reduceLE, Int.reduceToNat, Nat.reduceLT, Nat.reduceAdd, Nat.reduceSub, Nat.reduceMul, Nat.reduceEqDiff, Nat.reduceLeDiff, Nat.reduceBEq, reduceIte, reduceCtorEq, dirC, argC]
        unfold fillP
        rw [show (d.prec - (barP d a).length).toNat = 0 by omega]
        rfl
    refine code_cut ⟨[.any, .any, .any, .any, .any, .any, .any, .s (bs (signP d a)), .any, .s (bs (digitsP d a))] ++ List.replicate 59 .any, [], [], [], 0, 0, []⟩ (evCode_sound Γok _ _ _ ?_) (evCode_sound Γok _ _ _ ?_)
    · simp (maxSteps := 4000000) only [push_cast, Int.reduceEq, Int.reduceBNe, Int.reduceBEq, Int.reduceAdd, Int.reduceSub, Int.reduceMul, Int.reduceNeg, Int.reduceLT, Int.reduceLE, Int.reduceToNat, Nat.reduceLT, Nat.reduceAdd, Nat.reduceSub, Nat.reduceMul, Nat.reduceEqDiff, Nat.reduceLeDiff, Nat.reduceBEq, reduceIte, reduceCtorEq, mk_bs, bs_size, dirC, v88]
      refine ⟨fun h => ?_, fun h => Sub.w [] ?_⟩
      · refine call_w (toUpper_c (fillP d a) (by have := fillP_len d a hp2; omega) (fillP_lt d a)) [] (by simp (maxSteps := 4000000) only [push_cast, Int.reduceEq, Int.reduceBNe, Int.reduceBEq, Int.reduceAdd, Int.reduceSub, Int.reduceMul, Int.reduceNeg, Int.reduceLT, Int.reduceLE, Int.reduceToNat, Nat.reduceLT, Nat.reduceAdd, Nat.reduceSub, Nat.reduceMul, Nat.reduceEqDiff, Nat.reduceLeDiff, Nat.reduceBEq, reduceIte, reduceCtorEq]) ?_
        rintro sv post ⟨rfl, rfl⟩
        rw [upper_map]
        simp (maxSteps := 4000000) only [push_cast, Int.reduceEq, Int.reduceBNe, Int.reduceBEq, Int.reduceAdd, Int.reduceSub, Int.reduceMul, Int.reduceNeg, Int.reduceLT, Int.reduceLE, Int.reduceToNat, Nat.reduceLT, Nat.reduceAdd, Nat.reduceSub, Nat.reduceMul, Nat.reduceEqDiff, Nat.reduceLeDiff, Nat.reduceBEq, reduceIte, reduceCtorEq]
        refine Sub.w [] ?_
        simp (maxSteps := 4000000) only [push_cast, Int.reduceEq, Int.reduceBNe, Int.reduceBEq, Int.reduceAdd, Int.reduceSub, Int.reduceMul, Int.reduceNeg, Int.reduceLT, Int.reduceLE, Int.reduceToNat, Nat.reduceLT, Nat.reduceAdd, Nat.reduceSub, Nat.reduceMul, Nat.reduceEqDiff, Nat.reduceLeDiff, Nat.reduceBEq, reduceIte, reduceCtorEq]
        unfold digitsP
        rw [if_pos h]
      · simp (maxSteps := 4000000) only [push_cast, Int.reduceEq, Int.reduceBNe, Int.reduceBEq, Int.reduceAdd, Int.reduceSub, Int.reduceMul, Int.reduceNeg, Int.reduceLT, Int.reduceLE, Int.reduceToNat, Nat.reduceLT, Nat.reduceAdd, Nat.reduceSub, Nat.reduceMul, Nat.reduceEqDiff, Nat.reduceLeDiff, Nat.reduceBEq, reduceIte, reduceCtorEq]
        unfold digitsP
        rw [if_neg h]
    simp (maxSteps := 4000000) only [push_cast, Int.reduceEq, Int.reduceBNe, Int.reduceBEq, Int.reduceAdd, Int.reduceSub, Int.reduceMul, Int.reduceNeg, Int.reduceLT, Int.reduceLE, Int.reduceToNat, Nat.reduceLT, Nat.reduceAdd, Nat.reduceSub, Nat.reduceMul, Nat.reduceEqDiff, Nat.reduceLeDiff, Nat.reduceBEq, reduceIte, reduceCtorEq]
    exact Fin.nil rfl (psv := .tup [.s _, .s _]) (by simp (maxSteps := 4000000) only [push_cast, Int.reduceEq, Int.reduceBNe, Int.reduceBEq, Int.reduceAdd, Int.reduceSub, Int.reduceMul, Int.reduceNeg, Int.reduceLT, Int.reduceLE, Int.reduceToNat, Nat.reduceLT, Nat.reduceAdd, Nat.reduceSub, Nat.reduceMul, Nat.reduceEqDiff, Nat.reduceLeDiff, Nat.reduceBEq, reduceIte, reduceCtorEq]) ⟨rfl, rfl⟩

theorem core_len (d : Dir) (a : AV) (ht : a.t.length ≤ 140737488355328) (hp2 : d.prec ≤ 4096) : (coreP d a).1.length ≤ 1 ∧ (coreP d a).2.length ≤ 140737488355328 := by
  unfold coreP
  split
  · simp
  split
  · refine ⟨by simp, ?_⟩
    split
    · simp; omega
    · exact ht
  · refine ⟨?_, ?_⟩
    · unfold signP
      split <;> (try split) <;> (try split) <;> (try split) <;> simp
    · have := fillP_len d a hp2
      unfold digitsP
      split <;> simp <;> omega

theorem text_c (d : Dir) (a : AV) (ha : a.ok) (ht : a.t.length ≤ 140737488355328) (hw : d.width ≤ 4096) (hp : -1 ≤ d.prec) (hp2 : d.prec ≤ 4096) : Contract Tryd.prog 15 nilSS [dirV d, argV a] (fun sv post => sv = .s (bs (textP d a)) ∧ post = nilSS) := by
  refine contract_of Γok Tryd.func15 rfl rfl (stop := []) ?_
  simp only [Tryd.f15]
  refine CodeOK.seq (evCode_sound Γok _ _ _ ?_)
  simp (maxSteps := 4000000) only [push_cast, Int.reduceEq, Int.reduceBNe, Int.reduceBEq, Int.reduceAdd, Int.reduceSub, Int.reduceMul, Int.reduceNeg, Int.reduceLT, Int.reduceLE, Int.reduceToNat, Nat.reduceLT, Nat.reduceAdd, Nat.reduceSub, Nat.reduceMul, Nat.reduceEqDiff, Nat.reduceLeDiff, Nat.reduceBEq, reduceIte, reduceCtorEq, dirV, dirC, argV, argC]
  refine CodeOK.seq (evCode_sound Γok _ _ _ ?_)
  simp (maxSteps := 4000000) only [push_cast, Int.reduceEq, Int.reduceBNe, Int.reduceBEq, Int.reduceAdd, Int.reduceSub, Int.reduceMul, Int.reduceNeg, Int.reduceLT, Int.reduceLE, Int.reduceToNat, Nat.reduceLT, Nat.reduceAdd, Nat.reduceSub, Nat.reduceMul, Nat.reduceEqDiff, Nat.reduceLeDiff, Nat.reduceBEq, reduceIte, reduceCtorEq]
  refine code_cut ⟨[.any, .any, .ptr 0 0, .any, .any, .s (bs (coreP d a).1), .s (bs (coreP d a).2), .b (d.verb != 99 && d.verb != 115)] ++ List.replicate 71 .any, [(0, 45, dirC d)], [], [], 1, 0, []⟩ (evCode_sound Γok _ _ _ ?_) ?_
  · simp (maxSteps := 4000000) only [push_cast, Int.reduceEq, Int.reduceBNe, Int.reduceBEq, Int.reduceAdd, Int.reduceSub, Int.reduceMul, Int.reduceNeg, Int.reduceLT, Int.reduceLE, Int.reduceToNat, Nat.reduceLT, Nat.reduceAdd, Nat.reduceSub, Nat.reduceMul, Nat.reduceEqDiff, Nat.reduceLeDiff, Nat.reduceBEq, reduceIte, reduceCtorEq, v99, v115, mk_bs, bs_size]
    refine ⟨fun h => Sub.w [0] ?_, fun h => ⟨fun h1 => ⟨fun h2 => ?_, fun h2 => Sub.w [0] ?_⟩, fun h1 => ?_⟩⟩
    · simp (maxSteps := 4000000) only [push_cast, Int.reduceEq, Int.reduceBNe, Int.reduceBEq, Int.reduceAdd, Int.reduceSub, Int.reduceMul, Int.reduceNeg, Int.reduceLT, Int.reduceLE, Int.reduceToNat, Nat.reduceLT, Nat.reduceAdd, Nat.reduceSub, Nat.reduceMul, Nat.reduceEqDiff, Nat.reduceLeDiff, Nat.reduceBEq, reduceIte, reduceCtorEq, dirC]
      refine ⟨by unfold coreP; rw [if_pos h], ?_, .inl h⟩
      unfold coreP
      rw [if_pos h]
      have := ha.u0
      have := ha.u1
      show bs _ = strOf [_]
      unfold strOf bs
      simp only [List.map_cons, List.map_nil]
      congr 2
      rw [IntKind.wrap_u8]
      rw [show (a.u % 256).toNat = a.u.toNat % 256 by omega]
      have : ∀ n : Nat, UInt8.ofNat n = UInt8.ofNat (n % 256) := fun n => UInt8.toNat_inj.1 (by simp)
      rw [← this]
    · have e : minI d.prec a.t.length = ((min d.prec.toNat a.t.length : Nat) : Int) := by unfold minI; split <;> omega
      rw [e]
      refine ⟨by omega, Sub.w [0] ?_⟩
      simp (maxSteps := 4000000) only [push_cast, Int.reduceEq, Int.reduceBNe, Int.reduceBEq, Int.reduceAdd, Int.reduceSub, Int.reduceMul, Int.reduceNeg, Int.reduceLT, Int.reduceLE, Int.reduceToNat, Nat.reduceLT, Nat.reduceAdd, Nat.reduceSub, Nat.reduceMul, Nat.reduceEqDiff, Nat.reduceLeDiff, Nat.reduceBEq, reduceIte, reduceCtorEq, dirC, bs_cut]
      refine ⟨by unfold coreP; rw [if_neg h, if_pos h1], ?_, .inr h1⟩
      unfold coreP
      rw [if_neg h, if_pos h1]
      simp only
      rw [if_pos h2, Int.toNat_natCast]
      congr 1
      rcases Nat.le_total d.prec.toNat a.t.length with h5 | h5
      · rw [Nat.min_eq_left h5]
      · rw [Nat.min_eq_right h5, List.take_length, List.take_of_length_le h5]
    · simp (maxSteps := 4000000) only [push_cast, Int.reduceEq, Int.reduceBNe, Int.reduceBEq, Int.reduceAdd, Int.reduceSub, Int.reduceMul, Int.reduceNeg, Int.reduceLT, Int.reduceLE, Int.reduceToNat, Nat.reduceLT, Nat.reduceAdd, Nat.reduceSub, Nat.reduceMul, Nat.reduceEqDiff, Nat.reduceLeDiff, Nat.reduceBEq, reduceIte, reduceCtorEq, dirC]
      refine ⟨by unfold coreP; rw [if_neg h, if_pos h1], ?_, .inr h1⟩
      unfold coreP
      rw [if_neg h, if_pos h1]
      simp only
      rw [if_neg (by omega)]
    · refine call_w (number_c d a ha hw hp hp2) [] (by simp (maxSteps := 4000000) only [push_cast, Int.reduceEq, Int.reduceBNe, Int.reduceBEq, Int.reduceAdd, Int.reduceSub, Int.reduceMul, Int.reduceNeg, Int.reduceLT, Int.reduceLE, Int.reduceToNat, Nat.reduceLT, Nat.reduceAdd, Nat.reduceSub, Nat.reduceMul, Nat.reduceEqDiff, Nat.reduceLeDiff, Nat.reduceBEq, reduceIte, reduceCtorEq, dirV, dirC, argV, argC]) ?_
      rintro sv post ⟨rfl, rfl⟩
      simp (maxSteps := 4000000) only [push_cast, Int.reduceEq, Int.reduceBNe, Int.reduceBEq, Int.reduceAdd, Int.reduceSub, Int.reduceMul, Int.reduceNeg, Int.reduceLT, Int.reduceLE, Int.reduceToNat, Nat.reduceLT, Nat.reduceAdd, Nat.reduceSub, Nat.reduceMul, Nat.reduceEqDiff, Nat.reduceLeDiff, Nat.reduceBEq, reduceIte, reduceCtorEq]
      refine Sub.w [0] ?_
      simp (maxSteps := 4000000) only [push_cast, Int.reduceEq, Int.reduceBNe, Int.reduceBEq, Int.reduceAdd, Int.reduceSub, Int.reduceMul, Int.reduceNeg, Int.reduceLT, Int.reduceLE, Int.reduceToNat, Nat.reduceLT, Nat.reduceAdd, Nat.reduceSub, Nat.reduceMul, Nat.reduceEqDiff, Nat.reduceLeDiff, Nat.reduceBEq, reduceIte, reduceCtorEq, dirC]
      refine ⟨by unfold coreP; rw [if_neg h, if_neg h1], ?_, h, h1⟩
      unfold coreP
      rw [if_neg h, if_neg h1]
  have hc := core_len d a ht hp2
  have hx : textP d a = layP d (coreP d a).1 (coreP d a).2 := rfl
  rw [hx]
  generalize (coreP d a).1 = sg at hc ⊢
  generalize (coreP d a).2 = sx at hc ⊢
  refine CodeOK.seq (evCode_sound Γok _ _ _ ?_)
  simp (maxSteps := 4000000) only [push_cast, Int.reduceEq, Int.reduceBNe, Int.reduceBEq, Int.reduceAdd, Int.reduceSub, Int.reduceMul, Int.reduceNeg, Int.reduceLT, Int.reduceLE, Int.reduceToNat, Nat.reduceLT, Nat.reduceAdd, Nat.reduceSub, Nat.reduceMul, Nat.reduceEqDiff, Nat.reduceLeDiff, Nat.reduceBEq, reduceIte, reduceCtorEq, mk_bs, bs_size, dirC]
  have eL : maxI 0 (IntKind.i64.wrap (IntKind.i64.wrap ((d.width : Int) - sg.length) - sx.length)) = ((d.width - sg.length - sx.length : Nat) : Int) := by
    rw [wrap64 (n := (d.width : Int) - sg.length) (by omega) (by omega), wrap64 (n := (d.width : Int) - sg.length - sx.length) (by omega) (by omega)]
    unfold maxI
    split <;> omega
  rw [eL]
  unfold layP
  have hL : d.width - sg.length - sx.length ≤ 4096 := by omega
  generalize d.width - sg.length - sx.length = L at hL ⊢
  refine evCode_sound Γok _ _ _ ?_
  simp (maxSteps := 4000000) only [push_cast, Int.reduceEq, Int.reduceBNe, Int.reduceBEq, Int.reduceAdd, Int.reduceSub, Int.reduceMul, Int.reduceNeg, Int.reduceLT, Int.reduceLE, Int.reduceToNat, Nat.reduceLT, Nat.reduceAdd, Nat.reduceSub, Nat.reduceMul, Nat.reduceEqDiff, Nat.reduceLeDiff, Nat.reduceBEq, reduceIte, reduceCtorEq, mk_bs, bs_size]
  refine call_w (has45_c d) [] (by simp (maxSteps := 4000000) only [push_cast, Int.reduceEq, Int.reduceBNe, Int.reduceBEq, Int.reduceAdd, Int.reduceSub, Int.reduceMul, Int.reduceNeg, Int.reduceLT, Int.reduceLE, Int.reduceToNat, Nat.reduceLT, Nat.reduceAdd, Nat.reduceSub, Nat.reduceMul, Nat.reduceEqDiff, Nat.reduceLeDiff, Nat.reduceBEq, reduceIte, reduceCtorEq, dirV, dirC]) ?_
  rintro sv post ⟨rfl, rfl⟩
  simp (maxSteps := 4000000) only [push_cast, Int.reduceEq, Int.reduceBNe, Int.reduceBEq, Int.reduceAdd, Int.reduceSub, Int.reduceMul, Int.reduceNeg, Int.reduceLT, Int.reduceLE, Int.reduceToNat, Nat.reduceLT, Nat.reduceAdd, Nat.reduceSub, Nat.reduceMul, Nat.reduceEqDiff, Nat.reduceLeDiff, Nat.reduceBEq, reduceIte, reduceCtorEq, mk_bs, bs_size, bs_app]
  refine ⟨fun h => ?_, fun h => ?_⟩
  · refine ⟨by omega, call_w (repeat_c [32] L (by simp; omega) (by omega)) [] (by simp (maxSteps := 4000000) only [push_cast, Int.reduceEq, Int.reduceBNe, Int.reduceBEq, Int.reduceAdd, Int.reduceSub, Int.reduceMul, Int.reduceNeg, Int.reduceLT, Int.reduceLE, Int.reduceToNat, Nat.reduceLT, Nat.reduceAdd, Nat.reduceSub, Nat.reduceMul, Nat.reduceEqDiff, Nat.reduceLeDiff, Nat.reduceBEq, reduceIte, reduceCtorEq]) ?_⟩
    rintro sv post ⟨rfl, rfl⟩
    rw [repeat_one]
    simp (maxSteps := 4000000) only [push_cast, Int.reduceEq, Int.reduceBNe, Int.reduceBEq, Int.reduceAdd, Int.reduceSub, Int.reduceMul, Int.reduceNeg, Int.reduceLT, Int.reduceLE, Int.reduceToNat, Nat.reduceLT, Nat.reduceAdd, Nat.reduceSub, Nat.reduceMul, Nat.reduceEqDiff, Nat.reduceLeDiff, Nat.reduceBEq, reduceIte, reduceCtorEq, mk_bs, bs_size, bs_app, List.length_append, List.length_replicate]
    refine ⟨by omega, ?_⟩
    rw [if_pos h]
    exact Fin.nil rfl (psv := .s _) (by simp (maxSteps := 4000000) only [push_cast, Int.reduceEq, Int.reduceBNe, Int.reduceBEq, Int.reduceAdd, Int.reduceSub, Int.reduceMul, Int.reduceNeg, Int.reduceLT, Int.reduceLE, Int.reduceToNat, Nat.reduceLT, Nat.reduceAdd, Nat.reduceSub, Nat.reduceMul, Nat.reduceEqDiff, Nat.reduceLeDiff, Nat.reduceBEq, reduceIte, reduceCtorEq]) ⟨rfl, rfl⟩
  rw [if_neg (by rw [h]; simp)]
  refine call_w (has48_c d) [] (by simp (maxSteps := 4000000) only [push_cast, Int.reduceEq, Int.reduceBNe, Int.reduceBEq, Int.reduceAdd, Int.reduceSub, Int.reduceMul, Int.reduceNeg, Int.reduceLT, Int.reduceLE, Int.reduceToNat, Nat.reduceLT, Nat.reduceAdd, Nat.reduceSub, Nat.reduceMul, Nat.reduceEqDiff, Nat.reduceLeDiff, Nat.reduceBEq, reduceIte, reduceCtorEq, dirV, dirC]) ?_
  rintro sv post ⟨rfl, rfl⟩
  simp (maxSteps := 4000000) only [push_cast, Int.reduceEq, Int.reduceBNe, Int.reduceBEq, Int.reduceAdd, Int.reduceSub, Int.reduceMul, Int.reduceNeg, Int.reduceLT, Int.reduceLE, Int.reduceToNat, Nat.reduceLT, Nat.reduceAdd, Nat.reduceSub, Nat.reduceMul, Nat.reduceEqDiff, Nat.reduceLeDiff, Nat.reduceBEq, reduceIte, reduceCtorEq, mk_bs, bs_size, bs_app]
  refine ⟨fun h1 => ?_, fun h1 => ?_⟩
  · refine call_w (repeat_c [48] L (by simp; omega) (by omega)) [] (by simp (maxSteps := 4000000) only [push_cast, Int.reduceEq, Int.reduceBNe, Int.reduceBEq, Int.reduceAdd, Int.reduceSub, Int.reduceMul, Int.reduceNeg, Int.reduceLT, Int.reduceLE, Int.reduceToNat, Nat.reduceLT, Nat.reduceAdd, Nat.reduceSub, Nat.reduceMul, Nat.reduceEqDiff, Nat.reduceLeDiff, Nat.reduceBEq, reduceIte, reduceCtorEq]) ?_
    rintro sv post ⟨rfl, rfl⟩
    rw [repeat_one]
    simp (maxSteps := 4000000) only [push_cast, Int.reduceEq, Int.reduceBNe, Int.reduceBEq, Int.reduceAdd, Int.reduceSub, Int.reduceMul, Int.reduceNeg, Int.reduceLT, Int.reduceLE, Int.reduceToNat, Nat.reduceLT, Nat.reduceAdd, Nat.reduceSub, Nat.reduceMul, Nat.reduceEqDiff, Nat.reduceLeDiff, Nat.reduceBEq, reduceIte, reduceCtorEq, mk_bs, bs_size, bs_app, List.length_append, List.length_replicate]
    refine ⟨by omega, by omega, ?_⟩
    rw [if_pos h1]
    exact Fin.nil rfl (psv := .s _) (by simp (maxSteps := 4000000) only [push_cast, Int.reduceEq, Int.reduceBNe, Int.reduceBEq, Int.reduceAdd, Int.reduceSub, Int.reduceMul, Int.reduceNeg, Int.reduceLT, Int.reduceLE, Int.reduceToNat, Nat.reduceLT, Nat.reduceAdd, Nat.reduceSub, Nat.reduceMul, Nat.reduceEqDiff, Nat.reduceLeDiff, Nat.reduceBEq, reduceIte, reduceCtorEq]) ⟨rfl, rfl⟩
  · refine call_w (repeat_c [32] L (by simp; omega) (by omega)) [] (by simp (maxSteps := 4000000) only [push_cast, Int.reduceEq, Int.reduceBNe, Int.reduceBEq, Int.reduceAdd, Int.reduceSub, Int.reduceMul, Int.reduceNeg, Int.reduceLT, Int.reduceLE, Int.reduceToNat, Nat.reduceLT, Nat.reduceAdd, Nat.reduceSub, Nat.reduceMul, Nat.reduceEqDiff, Nat.reduceLeDiff, Nat.reduceBEq, reduceIte, reduceCtorEq]) ?_
    rintro sv post ⟨rfl, rfl⟩
    rw [repeat_one]
    simp (maxSteps := 4000000) only [push_cast, Int.reduceEq, Int.reduceBNe, Int.reduceBEq, Int.reduceAdd, Int.reduceSub, Int.reduceMul, Int.reduceNeg, Int.reduceLT, Int.reduceLE, Int.reduceToNat, Nat.reduceLT, Nat.reduceAdd, Nat.reduceSub, Nat.reduceMul, Nat.reduceEqDiff, Nat.reduceLeDiff, Nat.reduceBEq, reduceIte, reduceCtorEq, mk_bs, bs_size, bs_app, List.length_append, List.length_replicate]
    refine ⟨by omega, by omega, ?_⟩
    rw [if_neg (by
      rintro ⟨⟨c1, c2, c3⟩, c4⟩
      rcases h1 with (h1 | h1 | h1) | h1
      · rw [c1] at h1; cases h1
      · exact c2 h1
      · exact c3 h1
      · omega)]
    exact Fin.nil rfl (psv := .s _) (by simp (maxSteps := 4000000) only [push_cast, Int.reduceEq, Int.reduceBNe, Int.reduceBEq, Int.reduceAdd, Int.reduceSub, Int.reduceMul, Int.reduceNeg, Int.reduceLT, Int.reduceLE, Int.reduceToNat, Nat.reduceLT, Nat.reduceAdd, Nat.reduceSub, Nat.reduceMul, Nat.reduceEqDiff, Nat.reduceLeDiff, Nat.reduceBEq, reduceIte, reduceCtorEq]) ⟨rfl, rfl⟩
end Go.Proofs.YtlajpggoncelhaaDoor
/- The program's patterns: a whole pattern. -/
namespace Go.Proofs.YtlajpggoncelhaaDoor
open Go Go.Eng
set_option maxHeartbeats 4000000
set_option linter.unusedSimpArgs false
set_option linter.unusedVariables false
set_option maxRecDepth 100000

def argEl (args : List AV) : Nat → Nat → SV := elOf (args.map argC)
theorem argEl_tail (a : AV) (args : List AV) : (fun i j => argEl (a :: args) (1 + i) j) = argEl args := by
  funext i j
  unfold argEl elOf
  rw [Nat.add_comm]
  rfl
theorem W_arg (f : Nat → Nat) : ∀ (args : List AV) (i j : Nat), W false f (argEl args i j) (argEl args i j)
  | [], i, j => by simp only [argEl, elOf, List.map_nil, pickL, lget, W]
  | a :: r, 0, j => by
    show W false f (lget (argC a) j) (lget (argC a) j)
    match j with
    | 0 => simp only [argC, lget, W]; exact ⟨trivial, trivial⟩
    | 1 => simp only [argC, lget, W]; exact ⟨trivial, trivial⟩
    | 2 => simp only [argC, lget, W]; exact ⟨trivial, trivial⟩
    | 3 => simp only [argC, lget, W]
    | n + 4 => simp only [argC, lget, W]
  | a :: r, i + 1, j => W_arg f r i j
theorem argEl_next (a : AV) (args : List AV) (i j : Nat) : argEl (a :: args) (1 + i) j = argEl args i j := congrFun (congrFun (argEl_tail a args) i) j
theorem fitP_iff (d : Dir) (a : AV) : fitP d a = true ↔ (a.kind = wantsP d.verb ∧ (¬a.kind = 3 ∨ a.u ≤ 255)) := by
  unfold fitP
  rw [Bool.and_eq_true, Bool.not_eq_true', Bool.and_eq_false_iff, beq_iff_eq, beq_eq_false_iff_ne, decide_eq_false_iff_not, Int.not_lt]
theorem arg_row (a : AV) (r : List AV) : List.map (argEl (a :: r) 0) (List.range 4) = argC a := rfl
structure ArgsOK (args : List AV) : Prop where
  ok : ∀ a, a ∈ args → a.ok ∧ a.t.length ≤ 140737488355328
  len : args.length ≤ 140737488355328

def isFormat (L : List UInt8 × Int × Nat) (sv : SV) (post : SS) : Prop :=
  (L.2.1 = 0 ∧ ∃ p c, sv = .tup [.raw (.slice p L.1.length c), .i .i64 0, .i .i64 L.2.2] ∧ post = ⟨[], [], [], [(0, RowZ 5 .u8 p c (ofU L.1))], 1, 0, []⟩) ∨
  (L.2.1 ≠ 0 ∧ sv = .tup [.ints .u8 .nil [], .i .i64 L.2.1, .i .i64 L.2.2] ∧ post = nilSS)

def fmtS (l : List UInt8) (at_ : Nat) (args : List AV) (out : List UInt8) (p : Option Addr) (c : Nat) (lr : Int) : SS :=
  ⟨[.s (bs l), .sl 4 .old args.length (argEl args), .any, .any, .any, .any, .any, .ptr 0 0, .i .i64 at_] ++ List.replicate 83 .any, [(0, 43, [.raw (.slice p out.length c), .i .i64 0, .i .i8 lr])], [], [(1, RowZ 5 .u8 p c (ofU out))], 2, 0, []⟩

theorem code_rowz {P : Program} {B : Ctx} {c : Code} {s : SS} {K : Ex → SS → Prop} (r : Nat) {T : TypeId} {k : IntKind} {p : Option Addr} {cap : Nat} {l : List Int} (hr : rsFind s.rs r = some (RowZ T k p cap l))
    (h : l.length ≤ cap → CodeOK P B c s K) : CodeOK P B c s K := by
  intro E a w hb hf hw
  obtain ⟨κ, ho⟩ := hw.own
  obtain ⟨F, ⟨q0, _⟩, _⟩ := ho.rs _ _ (rsFind_mem _ _ _ hr)
  exact h q0 E a w hb hf hw

theorem fmtF_plain {f at_ : Nat} {ch : UInt8} {r : List UInt8} {args : List AV} {out : List UInt8} (h : ¬ ch = 37) : fmtF (f + 1) at_ (ch :: r) args out = if 65536 < out.length + 1 then ([], 5, at_) else fmtF f (at_ + 1) r args (out ++ [ch]) := by
  simp only [fmtF]
  rw [if_neg h]
theorem fmtF_none {f at_ : Nat} {r : List UInt8} {args : List AV} {out : List UInt8} (h : parseP r = none) : fmtF (f + 1) at_ (37 :: r) args out = ([], 171, at_) := by
  simp only [fmtF, if_true]
  rw [h]
theorem fmtF_pct {f at_ : Nat} {r : List UInt8} {args : List AV} {out : List UInt8} {d : Dir} (h : parseP r = some d) (hv : d.verb = 37) : fmtF (f + 1) at_ (37 :: r) args out = if 65536 < out.length + 1 then ([], 5, at_) else fmtF f (at_ + d.size) ((37 :: r).drop d.size) args (out ++ [37]) := by
  simp only [fmtF, if_true]
  rw [h]
  simp only
  rw [if_pos hv]
theorem fmtF_noarg {f at_ : Nat} {r : List UInt8} {out : List UInt8} {d : Dir} (h : parseP r = some d) (hv : ¬ d.verb = 37) : fmtF (f + 1) at_ (37 :: r) [] out = ([], 3, at_) := by
  simp only [fmtF, if_true]
  rw [h]
  simp only
  rw [if_neg hv]
theorem fmtF_arg {f at_ : Nat} {r : List UInt8} {a : AV} {more : List AV} {out : List UInt8} {d : Dir} (h : parseP r = some d) (hv : ¬ d.verb = 37) : fmtF (f + 1) at_ (37 :: r) (a :: more) out = if fitP d a = true then (if 65536 < out.length + (textP d a).length then ([], 5, at_) else fmtF f (at_ + d.size) ((37 :: r).drop d.size) more (out ++ textP d a)) else ([], 1, at_) := by
  simp only [fmtF, if_true]
  rw [h]
  simp only
  rw [if_neg hv]
theorem layP_len (d : Dir) (sg sx : List UInt8) (hw : d.width ≤ 4096) : (layP d sg sx).length ≤ sg.length + sx.length + 4096 := by
  unfold layP
  split
  · simp; omega
  split
  · simp; omega
  · simp; omega
theorem textP_len (d : Dir) (a : AV) (ht : a.t.length ≤ 140737488355328) (hw : d.width ≤ 4096) (hp2 : d.prec ≤ 4096) : (textP d a).length ≤ 140737488360000 := by
  have h1 := core_len d a ht hp2
  have h2 := layP_len d (coreP d a).1 (coreP d a).2 hw
  unfold textP
  omega

theorem format_c (l : List UInt8) (args : List AV) (ha : ArgsOK args) : Contract Tryd.prog 9 nilSS [.s (bs l), .sl 4 .old args.length (argEl args)] (isFormat (formatP l args)) := by
  refine contract_of Γok Tryd.func9 rfl rfl (stop := []) ?_
  refine evCode_sound Γok _ _ _ ?_
  simp (maxSteps := 4000000) only [push_cast, Int.reduceEq, Int.reduceBNe, Int.reduceBEq, Int.reduceAdd, Int.reduceSub, Int.reduceMul, Int.reduceNeg, Int.reduceLT, Int.reduceLE, Int.reduceToNat, Nat.reduceLT, Nat.reduceAdd, Nat.reduceSub, Nat.reduceMul, Nat.reduceEqDiff, Nat.reduceLeDiff, Nat.reduceBEq, reduceIte, reduceCtorEq, Tryd.f9, bs_size]
  refine ⟨fun h => ?_, fun h => ?_⟩
  · have e : formatP l args = ([], 5, 0) := if_pos (by omega)
    rw [e]
    exact Fin.nil rfl (psv := .tup [.ints .u8 .nil [], .i .i64 5, .i .i64 0]) (by simp (maxSteps := 4000000) only [push_cast, Int.reduceEq, Int.reduceBNe, Int.reduceBEq, Int.reduceAdd, Int.reduceSub, Int.reduceMul, Int.reduceNeg, Int.reduceLT, Int.reduceLE, Int.reduceToNat, Nat.reduceLT, Nat.reduceAdd, Nat.reduceSub, Nat.reduceMul, Nat.reduceEqDiff, Nat.reduceLeDiff, Nat.reduceBEq, reduceIte, reduceCtorEq]) (.inr ⟨by decide, rfl, rfl⟩)
  have e0 : formatP l args = fmtF (l.length + 1) 0 l args [] := if_neg (by omega)
  rw [e0]
  refine loop_ok (ι := {q : Nat × List UInt8 × Nat × List AV × List UInt8 × Option Addr × Nat × Int // fmtF q.1 q.2.2.1 q.2.1 q.2.2.2.1 q.2.2.2.2.1 = fmtF (l.length + 1) 0 l args [] ∧ q.2.1.length < q.1 ∧ l.drop q.2.2.1 = q.2.1 ∧ q.2.2.1 + q.2.1.length = l.length ∧ q.2.2.2.2.1.length ≤ 65536 ∧ ArgsOK q.2.2.2.1}) (fun q => fmtS l q.1.2.2.1 q.1.2.2.2.1 q.1.2.2.2.2.1 q.1.2.2.2.2.2.1 q.1.2.2.2.2.2.2.1 q.1.2.2.2.2.2.2.2) (fun q => q.1.1) ⟨(l.length + 1, l, 0, args, [], none, 0, 0), rfl, Nat.lt_succ_self _, rfl, by simp, by simp, ha⟩ ?_ ?_
  · refine Sub.trans (Sub.rowHp 0 0 5 .u8 rfl rfl) (Sub.w [0, 1] ?_)
    simp (maxSteps := 4000000) only [push_cast, Int.reduceEq, Int.reduceBNe, Int.reduceBEq, Int.reduceAdd, Int.reduceSub, Int.reduceMul, Int.reduceNeg, Int.reduceLT, Int.reduceLE, Int.reduceToNat, Nat.reduceLT, Nat.reduceAdd, Nat.reduceSub, Nat.reduceMul, Nat.reduceEqDiff, Nat.reduceLeDiff, Nat.reduceBEq, reduceIte, reduceCtorEq, fmtS]
    exact ⟨fun i _ j _ => W_arg _ args i j, rfl⟩
  rintro ⟨⟨f, r, at_, args, out, p, c, lr⟩, h1, h2, h3, h4, h5, h6⟩
  simp only at h1 h2 h3 h4 h5 h6
  obtain ⟨f, rfl⟩ : ∃ k, f = k + 1 := ⟨f - 1, by omega⟩
  refine code_rowz 1 rfl fun hcap => ?_
  rw [ofU_len] at hcap
  simp only at hcap
  refine CodeOK.seq (evCode_sound Γok _ _ _ ?_)
  simp (maxSteps := 4000000) only [push_cast, Int.reduceEq, Int.reduceBNe, Int.reduceBEq, Int.reduceAdd, Int.reduceSub, Int.reduceMul, Int.reduceNeg, Int.reduceLT, Int.reduceLE, Int.reduceToNat, Nat.reduceLT, Nat.reduceAdd, Nat.reduceSub, Nat.reduceMul, Nat.reduceEqDiff, Nat.reduceLeDiff, Nat.reduceBEq, reduceIte, reduceCtorEq, fmtS, bs_size]
  refine ⟨fun h7 => ?_, fun h7 => ?_⟩
  · obtain ⟨ch, r, rfl⟩ : ∃ d r', r = d :: r' := by
      cases r with
      | nil => simp only [List.length_nil] at h4; omega
      | cons d r => exact ⟨d, r, rfl⟩
    have hat : (l[at_]?).getD 0 = ch := by
      have := congrArg List.head? h3
      rw [List.head?_drop] at this
      rw [this]; rfl
    have hr : l.drop (at_ + 1) = r := by rw [← List.drop_drop, h3]; rfl
    simp only [List.length_cons] at h2 h4
    refine CodeOK.block (CodeOK.seq (evCode_sound Γok _ _ _ ?_))
    simp (maxSteps := 4000000) only [push_cast, Int.reduceEq, Int.reduceBNe, Int.reduceBEq, Int.reduceAdd, Int.reduceSub, Int.reduceMul, Int.reduceNeg, Int.reduceLT, Int.reduceLE, Int.reduceToNat, Nat.reduceLT, Nat.reduceAdd, Nat.reduceSub, Nat.reduceMul, Nat.reduceEqDiff, Nat.reduceLeDiff, Nat.reduceBEq, reduceIte, reduceCtorEq, bs_size, bs_cut]
    rw [wrap64 (n := (at_ : Int) + 1) (by omega) (by omega)]
    refine ⟨by omega, ?_⟩
    refine code_cutI (ι := {q : List UInt8 × Nat × List AV // 1 ≤ q.2.1 ∧ q.2.1 ≤ r.length + 1 ∧ ArgsOK q.2.2 ∧ q.1.length ≤ 140737488360000 ∧ fmtF (f + 1) at_ (ch :: r) args out = if 65536 < out.length + q.1.length then ([], 5, at_) else fmtF f (at_ + q.2.1) ((ch :: r).drop q.2.1) q.2.2 (out ++ q.1)})
      (fun q => ⟨[.s (bs l), .sl 4 .old q.1.2.2.length (argEl q.1.2.2), .any, .any, .any, .any, .any, .ptr 0 0, .i .i64 at_, .s (bs q.1.1), .i .i64 q.1.2.1] ++ List.replicate 81 .any, [(0, 43, [.raw (.slice p out.length c), .i .i64 0, .i .i8 lr])], [], [(1, RowZ 5 .u8 p c (ofU out))], 2, 0, []⟩) (evCode_sound Γok _ _ _ ?_) ?_
    · simp (maxSteps := 4000000) only [push_cast, Int.reduceEq, Int.reduceBNe, Int.reduceBEq, Int.reduceAdd, Int.reduceSub, Int.reduceMul, Int.reduceNeg, Int.reduceLT, Int.reduceLE, Int.reduceToNat, Nat.reduceLT, Nat.reduceAdd, Nat.reduceSub, Nat.reduceMul, Nat.reduceEqDiff, Nat.reduceLeDiff, Nat.reduceBEq, reduceIte, reduceCtorEq, bs_size, bs_cut, bs_at, Int.toNat_natCast]
      rw [hat, v37, List.take_length, h3]
      refine ⟨by omega, fun e37 => ⟨by omega, ?_⟩, fun e37 => ⟨⟨([ch], 1, args), by simp, by simp, h6, by simp, fmtF_plain e37⟩, Sub.w [0, 1] ?_⟩⟩
      · subst e37
        refine call_w (parse_c 37 r (by omega)) [] (by simp (maxSteps := 4000000) only [push_cast, Int.reduceEq, Int.reduceBNe, Int.reduceBEq, Int.reduceAdd, Int.reduceSub, Int.reduceMul, Int.reduceNeg, Int.reduceLT, Int.reduceLE, Int.reduceToNat, Nat.reduceLT, Nat.reduceAdd, Nat.reduceSub, Nat.reduceMul, Nat.reduceEqDiff, Nat.reduceLeDiff, Nat.reduceBEq, reduceIte, reduceCtorEq]) ?_
        rintro sv post ⟨rfl, hp⟩
        cases hpp : parseP r with
        | none =>
          rw [hpp] at hp
          obtain ⟨fl, w, pr, v, z, rfl⟩ := hp
          rw [fmtF_none hpp] at h1
          rw [← h1]
          simp (maxSteps := 4000000) only [push_cast, Int.reduceEq, Int.reduceBNe, Int.reduceBEq, Int.reduceAdd, Int.reduceSub, Int.reduceMul, Int.reduceNeg, Int.reduceLT, Int.reduceLE, Int.reduceToNat, Nat.reduceLT, Nat.reduceAdd, Nat.reduceSub, Nat.reduceMul, Nat.reduceEqDiff, Nat.reduceLeDiff, Nat.reduceBEq, reduceIte, reduceCtorEq]
          exact Fin.nil rfl (psv := .tup [.ints .u8 .nil [], .i .i64 171, .i .i64 at_]) (by simp (maxSteps := 4000000) only [push_cast, Int.reduceEq, Int.reduceBNe, Int.reduceBEq, Int.reduceAdd, Int.reduceSub, Int.reduceMul, Int.reduceNeg, Int.reduceLT, Int.reduceLE, Int.reduceToNat, Nat.reduceLT, Nat.reduceAdd, Nat.reduceSub, Nat.reduceMul, Nat.reduceEqDiff, Nat.reduceLeDiff, Nat.reduceBEq, reduceIte, reduceCtorEq]) (.inr ⟨by simp, rfl, rfl⟩)
        | some d =>
          rw [hpp] at hp
          simp only at hp
          subst hp
          obtain ⟨d1, d2, d3, d4, d5, d6⟩ := parseP_size hpp
          simp (maxSteps := 4000000) only [push_cast, Int.reduceEq, Int.reduceBNe, Int.reduceBEq, Int.reduceAdd, Int.reduceSub, Int.reduceMul, Int.reduceNeg, Int.reduceLT, Int.reduceLE, Int.reduceToNat, Nat.reduceLT, Nat.reduceAdd, Nat.reduceSub, Nat.reduceMul, Nat.reduceEqDiff, Nat.reduceLeDiff, Nat.reduceBEq, reduceIte, reduceCtorEq, dirV, dirC, v37]
          refine ⟨fun hv => ?_, fun hv => ?_⟩
          · obtain ⟨d7, d8⟩ := d2 hv
            cases args with
            | nil =>
              rw [fmtF_noarg hpp hv] at h1
              rw [← h1]
              exact ⟨fun _ => Fin.nil rfl (psv := .tup [.ints .u8 .nil [], .i .i64 3, .i .i64 at_]) (by simp (maxSteps := 4000000) only [push_cast, Int.reduceEq, Int.reduceBNe, Int.reduceBEq, Int.reduceAdd, Int.reduceSub, Int.reduceMul, Int.reduceNeg, Int.reduceLT, Int.reduceLE, Int.reduceToNat, Nat.reduceLT, Nat.reduceAdd, Nat.reduceSub, Nat.reduceMul, Nat.reduceEqDiff, Nat.reduceLeDiff, Nat.reduceBEq, reduceIte, reduceCtorEq]) (.inr ⟨by simp, rfl, rfl⟩), fun h8 => absurd rfl h8⟩
            | cons a more =>
              obtain ⟨ha1, ha2⟩ := h6.ok a List.mem_cons_self
              rw [arg_row]
              rw [fmtF_arg hpp hv] at h1
              simp (maxSteps := 4000000) only [push_cast, Int.reduceEq, Int.reduceBNe, Int.reduceBEq, Int.reduceAdd, Int.reduceSub, Int.reduceMul, Int.reduceNeg, Int.reduceLT, Int.reduceLE, Int.reduceToNat, Nat.reduceLT, Nat.reduceAdd, Nat.reduceSub, Nat.reduceMul, Nat.reduceEqDiff, Nat.reduceLeDiff, Nat.reduceBEq, reduceIte, reduceCtorEq, argC]
              refine ⟨fun h8 => by omega, fun _ => ⟨by omega, by omega, ?_⟩⟩
              refine (region_plan rfl Γok mixed (.pure 0 (.pure 1 (.pure 2 (.eff (.cons 3 [1] (.pure 4 (.pure 5 (.pure 6 (.pure 7 (.pure 8 (.pure 9 (.pure 10 (.pure 11 (.pure 12 (.pure 13 (.pure 14 .done))))))))))) .nil))))) 92 rfl (by kernel_rfl) ?_)
              simp (maxSteps := 4000000) only [push_cast, Int.reduceEq, Int.reduceBNe, Int.reduceBEq, Int.reduceAdd, Int.reduceSub, Int.reduceMul, Int.reduceNeg, Int.reduceLT, Int.reduceLE, Int.reduceToNat, Nat.reduceLT, Nat.reduceAdd, Nat.reduceSub, Nat.reduceMul, Nat.reduceEqDiff, Nat.reduceLeDiff, Nat.reduceBEq, reduceIte, reduceCtorEq]
              refine call_w (wants_c d) [] (by simp (maxSteps := 4000000) only [push_cast, Int.reduceEq, Int.reduceBNe, Int.reduceBEq, Int.reduceAdd, Int.reduceSub, Int.reduceMul, Int.reduceNeg, Int.reduceLT, Int.reduceLE, Int.reduceToNat, Nat.reduceLT, Nat.reduceAdd, Nat.reduceSub, Nat.reduceMul, Nat.reduceEqDiff, Nat.reduceLeDiff, Nat.reduceBEq, reduceIte, reduceCtorEq, dirV, dirC]) ?_
              rintro sv post ⟨rfl, rfl⟩
              simp (maxSteps := 4000000) only [push_cast, Int.reduceEq, Int.reduceBNe, Int.reduceBEq, Int.reduceAdd, Int.reduceSub, Int.reduceMul, Int.reduceNeg, Int.reduceLT, Int.reduceLE, Int.reduceToNat, Nat.reduceLT, Nat.reduceAdd, Nat.reduceSub, Nat.reduceMul, Nat.reduceEqDiff, Nat.reduceLeDiff, Nat.reduceBEq, reduceIte, reduceCtorEq]
              have hfit := fitP_iff d a
              refine ⟨fun h8 => ?_, fun h8 => ?_⟩
              · rw [if_neg (by
                  rw [hfit]
                  rintro ⟨c1, c2⟩
                  rcases h8 with h8 | h8
                  · exact h8 c1
                  · rcases c2 with c2 | c2
                    · exact c2 h8.1
                    · omega)] at h1
                rw [← h1]
                exact Fin.nil rfl (psv := .tup [.ints .u8 .nil [], .i .i64 1, .i .i64 at_]) (by simp (maxSteps := 4000000) only [push_cast, Int.reduceEq, Int.reduceBNe, Int.reduceBEq, Int.reduceAdd, Int.reduceSub, Int.reduceMul, Int.reduceNeg, Int.reduceLT, Int.reduceLE, Int.reduceToNat, Nat.reduceLT, Nat.reduceAdd, Nat.reduceSub, Nat.reduceMul, Nat.reduceEqDiff, Nat.reduceLeDiff, Nat.reduceBEq, reduceIte, reduceCtorEq]) (.inr ⟨by simp, rfl, rfl⟩)
              · refine call_w (text_c d a ha1 ha2 d4 d5 d6) [] (by simp (maxSteps := 4000000) only [push_cast, Int.reduceEq, Int.reduceBNe, Int.reduceBEq, Int.reduceAdd, Int.reduceSub, Int.reduceMul, Int.reduceNeg, Int.reduceLT, Int.reduceLE, Int.reduceToNat, Nat.reduceLT, Nat.reduceAdd, Nat.reduceSub, Nat.reduceMul, Nat.reduceEqDiff, Nat.reduceLeDiff, Nat.reduceBEq, reduceIte, reduceCtorEq, dirV, dirC, argV, argC]) ?_
                rintro sv post ⟨rfl, rfl⟩
                simp (maxSteps := 4000000) only [push_cast, Int.reduceEq, Int.reduceBNe, Int.reduceBEq, Int.reduceAdd, Int.reduceSub, Int.reduceMul, Int.reduceNeg, Int.reduceLT, Int.reduceLE, Int.reduceToNat, Nat.reduceLT, Nat.reduceAdd, Nat.reduceSub, Nat.reduceMul, Nat.reduceEqDiff, Nat.reduceLeDiff, Nat.reduceBEq, reduceIte, reduceCtorEq]
                refine ⟨⟨(textP d a, d.size, more), (by show 1 ≤ d.size; omega), (by show d.size ≤ r.length + 1; omega), ⟨fun x hx => h6.ok x (List.mem_cons_of_mem _ hx), by have := h6.len; simp only [List.length_cons] at this; show more.length ≤ _; omega⟩, textP_len d a ha2 d4 d6, by rw [fmtF_arg hpp hv, if_pos (hfit.2 h8)]⟩, Sub.w [0, 1] ?_⟩
                simp (maxSteps := 4000000) only [push_cast, Int.reduceEq, Int.reduceBNe, Int.reduceBEq, Int.reduceAdd, Int.reduceSub, Int.reduceMul, Int.reduceNeg, Int.reduceLT, Int.reduceLE, Int.reduceToNat, Nat.reduceLT, Nat.reduceAdd, Nat.reduceSub, Nat.reduceMul, Nat.reduceEqDiff, Nat.reduceLeDiff, Nat.reduceBEq, reduceIte, reduceCtorEq, argEl_next, Nat.add_sub_cancel]
                exact fun i _ j _ => W_arg _ more i j
          · obtain ⟨d7, d8⟩ := d3 hv
            have hr1 : 1 ≤ r.length := by
              cases r with
              | nil => simp [headIs] at d8
              | cons x r => simp
            refine ⟨⟨([37], d.size, args), (by show 1 ≤ d.size; omega), (by show d.size ≤ r.length + 1; omega), h6, by simp, fmtF_pct hpp hv⟩, Sub.w [0, 1] ?_⟩
            simp (maxSteps := 4000000) only [push_cast, Int.reduceEq, Int.reduceBNe, Int.reduceBEq, Int.reduceAdd, Int.reduceSub, Int.reduceMul, Int.reduceNeg, Int.reduceLT, Int.reduceLE, Int.reduceToNat, Nat.reduceLT, Nat.reduceAdd, Nat.reduceSub, Nat.reduceMul, Nat.reduceEqDiff, Nat.reduceLeDiff, Nat.reduceBEq, reduceIte, reduceCtorEq]
            refine ⟨fun i _ j _ => W_arg _ args i j, ?_⟩
            rw [show ((at_ : Int) + 1).toNat = at_ + 1 by omega, List.drop_take, h3, show at_ + 1 - at_ = 1 by omega]
            rfl
      · simp (maxSteps := 4000000) only [push_cast, Int.reduceEq, Int.reduceBNe, Int.reduceBEq, Int.reduceAdd, Int.reduceSub, Int.reduceMul, Int.reduceNeg, Int.reduceLT, Int.reduceLE, Int.reduceToNat, Nat.reduceLT, Nat.reduceAdd, Nat.reduceSub, Nat.reduceMul, Nat.reduceEqDiff, Nat.reduceLeDiff, Nat.reduceBEq, reduceIte, reduceCtorEq]
        refine ⟨fun i _ j _ => W_arg _ args i j, ?_⟩
        rw [show ((at_ : Int) + 1).toNat = at_ + 1 by omega, List.drop_take, h3, show at_ + 1 - at_ = 1 by omega]
        rfl
    · rintro ⟨⟨pc, st, args2⟩, k1, k2, k3, k4, k5⟩
      simp only at k1 k2 k3 k4 k5
      refine evCode_sound Γok _ _ _ ?_
      simp (maxSteps := 4000000) only [push_cast, Int.reduceEq, Int.reduceBNe, Int.reduceBEq, Int.reduceAdd, Int.reduceSub, Int.reduceMul, Int.reduceNeg, Int.reduceLT, Int.reduceLE, Int.reduceToNat, Nat.reduceLT, Nat.reduceAdd, Nat.reduceSub, Nat.reduceMul, Nat.reduceEqDiff, Nat.reduceLeDiff, Nat.reduceBEq, reduceIte, reduceCtorEq, bs_size]
      have ho := ofU_len out
      refine call_w (bufLen_c p c out.length (ofU out) lr (by omega)) [0, 1] (by simp (maxSteps := 4000000) only [push_cast, Int.reduceEq, Int.reduceBNe, Int.reduceBEq, Int.reduceAdd, Int.reduceSub, Int.reduceMul, Int.reduceNeg, Int.reduceLT, Int.reduceLE, Int.reduceToNat, Nat.reduceLT, Nat.reduceAdd, Nat.reduceSub, Nat.reduceMul, Nat.reduceEqDiff, Nat.reduceLeDiff, Nat.reduceBEq, reduceIte, reduceCtorEq, bufN]) ?_
      rintro sv post ⟨rfl, rfl⟩
      simp (maxSteps := 4000000) only [push_cast, Int.reduceEq, Int.reduceBNe, Int.reduceBEq, Int.reduceAdd, Int.reduceSub, Int.reduceMul, Int.reduceNeg, Int.reduceLT, Int.reduceLE, Int.reduceToNat, Nat.reduceLT, Nat.reduceAdd, Nat.reduceSub, Nat.reduceMul, Nat.reduceEqDiff, Nat.reduceLeDiff, Nat.reduceBEq, reduceIte, reduceCtorEq, bufN, bs_size]
      rw [wrap64 (n := (out.length : Int) + pc.length) (by omega) (by omega)]
      refine ⟨fun h8 => ?_, fun h8 => ?_⟩
      · rw [if_pos (by omega)] at k5
        rw [← h1, k5]
        exact Fin.nil rfl (psv := .tup [.ints .u8 .nil [], .i .i64 5, .i .i64 at_]) (by simp (maxSteps := 4000000) only [push_cast, Int.reduceEq, Int.reduceBNe, Int.reduceBEq, Int.reduceAdd, Int.reduceSub, Int.reduceMul, Int.reduceNeg, Int.reduceLT, Int.reduceLE, Int.reduceToNat, Nat.reduceLT, Nat.reduceAdd, Nat.reduceSub, Nat.reduceMul, Nat.reduceEqDiff, Nat.reduceLeDiff, Nat.reduceBEq, reduceIte, reduceCtorEq]) (.inr ⟨by simp, rfl, rfl⟩)
      · rw [if_neg (by omega)] at k5
        rw [← ho]
        refine call_w (writeString_c p c (ofU out) lr pc (by omega)) [0, 2] (by simp (maxSteps := 4000000) only [push_cast, Int.reduceEq, Int.reduceBNe, Int.reduceBEq, Int.reduceAdd, Int.reduceSub, Int.reduceMul, Int.reduceNeg, Int.reduceLT, Int.reduceLE, Int.reduceToNat, Nat.reduceLT, Nat.reduceAdd, Nat.reduceSub, Nat.reduceMul, Nat.reduceEqDiff, Nat.reduceLeDiff, Nat.reduceBEq, reduceIte, reduceCtorEq, bufN]) ?_
        rintro sv post ⟨p', c', lr', rfl, rfl⟩
        simp (maxSteps := 4000000) only [push_cast, Int.reduceEq, Int.reduceBNe, Int.reduceBEq, Int.reduceAdd, Int.reduceSub, Int.reduceMul, Int.reduceNeg, Int.reduceLT, Int.reduceLE, Int.reduceToNat, Nat.reduceLT, Nat.reduceAdd, Nat.reduceSub, Nat.reduceMul, Nat.reduceEqDiff, Nat.reduceLeDiff, Nat.reduceBEq, reduceIte, reduceCtorEq, bufN]
        rw [wrap64 (n := (at_ : Int) + st) (by omega) (by omega)]
        refine ⟨⟨(f, (ch :: r).drop st, at_ + st, args2, out ++ pc, p', c', lr'), by rw [← k5]; exact h1, by simp only [List.length_drop, List.length_cons]; omega, by rw [← List.drop_drop, h3], by simp only [List.length_drop, List.length_cons]; omega, by simp only [List.length_append]; omega, k3⟩, by simp only; omega, Sub.w [0, 3] ?_⟩
        simp (maxSteps := 4000000) only [push_cast, Int.reduceEq, Int.reduceBNe, Int.reduceBEq, Int.reduceAdd, Int.reduceSub, Int.reduceMul, Int.reduceNeg, Int.reduceLT, Int.reduceLE, Int.reduceToNat, Nat.reduceLT, Nat.reduceAdd, Nat.reduceSub, Nat.reduceMul, Nat.reduceEqDiff, Nat.reduceLeDiff, Nat.reduceBEq, reduceIte, reduceCtorEq, ofU_app]
        refine ⟨fun i _ j _ => W_arg _ args2 i j, ?_⟩
        rw [← ofU_app, ofU_len]
  · have hr : r = [] := List.eq_nil_of_length_eq_zero (by omega)
    subst hr
    have ho := ofU_len out
    refine ⟨fun h8 => ?_, fun h8 => ?_⟩
    · have e : fmtF (f + 1) at_ [] args out = ([], 3, at_) := if_neg (by omega)
      rw [← h1, e]
      exact Fin.nil rfl (psv := .tup [.ints .u8 .nil [], .i .i64 3, .i .i64 l.length]) (by simp (maxSteps := 4000000) only [push_cast, Int.reduceEq, Int.reduceBNe, Int.reduceBEq, Int.reduceAdd, Int.reduceSub, Int.reduceMul, Int.reduceNeg, Int.reduceLT, Int.reduceLE, Int.reduceToNat, Nat.reduceLT, Nat.reduceAdd, Nat.reduceSub, Nat.reduceMul, Nat.reduceEqDiff, Nat.reduceLeDiff, Nat.reduceBEq, reduceIte, reduceCtorEq]) (.inr ⟨by simp, by simp at h4; rw [h4], rfl⟩)
    · have e : fmtF (f + 1) at_ [] args out = (out, 0, at_) := if_pos (by omega)
      rw [← h1, e]
      refine call_w (bufBytes_c p c out.length (ofU out) lr hcap) [0, 1] (by simp (maxSteps := 4000000) only [push_cast, Int.reduceEq, Int.reduceBNe, Int.reduceBEq, Int.reduceAdd, Int.reduceSub, Int.reduceMul, Int.reduceNeg, Int.reduceLT, Int.reduceLE, Int.reduceToNat, Nat.reduceLT, Nat.reduceAdd, Nat.reduceSub, Nat.reduceMul, Nat.reduceEqDiff, Nat.reduceLeDiff, Nat.reduceBEq, reduceIte, reduceCtorEq, bufN]) ?_
      rintro sv post ⟨rfl, rfl⟩
      simp (maxSteps := 4000000) only [push_cast, Int.reduceEq, Int.reduceBNe, Int.reduceBEq, Int.reduceAdd, Int.reduceSub, Int.reduceMul, Int.reduceNeg, Int.reduceLT, Int.reduceLE, Int.reduceToNat, Nat.reduceLT, Nat.reduceAdd, Nat.reduceSub, Nat.reduceMul, Nat.reduceEqDiff, Nat.reduceLeDiff, Nat.reduceBEq, reduceIte, reduceCtorEq, bufN, bs_size]
      have hl : (l.length : Int) = at_ := by simp only [List.length_nil] at h4; omega
      rw [hl]
      exact Fin.w [2] (.tup [.raw (.slice p out.length c), .i .i64 0, .i .i64 at_]) ⟨[], [], [], [(0, RowZ 5 .u8 p c (ofU out))], 1, 0, []⟩ (by simp (maxSteps := 4000000) only [push_cast, Int.reduceEq, Int.reduceBNe, Int.reduceBEq, Int.reduceAdd, Int.reduceSub, Int.reduceMul, Int.reduceNeg, Int.reduceLT, Int.reduceLE, Int.reduceToNat, Nat.reduceLT, Nat.reduceAdd, Nat.reduceSub, Nat.reduceMul, Nat.reduceEqDiff, Nat.reduceLeDiff, Nat.reduceBEq, reduceIte, reduceCtorEq]) (.inl ⟨rfl, p, c, rfl, rfl⟩)
end Go.Proofs.YtlajpggoncelhaaDoor
/- Format for its callers: the text stays; the Args that are made; the page's examples. -/
namespace Go.Proofs.YtlajpggoncelhaaDoor
open Go Go.Eng
set_option maxHeartbeats 4000000
set_option linter.unusedSimpArgs false
set_option linter.unusedVariables false
set_option maxRecDepth 100000

theorem fmtF_err : ∀ (f at_ : Nat) (l : List UInt8) (args : List AV) (out : List UInt8), (fmtF f at_ l args out).2.1 ≠ 0 → (fmtF f at_ l args out).1 = []
  | 0, _, _, _, _, h => absurd rfl h
  | f + 1, at_, [], args, out, h => by
    simp only [fmtF] at h ⊢
    split at h
    · exact absurd rfl h
    · rename_i h1; rw [if_neg h1]
  | f + 1, at_, c :: r, args, out, h => by
    by_cases hc : c = 37
    · subst hc
      cases hp : parseP r with
      | none => rw [fmtF_none hp]
      | some d =>
        by_cases hv : d.verb = 37
        · rw [fmtF_pct hp hv] at h ⊢
          split
          · rfl
          · rename_i h1; rw [if_neg h1] at h; exact fmtF_err f _ _ _ _ h
        · cases args with
          | nil => rw [fmtF_noarg hp hv]
          | cons a more =>
            rw [fmtF_arg hp hv] at h ⊢
            split
            · split
              · rfl
              · rename_i h0 h1; rw [if_pos h0, if_neg h1] at h; exact fmtF_err f _ _ _ _ h
            · rfl
    · rw [fmtF_plain hc] at h ⊢
      split
      · rfl
      · rename_i h1; rw [if_neg h1] at h; exact fmtF_err f _ _ _ _ h
theorem formatP_err (l : List UInt8) (args : List AV) (h : (formatP l args).2.1 ≠ 0) : (formatP l args).1 = [] := by
  unfold formatP at h ⊢
  split
  · rfl
  · rename_i h1; rw [if_neg h1] at h; exact fmtF_err _ _ _ _ _ h

/-- The text stays as it is. -/
def isFormat1 (L : List UInt8 × Int × Nat) (sv : SV) (post : SS) : Prop := sv = .tup [.ints .u8 .old (ofU L.1), .i .i64 L.2.1, .i .i64 L.2.2] ∧ post = ⟨[], [], [], [], 1, 0, []⟩
theorem format1_c (l : List UInt8) (args : List AV) (ha : ArgsOK args) : Contract Tryd.prog 9 nilSS [.s (bs l), .sl 4 .old args.length (argEl args)] (isFormat1 (formatP l args)) := by
  refine (format_c l args ha).later fun sv post hR E w v hw hd => ?_
  rcases hR with ⟨h0, p, c, rfl, rfl⟩ | ⟨h0, rfl, rfl⟩
  · have hg : Go.Eng.Good E ⟨[], [], [], [(0, RowR .u8 p c (ofU (formatP l args).1))], 1, 0, []⟩ w := hw.resay (r := 0) (List.mem_cons_self) (Q := RowR .u8 p c (ofU (formatP l args).1)) (fun F hF => RowZ.row hF)
    obtain ⟨E', q1, q2, q3⟩ := hg.freeze (List.mem_cons_self)
    refine ⟨E', _, _, q1, ?_, ?_, rfl, rfl⟩
    · exact q2
    · simp only [Den, DenL] at hd ⊢
      obtain ⟨cs, rfl, hd⟩ := hd
      match cs, hd with
      | [a, b, d], ⟨h1, h2, h3, _⟩ =>
        refine ⟨_, rfl, ?_, by rw [h0]; simpa only [Den] using h2, by simpa only [Den] using h3, trivial⟩
        simp only [Den] at h1
        rw [h1]
        rw [ofU_len] at q3
        simpa only [Den] using q3
  · refine ⟨E, _, _, Env.Le.refl E, ?_, ?_, rfl, rfl⟩
    · exact ⟨hw.k, Nat.zero_le _, hw.os, hw.tape, hw.output, hw.size, hw.old, hw.mu, fun n hn => hw.nxρ n (Nat.zero_le _), fun n hn => hw.nxθ n (Nat.zero_le _), let ⟨κ, k⟩ := hw.own; ⟨κ, k.hp, k.tk, k.rs, k.mu, k.dom⟩⟩
    · rw [formatP_err _ _ h0]
      simp only [Den, DenL] at hd ⊢
      obtain ⟨cs, rfl, hd⟩ := hd
      match cs, hd with
      | [a, b, d], ⟨h1, h2, h3, _⟩ =>
        refine ⟨_, rfl, ?_, h2, h3, trivial⟩
        obtain ⟨a, cap, e1, e2, e3, e4, e5⟩ := h1
        exact ⟨a, cap, e1, e2, e3, e4, trivial⟩

theorem int_c (n : Int) : Contract Tryd.prog 6 nilSS [.i .i64 n] (fun sv post => sv = argV ⟨1, n, 0, []⟩ ∧ post = nilSS) := by
  refine contract_ev Γok Tryd.func6 rfl rfl [] ?_
  simp (maxSteps := 4000000) only [push_cast, Int.reduceEq, Int.reduceBNe, Int.reduceBEq, Int.reduceAdd, Int.reduceSub, Int.reduceMul, Int.reduceNeg, Int.reduceLT, Int.reduceLE, Int.reduceToNat, Nat.reduceLT, Nat.reduceAdd, Nat.reduceSub, Nat.reduceMul, Nat.reduceEqDiff, Nat.reduceLeDiff, Nat.reduceBEq, reduceIte, reduceCtorEq, Tryd.f6]
  refine Fin.w [] (argV ⟨1, n, 0, []⟩) _ (by simp (maxSteps := 4000000) only [push_cast, Int.reduceEq, Int.reduceBNe, Int.reduceBEq, Int.reduceAdd, Int.reduceSub, Int.reduceMul, Int.reduceNeg, Int.reduceLT, Int.reduceLE, Int.reduceToNat, Nat.reduceLT, Nat.reduceAdd, Nat.reduceSub, Nat.reduceMul, Nat.reduceEqDiff, Nat.reduceLeDiff, Nat.reduceBEq, reduceIte, reduceCtorEq, argV, argC, bs]) ⟨rfl, rfl⟩
theorem uint_c (n : Int) : Contract Tryd.prog 7 nilSS [.i .u64 n] (fun sv post => sv = argV ⟨2, 0, n, []⟩ ∧ post = nilSS) := by
  refine contract_ev Γok Tryd.func7 rfl rfl [] ?_
  simp (maxSteps := 4000000) only [push_cast, Int.reduceEq, Int.reduceBNe, Int.reduceBEq, Int.reduceAdd, Int.reduceSub, Int.reduceMul, Int.reduceNeg, Int.reduceLT, Int.reduceLE, Int.reduceToNat, Nat.reduceLT, Nat.reduceAdd, Nat.reduceSub, Nat.reduceMul, Nat.reduceEqDiff, Nat.reduceLeDiff, Nat.reduceBEq, reduceIte, reduceCtorEq, Tryd.f7]
  refine Fin.w [] (argV ⟨2, 0, n, []⟩) _ (by simp (maxSteps := 4000000) only [push_cast, Int.reduceEq, Int.reduceBNe, Int.reduceBEq, Int.reduceAdd, Int.reduceSub, Int.reduceMul, Int.reduceNeg, Int.reduceLT, Int.reduceLE, Int.reduceToNat, Nat.reduceLT, Nat.reduceAdd, Nat.reduceSub, Nat.reduceMul, Nat.reduceEqDiff, Nat.reduceLeDiff, Nat.reduceBEq, reduceIte, reduceCtorEq, argV, argC, bs]) ⟨rfl, rfl⟩
theorem textA_c (t : List UInt8) : Contract Tryd.prog 8 nilSS [.s (bs t)] (fun sv post => sv = argV ⟨4, 0, 0, t⟩ ∧ post = nilSS) := by
  refine contract_ev Γok Tryd.func8 rfl rfl [] ?_
  simp (maxSteps := 4000000) only [push_cast, Int.reduceEq, Int.reduceBNe, Int.reduceBEq, Int.reduceAdd, Int.reduceSub, Int.reduceMul, Int.reduceNeg, Int.reduceLT, Int.reduceLE, Int.reduceToNat, Nat.reduceLT, Nat.reduceAdd, Nat.reduceSub, Nat.reduceMul, Nat.reduceEqDiff, Nat.reduceLeDiff, Nat.reduceBEq, reduceIte, reduceCtorEq, Tryd.f8]
  refine Fin.w [] (argV ⟨4, 0, 0, t⟩) _ (by simp (maxSteps := 4000000) only [push_cast, Int.reduceEq, Int.reduceBNe, Int.reduceBEq, Int.reduceAdd, Int.reduceSub, Int.reduceMul, Int.reduceNeg, Int.reduceLT, Int.reduceLE, Int.reduceToNat, Nat.reduceLT, Nat.reduceAdd, Nat.reduceSub, Nat.reduceMul, Nat.reduceEqDiff, Nat.reduceLeDiff, Nat.reduceBEq, reduceIte, reduceCtorEq, argV, argC, bs]) ⟨rfl, rfl⟩

def pat1 : List UInt8 := [37, 53, 100, 124, 37, 45, 53, 100, 124, 37, 48, 53, 100, 124, 37, 43, 100]
def pat2 : List UInt8 := [37, 46, 51, 120, 37, 56, 46, 51, 115, 124]
def pat3 : List UInt8 := [37, 100, 37, 37]
def a42 : AV := ⟨1, 42, 0, []⟩
def a10 : AV := ⟨2, 0, 10, []⟩
def aHello : AV := ⟨4, 0, 0, [104, 101, 108, 108, 111]⟩
theorem f1_ : formatP pat1 [a42, a42, a42, a42] = ([32, 32, 32, 52, 50, 124, 52, 50, 32, 32, 32, 124, 48, 48, 48, 52, 50, 124, 43, 52, 50], 0, 17) := by decide +kernel
theorem f2_ : formatP pat2 [a10, aHello] = ([48, 48, 97, 32, 32, 32, 32, 32, 104, 101, 108, 124], 0, 10) := by decide +kernel
theorem f3_ : formatP pat3 [a42, a42] = ([], 3, 4) := by decide +kernel
theorem s1_ : strOf (ofU [32, 32, 32, 52, 50, 124, 52, 50, 32, 32, 32, 124, 48, 48, 48, 52, 50, 124, 43, 52, 50]) = ⟨#[32, 32, 32, 52, 50, 124, 52, 50, 32, 32, 32, 124, 48, 48, 48, 52, 50, 124, 43, 52, 50]⟩ := bs_str _
theorem s2_ : strOf (ofU [48, 48, 97, 32, 32, 32, 32, 32, 104, 101, 108, 124]) = ⟨#[48, 48, 97, 32, 32, 32, 32, 32, 104, 101, 108, 124]⟩ := bs_str _
theorem ok_42 : a42.ok := ⟨by decide, by decide, by decide, by decide⟩
theorem ok_10 : a10.ok := ⟨by decide, by decide, by decide, by decide⟩
theorem ok_he : aHello.ok := ⟨by decide, by decide, by decide, by decide⟩
theorem args1 : ArgsOK [a42, a42, a42, a42] := ⟨fun a h => by simp only [List.mem_cons, List.not_mem_nil, or_false] at h; rcases h with rfl | rfl | rfl | rfl <;> exact ⟨ok_42, by decide⟩, by decide⟩
theorem args2 : ArgsOK [a10, aHello] := ⟨fun a h => by simp only [List.mem_cons, List.not_mem_nil, or_false] at h; rcases h with rfl | rfl; exact ⟨ok_10, by decide⟩; exact ⟨ok_he, by decide⟩, by decide⟩
theorem args3 : ArgsOK [a42, a42] := ⟨fun a h => by simp only [List.mem_cons, List.not_mem_nil, or_false] at h; rcases h with rfl | rfl <;> exact ⟨ok_42, by decide⟩, by decide⟩
theorem bs_nil : bs [] = ⟨#[]⟩ := rfl
theorem arg_eq : eqPlain Tryd.prog 26 = true := by kernel_rfl
theorem ba_beq (x y : ByteArray) : (x == y) = true ↔ x = y := by
  rw [show (x == y) = (x.data == y.data) from rfl, beq_iff_eq]
  exact ⟨fun h => ByteArray.ext h, fun h => by rw [h]⟩
theorem ba_self (x : ByteArray) : (x == x) = true := (ba_beq x x).2 rfl
theorem nil_bb : ((⟨#[]⟩ : ByteArray) == ⟨#[]⟩) = true := by decide +kernel
theorem wf_u8 {n : Int} (h : (Lit.int .u8 n).wf = true) : 0 ≤ n ∧ n ≤ 255 := by
  simp only [Lit.wf, Bool.and_eq_true, decide_eq_true_eq] at h
  exact h
end Go.Proofs.YtlajpggoncelhaaDoor
