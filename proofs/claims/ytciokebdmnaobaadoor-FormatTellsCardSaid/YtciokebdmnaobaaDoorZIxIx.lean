/- Texts joined, in order: Ix. -/
import Derived.Test.YtciokebdmnaobaaDoorZCaCa
import Derived.Lib.Bytealg
/- A byte's place in a text. -/
namespace Go.Proofs.YtciokebdmnaobaaDoor
open Go Go.Eng
set_option maxHeartbeats 4000000
set_option linter.unusedSimpArgs false
set_option linter.unusedVariables false
set_option maxRecDepth 100000

/-- A byte's place in a text; -1: it is not there. -/
def idxB (x : ByteArray) (c : Int) : Int := Go.Lib.indexByte x.data.toList c.toNat.toUInt8
theorem ext_index (x : ByteArray) (c : Int) : ExtPure Tryd.prog 81 [.s x, .i .u8 c] (.i .i64 (idxB x c)) := by
  intro E w vs hv
  match vs, hv with
  | [a, b], hv =>
    simp only [DenL, Den] at hv
    obtain ⟨rfl, rfl, _⟩ := hv
    refine ⟨.int .i64 (idxB x c), ?_, by simp only [Den]⟩
    rw [run_callFunc_extern Tryd.func81 (by kernel_rfl) (by kernel_rfl) (by kernel_rfl) (e := Extern.BytealgIndexByte.indexByte) (by kernel_rfl)]
    have := Go.Lib.run_indexByteString (P := Tryd.prog) x c w
    rw [show ([Value.string x, Value.int IntKind.u8 c] : List Value).toArray = #[Value.string x, Value.int IntKind.u8 c] from rfl, this]
    rfl
  | [], hv => simp only [DenL] at hv
  | [_], hv => simp only [DenL] at hv; exact hv.2.elim
  | _ :: _ :: _ :: _, hv => simp only [DenL] at hv; exact hv.2.2.elim
theorem indexL_c (x : ByteArray) (c : Int) : Contract Tryd.prog 58 nilSS [.s x, .i .u8 c] (fun sv post => sv = .i .i64 (idxB x c) ∧ post = nilSS) := by
  refine contract_ev Γok Tryd.func58 rfl rfl [] ?_
  simp (maxSteps := 4000000) only [push_cast, Int.reduceEq, Int.reduceBNe, Int.reduceBEq, Int.reduceAdd, Int.reduceSub, Int.reduceMul, Int.reduceNeg, Int.reduceLT, Int.reduceLE, Int.reduceToNat, Nat.reduceLT, Nat.reduceAdd, Nat.reduceSub, Nat.reduceMul, Nat.reduceEqDiff, Nat.reduceLeDiff, Nat.reduceBEq, reduceIte, reduceCtorEq, Tryd.f58]
  refine .inr ⟨_, ext_index x c, ?_⟩
  simp (maxSteps := 4000000) only [push_cast, Int.reduceEq, Int.reduceBNe, Int.reduceBEq, Int.reduceAdd, Int.reduceSub, Int.reduceMul, Int.reduceNeg, Int.reduceLT, Int.reduceLE, Int.reduceToNat, Nat.reduceLT, Nat.reduceAdd, Nat.reduceSub, Nat.reduceMul, Nat.reduceEqDiff, Nat.reduceLeDiff, Nat.reduceBEq, reduceIte, reduceCtorEq]
  exact Fin.nil rfl (psv := .i .i64 (idxB x c)) (by simp (maxSteps := 4000000) only [push_cast, Int.reduceEq, Int.reduceBNe, Int.reduceBEq, Int.reduceAdd, Int.reduceSub, Int.reduceMul, Int.reduceNeg, Int.reduceLT, Int.reduceLE, Int.reduceToNat, Nat.reduceLT, Nat.reduceAdd, Nat.reduceSub, Nat.reduceMul, Nat.reduceEqDiff, Nat.reduceLeDiff, Nat.reduceBEq, reduceIte, reduceCtorEq]) ⟨rfl, rfl⟩
theorem index_c (x : ByteArray) (c : Int) : Contract Tryd.prog 41 nilSS [.s x, .i .u8 c] (fun sv post => sv = .i .i64 (idxB x c) ∧ post = nilSS) := by
  refine contract_ev Γok Tryd.func41 rfl rfl [] ?_
  simp (maxSteps := 4000000) only [push_cast, Int.reduceEq, Int.reduceBNe, Int.reduceBEq, Int.reduceAdd, Int.reduceSub, Int.reduceMul, Int.reduceNeg, Int.reduceLT, Int.reduceLE, Int.reduceToNat, Nat.reduceLT, Nat.reduceAdd, Nat.reduceSub, Nat.reduceMul, Nat.reduceEqDiff, Nat.reduceLeDiff, Nat.reduceBEq, reduceIte, reduceCtorEq, Tryd.f41]
  refine call_w (indexL_c x c) [] (by simp (maxSteps := 4000000) only [push_cast, Int.reduceEq, Int.reduceBNe, Int.reduceBEq, Int.reduceAdd, Int.reduceSub, Int.reduceMul, Int.reduceNeg, Int.reduceLT, Int.reduceLE, Int.reduceToNat, Nat.reduceLT, Nat.reduceAdd, Nat.reduceSub, Nat.reduceMul, Nat.reduceEqDiff, Nat.reduceLeDiff, Nat.reduceBEq, reduceIte, reduceCtorEq]) ?_
  rintro sv post ⟨rfl, rfl⟩
  simp (maxSteps := 4000000) only [push_cast, Int.reduceEq, Int.reduceBNe, Int.reduceBEq, Int.reduceAdd, Int.reduceSub, Int.reduceMul, Int.reduceNeg, Int.reduceLT, Int.reduceLE, Int.reduceToNat, Nat.reduceLT, Nat.reduceAdd, Nat.reduceSub, Nat.reduceMul, Nat.reduceEqDiff, Nat.reduceLeDiff, Nat.reduceBEq, reduceIte, reduceCtorEq]
  exact Fin.nil rfl (psv := .i .i64 (idxB x c)) (by simp (maxSteps := 4000000) only [push_cast, Int.reduceEq, Int.reduceBNe, Int.reduceBEq, Int.reduceAdd, Int.reduceSub, Int.reduceMul, Int.reduceNeg, Int.reduceLT, Int.reduceLE, Int.reduceToNat, Nat.reduceLT, Nat.reduceAdd, Nat.reduceSub, Nat.reduceMul, Nat.reduceEqDiff, Nat.reduceLeDiff, Nat.reduceBEq, reduceIte, reduceCtorEq]) ⟨rfl, rfl⟩

end Go.Proofs.YtciokebdmnaobaaDoor
