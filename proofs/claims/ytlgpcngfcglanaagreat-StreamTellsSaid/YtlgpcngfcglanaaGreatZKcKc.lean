/- Texts joined, in order: Kc. -/
import Derived.Test.YtlgpcngfcglanaaGreatZLaKb
/- The page's example of streams. -/
namespace Go.Proofs.YtlgpcngfcglanaaGreat
open Go Go.Eng
set_option maxHeartbeats 4000000
set_option linter.unusedSimpArgs false
set_option linter.unusedVariables false
set_option maxRecDepth 100000

theorem num11_c (m : Int) : Contract Tryz.prog 9 nilSS [.i .i64 m] (fun sv post => sv = .i .i64 m ∧ post = nilSS) := by
  refine contract_ev Γok Tryz.func9 rfl rfl [] ?_
  simp (maxSteps := 4000000) only [push_cast, Int.reduceEq, Int.reduceBNe, Int.reduceBEq, Int.reduceAdd, Int.reduceSub, Int.reduceMul, Int.reduceNeg, Int.reduceLT, Int.reduceLE, Int.reduceToNat, Nat.reduceLT, Nat.reduceAdd, Nat.reduceSub, Nat.reduceMul, Nat.reduceEqDiff, Nat.reduceLeDiff, Nat.reduceBEq, reduceIte, reduceCtorEq, Tryz.f9]
  exact Fin.nil rfl (psv := .i .i64 _) (by simp (maxSteps := 4000000) only [push_cast, Int.reduceEq, Int.reduceBNe, Int.reduceBEq, Int.reduceAdd, Int.reduceSub, Int.reduceMul, Int.reduceNeg, Int.reduceLT, Int.reduceLE, Int.reduceToNat, Nat.reduceLT, Nat.reduceAdd, Nat.reduceSub, Nat.reduceMul, Nat.reduceEqDiff, Nat.reduceLeDiff, Nat.reduceBEq, reduceIte, reduceCtorEq]) ⟨rfl, rfl⟩

def fewSt (o : List Int) (d : Int) (c : Bool) : St := ⟨false, true, 3, 2, o, [], [], d, false, false, c⟩
theorem few1 (b : Nat) : (fewSt [] 0 false).Put (growM b) (([], 0) : List Int × Int) 97 = (fewSt [97] 2 false, (([], 0) : List Int × Int), 0) := by kernel_rfl
theorem few2 (b : Nat) : (fewSt [97] 2 false).Put (growM b) (([], 0) : List Int × Int) 98 = (fewSt [] 2 false, (([97, 98], 2) : List Int × Int), 0) := by kernel_rfl
theorem few3 (b : Nat) : (fewSt [] 2 false).Put (growM b) (([97, 98], 2) : List Int × Int) 99 = (fewSt [99] 2 false, (([97, 98], 2) : List Int × Int), 0) := by kernel_rfl
theorem few4 (b : Nat) : (fewSt [99] 2 false).Close (growM b) (([97, 98], 2) : List Int × Int) = (fewSt [] 0 true, (([97, 98, 99], 3) : List Int × Int), 0) := by kernel_rfl

theorem alive11_c : Contract Tryz.prog 6 nilSS [] (fun sv post => sv = .b true ∧ post = nilSS) := by
  have e0 : newSt false true 3 2 = fewSt [] 0 false := rfl
  have may0 : mayV 3 2 = 0 := rfl
  have hv : ∀ b, (growM b).v = .ifc 47 (.raw (.pointer (some ⟨b, 0, none⟩))) := fun b => rfl
  have hr : ∀ b (s : List Int × Int), (growM b).res s = growR b s.1 s.2 := fun b s => rfl
  have q1 : strOf [97, 98, 99] = ⟨#[97, 98, 99]⟩ := rfl
  have q2 : ((⟨#[97, 98, 99]⟩ : ByteArray).toList == (⟨#[97, 98, 99]⟩ : ByteArray).toList) = true := by simp
  have wz : IntKind.i64.wrap 0 = 0 := rfl
  refine contract_ev Γok Tryz.func6 rfl rfl [] ?_
  simp (maxSteps := 4000000) only [push_cast, Int.reduceEq, Int.reduceBNe, Int.reduceBEq, Int.reduceAdd, Int.reduceSub, Int.reduceMul, Int.reduceNeg, Int.reduceLT, Int.reduceLE, Int.reduceToNat, Nat.reduceLT, Nat.reduceAdd, Nat.reduceSub, Nat.reduceMul, Nat.reduceEqDiff, Nat.reduceLeDiff, Nat.reduceBEq, reduceIte, reduceCtorEq, Tryz.f6]
  refine call_w (newGrow_c [] (by simp)) [] (by simp (maxSteps := 4000000) only [push_cast, Int.reduceEq, Int.reduceBNe, Int.reduceBEq, Int.reduceAdd, Int.reduceSub, Int.reduceMul, Int.reduceNeg, Int.reduceLT, Int.reduceLE, Int.reduceToNat, Nat.reduceLT, Nat.reduceAdd, Nat.reduceSub, Nat.reduceMul, Nat.reduceEqDiff, Nat.reduceLeDiff, Nat.reduceBEq, reduceIte, reduceCtorEq]) ?_
  rintro sv post ⟨b, rfl, rfl⟩
  simp (maxSteps := 4000000) only [push_cast, Int.reduceEq, Int.reduceBNe, Int.reduceBEq, Int.reduceAdd, Int.reduceSub, Int.reduceMul, Int.reduceNeg, Int.reduceLT, Int.reduceLE, Int.reduceToNat, Nat.reduceLT, Nat.reduceAdd, Nat.reduceSub, Nat.reduceMul, Nat.reduceEqDiff, Nat.reduceLeDiff, Nat.reduceBEq, reduceIte, reduceCtorEq]
  refine call_w (newS_c _ _ _ _ _ _ _ _ openW_c 3 2) [] (by simp (maxSteps := 4000000) only [push_cast, Int.reduceEq, Int.reduceBNe, Int.reduceBEq, Int.reduceAdd, Int.reduceSub, Int.reduceMul, Int.reduceNeg, Int.reduceLT, Int.reduceLE, Int.reduceToNat, Nat.reduceLT, Nat.reduceAdd, Nat.reduceSub, Nat.reduceMul, Nat.reduceEqDiff, Nat.reduceLeDiff, Nat.reduceBEq, reduceIte, reduceCtorEq, modeV]) ?_
  rintro sv post ⟨rfl, rfl⟩
  simp (maxSteps := 4000000) only [push_cast, Int.reduceEq, Int.reduceBNe, Int.reduceBEq, Int.reduceAdd, Int.reduceSub, Int.reduceMul, Int.reduceNeg, Int.reduceLT, Int.reduceLE, Int.reduceToNat, Nat.reduceLT, Nat.reduceAdd, Nat.reduceSub, Nat.reduceMul, Nat.reduceEqDiff, Nat.reduceLeDiff, Nat.reduceBEq, reduceIte, reduceCtorEq, St.sv, St.cells]
  refine call_w (num11_c 0) [] (by simp (maxSteps := 4000000) only [push_cast, Int.reduceEq, Int.reduceBNe, Int.reduceBEq, Int.reduceAdd, Int.reduceSub, Int.reduceMul, Int.reduceNeg, Int.reduceLT, Int.reduceLE, Int.reduceToNat, Nat.reduceLT, Nat.reduceAdd, Nat.reduceSub, Nat.reduceMul, Nat.reduceEqDiff, Nat.reduceLeDiff, Nat.reduceBEq, reduceIte, reduceCtorEq]) ?_
  rintro sv post ⟨rfl, rfl⟩
  simp (maxSteps := 4000000) only [push_cast, Int.reduceEq, Int.reduceBNe, Int.reduceBEq, Int.reduceAdd, Int.reduceSub, Int.reduceMul, Int.reduceNeg, Int.reduceLT, Int.reduceLE, Int.reduceToNat, Nat.reduceLT, Nat.reduceAdd, Nat.reduceSub, Nat.reduceMul, Nat.reduceEqDiff, Nat.reduceLeDiff, Nat.reduceBEq, reduceIte, reduceCtorEq, may0]
  refine call_w (num11_c 0) [] (by simp (maxSteps := 4000000) only [push_cast, Int.reduceEq, Int.reduceBNe, Int.reduceBEq, Int.reduceAdd, Int.reduceSub, Int.reduceMul, Int.reduceNeg, Int.reduceLT, Int.reduceLE, Int.reduceToNat, Nat.reduceLT, Nat.reduceAdd, Nat.reduceSub, Nat.reduceMul, Nat.reduceEqDiff, Nat.reduceLeDiff, Nat.reduceBEq, reduceIte, reduceCtorEq]) ?_
  rintro sv post ⟨rfl, rfl⟩
  simp (maxSteps := 4000000) only [push_cast, Int.reduceEq, Int.reduceBNe, Int.reduceBEq, Int.reduceAdd, Int.reduceSub, Int.reduceMul, Int.reduceNeg, Int.reduceLT, Int.reduceLE, Int.reduceToNat, Nat.reduceLT, Nat.reduceAdd, Nat.reduceSub, Nat.reduceMul, Nat.reduceEqDiff, Nat.reduceLeDiff, Nat.reduceBEq, reduceIte, reduceCtorEq, e0, fewSt, rg11, wz]
  refine call_w (PutR_c (growM b) (growM_wr b) (fewSt [] 0 false) (([], 0) : List Int × Int) (by exact ⟨by decide, by decide, by decide⟩) (by exact ⟨by decide, by decide, by decide⟩) 97 (by simp [fewSt, growM])) [2] (by simp (maxSteps := 4000000) only [push_cast, Int.reduceEq, Int.reduceBNe, Int.reduceBEq, Int.reduceAdd, Int.reduceSub, Int.reduceMul, Int.reduceNeg, Int.reduceLT, Int.reduceLE, Int.reduceToNat, Nat.reduceLT, Nat.reduceAdd, Nat.reduceSub, Nat.reduceMul, Nat.reduceEqDiff, Nat.reduceLeDiff, Nat.reduceBEq, reduceIte, reduceCtorEq, hv, hr, St.sv, St.cells, fewSt]) ?_
  rintro sv post ⟨rfl, rfl⟩
  rw [few1 b]
  simp (maxSteps := 4000000) only [push_cast, Int.reduceEq, Int.reduceBNe, Int.reduceBEq, Int.reduceAdd, Int.reduceSub, Int.reduceMul, Int.reduceNeg, Int.reduceLT, Int.reduceLE, Int.reduceToNat, Nat.reduceLT, Nat.reduceAdd, Nat.reduceSub, Nat.reduceMul, Nat.reduceEqDiff, Nat.reduceLeDiff, Nat.reduceBEq, reduceIte, reduceCtorEq, hv, hr, St.sv, St.cells, fewSt, rg11]
  refine call_w (growBytes_c b [] 0 (by decide)) [2] (by simp (maxSteps := 4000000) only [push_cast, Int.reduceEq, Int.reduceBNe, Int.reduceBEq, Int.reduceAdd, Int.reduceSub, Int.reduceMul, Int.reduceNeg, Int.reduceLT, Int.reduceLE, Int.reduceToNat, Nat.reduceLT, Nat.reduceAdd, Nat.reduceSub, Nat.reduceMul, Nat.reduceEqDiff, Nat.reduceLeDiff, Nat.reduceBEq, reduceIte, reduceCtorEq]) ?_
  rintro sv post ⟨rfl, rfl⟩
  simp (maxSteps := 4000000) only [push_cast, Int.reduceEq, Int.reduceBNe, Int.reduceBEq, Int.reduceAdd, Int.reduceSub, Int.reduceMul, Int.reduceNeg, Int.reduceLT, Int.reduceLE, Int.reduceToNat, Nat.reduceLT, Nat.reduceAdd, Nat.reduceSub, Nat.reduceMul, Nat.reduceEqDiff, Nat.reduceLeDiff, Nat.reduceBEq, reduceIte, reduceCtorEq, rg11]
  refine call_w (PutR_c (growM b) (growM_wr b) (fewSt [97] 2 false) (([], 0) : List Int × Int) (by exact ⟨by decide, by decide, by decide⟩) (by exact ⟨by decide, by decide, by decide⟩) 98 (by simp [fewSt, growM])) [2] (by simp (maxSteps := 4000000) only [push_cast, Int.reduceEq, Int.reduceBNe, Int.reduceBEq, Int.reduceAdd, Int.reduceSub, Int.reduceMul, Int.reduceNeg, Int.reduceLT, Int.reduceLE, Int.reduceToNat, Nat.reduceLT, Nat.reduceAdd, Nat.reduceSub, Nat.reduceMul, Nat.reduceEqDiff, Nat.reduceLeDiff, Nat.reduceBEq, reduceIte, reduceCtorEq, hv, hr, St.sv, St.cells, fewSt]) ?_
  rintro sv post ⟨rfl, rfl⟩
  rw [few2 b]
  simp (maxSteps := 4000000) only [push_cast, Int.reduceEq, Int.reduceBNe, Int.reduceBEq, Int.reduceAdd, Int.reduceSub, Int.reduceMul, Int.reduceNeg, Int.reduceLT, Int.reduceLE, Int.reduceToNat, Nat.reduceLT, Nat.reduceAdd, Nat.reduceSub, Nat.reduceMul, Nat.reduceEqDiff, Nat.reduceLeDiff, Nat.reduceBEq, reduceIte, reduceCtorEq, hv, hr, St.sv, St.cells, fewSt, rg11]
  refine call_w (PutR_c (growM b) (growM_wr b) (fewSt [] 2 false) (([97, 98], 2) : List Int × Int) (by exact ⟨by decide, by decide, by decide⟩) (by exact ⟨by decide, by decide, by decide⟩) 99 (by simp [fewSt, growM])) [2] (by simp (maxSteps := 4000000) only [push_cast, Int.reduceEq, Int.reduceBNe, Int.reduceBEq, Int.reduceAdd, Int.reduceSub, Int.reduceMul, Int.reduceNeg, Int.reduceLT, Int.reduceLE, Int.reduceToNat, Nat.reduceLT, Nat.reduceAdd, Nat.reduceSub, Nat.reduceMul, Nat.reduceEqDiff, Nat.reduceLeDiff, Nat.reduceBEq, reduceIte, reduceCtorEq, hv, hr, St.sv, St.cells, fewSt]) ?_
  rintro sv post ⟨rfl, rfl⟩
  rw [few3 b]
  simp (maxSteps := 4000000) only [push_cast, Int.reduceEq, Int.reduceBNe, Int.reduceBEq, Int.reduceAdd, Int.reduceSub, Int.reduceMul, Int.reduceNeg, Int.reduceLT, Int.reduceLE, Int.reduceToNat, Nat.reduceLT, Nat.reduceAdd, Nat.reduceSub, Nat.reduceMul, Nat.reduceEqDiff, Nat.reduceLeDiff, Nat.reduceBEq, reduceIte, reduceCtorEq, hv, hr, St.sv, St.cells, fewSt, rg11]
  refine call_w (CloseR_c (growM b) (growM_wr b) (fewSt [99] 2 false) (([97, 98], 2) : List Int × Int) (by exact ⟨by decide, by decide, by decide⟩) (by exact ⟨by decide, by decide, by decide⟩) (by simp [fewSt, growM])) [2] (by simp (maxSteps := 4000000) only [push_cast, Int.reduceEq, Int.reduceBNe, Int.reduceBEq, Int.reduceAdd, Int.reduceSub, Int.reduceMul, Int.reduceNeg, Int.reduceLT, Int.reduceLE, Int.reduceToNat, Nat.reduceLT, Nat.reduceAdd, Nat.reduceSub, Nat.reduceMul, Nat.reduceEqDiff, Nat.reduceLeDiff, Nat.reduceBEq, reduceIte, reduceCtorEq, hv, hr, St.sv, St.cells, fewSt]) ?_
  rintro sv post ⟨rfl, rfl⟩
  rw [few4 b]
  simp (maxSteps := 4000000) only [push_cast, Int.reduceEq, Int.reduceBNe, Int.reduceBEq, Int.reduceAdd, Int.reduceSub, Int.reduceMul, Int.reduceNeg, Int.reduceLT, Int.reduceLE, Int.reduceToNat, Nat.reduceLT, Nat.reduceAdd, Nat.reduceSub, Nat.reduceMul, Nat.reduceEqDiff, Nat.reduceLeDiff, Nat.reduceBEq, reduceIte, reduceCtorEq, hv, hr, St.sv, St.cells, fewSt, rg11]
  refine call_w (num11_c 0) [] (by simp (maxSteps := 4000000) only [push_cast, Int.reduceEq, Int.reduceBNe, Int.reduceBEq, Int.reduceAdd, Int.reduceSub, Int.reduceMul, Int.reduceNeg, Int.reduceLT, Int.reduceLE, Int.reduceToNat, Nat.reduceLT, Nat.reduceAdd, Nat.reduceSub, Nat.reduceMul, Nat.reduceEqDiff, Nat.reduceLeDiff, Nat.reduceBEq, reduceIte, reduceCtorEq]) ?_
  rintro sv post ⟨rfl, rfl⟩
  simp (maxSteps := 4000000) only [push_cast, Int.reduceEq, Int.reduceBNe, Int.reduceBEq, Int.reduceAdd, Int.reduceSub, Int.reduceMul, Int.reduceNeg, Int.reduceLT, Int.reduceLE, Int.reduceToNat, Nat.reduceLT, Nat.reduceAdd, Nat.reduceSub, Nat.reduceMul, Nat.reduceEqDiff, Nat.reduceLeDiff, Nat.reduceBEq, reduceIte, reduceCtorEq]
  refine call_w (num11_c 0) [] (by simp (maxSteps := 4000000) only [push_cast, Int.reduceEq, Int.reduceBNe, Int.reduceBEq, Int.reduceAdd, Int.reduceSub, Int.reduceMul, Int.reduceNeg, Int.reduceLT, Int.reduceLE, Int.reduceToNat, Nat.reduceLT, Nat.reduceAdd, Nat.reduceSub, Nat.reduceMul, Nat.reduceEqDiff, Nat.reduceLeDiff, Nat.reduceBEq, reduceIte, reduceCtorEq]) ?_
  rintro sv post ⟨rfl, rfl⟩
  simp (maxSteps := 4000000) only [push_cast, Int.reduceEq, Int.reduceBNe, Int.reduceBEq, Int.reduceAdd, Int.reduceSub, Int.reduceMul, Int.reduceNeg, Int.reduceLT, Int.reduceLE, Int.reduceToNat, Nat.reduceLT, Nat.reduceAdd, Nat.reduceSub, Nat.reduceMul, Nat.reduceEqDiff, Nat.reduceLeDiff, Nat.reduceBEq, reduceIte, reduceCtorEq, wz]
  refine call_w (num11_c 0) [] (by simp (maxSteps := 4000000) only [push_cast, Int.reduceEq, Int.reduceBNe, Int.reduceBEq, Int.reduceAdd, Int.reduceSub, Int.reduceMul, Int.reduceNeg, Int.reduceLT, Int.reduceLE, Int.reduceToNat, Nat.reduceLT, Nat.reduceAdd, Nat.reduceSub, Nat.reduceMul, Nat.reduceEqDiff, Nat.reduceLeDiff, Nat.reduceBEq, reduceIte, reduceCtorEq]) ?_
  rintro sv post ⟨rfl, rfl⟩
  simp (maxSteps := 4000000) only [push_cast, Int.reduceEq, Int.reduceBNe, Int.reduceBEq, Int.reduceAdd, Int.reduceSub, Int.reduceMul, Int.reduceNeg, Int.reduceLT, Int.reduceLE, Int.reduceToNat, Nat.reduceLT, Nat.reduceAdd, Nat.reduceSub, Nat.reduceMul, Nat.reduceEqDiff, Nat.reduceLeDiff, Nat.reduceBEq, reduceIte, reduceCtorEq, wz]
  refine call_w (num11_c 0) [] (by simp (maxSteps := 4000000) only [push_cast, Int.reduceEq, Int.reduceBNe, Int.reduceBEq, Int.reduceAdd, Int.reduceSub, Int.reduceMul, Int.reduceNeg, Int.reduceLT, Int.reduceLE, Int.reduceToNat, Nat.reduceLT, Nat.reduceAdd, Nat.reduceSub, Nat.reduceMul, Nat.reduceEqDiff, Nat.reduceLeDiff, Nat.reduceBEq, reduceIte, reduceCtorEq]) ?_
  rintro sv post ⟨rfl, rfl⟩
  simp (maxSteps := 4000000) only [push_cast, Int.reduceEq, Int.reduceBNe, Int.reduceBEq, Int.reduceAdd, Int.reduceSub, Int.reduceMul, Int.reduceNeg, Int.reduceLT, Int.reduceLE, Int.reduceToNat, Nat.reduceLT, Nat.reduceAdd, Nat.reduceSub, Nat.reduceMul, Nat.reduceEqDiff, Nat.reduceLeDiff, Nat.reduceBEq, reduceIte, reduceCtorEq, wz]
  refine call_w (growBytes_c b [97, 98, 99] 3 (by decide)) [2] (by simp (maxSteps := 4000000) only [push_cast, Int.reduceEq, Int.reduceBNe, Int.reduceBEq, Int.reduceAdd, Int.reduceSub, Int.reduceMul, Int.reduceNeg, Int.reduceLT, Int.reduceLE, Int.reduceToNat, Nat.reduceLT, Nat.reduceAdd, Nat.reduceSub, Nat.reduceMul, Nat.reduceEqDiff, Nat.reduceLeDiff, Nat.reduceBEq, reduceIte, reduceCtorEq]) ?_
  rintro sv post ⟨rfl, rfl⟩
  simp (maxSteps := 4000000) only [push_cast, Int.reduceEq, Int.reduceBNe, Int.reduceBEq, Int.reduceAdd, Int.reduceSub, Int.reduceMul, Int.reduceNeg, Int.reduceLT, Int.reduceLE, Int.reduceToNat, Nat.reduceLT, Nat.reduceAdd, Nat.reduceSub, Nat.reduceMul, Nat.reduceEqDiff, Nat.reduceLeDiff, Nat.reduceBEq, reduceIte, reduceCtorEq, q1, q2]
  exact Fin.nil rfl (psv := .b true) (by simp (maxSteps := 4000000) only [push_cast, Int.reduceEq, Int.reduceBNe, Int.reduceBEq, Int.reduceAdd, Int.reduceSub, Int.reduceMul, Int.reduceNeg, Int.reduceLT, Int.reduceLE, Int.reduceToNat, Nat.reduceLT, Nat.reduceAdd, Nat.reduceSub, Nat.reduceMul, Nat.reduceEqDiff, Nat.reduceLeDiff, Nat.reduceBEq, reduceIte, reduceCtorEq]) ⟨rfl, rfl⟩
end Go.Proofs.YtlgpcngfcglanaaGreat
