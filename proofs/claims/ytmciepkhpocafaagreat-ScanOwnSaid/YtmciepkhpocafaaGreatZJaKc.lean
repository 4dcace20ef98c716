/- Texts joined, in order: Ja, Jb, Kc. -/
import Derived.Test.YtmciepkhpocafaaGreatZCaRg
import Derived.Test.YtmciepkhpocafaaGreatZLaOa
/- A Plant that grows: the page's memory, the program's. -/
namespace Go.Proofs.YtmciepkhpocafaaGreat
open Go Go.Eng
set_option maxHeartbeats 4000000
set_option linter.unusedSimpArgs false
set_option linter.unusedVariables false
set_option maxRecDepth 100000

theorem copied10_c (l : List Int) (hl : l.length ≤ 140737488355328) : Contract Tryz.prog 33 nilSS [.ints .u8 .old l] (fun sv post => sv = .ints .u8 .new l ∧ post = nilSS) := by
  refine contract_ev Γok Tryz.func33 rfl rfl [] ?_
  simp (maxSteps := 4000000) only [push_cast, Int.reduceEq, Int.reduceBNe, Int.reduceBEq, Int.reduceAdd, Int.reduceSub, Int.reduceMul, Int.reduceNeg, Int.reduceLT, Int.reduceLE, Int.reduceToNat, Nat.reduceLT, Nat.reduceAdd, Nat.reduceSub, Nat.reduceMul, Nat.reduceEqDiff, Nat.reduceLeDiff, Nat.reduceBEq, reduceIte, reduceCtorEq, Tryz.f33]
  exact ⟨by omega, Fin.w [] (.ints .u8 .new l) nilSS (by simp (maxSteps := 4000000) only [push_cast, Int.reduceEq, Int.reduceBNe, Int.reduceBEq, Int.reduceAdd, Int.reduceSub, Int.reduceMul, Int.reduceNeg, Int.reduceLT, Int.reduceLE, Int.reduceToNat, Nat.reduceLT, Nat.reduceAdd, Nat.reduceSub, Nat.reduceMul, Nat.reduceEqDiff, Nat.reduceLeDiff, Nat.reduceBEq, reduceIte, reduceCtorEq]) ⟨rfl, rfl⟩⟩
def pageC (l : List Int) : List SV := [.i .i64 2, .ints .u8 .new l, .i .i64 1048576, .i .i64 0, .ints .u8 .nil [], .ints .u8 .nil [], .nilp, .i .i64 0, .i .i64 0]
def pageS (l : List Int) (k : Nat) : SS := ⟨[], [(0, 108, pageC l)], [], [], 1, k, []⟩
theorem pageGrow_c (l : List Int) (hl : l.length ≤ 1048576) : Contract Tryz.prog 17 nilSS [.ints .u8 .old l] (fun sv post => sv = .tup [.ptr 0 0, .i .i64 0] ∧ post = pageS l 0) := by
  refine contract_ev Γok Tryz.func17 rfl rfl [] ?_
  simp (maxSteps := 4000000) only [push_cast, Int.reduceEq, Int.reduceBNe, Int.reduceBEq, Int.reduceAdd, Int.reduceSub, Int.reduceMul, Int.reduceNeg, Int.reduceLT, Int.reduceLE, Int.reduceToNat, Nat.reduceLT, Nat.reduceAdd, Nat.reduceSub, Nat.reduceMul, Nat.reduceEqDiff, Nat.reduceLeDiff, Nat.reduceBEq, reduceIte, reduceCtorEq, Tryz.f17]
  refine ⟨fun h => by omega, fun h => ?_⟩
  refine call_w (copied10_c l (by omega)) [] (by simp (maxSteps := 4000000) only [push_cast, Int.reduceEq, Int.reduceBNe, Int.reduceBEq, Int.reduceAdd, Int.reduceSub, Int.reduceMul, Int.reduceNeg, Int.reduceLT, Int.reduceLE, Int.reduceToNat, Nat.reduceLT, Nat.reduceAdd, Nat.reduceSub, Nat.reduceMul, Nat.reduceEqDiff, Nat.reduceLeDiff, Nat.reduceBEq, reduceIte, reduceCtorEq]) ?_
  rintro sv post ⟨rfl, rfl⟩
  simp (maxSteps := 4000000) only [push_cast, Int.reduceEq, Int.reduceBNe, Int.reduceBEq, Int.reduceAdd, Int.reduceSub, Int.reduceMul, Int.reduceNeg, Int.reduceLT, Int.reduceLE, Int.reduceToNat, Nat.reduceLT, Nat.reduceAdd, Nat.reduceSub, Nat.reduceMul, Nat.reduceEqDiff, Nat.reduceLeDiff, Nat.reduceBEq, reduceIte, reduceCtorEq]
  exact Fin.w [0] (.tup [.ptr 0 0, .i .i64 0]) (pageS l 0) (by simp (maxSteps := 4000000) only [push_cast, Int.reduceEq, Int.reduceBNe, Int.reduceBEq, Int.reduceAdd, Int.reduceSub, Int.reduceMul, Int.reduceNeg, Int.reduceLT, Int.reduceLE, Int.reduceToNat, Nat.reduceLT, Nat.reduceAdd, Nat.reduceSub, Nat.reduceMul, Nat.reduceEqDiff, Nat.reduceLeDiff, Nat.reduceBEq, reduceIte, reduceCtorEq, pageS, pageC]) ⟨rfl, rfl⟩
theorem move_c : Contract Tryz.prog 44 nilSS [.i .i64 0, .i .i64 0, .i .i64 1048576] (fun sv post => sv = .tup [.i .i64 0, .b true] ∧ post = nilSS) := by
  refine contract_ev Γok Tryz.func44 rfl rfl [] ?_
  have w1 : IntKind.i64.wrap 0 = 0 := rfl
  have w2 : IntKind.i64.wrap 1048576 = 1048576 := rfl
  simp (maxSteps := 4000000) only [push_cast, Int.reduceEq, Int.reduceBNe, Int.reduceBEq, Int.reduceAdd, Int.reduceSub, Int.reduceMul, Int.reduceNeg, Int.reduceLT, Int.reduceLE, Int.reduceToNat, Nat.reduceLT, Nat.reduceAdd, Nat.reduceSub, Nat.reduceMul, Nat.reduceEqDiff, Nat.reduceLeDiff, Nat.reduceBEq, reduceIte, reduceCtorEq, Tryz.f44, w1, w2]
  exact Fin.w [] (.tup [.i .i64 0, .b true]) nilSS (by simp (maxSteps := 4000000) only [push_cast, Int.reduceEq, Int.reduceBNe, Int.reduceBEq, Int.reduceAdd, Int.reduceSub, Int.reduceMul, Int.reduceNeg, Int.reduceLT, Int.reduceLE, Int.reduceToNat, Nat.reduceLT, Nat.reduceAdd, Nat.reduceSub, Nat.reduceMul, Nat.reduceEqDiff, Nat.reduceLeDiff, Nat.reduceBEq, reduceIte, reduceCtorEq]) ⟨rfl, rfl⟩
theorem pageSeek_c (l : List Int) : Contract Tryz.prog 25 (pageS l 1) [.ptr 0 0, .i .i64 0, .i .i64 0] (fun sv post => sv = .tup [.i .i64 0, .i .i64 0] ∧ post = pageS l 1) := by
  refine contract_ev Γok Tryz.func25 rfl rfl [] ?_
  simp (maxSteps := 4000000) only [push_cast, Int.reduceEq, Int.reduceBNe, Int.reduceBEq, Int.reduceAdd, Int.reduceSub, Int.reduceMul, Int.reduceNeg, Int.reduceLT, Int.reduceLE, Int.reduceToNat, Nat.reduceLT, Nat.reduceAdd, Nat.reduceSub, Nat.reduceMul, Nat.reduceEqDiff, Nat.reduceLeDiff, Nat.reduceBEq, reduceIte, reduceCtorEq, Tryz.f25, pageS, pageC]
  refine call_w move_c [] (by simp (maxSteps := 4000000) only [push_cast, Int.reduceEq, Int.reduceBNe, Int.reduceBEq, Int.reduceAdd, Int.reduceSub, Int.reduceMul, Int.reduceNeg, Int.reduceLT, Int.reduceLE, Int.reduceToNat, Nat.reduceLT, Nat.reduceAdd, Nat.reduceSub, Nat.reduceMul, Nat.reduceEqDiff, Nat.reduceLeDiff, Nat.reduceBEq, reduceIte, reduceCtorEq]) ?_
  rintro sv post ⟨rfl, rfl⟩
  simp (maxSteps := 4000000) only [push_cast, Int.reduceEq, Int.reduceBNe, Int.reduceBEq, Int.reduceAdd, Int.reduceSub, Int.reduceMul, Int.reduceNeg, Int.reduceLT, Int.reduceLE, Int.reduceToNat, Nat.reduceLT, Nat.reduceAdd, Nat.reduceSub, Nat.reduceMul, Nat.reduceEqDiff, Nat.reduceLeDiff, Nat.reduceBEq, reduceIte, reduceCtorEq]
  exact Fin.w [0] (.tup [.i .i64 0, .i .i64 0]) (pageS l 1) (by simp (maxSteps := 4000000) only [push_cast, Int.reduceEq, Int.reduceBNe, Int.reduceBEq, Int.reduceAdd, Int.reduceSub, Int.reduceMul, Int.reduceNeg, Int.reduceLT, Int.reduceLE, Int.reduceToNat, Nat.reduceLT, Nat.reduceAdd, Nat.reduceSub, Nat.reduceMul, Nat.reduceEqDiff, Nat.reduceLeDiff, Nat.reduceBEq, reduceIte, reduceCtorEq, pageS, pageC]) ⟨rfl, rfl⟩
/-- What came of a Plant that grows. -/
def isMade (l : List Int) (sv : SV) (post : SS) : Prop := ∃ b, sv = .tup [.ptr 0 0, .b true] ∧ post = ⟨[], [(0, 56, [(growM b).v, .any, .nilp, .raw (.pointer (some ⟨b, 0, none⟩)), .nilp, .nilp, .nilp])], [], [(1, growR b l 0)], 2, 0, []⟩
theorem make_c (l : List Int) (hl : l.length ≤ 1048576) : Contract Tryz.prog 6 nilSS [.agg [.i .i64 1, .i .i64 0, .ints .u8 .old l, .ints .u8 .nil [], .ints .u8 .nil [], .ints .u8 .nil [], .ints .u8 .nil [], .i .i64 0, .b false]] (isMade l) := by
  have hr : ∀ b (s : List Int × Int), (growM b).res s = growR b s.1 s.2 := fun b s => rfl
  have w1 : (IntKind.i64.wrap (Int.tmod 1 6 + 6)).tmod 6 = 1 := by decide
  refine contract_ev Γok Tryz.func6 rfl rfl [] ?_
  simp (maxSteps := 4000000) only [push_cast, Int.reduceEq, Int.reduceBNe, Int.reduceBEq, Int.reduceAdd, Int.reduceSub, Int.reduceMul, Int.reduceNeg, Int.reduceLT, Int.reduceLE, Int.reduceToNat, Nat.reduceLT, Nat.reduceAdd, Nat.reduceSub, Nat.reduceMul, Nat.reduceEqDiff, Nat.reduceLeDiff, Nat.reduceBEq, reduceIte, reduceCtorEq, Tryz.f6, w1]
  refine call_w (pageGrow_c l hl) [] (by simp (maxSteps := 4000000) only [push_cast, Int.reduceEq, Int.reduceBNe, Int.reduceBEq, Int.reduceAdd, Int.reduceSub, Int.reduceMul, Int.reduceNeg, Int.reduceLT, Int.reduceLE, Int.reduceToNat, Nat.reduceLT, Nat.reduceAdd, Nat.reduceSub, Nat.reduceMul, Nat.reduceEqDiff, Nat.reduceLeDiff, Nat.reduceBEq, reduceIte, reduceCtorEq]) ?_
  rintro sv post ⟨rfl, rfl⟩
  simp (maxSteps := 4000000) only [push_cast, Int.reduceEq, Int.reduceBNe, Int.reduceBEq, Int.reduceAdd, Int.reduceSub, Int.reduceMul, Int.reduceNeg, Int.reduceLT, Int.reduceLE, Int.reduceToNat, Nat.reduceLT, Nat.reduceAdd, Nat.reduceSub, Nat.reduceMul, Nat.reduceEqDiff, Nat.reduceLeDiff, Nat.reduceBEq, reduceIte, reduceCtorEq, pageS, pageC, w1]
  refine call_w (newGrow_c l hl) [] (by simp (maxSteps := 4000000) only [push_cast, Int.reduceEq, Int.reduceBNe, Int.reduceBEq, Int.reduceAdd, Int.reduceSub, Int.reduceMul, Int.reduceNeg, Int.reduceLT, Int.reduceLE, Int.reduceToNat, Nat.reduceLT, Nat.reduceAdd, Nat.reduceSub, Nat.reduceMul, Nat.reduceEqDiff, Nat.reduceLeDiff, Nat.reduceBEq, reduceIte, reduceCtorEq]) ?_
  rintro sv post ⟨b, rfl, rfl⟩
  simp (maxSteps := 4000000) only [push_cast, Int.reduceEq, Int.reduceBNe, Int.reduceBEq, Int.reduceAdd, Int.reduceSub, Int.reduceMul, Int.reduceNeg, Int.reduceLT, Int.reduceLE, Int.reduceToNat, Nat.reduceLT, Nat.reduceAdd, Nat.reduceSub, Nat.reduceMul, Nat.reduceEqDiff, Nat.reduceLeDiff, Nat.reduceBEq, reduceIte, reduceCtorEq, w1]
  refine (region_plan rfl Γok mixed (.pure 0 (.pure 1 (.pure 2 (.pure 3 (.pure 4 (.pure 5 (.eff (.cons 6 [] .done .nil)))))))) 168 rfl (by kernel_rfl) ?_)
  simp (maxSteps := 4000000) only [push_cast, Int.reduceEq, Int.reduceBNe, Int.reduceBEq, Int.reduceAdd, Int.reduceSub, Int.reduceMul, Int.reduceNeg, Int.reduceLT, Int.reduceLE, Int.reduceToNat, Nat.reduceLT, Nat.reduceAdd, Nat.reduceSub, Nat.reduceMul, Nat.reduceEqDiff, Nat.reduceLeDiff, Nat.reduceBEq, reduceIte, reduceCtorEq]
  have hk : (growM b).sk (l, 0) 0 0 = ((l, 0), 0, 0) := by
    show gK 1048576 l 0 0 0 = _
    unfold gK
    rw [if_neg (by omega), if_neg (by simp)]
    simp
  have hs := (growM_sk b).run (l, 0) 0 0 ⟨Int.le_refl 0, (by decide : (0 : Int) ≤ 1048576), hl⟩
  rw [hk] at hs
  refine inv_w hs [5] (by simp (maxSteps := 4000000) only [push_cast, Int.reduceEq, Int.reduceBNe, Int.reduceBEq, Int.reduceAdd, Int.reduceSub, Int.reduceMul, Int.reduceNeg, Int.reduceLT, Int.reduceLE, Int.reduceToNat, Nat.reduceLT, Nat.reduceAdd, Nat.reduceSub, Nat.reduceMul, Nat.reduceEqDiff, Nat.reduceLeDiff, Nat.reduceBEq, reduceIte, reduceCtorEq, RawM.v, growM]) ?_
  rintro sv post ⟨rfl, rfl⟩
  simp (maxSteps := 4000000) only [push_cast, Int.reduceEq, Int.reduceBNe, Int.reduceBEq, Int.reduceAdd, Int.reduceSub, Int.reduceMul, Int.reduceNeg, Int.reduceLT, Int.reduceLE, Int.reduceToNat, Nat.reduceLT, Nat.reduceAdd, Nat.reduceSub, Nat.reduceMul, Nat.reduceEqDiff, Nat.reduceLeDiff, Nat.reduceBEq, reduceIte, reduceCtorEq]
  refine (region_plan rfl Γok mixed (.pure 0 (.pure 1 (.pure 2 (.pure 3 (.pure 4 (.pure 5 (.eff (.cons 6 [] .done .nil)))))))) 168 rfl (by kernel_rfl) ?_)
  simp (maxSteps := 4000000) only [push_cast, Int.reduceEq, Int.reduceBNe, Int.reduceBEq, Int.reduceAdd, Int.reduceSub, Int.reduceMul, Int.reduceNeg, Int.reduceLT, Int.reduceLE, Int.reduceToNat, Nat.reduceLT, Nat.reduceAdd, Nat.reduceSub, Nat.reduceMul, Nat.reduceEqDiff, Nat.reduceLeDiff, Nat.reduceBEq, reduceIte, reduceCtorEq]
  refine call_w (pageSeek_c l) [2] (by simp (maxSteps := 4000000) only [push_cast, Int.reduceEq, Int.reduceBNe, Int.reduceBEq, Int.reduceAdd, Int.reduceSub, Int.reduceMul, Int.reduceNeg, Int.reduceLT, Int.reduceLE, Int.reduceToNat, Nat.reduceLT, Nat.reduceAdd, Nat.reduceSub, Nat.reduceMul, Nat.reduceEqDiff, Nat.reduceLeDiff, Nat.reduceBEq, reduceIte, reduceCtorEq, pageS, pageC]) ?_
  rintro sv post ⟨rfl, rfl⟩
  simp (maxSteps := 4000000) only [push_cast, Int.reduceEq, Int.reduceBNe, Int.reduceBEq, Int.reduceAdd, Int.reduceSub, Int.reduceMul, Int.reduceNeg, Int.reduceLT, Int.reduceLE, Int.reduceToNat, Nat.reduceLT, Nat.reduceAdd, Nat.reduceSub, Nat.reduceMul, Nat.reduceEqDiff, Nat.reduceLeDiff, Nat.reduceBEq, reduceIte, reduceCtorEq, pageS, pageC]
  exact Fin.w [1, 5] (.tup [.ptr 0 0, .b true]) ⟨[], [(0, 56, [(growM b).v, .any, .nilp, .raw (.pointer (some ⟨b, 0, none⟩)), .nilp, .nilp, .nilp])], [], [(1, growR b l 0)], 2, 0, []⟩ (by simp (maxSteps := 4000000) only [push_cast, Int.reduceEq, Int.reduceBNe, Int.reduceBEq, Int.reduceAdd, Int.reduceSub, Int.reduceMul, Int.reduceNeg, Int.reduceLT, Int.reduceLE, Int.reduceToNat, Nat.reduceLT, Nat.reduceAdd, Nat.reduceSub, Nat.reduceMul, Nat.reduceEqDiff, Nat.reduceLeDiff, Nat.reduceBEq, reduceIte, reduceCtorEq, RawM.v, growM]) ⟨b, rfl, rfl⟩
theorem growM_v (b : Nat) : (growM b).v = .ifc 51 (.raw (.pointer (some ⟨b, 0, none⟩))) := rfl
theorem growR_res (b : Nat) (l : List Int) (n : Int) : growR b l n = (growM b).res ((l, n) : List Int × Int) := rfl
end Go.Proofs.YtmciepkhpocafaaGreat
/- A Raw that is nil: calls on a stream over none. -/
namespace Go.Proofs.YtmciepkhpocafaaGreat
open Go Go.Eng
set_option maxHeartbeats 4000000
set_option linter.unusedSimpArgs false
set_option linter.unusedVariables false
set_option maxRecDepth 100000

def St.nErr (x : St) : Int := if x.May then 2 else 51
theorem nErr_ne (x : St) : x.nErr ≠ 0 := by unfold St.nErr; split <;> decide
theorem nErr_51 {x : St} (h : ¬ (if x.May then (0 : Int) else 51) = 0) : x.nErr = 51 := by
  unfold St.nErr
  by_cases hm : x.May
  · rw [if_pos hm] at h; exact absurd rfl h
  · rw [if_neg hm]
theorem nErr_2 {x : St} (h : (if x.May then (0 : Int) else 51) = 0) : x.nErr = 2 := by
  unfold St.nErr
  by_cases hm : x.May
  · rw [if_pos hm]
  · rw [if_neg hm] at h; omega
/-- A state at work over none. -/
def isBN (x : St) (sv : SV) (post : SS) : Prop := sv = .tup [.ptr 0 0, .i .i64 x.nErr] ∧ post = ⟨[], [(0, 280, [.b x.r, .b x.w, .i .i64 x.m, .i .i64 x.s, .ints .u8 .new x.o, .ints .u8 .new x.i, .ints .u8 .new x.k, .i .i64 x.d, .b x.en, .b x.bad, .b x.cl, .nili])], [], [], 1, 0, []⟩
theorem beginN_c (x : St) (hx : x.fits) : Contract Tryz.prog 149 nilSS [x.sv .old, .nili] (isBN x) := by
  obtain ⟨ho, hi, hk⟩ := id hx
  refine contract_ev Γok Tryz.func149 rfl rfl [] ?_
  simp (maxSteps := 4000000) only [push_cast, Int.reduceEq, Int.reduceBNe, Int.reduceBEq, Int.reduceAdd, Int.reduceSub, Int.reduceMul, Int.reduceNeg, Int.reduceLT, Int.reduceLE, Int.reduceToNat, Nat.reduceLT, Nat.reduceAdd, Nat.reduceSub, Nat.reduceMul, Nat.reduceEqDiff, Nat.reduceLeDiff, Nat.reduceBEq, reduceIte, reduceCtorEq, Tryz.f149, rg11, St.sv, St.cells]
  refine (region_plan rfl Γok mixed (.pure 0 (.pure 1 (.pure 2 (.pure 3 (.pure 4 (.pure 6 (.pure 7 (.pure 9 (.pure 10 (.eff (.cons 5 [7, 10] (.eff (.cons 8 [10] (.eff (.cons 11 [] (.pure 12 (.pure 13 (.pure 14 (.eff (.cons 15 [] (.pure 16 (.pure 17 (.pure 18 (.eff (.cons 19 [] (.pure 20 (.pure 21 (.pure 22 (.eff (.cons 23 [] .done .nil))))) .nil))))) .nil))))) .nil)) .nil)) .nil))))))))))) 49 rfl (by kernel_rfl) ?_)
  simp (maxSteps := 4000000) only [push_cast, Int.reduceEq, Int.reduceBNe, Int.reduceBEq, Int.reduceAdd, Int.reduceSub, Int.reduceMul, Int.reduceNeg, Int.reduceLT, Int.reduceLE, Int.reduceToNat, Nat.reduceLT, Nat.reduceAdd, Nat.reduceSub, Nat.reduceMul, Nat.reduceEqDiff, Nat.reduceLeDiff, Nat.reduceBEq, reduceIte, reduceCtorEq]
  refine call_w (bclone_c x.o ho) [] (by simp (maxSteps := 4000000) only [push_cast, Int.reduceEq, Int.reduceBNe, Int.reduceBEq, Int.reduceAdd, Int.reduceSub, Int.reduceMul, Int.reduceNeg, Int.reduceLT, Int.reduceLE, Int.reduceToNat, Nat.reduceLT, Nat.reduceAdd, Nat.reduceSub, Nat.reduceMul, Nat.reduceEqDiff, Nat.reduceLeDiff, Nat.reduceBEq, reduceIte, reduceCtorEq]) ?_
  rintro sv post ⟨rfl, rfl⟩
  simp (maxSteps := 4000000) only [push_cast, Int.reduceEq, Int.reduceBNe, Int.reduceBEq, Int.reduceAdd, Int.reduceSub, Int.reduceMul, Int.reduceNeg, Int.reduceLT, Int.reduceLE, Int.reduceToNat, Nat.reduceLT, Nat.reduceAdd, Nat.reduceSub, Nat.reduceMul, Nat.reduceEqDiff, Nat.reduceLeDiff, Nat.reduceBEq, reduceIte, reduceCtorEq]
  refine call_w (bclone_c x.i hi) [] (by simp (maxSteps := 4000000) only [push_cast, Int.reduceEq, Int.reduceBNe, Int.reduceBEq, Int.reduceAdd, Int.reduceSub, Int.reduceMul, Int.reduceNeg, Int.reduceLT, Int.reduceLE, Int.reduceToNat, Nat.reduceLT, Nat.reduceAdd, Nat.reduceSub, Nat.reduceMul, Nat.reduceEqDiff, Nat.reduceLeDiff, Nat.reduceBEq, reduceIte, reduceCtorEq]) ?_
  rintro sv post ⟨rfl, rfl⟩
  simp (maxSteps := 4000000) only [push_cast, Int.reduceEq, Int.reduceBNe, Int.reduceBEq, Int.reduceAdd, Int.reduceSub, Int.reduceMul, Int.reduceNeg, Int.reduceLT, Int.reduceLE, Int.reduceToNat, Nat.reduceLT, Nat.reduceAdd, Nat.reduceSub, Nat.reduceMul, Nat.reduceEqDiff, Nat.reduceLeDiff, Nat.reduceBEq, reduceIte, reduceCtorEq]
  refine call_w (bclone_c x.k hk) [] (by simp (maxSteps := 4000000) only [push_cast, Int.reduceEq, Int.reduceBNe, Int.reduceBEq, Int.reduceAdd, Int.reduceSub, Int.reduceMul, Int.reduceNeg, Int.reduceLT, Int.reduceLE, Int.reduceToNat, Nat.reduceLT, Nat.reduceAdd, Nat.reduceSub, Nat.reduceMul, Nat.reduceEqDiff, Nat.reduceLeDiff, Nat.reduceBEq, reduceIte, reduceCtorEq]) ?_
  rintro sv post ⟨rfl, rfl⟩
  simp (maxSteps := 4000000) only [push_cast, Int.reduceEq, Int.reduceBNe, Int.reduceBEq, Int.reduceAdd, Int.reduceSub, Int.reduceMul, Int.reduceNeg, Int.reduceLT, Int.reduceLE, Int.reduceToNat, Nat.reduceLT, Nat.reduceAdd, Nat.reduceSub, Nat.reduceMul, Nat.reduceEqDiff, Nat.reduceLeDiff, Nat.reduceBEq, reduceIte, reduceCtorEq, rg11]
  refine call_w (checkR_c x hx) [] (by simp (maxSteps := 4000000) only [push_cast, Int.reduceEq, Int.reduceBNe, Int.reduceBEq, Int.reduceAdd, Int.reduceSub, Int.reduceMul, Int.reduceNeg, Int.reduceLT, Int.reduceLE, Int.reduceToNat, Nat.reduceLT, Nat.reduceAdd, Nat.reduceSub, Nat.reduceMul, Nat.reduceEqDiff, Nat.reduceLeDiff, Nat.reduceBEq, reduceIte, reduceCtorEq, St.sv, St.cells]) ?_
  rintro sv post ⟨rfl, rfl⟩
  simp (maxSteps := 4000000) only [push_cast, Int.reduceEq, Int.reduceBNe, Int.reduceBEq, Int.reduceAdd, Int.reduceSub, Int.reduceMul, Int.reduceNeg, Int.reduceLT, Int.reduceLE, Int.reduceToNat, Nat.reduceLT, Nat.reduceAdd, Nat.reduceSub, Nat.reduceMul, Nat.reduceEqDiff, Nat.reduceLeDiff, Nat.reduceBEq, reduceIte, reduceCtorEq]
  unfold isBN St.nErr
  refine ⟨fun h => ?_, fun h => ?_⟩
  · have hm : ¬ x.May := fun hm => h (by rw [if_pos hm])
    rw [if_neg hm, if_neg hm]
    exact Fin.w [1] (.tup [.ptr 0 0, .i .i64 51]) _ (by simp (maxSteps := 4000000) only [push_cast, Int.reduceEq, Int.reduceBNe, Int.reduceBEq, Int.reduceAdd, Int.reduceSub, Int.reduceMul, Int.reduceNeg, Int.reduceLT, Int.reduceLE, Int.reduceToNat, Nat.reduceLT, Nat.reduceAdd, Nat.reduceSub, Nat.reduceMul, Nat.reduceEqDiff, Nat.reduceLeDiff, Nat.reduceBEq, reduceIte, reduceCtorEq]) ⟨rfl, rfl⟩
  · have hm : x.May := by
      by_cases hm : x.May
      · exact hm
      · rw [if_neg hm] at h; omega
    rw [if_pos hm]
    exact Fin.w [1] (.tup [.ptr 0 0, .i .i64 2]) _ (by simp (maxSteps := 4000000) only [push_cast, Int.reduceEq, Int.reduceBNe, Int.reduceBEq, Int.reduceAdd, Int.reduceSub, Int.reduceMul, Int.reduceNeg, Int.reduceLT, Int.reduceLE, Int.reduceToNat, Nat.reduceLT, Nat.reduceAdd, Nat.reduceSub, Nat.reduceMul, Nat.reduceEqDiff, Nat.reduceLeDiff, Nat.reduceBEq, reduceIte, reduceCtorEq]) ⟨rfl, rfl⟩
def isSN (x : St) (sv : SV) (post : SS) : Prop := sv = .tup [x.sv .new, .i .i64 x.nErr] ∧ post = nilSS
def isSBN (x : St) (sv : SV) (post : SS) : Prop := sv = .tup [x.sv .new, .i .u8 0, .i .i64 x.nErr] ∧ post = nilSS
theorem getN_c (x : St) (hx : x.fits) : Contract Tryz.prog 147 nilSS [x.sv .old, .nili] (isSBN x) := by
  have hne := nErr_ne x
  refine contract_ev Γok Tryz.func147 rfl rfl [] ?_
  simp (maxSteps := 4000000) only [push_cast, Int.reduceEq, Int.reduceBNe, Int.reduceBEq, Int.reduceAdd, Int.reduceSub, Int.reduceMul, Int.reduceNeg, Int.reduceLT, Int.reduceLE, Int.reduceToNat, Nat.reduceLT, Nat.reduceAdd, Nat.reduceSub, Nat.reduceMul, Nat.reduceEqDiff, Nat.reduceLeDiff, Nat.reduceBEq, reduceIte, reduceCtorEq, Tryz.f147, St.sv, St.cells, rg11]
  refine call_w (beginN_c x hx) [] (by simp (maxSteps := 4000000) only [push_cast, Int.reduceEq, Int.reduceBNe, Int.reduceBEq, Int.reduceAdd, Int.reduceSub, Int.reduceMul, Int.reduceNeg, Int.reduceLT, Int.reduceLE, Int.reduceToNat, Nat.reduceLT, Nat.reduceAdd, Nat.reduceSub, Nat.reduceMul, Nat.reduceEqDiff, Nat.reduceLeDiff, Nat.reduceBEq, reduceIte, reduceCtorEq, St.sv, St.cells]) ?_
  rintro sv post ⟨rfl, rfl⟩
  simp (maxSteps := 4000000) only [push_cast, Int.reduceEq, Int.reduceBNe, Int.reduceBEq, Int.reduceAdd, Int.reduceSub, Int.reduceMul, Int.reduceNeg, Int.reduceLT, Int.reduceLE, Int.reduceToNat, Nat.reduceLT, Nat.reduceAdd, Nat.reduceSub, Nat.reduceMul, Nat.reduceEqDiff, Nat.reduceLeDiff, Nat.reduceBEq, reduceIte, reduceCtorEq]
  refine ⟨fun _ => ?_, fun h => absurd h hne⟩
  exact Fin.w [] (.tup [x.sv .new, .i .u8 0, .i .i64 x.nErr]) nilSS (by simp (maxSteps := 4000000) only [push_cast, Int.reduceEq, Int.reduceBNe, Int.reduceBEq, Int.reduceAdd, Int.reduceSub, Int.reduceMul, Int.reduceNeg, Int.reduceLT, Int.reduceLE, Int.reduceToNat, Nat.reduceLT, Nat.reduceAdd, Nat.reduceSub, Nat.reduceMul, Nat.reduceEqDiff, Nat.reduceLeDiff, Nat.reduceBEq, reduceIte, reduceCtorEq, St.sv, St.cells]) ⟨rfl, rfl⟩
end Go.Proofs.YtmciepkhpocafaaGreat
/- The page's example of streams. -/
namespace Go.Proofs.YtmciepkhpocafaaGreat
open Go Go.Eng
set_option maxHeartbeats 4000000
set_option linter.unusedSimpArgs false
set_option linter.unusedVariables false
set_option maxRecDepth 100000

def fewSt (o : List Int) (d : Int) (c : Bool) : St := ⟨false, true, 3, 2, o, [], [], d, false, false, c⟩
theorem few1 (b : Nat) : (fewSt [] 0 false).Put (growM b) (([], 0) : List Int × Int) 97 = (fewSt [97] 2 false, (([], 0) : List Int × Int), 0) := by kernel_rfl
theorem few2 (b : Nat) : (fewSt [97] 2 false).Put (growM b) (([], 0) : List Int × Int) 98 = (fewSt [] 2 false, (([97, 98], 2) : List Int × Int), 0) := by kernel_rfl
theorem few3 (b : Nat) : (fewSt [] 2 false).Put (growM b) (([97, 98], 2) : List Int × Int) 99 = (fewSt [99] 2 false, (([97, 98], 2) : List Int × Int), 0) := by kernel_rfl
theorem few4 (b : Nat) : (fewSt [99] 2 false).Close (growM b) (([97, 98], 2) : List Int × Int) = (fewSt [] 0 true, (([97, 98, 99], 3) : List Int × Int), 0) := by kernel_rfl

end Go.Proofs.YtmciepkhpocafaaGreat
