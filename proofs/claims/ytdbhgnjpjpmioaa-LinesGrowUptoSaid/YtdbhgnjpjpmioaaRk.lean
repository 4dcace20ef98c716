/- Lines: up to a byte; a line. -/
import Derived.Test.YtdbhgnjpjpmioaaRj
namespace Go.Proofs.Ytdbhgnjpjpmioaa
open Go Go.Eng
set_option linter.unusedSimpArgs false
set_option linter.unusedVariables false
set_option maxRecDepth 100000

/-- Bytes up to one. -/
def St.Until (M : RawM) (x : St) (g : M.σ) (d limit : Int) : St × M.σ × List Int × Int :=
  if x.aErr (if limit < 1 ∨ 65536 < limit then 4 else 0) ≠ 0 then (x, g, [], x.aErr (if limit < 1 ∨ 65536 < limit then 4 else 0))
  else lineV M (fun c => c == d) limit x g
def isU (M : RawM) (r : St × M.σ × List Int × Int) (sv : SV) (post : SS) : Prop := sv = .tup [r.1.sv .new, .ints .u8 .new r.2.2.1, .i .i64 r.2.2.2] ∧ post = preR (M.res r.2.1)

theorem aErr_zero {x : St} {e : Int} (h : x.aErr e = 0) : x.May ∧ x.cl = false ∧ e = 0 := by
  unfold St.aErr at h
  split at h
  · rename_i hm
    split at h
    · omega
    · rename_i hc; exact ⟨hm, by simpa using hc, h⟩
  · omega

theorem bool_ite {p : Prop} [Decidable p] (b : Bool) (h : b = decide p) (e : Int) : (if b = true then e else 0) = if p then e else 0 := by
  subst h; by_cases hp : p <;> simp [hp]

set_option maxHeartbeats 2000000 in
theorem UntilR_c (M : RawM) (hR : M.Rd) (x : St) (hx : x.fits) (g : M.σ) (hg : M.ok g) (d limit : Int) : Contract Try.prog 22 (preR (M.res g)) [x.sv .old, M.v, .i .u8 d, .i .i64 limit] (isU M (x.Until M g d limit)) := by
  have hw := bool_ite (p := limit < 1 ∨ 65536 < limit) (decide (limit < 1) || decide (65536 < limit)) (by simp) 4
  refine contract_ev Γok Try.func22 rfl rfl [] ?_
  simp (maxSteps := 4000000) only [push_cast, Int.reduceEq, Int.reduceBNe, Int.reduceBEq, Int.reduceAdd, Int.reduceSub, Int.reduceMul, Int.reduceNeg, Int.reduceLT, Int.reduceLE, Nat.reduceLT, Nat.reduceAdd, Nat.reduceSub, Nat.reduceMul, Nat.reduceEqDiff, Nat.reduceLeDiff, Nat.reduceBEq, reduceIte, reduceCtorEq, Try.f22, St.sv, St.cells, RawM.v, rg11]
  refine (region_planS (S := ?S) rfl Γok mixed (.pure 0 (.pure 1 (.pure 2 (.pure 3 (.pure 4 (.pure 5 (.pure 6 (.pure 7 (.eff (.cons 8 [0] (.eff (.cons 9 [] (.pure 10 (.pure 11 (.pure 12 (.eff (.cons 13 [0] (.eff (.cons 14 [] (.pure 15 .done) .nil)) .nil))))) (.cons 13 [0] (.eff (.cons 9 [] (.pure 10 (.pure 11 (.pure 12 (.eff (.cons 14 [] (.pure 15 .done) .nil))))) .nil)) .nil))) (.cons 13 [0] (.eff (.cons 8 [0] (.eff (.cons 9 [] (.pure 10 (.pure 11 (.pure 12 (.eff (.cons 14 [] (.pure 15 .done) .nil))))) .nil)) .nil)) .nil))))))))))) 38 rfl (by kernel_rfl) ?_ ?_)
  case refine_1 =>
    simp (maxSteps := 4000000) only [push_cast, Int.reduceEq, Int.reduceBNe, Int.reduceBEq, Int.reduceAdd, Int.reduceSub, Int.reduceMul, Int.reduceNeg, Int.reduceLT, Int.reduceLE, Nat.reduceLT, Nat.reduceAdd, Nat.reduceSub, Nat.reduceMul, Nat.reduceEqDiff, Nat.reduceLeDiff, Nat.reduceBEq, reduceIte, reduceCtorEq, rg11]
    refine ⟨?_, ?_⟩ <;> refine call_w (when_c (decide (limit < 1) || decide (65536 < limit)) 4) [] (by simp (maxSteps := 4000000) only [push_cast, Int.reduceEq, Int.reduceBNe, Int.reduceBEq, Int.reduceAdd, Int.reduceSub, Int.reduceMul, Int.reduceNeg, Int.reduceLT, Int.reduceLE, Nat.reduceLT, Nat.reduceAdd, Nat.reduceSub, Nat.reduceMul, Nat.reduceEqDiff, Nat.reduceLeDiff, Nat.reduceBEq, reduceIte, reduceCtorEq]) ?_ <;> rintro sv post ⟨rfl, rfl⟩ <;> rw [hw] <;> simp (maxSteps := 4000000) only [push_cast, Int.reduceEq, Int.reduceBNe, Int.reduceBEq, Int.reduceAdd, Int.reduceSub, Int.reduceMul, Int.reduceNeg, Int.reduceLT, Int.reduceLE, Nat.reduceLT, Nat.reduceAdd, Nat.reduceSub, Nat.reduceMul, Nat.reduceEqDiff, Nat.reduceLeDiff, Nat.reduceBEq, reduceIte, reduceCtorEq, rg11]
    · refine ⟨?_, ?_⟩ <;> refine call_w (asked_c x hx M.t M.y (if limit < 1 ∨ 65536 < limit then 4 else 0)) [] (by simp (maxSteps := 4000000) only [push_cast, Int.reduceEq, Int.reduceBNe, Int.reduceBEq, Int.reduceAdd, Int.reduceSub, Int.reduceMul, Int.reduceNeg, Int.reduceLT, Int.reduceLE, Nat.reduceLT, Nat.reduceAdd, Nat.reduceSub, Nat.reduceMul, Nat.reduceEqDiff, Nat.reduceLeDiff, Nat.reduceBEq, reduceIte, reduceCtorEq, St.sv, St.cells]) ?_ <;> rintro sv post ⟨rfl, rfl⟩ <;> simp (maxSteps := 4000000) only [push_cast, Int.reduceEq, Int.reduceBNe, Int.reduceBEq, Int.reduceAdd, Int.reduceSub, Int.reduceMul, Int.reduceNeg, Int.reduceLT, Int.reduceLE, Nat.reduceLT, Nat.reduceAdd, Nat.reduceSub, Nat.reduceMul, Nat.reduceEqDiff, Nat.reduceLeDiff, Nat.reduceBEq, reduceIte, reduceCtorEq, St.sv, St.cells, rg11] <;> exact Sub.refl _
    · refine call_w (asked_c x hx M.t M.y (if limit < 1 ∨ 65536 < limit then 4 else 0)) [] (by simp (maxSteps := 4000000) only [push_cast, Int.reduceEq, Int.reduceBNe, Int.reduceBEq, Int.reduceAdd, Int.reduceSub, Int.reduceMul, Int.reduceNeg, Int.reduceLT, Int.reduceLE, Nat.reduceLT, Nat.reduceAdd, Nat.reduceSub, Nat.reduceMul, Nat.reduceEqDiff, Nat.reduceLeDiff, Nat.reduceBEq, reduceIte, reduceCtorEq, St.sv, St.cells]) ?_
      rintro sv post ⟨rfl, rfl⟩
      simp (maxSteps := 4000000) only [push_cast, Int.reduceEq, Int.reduceBNe, Int.reduceBEq, Int.reduceAdd, Int.reduceSub, Int.reduceMul, Int.reduceNeg, Int.reduceLT, Int.reduceLE, Nat.reduceLT, Nat.reduceAdd, Nat.reduceSub, Nat.reduceMul, Nat.reduceEqDiff, Nat.reduceLeDiff, Nat.reduceBEq, reduceIte, reduceCtorEq, St.sv, St.cells, rg11]
      exact Sub.refl _
  case refine_2 =>
    simp (maxSteps := 4000000) only [push_cast, Int.reduceEq, Int.reduceBNe, Int.reduceBEq, Int.reduceAdd, Int.reduceSub, Int.reduceMul, Int.reduceNeg, Int.reduceLT, Int.reduceLE, Nat.reduceLT, Nat.reduceAdd, Nat.reduceSub, Nat.reduceMul, Nat.reduceEqDiff, Nat.reduceLeDiff, Nat.reduceBEq, reduceIte, reduceCtorEq, rg11]
    refine ⟨fun h => ?_, fun h => ?_⟩
    · rw [show x.Until M g d limit = (x, g, [], x.aErr (if limit < 1 ∨ 65536 < limit then 4 else 0)) from if_pos h]
      exact Fin.w [0] (.tup [x.sv .new, .ints .u8 .new [], .i .i64 _]) _ (by simp (maxSteps := 4000000) only [push_cast, Int.reduceEq, Int.reduceBNe, Int.reduceBEq, Int.reduceAdd, Int.reduceSub, Int.reduceMul, Int.reduceNeg, Int.reduceLT, Int.reduceLE, Nat.reduceLT, Nat.reduceAdd, Nat.reduceSub, Nat.reduceMul, Nat.reduceEqDiff, Nat.reduceLeDiff, Nat.reduceBEq, reduceIte, reduceCtorEq, St.sv, St.cells]) ⟨rfl, rfl⟩
    · rw [show x.Until M g d limit = lineV M (fun c => c == d) limit x g from if_neg (by rw [h]; simp)]
      obtain ⟨hm, hc, he⟩ := aErr_zero h
      have hlim : ¬ (limit < 1 ∨ 65536 < limit) := by intro hl; rw [if_pos hl] at he; omega
      refine call_w (getsU_c M hR x hx g hg limit d (by omega) (by omega)) [2, 0] (by simp (maxSteps := 4000000) only [push_cast, Int.reduceEq, Int.reduceBNe, Int.reduceBEq, Int.reduceAdd, Int.reduceSub, Int.reduceMul, Int.reduceNeg, Int.reduceLT, Int.reduceLE, Nat.reduceLT, Nat.reduceAdd, Nat.reduceSub, Nat.reduceMul, Nat.reduceEqDiff, Nat.reduceLeDiff, Nat.reduceBEq, reduceIte, reduceCtorEq, St.sv, St.cells, RawM.v]) ?_
      rintro sv post ⟨rfl, rfl⟩
      simp (maxSteps := 4000000) only [push_cast, Int.reduceEq, Int.reduceBNe, Int.reduceBEq, Int.reduceAdd, Int.reduceSub, Int.reduceMul, Int.reduceNeg, Int.reduceLT, Int.reduceLE, Nat.reduceLT, Nat.reduceAdd, Nat.reduceSub, Nat.reduceMul, Nat.reduceEqDiff, Nat.reduceLeDiff, Nat.reduceBEq, reduceIte, reduceCtorEq, St.sv, St.cells, rg11]
      exact Fin.w [0] (.tup [(lineV M (fun c => c == d) limit x g).1.sv .new, .ints .u8 .new _, .i .i64 _]) _ (by simp (maxSteps := 4000000) only [push_cast, Int.reduceEq, Int.reduceBNe, Int.reduceBEq, Int.reduceAdd, Int.reduceSub, Int.reduceMul, Int.reduceNeg, Int.reduceLT, Int.reduceLE, Nat.reduceLT, Nat.reduceAdd, Nat.reduceSub, Nat.reduceMul, Nat.reduceEqDiff, Nat.reduceLeDiff, Nat.reduceBEq, reduceIte, reduceCtorEq, St.sv, St.cells]) ⟨rfl, rfl⟩

theorem LineR_c (M : RawM) (hR : M.Rd) (x : St) (hx : x.fits) (g : M.σ) (hg : M.ok g) (limit : Int) : Contract Try.prog 25 (preR (M.res g)) [x.sv .old, M.v, .i .i64 limit] (isU M (x.Until M g 10 limit)) := by
  refine contract_ev Γok Try.func25 rfl rfl [] ?_
  simp (maxSteps := 4000000) only [push_cast, Int.reduceEq, Int.reduceBNe, Int.reduceBEq, Int.reduceAdd, Int.reduceSub, Int.reduceMul, Int.reduceNeg, Int.reduceLT, Int.reduceLE, Nat.reduceLT, Nat.reduceAdd, Nat.reduceSub, Nat.reduceMul, Nat.reduceEqDiff, Nat.reduceLeDiff, Nat.reduceBEq, reduceIte, reduceCtorEq, Try.f25, St.sv, St.cells, RawM.v, rg11]
  refine call_w (UntilR_c M hR x hx g hg 10 limit) [0] (by simp (maxSteps := 4000000) only [push_cast, Int.reduceEq, Int.reduceBNe, Int.reduceBEq, Int.reduceAdd, Int.reduceSub, Int.reduceMul, Int.reduceNeg, Int.reduceLT, Int.reduceLE, Nat.reduceLT, Nat.reduceAdd, Nat.reduceSub, Nat.reduceMul, Nat.reduceEqDiff, Nat.reduceLeDiff, Nat.reduceBEq, reduceIte, reduceCtorEq, St.sv, St.cells, RawM.v]) ?_
  rintro sv post ⟨rfl, rfl⟩
  simp (maxSteps := 4000000) only [push_cast, Int.reduceEq, Int.reduceBNe, Int.reduceBEq, Int.reduceAdd, Int.reduceSub, Int.reduceMul, Int.reduceNeg, Int.reduceLT, Int.reduceLE, Nat.reduceLT, Nat.reduceAdd, Nat.reduceSub, Nat.reduceMul, Nat.reduceEqDiff, Nat.reduceLeDiff, Nat.reduceBEq, reduceIte, reduceCtorEq, St.sv, St.cells, rg11]
  exact Fin.w [0] (.tup [(x.Until M g 10 limit).1.sv .new, .ints .u8 .new _, .i .i64 _]) _ (by simp (maxSteps := 4000000) only [push_cast, Int.reduceEq, Int.reduceBNe, Int.reduceBEq, Int.reduceAdd, Int.reduceSub, Int.reduceMul, Int.reduceNeg, Int.reduceLT, Int.reduceLE, Nat.reduceLT, Nat.reduceAdd, Nat.reduceSub, Nat.reduceMul, Nat.reduceEqDiff, Nat.reduceLeDiff, Nat.reduceBEq, reduceIte, reduceCtorEq, St.sv, St.cells]) ⟨rfl, rfl⟩
end Go.Proofs.Ytdbhgnjpjpmioaa
