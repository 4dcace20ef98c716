/- A byte is put onto, and got off, a stream at work. -/
import Derived.Test.YtdbhgnjpjpmioaaRc
namespace Go.Proofs.Ytdbhgnjpjpmioaa
open Go Go.Eng
set_option linter.unusedSimpArgs false
set_option linter.unusedVariables false
set_option maxRecDepth 100000

theorem may_zero' {m s : Int} (h : mayV m s = 0) : 1 ≤ m ∧ m ≤ 3 ∧ 1 ≤ s ∧ s ≤ 65536 := by
  unfold mayV at h
  split at h
  · omega
  · split at h <;> omega

/-- A byte is put. -/
def St.put1 (M : RawM) (x : St) (g : M.σ) (c : Int) : St × M.σ × Int :=
  if x.o.length = x.s ∨ (x.m = 2 ∧ c = 10) then x.deliver M g else (x, g, 0)
def St.put (M : RawM) (x : St) (g : M.σ) (c : Int) : St × M.σ × Int :=
  if x.wErr ≠ 0 then (x, g, x.wErr)
  else if x.m = 1 then (({ x with d := 2 } : St).noted (putV M g [c]).2.2, (putV M g [c]).1, (putV M g [c]).2.2)
  else if x.o.length = x.s then
    (let z := ({ x with d := 2 } : St).deliver M g
     if z.2.2 ≠ 0 then z else ({ z.1 with o := z.1.o ++ [c] } : St).put1 M z.2.1 c)
  else ({ x with d := 2, o := x.o ++ [c] } : St).put1 M g c

theorem deliver_o (M : RawM) (x : St) (g : M.σ) : (x.deliver M g).1.o.length ≤ x.o.length := putGo_len M _ g x.o 0
theorem deliver_ok (M : RawM) (hW : M.Wr) (x : St) (g : M.σ) (hg : M.ok g) (hx : x.o.length ≤ 1048576) (hr : x.o.length ≤ M.rm g) : M.ok (x.deliver M g).2.1 ∧ M.rm g ≤ M.rm (x.deliver M g).2.1 + x.o.length := M.putGo_ok hW _ g x.o 0 hg hx hr

theorem putW_c (M : RawM) (hW : M.Wr) (x : St) (g : M.σ) (hg : M.ok g) (c : Int) (hr : x.o.length + 1 ≤ M.rm g) (ho : x.o.length ≤ 65536) (hi : x.i.length ≤ 140737488355328) (hk : x.k.length ≤ 140737488355328) :
    Contract Try.prog 55 (preW M x g) [.ptr 0 0, .i .u8 c] (isW M (x.put M g c)) := by
  refine contract_ev Γok Try.func55 rfl rfl [] ?_
  simp (maxSteps := 4000000) only [push_cast, Int.reduceEq, Int.reduceBNe, Int.reduceBEq, Int.reduceAdd, Int.reduceSub, Int.reduceMul, Int.reduceNeg, Int.reduceLT, Int.reduceLE, Nat.reduceLT, Nat.reduceAdd, Nat.reduceSub, Nat.reduceMul, Nat.reduceEqDiff, Nat.reduceLeDiff, Nat.reduceBEq, reduceIte, reduceCtorEq, Try.f55, preW, St.work, RawM.v]
  refine call_w (writeR_c M x g hi hk) [0, 1, 2, 3] (by simp (maxSteps := 4000000) only [push_cast, Int.reduceEq, Int.reduceBNe, Int.reduceBEq, Int.reduceAdd, Int.reduceSub, Int.reduceMul, Int.reduceNeg, Int.reduceLT, Int.reduceLE, Nat.reduceLT, Nat.reduceAdd, Nat.reduceSub, Nat.reduceMul, Nat.reduceEqDiff, Nat.reduceLeDiff, Nat.reduceBEq, reduceIte, reduceCtorEq, preD, St.work, RawM.v]) ?_
  rintro sv post ⟨rfl, rfl⟩
  by_cases he : x.wErr = 0
  case neg =>
    rw [if_neg he]
    simp (maxSteps := 4000000) only [push_cast, Int.reduceEq, Int.reduceBNe, Int.reduceBEq, Int.reduceAdd, Int.reduceSub, Int.reduceMul, Int.reduceNeg, Int.reduceLT, Int.reduceLE, Nat.reduceLT, Nat.reduceAdd, Nat.reduceSub, Nat.reduceMul, Nat.reduceEqDiff, Nat.reduceLeDiff, Nat.reduceBEq, reduceIte, reduceCtorEq, preD, St.work, RawM.v]
    refine ⟨fun _ => ?_, fun h => absurd h he⟩
    unfold St.put
    rw [if_pos he]
    exact Fin.w [0, 1, 2, 3] (.i .i64 _) _ (by simp (maxSteps := 4000000) only [push_cast, Int.reduceEq, Int.reduceBNe, Int.reduceBEq, Int.reduceAdd, Int.reduceSub, Int.reduceMul, Int.reduceNeg, Int.reduceLT, Int.reduceLE, Nat.reduceLT, Nat.reduceAdd, Nat.reduceSub, Nat.reduceMul, Nat.reduceEqDiff, Nat.reduceLeDiff, Nat.reduceBEq, reduceIte, reduceCtorEq, preW, St.work, RawM.v]) ⟨rfl, rfl⟩
  rw [if_pos he]
  unfold St.put
  rw [if_neg (by omega)]
  simp (maxSteps := 4000000) only [push_cast, Int.reduceEq, Int.reduceBNe, Int.reduceBEq, Int.reduceAdd, Int.reduceSub, Int.reduceMul, Int.reduceNeg, Int.reduceLT, Int.reduceLE, Nat.reduceLT, Nat.reduceAdd, Nat.reduceSub, Nat.reduceMul, Nat.reduceEqDiff, Nat.reduceLeDiff, Nat.reduceBEq, reduceIte, reduceCtorEq, preD, St.work, RawM.v]
  refine ⟨fun h => absurd he h, fun _ => ⟨fun h => ?_, fun h => ?_⟩⟩
  · rw [if_pos h]
    refine call_w (putR_c M hW g hg [c] (by simp) (by simp; omega)) [1] (by simp (maxSteps := 4000000) only [push_cast, Int.reduceEq, Int.reduceBNe, Int.reduceBEq, Int.reduceAdd, Int.reduceSub, Int.reduceMul, Int.reduceNeg, Int.reduceLT, Int.reduceLE, Nat.reduceLT, Nat.reduceAdd, Nat.reduceSub, Nat.reduceMul, Nat.reduceEqDiff, Nat.reduceLeDiff, Nat.reduceBEq, reduceIte, reduceCtorEq, RawM.v]) ?_
    rintro sv post ⟨rfl, rfl⟩
    simp (maxSteps := 4000000) only [push_cast, Int.reduceEq, Int.reduceBNe, Int.reduceBEq, Int.reduceAdd, Int.reduceSub, Int.reduceMul, Int.reduceNeg, Int.reduceLT, Int.reduceLE, Nat.reduceLT, Nat.reduceAdd, Nat.reduceSub, Nat.reduceMul, Nat.reduceEqDiff, Nat.reduceLeDiff, Nat.reduceBEq, reduceIte, reduceCtorEq]
    refine call_w (notedR_c { x with d := 2 } M.t M.y (putV M g [c]).2.2) [0, 1, 2, 3] (by simp (maxSteps := 4000000) only [push_cast, Int.reduceEq, Int.reduceBNe, Int.reduceBEq, Int.reduceAdd, Int.reduceSub, Int.reduceMul, Int.reduceNeg, Int.reduceLT, Int.reduceLE, Nat.reduceLT, Nat.reduceAdd, Nat.reduceSub, Nat.reduceMul, Nat.reduceEqDiff, Nat.reduceLeDiff, Nat.reduceBEq, reduceIte, reduceCtorEq, St.work]) ?_
    rintro sv post ⟨rfl, rfl⟩
    simp (maxSteps := 4000000) only [push_cast, Int.reduceEq, Int.reduceBNe, Int.reduceBEq, Int.reduceAdd, Int.reduceSub, Int.reduceMul, Int.reduceNeg, Int.reduceLT, Int.reduceLE, Nat.reduceLT, Nat.reduceAdd, Nat.reduceSub, Nat.reduceMul, Nat.reduceEqDiff, Nat.reduceLeDiff, Nat.reduceBEq, reduceIte, reduceCtorEq, St.work]
    exact Fin.w [0, 1, 2, 3] (.i .i64 _) _ (by simp (maxSteps := 4000000) only [push_cast, Int.reduceEq, Int.reduceBNe, Int.reduceBEq, Int.reduceAdd, Int.reduceSub, Int.reduceMul, Int.reduceNeg, Int.reduceLT, Int.reduceLE, Nat.reduceLT, Nat.reduceAdd, Nat.reduceSub, Nat.reduceMul, Nat.reduceEqDiff, Nat.reduceLeDiff, Nat.reduceBEq, reduceIte, reduceCtorEq, preW, St.work, RawM.v]) ⟨rfl, rfl⟩
  · rw [if_neg h]
    refine (region_plan rfl Γok mixed (.pure 0 (.pure 1 (.pure 2 (.pure 3 (.pure 4 (.pure 5 (.pure 6 (.pure 7 (.pure 8 (.pure 9 (.pure 10 (.pure 11 .done)))))))))))) 88 rfl (by kernel_rfl) ?_)
    simp (maxSteps := 4000000) only [push_cast, Int.reduceEq, Int.reduceBNe, Int.reduceBEq, Int.reduceAdd, Int.reduceSub, Int.reduceMul, Int.reduceNeg, Int.reduceLT, Int.reduceLE, Nat.reduceLT, Nat.reduceAdd, Nat.reduceSub, Nat.reduceMul, Nat.reduceEqDiff, Nat.reduceLeDiff, Nat.reduceBEq, reduceIte, reduceCtorEq]
    refine ⟨fun h1 => ?_, fun h1 => ?_⟩
    · rw [if_pos h1]
      refine call_w (deliverR_c M hW { x with d := 2 } g hg (by simp only; omega) (by simp only; omega)) [0, 1, 2, 3] (by simp (maxSteps := 4000000) only [push_cast, Int.reduceEq, Int.reduceBNe, Int.reduceBEq, Int.reduceAdd, Int.reduceSub, Int.reduceMul, Int.reduceNeg, Int.reduceLT, Int.reduceLE, Nat.reduceLT, Nat.reduceAdd, Nat.reduceSub, Nat.reduceMul, Nat.reduceEqDiff, Nat.reduceLeDiff, Nat.reduceBEq, reduceIte, reduceCtorEq, preD, St.work, RawM.v]) ?_
      rintro sv post ⟨rfl, rfl⟩
      have hz := deliver_o M { x with d := 2 } g
      obtain ⟨hzk, hzr⟩ := deliver_ok M hW { x with d := 2 } g hg (by simp only; omega) (by simp only; omega)
      have hz0 : (({ x with d := 2 } : St).deliver M g).2.2 = 0 → (({ x with d := 2 } : St).deliver M g).1.o = [] := putGo_ok0 M _ g x.o 0
      generalize ({ x with d := 2 } : St).deliver M g = z at *
      simp only at hz hzr
      simp (maxSteps := 4000000) only [push_cast, Int.reduceEq, Int.reduceBNe, Int.reduceBEq, Int.reduceAdd, Int.reduceSub, Int.reduceMul, Int.reduceNeg, Int.reduceLT, Int.reduceLE, Nat.reduceLT, Nat.reduceAdd, Nat.reduceSub, Nat.reduceMul, Nat.reduceEqDiff, Nat.reduceLeDiff, Nat.reduceBEq, reduceIte, reduceCtorEq, preD, St.work, RawM.v]
      refine ⟨fun h2 => ?_, fun h2 => ?_⟩
      · rw [if_pos h2]
        exact Fin.w [0, 1, 2, 3] (.i .i64 _) _ (by simp (maxSteps := 4000000) only [push_cast, Int.reduceEq, Int.reduceBNe, Int.reduceBEq, Int.reduceAdd, Int.reduceSub, Int.reduceMul, Int.reduceNeg, Int.reduceLT, Int.reduceLE, Nat.reduceLT, Nat.reduceAdd, Nat.reduceSub, Nat.reduceMul, Nat.reduceEqDiff, Nat.reduceLeDiff, Nat.reduceBEq, reduceIte, reduceCtorEq, preW, St.work, RawM.v]) ⟨rfl, rfl⟩
      · rw [if_neg (by omega)]
        refine ⟨by omega, ?_⟩
        refine (region_plan rfl Γok mixed (.pure 0 (.pure 1 (.pure 2 (.pure 3 (.pure 4 (.pure 5 (.pure 6 (.pure 7 (.pure 8 (.pure 9 (.pure 10 (.pure 11 (.pure 12 (.pure 13 (.pure 14 (.pure 15 (.pure 16 (.pure 17 (.pure 18 (.pure 19 (.pure 20 (.pure 21 (.pure 22 (.pure 23 .done)))))))))))))))))))))))) 88 rfl (by kernel_rfl) ?_)
        simp (maxSteps := 4000000) only [push_cast, Int.reduceEq, Int.reduceBNe, Int.reduceBEq, Int.reduceAdd, Int.reduceSub, Int.reduceMul, Int.reduceNeg, Int.reduceLT, Int.reduceLE, Nat.reduceLT, Nat.reduceAdd, Nat.reduceSub, Nat.reduceMul, Nat.reduceEqDiff, Nat.reduceLeDiff, Nat.reduceBEq, reduceIte, reduceCtorEq, List.length_append]
        unfold St.put1
        refine ⟨fun h3 => ?_, fun h3 => ?_⟩
        · rw [if_pos (by simpa using h3)]
          refine call_w (deliverR_c M hW { z.1 with o := z.1.o ++ [c] } z.2.1 hzk (by simp; omega) (by simp only; rw [hz0 (by omega)]; simp; omega)) [0, 1, 5, 3] (by simp (maxSteps := 4000000) only [push_cast, Int.reduceEq, Int.reduceBNe, Int.reduceBEq, Int.reduceAdd, Int.reduceSub, Int.reduceMul, Int.reduceNeg, Int.reduceLT, Int.reduceLE, Nat.reduceLT, Nat.reduceAdd, Nat.reduceSub, Nat.reduceMul, Nat.reduceEqDiff, Nat.reduceLeDiff, Nat.reduceBEq, reduceIte, reduceCtorEq, preD, St.work, RawM.v]) ?_
          rintro sv post ⟨rfl, rfl⟩
          simp (maxSteps := 4000000) only [push_cast, Int.reduceEq, Int.reduceBNe, Int.reduceBEq, Int.reduceAdd, Int.reduceSub, Int.reduceMul, Int.reduceNeg, Int.reduceLT, Int.reduceLE, Nat.reduceLT, Nat.reduceAdd, Nat.reduceSub, Nat.reduceMul, Nat.reduceEqDiff, Nat.reduceLeDiff, Nat.reduceBEq, reduceIte, reduceCtorEq, preD, St.work, RawM.v]
          exact Fin.w [0, 1, 5, 3] (.i .i64 _) _ (by simp (maxSteps := 4000000) only [push_cast, Int.reduceEq, Int.reduceBNe, Int.reduceBEq, Int.reduceAdd, Int.reduceSub, Int.reduceMul, Int.reduceNeg, Int.reduceLT, Int.reduceLE, Nat.reduceLT, Nat.reduceAdd, Nat.reduceSub, Nat.reduceMul, Nat.reduceEqDiff, Nat.reduceLeDiff, Nat.reduceBEq, reduceIte, reduceCtorEq, preW, St.work, RawM.v]) ⟨rfl, rfl⟩
        · rw [if_neg (by simp; omega)]
          exact Fin.w [0, 1, 5, 3] (.i .i64 0) _ (by simp (maxSteps := 4000000) only [push_cast, Int.reduceEq, Int.reduceBNe, Int.reduceBEq, Int.reduceAdd, Int.reduceSub, Int.reduceMul, Int.reduceNeg, Int.reduceLT, Int.reduceLE, Nat.reduceLT, Nat.reduceAdd, Nat.reduceSub, Nat.reduceMul, Nat.reduceEqDiff, Nat.reduceLeDiff, Nat.reduceBEq, reduceIte, reduceCtorEq, preW, St.work, RawM.v]) ⟨rfl, rfl⟩
    · rw [if_neg h1]
      refine ⟨by omega, ?_⟩
      refine (region_plan rfl Γok mixed (.pure 0 (.pure 1 (.pure 2 (.pure 3 (.pure 4 (.pure 5 (.pure 6 (.pure 7 (.pure 8 (.pure 9 (.pure 10 (.pure 11 (.pure 12 (.pure 13 (.pure 14 (.pure 15 (.pure 16 (.pure 17 (.pure 18 (.pure 19 (.pure 20 (.pure 21 (.pure 22 (.pure 23 .done)))))))))))))))))))))))) 88 rfl (by kernel_rfl) ?_)
      simp (maxSteps := 4000000) only [push_cast, Int.reduceEq, Int.reduceBNe, Int.reduceBEq, Int.reduceAdd, Int.reduceSub, Int.reduceMul, Int.reduceNeg, Int.reduceLT, Int.reduceLE, Nat.reduceLT, Nat.reduceAdd, Nat.reduceSub, Nat.reduceMul, Nat.reduceEqDiff, Nat.reduceLeDiff, Nat.reduceBEq, reduceIte, reduceCtorEq, List.length_append]
      unfold St.put1
      refine ⟨fun h3 => ?_, fun h3 => ?_⟩
      · rw [if_pos (by simpa using h3)]
        refine call_w (deliverR_c M hW { x with d := 2, o := x.o ++ [c] } g hg (by simp; omega) (by simp; omega)) [0, 1, 5, 3] (by simp (maxSteps := 4000000) only [push_cast, Int.reduceEq, Int.reduceBNe, Int.reduceBEq, Int.reduceAdd, Int.reduceSub, Int.reduceMul, Int.reduceNeg, Int.reduceLT, Int.reduceLE, Nat.reduceLT, Nat.reduceAdd, Nat.reduceSub, Nat.reduceMul, Nat.reduceEqDiff, Nat.reduceLeDiff, Nat.reduceBEq, reduceIte, reduceCtorEq, preD, St.work, RawM.v]) ?_
        rintro sv post ⟨rfl, rfl⟩
        simp (maxSteps := 4000000) only [push_cast, Int.reduceEq, Int.reduceBNe, Int.reduceBEq, Int.reduceAdd, Int.reduceSub, Int.reduceMul, Int.reduceNeg, Int.reduceLT, Int.reduceLE, Nat.reduceLT, Nat.reduceAdd, Nat.reduceSub, Nat.reduceMul, Nat.reduceEqDiff, Nat.reduceLeDiff, Nat.reduceBEq, reduceIte, reduceCtorEq, preD, St.work, RawM.v]
        exact Fin.w [0, 1, 5, 3] (.i .i64 _) _ (by simp (maxSteps := 4000000) only [push_cast, Int.reduceEq, Int.reduceBNe, Int.reduceBEq, Int.reduceAdd, Int.reduceSub, Int.reduceMul, Int.reduceNeg, Int.reduceLT, Int.reduceLE, Nat.reduceLT, Nat.reduceAdd, Nat.reduceSub, Nat.reduceMul, Nat.reduceEqDiff, Nat.reduceLeDiff, Nat.reduceBEq, reduceIte, reduceCtorEq, preW, St.work, RawM.v]) ⟨rfl, rfl⟩
      · rw [if_neg (by simp; omega)]
        exact Fin.w [0, 1, 5, 3] (.i .i64 0) _ (by simp (maxSteps := 4000000) only [push_cast, Int.reduceEq, Int.reduceBNe, Int.reduceBEq, Int.reduceAdd, Int.reduceSub, Int.reduceMul, Int.reduceNeg, Int.reduceLT, Int.reduceLE, Nat.reduceLT, Nat.reduceAdd, Nat.reduceSub, Nat.reduceMul, Nat.reduceEqDiff, Nat.reduceLeDiff, Nat.reduceBEq, reduceIte, reduceCtorEq, preW, St.work, RawM.v]) ⟨rfl, rfl⟩
end Go.Proofs.Ytdbhgnjpjpmioaa
