/- Texts joined, in order: Va, Vb, Vc, Vd, Ve, Vf, Vg. -/
import Derived.Test.YtmciepkhpocafaaGreatZSbRl
import Derived.Test.YtmciepkhpocafaaGreatZYfYk
/- Bytes are pushed back. -/
namespace Go.Proofs.YtmciepkhpocafaaGreat
open Go Go.Eng
set_option maxHeartbeats 4000000
set_option linter.unusedSimpArgs false
set_option linter.unusedVariables false
set_option maxRecDepth 100000

/-- A state in memory of its own; its Back may be written to. -/
def isOwnP (x : St) (sv : SV) (post : SS) : Prop := sv = .tup [.agg (x.cells .new .new (.tok 0 true)), .i .i64 x.bErr] ∧ post = ⟨[], [], [0], [], 1, 0, []⟩
theorem ownP_c (x : St) (hx : x.fits) : Contract Tryz.prog 151 nilSS [x.sv .old] (isOwnP x) := by
  obtain ⟨ho, hi, hk⟩ := id hx
  refine contract_ev Γok Tryz.func151 rfl rfl [] ?_
  simp (maxSteps := 4000000) only [push_cast, Int.reduceEq, Int.reduceBNe, Int.reduceBEq, Int.reduceAdd, Int.reduceSub, Int.reduceMul, Int.reduceNeg, Int.reduceLT, Int.reduceLE, Int.reduceToNat, Nat.reduceLT, Nat.reduceAdd, Nat.reduceSub, Nat.reduceMul, Nat.reduceEqDiff, Nat.reduceLeDiff, Nat.reduceBEq, reduceIte, reduceCtorEq, Tryz.f151, rg11, St.sv, St.cells]
  refine call_w (checkR_c x hx) [] (by simp (maxSteps := 4000000) only [push_cast, Int.reduceEq, Int.reduceBNe, Int.reduceBEq, Int.reduceAdd, Int.reduceSub, Int.reduceMul, Int.reduceNeg, Int.reduceLT, Int.reduceLE, Int.reduceToNat, Nat.reduceLT, Nat.reduceAdd, Nat.reduceSub, Nat.reduceMul, Nat.reduceEqDiff, Nat.reduceLeDiff, Nat.reduceBEq, reduceIte, reduceCtorEq, St.sv, St.cells]) ?_
  rintro sv post ⟨rfl, rfl⟩
  simp (maxSteps := 4000000) only [push_cast, Int.reduceEq, Int.reduceBNe, Int.reduceBEq, Int.reduceAdd, Int.reduceSub, Int.reduceMul, Int.reduceNeg, Int.reduceLT, Int.reduceLE, Int.reduceToNat, Nat.reduceLT, Nat.reduceAdd, Nat.reduceSub, Nat.reduceMul, Nat.reduceEqDiff, Nat.reduceLeDiff, Nat.reduceBEq, reduceIte, reduceCtorEq]
  refine ⟨fun h => ?_, fun h => ?_⟩
  · have e : x.bErr = 113 := by
      unfold St.bErr
      have hm : x.May := by
        by_cases hm : x.May
        · exact hm
        · rw [if_neg hm] at h; omega
      rw [if_pos hm, if_pos h.2]
    refine (region_plan rfl Γok mixed (.pure 0 (.pure 1 (.pure 3 (.pure 4 (.pure 6 (.pure 7 (.eff (.cons 2 [4, 7] (.pure 9 (.eff (.cons 5 [7] (.eff (.cons 8 [] (.eff (.cons 10 [] (.pure 11 (.eff (.cons 12 [] (.pure 13 (.eff (.cons 14 [] .done .nil))) .nil))) .nil)) .nil)) .nil))) .nil)))))))) 27 rfl (by kernel_rfl) ?_)
    simp (maxSteps := 4000000) only [push_cast, Int.reduceEq, Int.reduceBNe, Int.reduceBEq, Int.reduceAdd, Int.reduceSub, Int.reduceMul, Int.reduceNeg, Int.reduceLT, Int.reduceLE, Int.reduceToNat, Nat.reduceLT, Nat.reduceAdd, Nat.reduceSub, Nat.reduceMul, Nat.reduceEqDiff, Nat.reduceLeDiff, Nat.reduceBEq, reduceIte, reduceCtorEq]
    refine call_w (sclone_c x.o ho) [] (by simp (maxSteps := 4000000) only [push_cast, Int.reduceEq, Int.reduceBNe, Int.reduceBEq, Int.reduceAdd, Int.reduceSub, Int.reduceMul, Int.reduceNeg, Int.reduceLT, Int.reduceLE, Int.reduceToNat, Nat.reduceLT, Nat.reduceAdd, Nat.reduceSub, Nat.reduceMul, Nat.reduceEqDiff, Nat.reduceLeDiff, Nat.reduceBEq, reduceIte, reduceCtorEq]) ?_
    rintro sv post ⟨rfl, rfl⟩
    simp (maxSteps := 4000000) only [push_cast, Int.reduceEq, Int.reduceBNe, Int.reduceBEq, Int.reduceAdd, Int.reduceSub, Int.reduceMul, Int.reduceNeg, Int.reduceLT, Int.reduceLE, Int.reduceToNat, Nat.reduceLT, Nat.reduceAdd, Nat.reduceSub, Nat.reduceMul, Nat.reduceEqDiff, Nat.reduceLeDiff, Nat.reduceBEq, reduceIte, reduceCtorEq]
    refine call_w (sclone_c x.i hi) [] (by simp (maxSteps := 4000000) only [push_cast, Int.reduceEq, Int.reduceBNe, Int.reduceBEq, Int.reduceAdd, Int.reduceSub, Int.reduceMul, Int.reduceNeg, Int.reduceLT, Int.reduceLE, Int.reduceToNat, Nat.reduceLT, Nat.reduceAdd, Nat.reduceSub, Nat.reduceMul, Nat.reduceEqDiff, Nat.reduceLeDiff, Nat.reduceBEq, reduceIte, reduceCtorEq]) ?_
    rintro sv post ⟨rfl, rfl⟩
    simp (maxSteps := 4000000) only [push_cast, Int.reduceEq, Int.reduceBNe, Int.reduceBEq, Int.reduceAdd, Int.reduceSub, Int.reduceMul, Int.reduceNeg, Int.reduceLT, Int.reduceLE, Int.reduceToNat, Nat.reduceLT, Nat.reduceAdd, Nat.reduceSub, Nat.reduceMul, Nat.reduceEqDiff, Nat.reduceLeDiff, Nat.reduceBEq, reduceIte, reduceCtorEq]
    refine call_w (sclone_c x.k hk) [] (by simp (maxSteps := 4000000) only [push_cast, Int.reduceEq, Int.reduceBNe, Int.reduceBEq, Int.reduceAdd, Int.reduceSub, Int.reduceMul, Int.reduceNeg, Int.reduceLT, Int.reduceLE, Int.reduceToNat, Nat.reduceLT, Nat.reduceAdd, Nat.reduceSub, Nat.reduceMul, Nat.reduceEqDiff, Nat.reduceLeDiff, Nat.reduceBEq, reduceIte, reduceCtorEq]) ?_
    rintro sv post ⟨rfl, rfl⟩
    simp (maxSteps := 4000000) only [push_cast, Int.reduceEq, Int.reduceBNe, Int.reduceBEq, Int.reduceAdd, Int.reduceSub, Int.reduceMul, Int.reduceNeg, Int.reduceLT, Int.reduceLE, Int.reduceToNat, Nat.reduceLT, Nat.reduceAdd, Nat.reduceSub, Nat.reduceMul, Nat.reduceEqDiff, Nat.reduceLeDiff, Nat.reduceBEq, reduceIte, reduceCtorEq, rg11]
    exact Fin.w [4] (.tup [.agg (x.cells .new .new (.tok 0 true)), .i .i64 113]) ⟨[], [], [0], [], 1, 0, []⟩ (by simp (maxSteps := 4000000) only [push_cast, Int.reduceEq, Int.reduceBNe, Int.reduceBEq, Int.reduceAdd, Int.reduceSub, Int.reduceMul, Int.reduceNeg, Int.reduceLT, Int.reduceLE, Int.reduceToNat, Nat.reduceLT, Nat.reduceAdd, Nat.reduceSub, Nat.reduceMul, Nat.reduceEqDiff, Nat.reduceLeDiff, Nat.reduceBEq, reduceIte, reduceCtorEq, St.cells]) ⟨by rw [e], rfl⟩
  · have e : (if x.May then 0 else 51) = x.bErr := by
      unfold St.bErr
      by_cases hm : x.May
      · rw [if_pos hm, if_pos hm, if_neg]
        intro hc
        rcases h with h | h
        · rw [if_pos hm] at h; exact h rfl
        · rw [hc] at h; simp at h
      · rw [if_neg hm, if_neg hm]
    refine (region_plan rfl Γok mixed (.pure 0 (.pure 1 (.pure 3 (.pure 4 (.pure 6 (.pure 7 (.eff (.cons 2 [4, 7] (.pure 9 (.eff (.cons 5 [7] (.eff (.cons 8 [] (.eff (.cons 10 [] (.pure 11 (.eff (.cons 12 [] (.pure 13 (.eff (.cons 14 [] .done .nil))) .nil))) .nil)) .nil)) .nil))) .nil)))))))) 27 rfl (by kernel_rfl) ?_)
    simp (maxSteps := 4000000) only [push_cast, Int.reduceEq, Int.reduceBNe, Int.reduceBEq, Int.reduceAdd, Int.reduceSub, Int.reduceMul, Int.reduceNeg, Int.reduceLT, Int.reduceLE, Int.reduceToNat, Nat.reduceLT, Nat.reduceAdd, Nat.reduceSub, Nat.reduceMul, Nat.reduceEqDiff, Nat.reduceLeDiff, Nat.reduceBEq, reduceIte, reduceCtorEq]
    refine call_w (sclone_c x.o ho) [] (by simp (maxSteps := 4000000) only [push_cast, Int.reduceEq, Int.reduceBNe, Int.reduceBEq, Int.reduceAdd, Int.reduceSub, Int.reduceMul, Int.reduceNeg, Int.reduceLT, Int.reduceLE, Int.reduceToNat, Nat.reduceLT, Nat.reduceAdd, Nat.reduceSub, Nat.reduceMul, Nat.reduceEqDiff, Nat.reduceLeDiff, Nat.reduceBEq, reduceIte, reduceCtorEq]) ?_
    rintro sv post ⟨rfl, rfl⟩
    simp (maxSteps := 4000000) only [push_cast, Int.reduceEq, Int.reduceBNe, Int.reduceBEq, Int.reduceAdd, Int.reduceSub, Int.reduceMul, Int.reduceNeg, Int.reduceLT, Int.reduceLE, Int.reduceToNat, Nat.reduceLT, Nat.reduceAdd, Nat.reduceSub, Nat.reduceMul, Nat.reduceEqDiff, Nat.reduceLeDiff, Nat.reduceBEq, reduceIte, reduceCtorEq]
    refine call_w (sclone_c x.i hi) [] (by simp (maxSteps := 4000000) only [push_cast, Int.reduceEq, Int.reduceBNe, Int.reduceBEq, Int.reduceAdd, Int.reduceSub, Int.reduceMul, Int.reduceNeg, Int.reduceLT, Int.reduceLE, Int.reduceToNat, Nat.reduceLT, Nat.reduceAdd, Nat.reduceSub, Nat.reduceMul, Nat.reduceEqDiff, Nat.reduceLeDiff, Nat.reduceBEq, reduceIte, reduceCtorEq]) ?_
    rintro sv post ⟨rfl, rfl⟩
    simp (maxSteps := 4000000) only [push_cast, Int.reduceEq, Int.reduceBNe, Int.reduceBEq, Int.reduceAdd, Int.reduceSub, Int.reduceMul, Int.reduceNeg, Int.reduceLT, Int.reduceLE, Int.reduceToNat, Nat.reduceLT, Nat.reduceAdd, Nat.reduceSub, Nat.reduceMul, Nat.reduceEqDiff, Nat.reduceLeDiff, Nat.reduceBEq, reduceIte, reduceCtorEq]
    refine call_w (sclone_c x.k hk) [] (by simp (maxSteps := 4000000) only [push_cast, Int.reduceEq, Int.reduceBNe, Int.reduceBEq, Int.reduceAdd, Int.reduceSub, Int.reduceMul, Int.reduceNeg, Int.reduceLT, Int.reduceLE, Int.reduceToNat, Nat.reduceLT, Nat.reduceAdd, Nat.reduceSub, Nat.reduceMul, Nat.reduceEqDiff, Nat.reduceLeDiff, Nat.reduceBEq, reduceIte, reduceCtorEq]) ?_
    rintro sv post ⟨rfl, rfl⟩
    simp (maxSteps := 4000000) only [push_cast, Int.reduceEq, Int.reduceBNe, Int.reduceBEq, Int.reduceAdd, Int.reduceSub, Int.reduceMul, Int.reduceNeg, Int.reduceLT, Int.reduceLE, Int.reduceToNat, Nat.reduceLT, Nat.reduceAdd, Nat.reduceSub, Nat.reduceMul, Nat.reduceEqDiff, Nat.reduceLeDiff, Nat.reduceBEq, reduceIte, reduceCtorEq, rg11]
    exact Fin.w [4] (.tup [.agg (x.cells .new .new (.tok 0 true)), .i .i64 (if x.May then 0 else 51)]) ⟨[], [], [0], [], 1, 0, []⟩ (by simp (maxSteps := 4000000) only [push_cast, Int.reduceEq, Int.reduceBNe, Int.reduceBEq, Int.reduceAdd, Int.reduceSub, Int.reduceMul, Int.reduceNeg, Int.reduceLT, Int.reduceLE, Int.reduceToNat, Nat.reduceLT, Nat.reduceAdd, Nat.reduceSub, Nat.reduceMul, Nat.reduceEqDiff, Nat.reduceLeDiff, Nat.reduceBEq, reduceIte, reduceCtorEq, St.cells]) ⟨by rw [e], rfl⟩

/-- Bytes are pushed back, the last one first. -/
def St.UngetS (x : St) (b : List Int) : St × Int :=
  if x.bErr ≠ 0 then (x, x.bErr)
  else if x.r = false then (x, 65)
  else if x.d = 2 then (x, 112)
  else if 8 < x.k.length + b.length then (x, 31)
  else if b = [] then (x, 0)
  else ({ x with k := x.k ++ b.reverse, d := 1, en := false }, 0)
def isUng (r : St × Int) (sv : SV) (post : SS) : Prop := sv = .tup [r.1.sv .new, .i .i64 r.2] ∧ post = nilSS
theorem backward_c (b : List Int) : Contract Tryz.prog 152 nilSS [.ints .u8 .old b] (fun sv post => sv = .fn (.func 154) [] [.ptr 0 0] ∧ post = ⟨[], [(0, 22, [.ints .u8 .old b])], [], [], 1, 0, []⟩) := by
  refine contract_ev Γok Tryz.func152 rfl rfl [] ?_
  simp (maxSteps := 4000000) only [push_cast, Int.reduceEq, Int.reduceBNe, Int.reduceBEq, Int.reduceAdd, Int.reduceSub, Int.reduceMul, Int.reduceNeg, Int.reduceLT, Int.reduceLE, Int.reduceToNat, Nat.reduceLT, Nat.reduceAdd, Nat.reduceSub, Nat.reduceMul, Nat.reduceEqDiff, Nat.reduceLeDiff, Nat.reduceBEq, reduceIte, reduceCtorEq, Tryz.f152]
  exact Fin.w [0] (.fn (.func 154) [] [.ptr 0 0]) ⟨[], [(0, 22, [.ints .u8 .old b])], [], [], 1, 0, []⟩ (by simp (maxSteps := 4000000) only [push_cast, Int.reduceEq, Int.reduceBNe, Int.reduceBEq, Int.reduceAdd, Int.reduceSub, Int.reduceMul, Int.reduceNeg, Int.reduceLT, Int.reduceLE, Int.reduceToNat, Nat.reduceLT, Nat.reduceAdd, Nat.reduceSub, Nat.reduceMul, Nat.reduceEqDiff, Nat.reduceLeDiff, Nat.reduceBEq, reduceIte, reduceCtorEq]) ⟨rfl, rfl⟩
theorem ungetAll_c (x : St) (hx : x.fits) (c : Int) : Contract Tryz.prog 148 nilSS [x.sv .old, .ints .u8 .old [c]] (isUng (x.UngetS [c])) := by
  obtain ⟨ho, hi, hk⟩ := id hx
  refine contract_ev Γok Tryz.func148 rfl rfl [] ?_
  simp (maxSteps := 4000000) only [push_cast, Int.reduceEq, Int.reduceBNe, Int.reduceBEq, Int.reduceAdd, Int.reduceSub, Int.reduceMul, Int.reduceNeg, Int.reduceLT, Int.reduceLE, Int.reduceToNat, Nat.reduceLT, Nat.reduceAdd, Nat.reduceSub, Nat.reduceMul, Nat.reduceEqDiff, Nat.reduceLeDiff, Nat.reduceBEq, reduceIte, reduceCtorEq, Tryz.f148, rg11, St.sv, St.cells]
  refine call_w (ownP_c x hx) [] (by simp (maxSteps := 4000000) only [push_cast, Int.reduceEq, Int.reduceBNe, Int.reduceBEq, Int.reduceAdd, Int.reduceSub, Int.reduceMul, Int.reduceNeg, Int.reduceLT, Int.reduceLE, Int.reduceToNat, Nat.reduceLT, Nat.reduceAdd, Nat.reduceSub, Nat.reduceMul, Nat.reduceEqDiff, Nat.reduceLeDiff, Nat.reduceBEq, reduceIte, reduceCtorEq, St.sv, St.cells]) ?_
  rintro sv post ⟨rfl, rfl⟩
  simp (maxSteps := 4000000) only [push_cast, Int.reduceEq, Int.reduceBNe, Int.reduceBEq, Int.reduceAdd, Int.reduceSub, Int.reduceMul, Int.reduceNeg, Int.reduceLT, Int.reduceLE, Int.reduceToNat, Nat.reduceLT, Nat.reduceAdd, Nat.reduceSub, Nat.reduceMul, Nat.reduceEqDiff, Nat.reduceLeDiff, Nat.reduceBEq, reduceIte, reduceCtorEq, rg11, St.cells]
  have z1 : (([c].length : Nat) : Int) = 1 := rfl
  rw [wrap64 (n := (x.k.length : Int) + 1) (by omega) (by omega)]
  unfold St.UngetS
  refine ⟨fun h => ?_, fun h => ⟨fun h1 => ?_, fun h1 => ⟨fun h2 => ?_, fun h2 => ⟨fun h3 => ?_, fun h3 => ?_⟩⟩⟩⟩
  · rw [if_pos h]
    exact Fin.w [] (.tup [x.sv .new, .i .i64 _]) nilSS (by simp (maxSteps := 4000000) only [push_cast, Int.reduceEq, Int.reduceBNe, Int.reduceBEq, Int.reduceAdd, Int.reduceSub, Int.reduceMul, Int.reduceNeg, Int.reduceLT, Int.reduceLE, Int.reduceToNat, Nat.reduceLT, Nat.reduceAdd, Nat.reduceSub, Nat.reduceMul, Nat.reduceEqDiff, Nat.reduceLeDiff, Nat.reduceBEq, reduceIte, reduceCtorEq, St.sv, St.cells]) ⟨rfl, rfl⟩
  · rw [if_neg (by omega), if_pos h1]
    exact Fin.w [] (.tup [x.sv .new, .i .i64 65]) nilSS (by simp (maxSteps := 4000000) only [push_cast, Int.reduceEq, Int.reduceBNe, Int.reduceBEq, Int.reduceAdd, Int.reduceSub, Int.reduceMul, Int.reduceNeg, Int.reduceLT, Int.reduceLE, Int.reduceToNat, Nat.reduceLT, Nat.reduceAdd, Nat.reduceSub, Nat.reduceMul, Nat.reduceEqDiff, Nat.reduceLeDiff, Nat.reduceBEq, reduceIte, reduceCtorEq, St.sv, St.cells]) ⟨rfl, rfl⟩
  · rw [if_neg (by omega), if_neg (by simp [h1]), if_pos h2]
    exact Fin.w [] (.tup [x.sv .new, .i .i64 112]) nilSS (by simp (maxSteps := 4000000) only [push_cast, Int.reduceEq, Int.reduceBNe, Int.reduceBEq, Int.reduceAdd, Int.reduceSub, Int.reduceMul, Int.reduceNeg, Int.reduceLT, Int.reduceLE, Int.reduceToNat, Nat.reduceLT, Nat.reduceAdd, Nat.reduceSub, Nat.reduceMul, Nat.reduceEqDiff, Nat.reduceLeDiff, Nat.reduceBEq, reduceIte, reduceCtorEq, St.sv, St.cells]) ⟨rfl, rfl⟩
  · rw [if_neg (by omega), if_neg (by simp [h1]), if_neg h2, if_pos (by simp; omega)]
    exact Fin.w [] (.tup [x.sv .new, .i .i64 31]) nilSS (by simp (maxSteps := 4000000) only [push_cast, Int.reduceEq, Int.reduceBNe, Int.reduceBEq, Int.reduceAdd, Int.reduceSub, Int.reduceMul, Int.reduceNeg, Int.reduceLT, Int.reduceLE, Int.reduceToNat, Nat.reduceLT, Nat.reduceAdd, Nat.reduceSub, Nat.reduceMul, Nat.reduceEqDiff, Nat.reduceLeDiff, Nat.reduceBEq, reduceIte, reduceCtorEq, St.sv, St.cells]) ⟨rfl, rfl⟩
  rw [if_neg (by omega), if_neg (by simp [h1]), if_neg h2, if_neg (by simp; omega), if_neg (by simp)]
  refine call_w (backward_c [c]) [] (by simp (maxSteps := 4000000) only [push_cast, Int.reduceEq, Int.reduceBNe, Int.reduceBEq, Int.reduceAdd, Int.reduceSub, Int.reduceMul, Int.reduceNeg, Int.reduceLT, Int.reduceLE, Int.reduceToNat, Nat.reduceLT, Nat.reduceAdd, Nat.reduceSub, Nat.reduceMul, Nat.reduceEqDiff, Nat.reduceLeDiff, Nat.reduceBEq, reduceIte, reduceCtorEq]) ?_
  rintro sv post ⟨rfl, rfl⟩
  simp (maxSteps := 4000000) only [push_cast, Int.reduceEq, Int.reduceBNe, Int.reduceBEq, Int.reduceAdd, Int.reduceSub, Int.reduceMul, Int.reduceNeg, Int.reduceLT, Int.reduceLE, Int.reduceToNat, Nat.reduceLT, Nat.reduceAdd, Nat.reduceSub, Nat.reduceMul, Nat.reduceEqDiff, Nat.reduceLeDiff, Nat.reduceBEq, reduceIte, reduceCtorEq]
  refine rf_ok Γok rfl [3] (by simp (maxSteps := 4000000) only [push_cast, Int.reduceEq, Int.reduceBNe, Int.reduceBEq, Int.reduceAdd, Int.reduceSub, Int.reduceMul, Int.reduceNeg, Int.reduceLT, Int.reduceLE, Int.reduceToNat, Nat.reduceLT, Nat.reduceAdd, Nat.reduceSub, Nat.reduceMul, Nat.reduceEqDiff, Nat.reduceLeDiff, Nat.reduceBEq, reduceIte, reduceCtorEq]; rfl) (by simp (maxSteps := 4000000) only [push_cast, Int.reduceEq, Int.reduceBNe, Int.reduceBEq, Int.reduceAdd, Int.reduceSub, Int.reduceMul, Int.reduceNeg, Int.reduceLT, Int.reduceLE, Int.reduceToNat, Nat.reduceLT, Nat.reduceAdd, Nat.reduceSub, Nat.reduceMul, Nat.reduceEqDiff, Nat.reduceLeDiff, Nat.reduceBEq, reduceIte, reduceCtorEq]) Tryz.func154 rfl rfl rfl ?_
  intro E1 xf l hk1 bρ bθ hden hps has hbo
  refine evCode_sound Γok _ _ _ ?_
  simp (maxSteps := 4000000) only [push_cast, Int.reduceEq, Int.reduceBNe, Int.reduceBEq, Int.reduceAdd, Int.reduceSub, Int.reduceMul, Int.reduceNeg, Int.reduceLT, Int.reduceLE, Int.reduceToNat, Nat.reduceLT, Nat.reduceAdd, Nat.reduceSub, Nat.reduceMul, Nat.reduceEqDiff, Nat.reduceLeDiff, Nat.reduceBEq, reduceIte, reduceCtorEq, Tryz.f154, List.length_cons, List.length_nil]
  clear hk1
  have w0 : IntKind.i64.wrap (1 - 1) = 0 := rfl
  have w1 : IntKind.i64.wrap (0 - 1) = -1 := rfl
  have g0 : [c].getD (Int.toNat 0) 0 = c := rfl
  have w2 : IntKind.i64.wrap 0 = 0 := rfl
  refine loop_unroll 2 ?_
  simp (maxSteps := 4000000) only [push_cast, Int.reduceEq, Int.reduceBNe, Int.reduceBEq, Int.reduceAdd, Int.reduceSub, Int.reduceMul, Int.reduceNeg, Int.reduceLT, Int.reduceLE, Int.reduceToNat, Nat.reduceLT, Nat.reduceAdd, Nat.reduceSub, Nat.reduceMul, Nat.reduceEqDiff, Nat.reduceLeDiff, Nat.reduceBEq, reduceIte, reduceCtorEq, w0, w2]
  refine evCode_sound Γok _ _ _ ?_
  simp (maxSteps := 4000000) only [push_cast, Int.reduceEq, Int.reduceBNe, Int.reduceBEq, Int.reduceAdd, Int.reduceSub, Int.reduceMul, Int.reduceNeg, Int.reduceLT, Int.reduceLE, Int.reduceToNat, Nat.reduceLT, Nat.reduceAdd, Nat.reduceSub, Nat.reduceMul, Nat.reduceEqDiff, Nat.reduceLeDiff, Nat.reduceBEq, reduceIte, reduceCtorEq, w0, w2]
  refine yield_ok Γok (l := l) bρ bθ hden 6 [] 6 rfl ?_
  clear hden
  simp (maxSteps := 4000000) only [push_cast, Int.reduceEq, Int.reduceBNe, Int.reduceBEq, Int.reduceAdd, Int.reduceSub, Int.reduceMul, Int.reduceNeg, Int.reduceLT, Int.reduceLE, Int.reduceToNat, Nat.reduceLT, Nat.reduceAdd, Nat.reduceSub, Nat.reduceMul, Nat.reduceEqDiff, Nat.reduceLeDiff, Nat.reduceBEq, reduceIte, reduceCtorEq, hps, has, g0]
  refine evCode_sound Γok _ _ _ ?_
  simp (maxSteps := 4000000) only [push_cast, Int.reduceEq, Int.reduceBNe, Int.reduceBEq, Int.reduceAdd, Int.reduceSub, Int.reduceMul, Int.reduceNeg, Int.reduceLT, Int.reduceLE, Int.reduceToNat, Nat.reduceLT, Nat.reduceAdd, Nat.reduceSub, Nat.reduceMul, Nat.reduceEqDiff, Nat.reduceLeDiff, Nat.reduceBEq, reduceIte, reduceCtorEq, hbo]
  refine evCode_sound Γok _ _ _ ?_
  simp (maxSteps := 4000000) only [push_cast, Int.reduceEq, Int.reduceBNe, Int.reduceBEq, Int.reduceAdd, Int.reduceSub, Int.reduceMul, Int.reduceNeg, Int.reduceLT, Int.reduceLE, Int.reduceToNat, Nat.reduceLT, Nat.reduceAdd, Nat.reduceSub, Nat.reduceMul, Nat.reduceEqDiff, Nat.reduceLeDiff, Nat.reduceBEq, reduceIte, reduceCtorEq, w0, w1]
  have gc : [c].getD 0 0 = c := rfl
  rw [gc]
  refine ⟨by omega, evCode_sound Γok _ _ _ ?_⟩
  have w3 : IntKind.i64.wrap (-1) = -1 := rfl
  simp (maxSteps := 4000000) only [push_cast, Int.reduceEq, Int.reduceBNe, Int.reduceBEq, Int.reduceAdd, Int.reduceSub, Int.reduceMul, Int.reduceNeg, Int.reduceLT, Int.reduceLE, Int.reduceToNat, Nat.reduceLT, Nat.reduceAdd, Nat.reduceSub, Nat.reduceMul, Nat.reduceEqDiff, Nat.reduceLeDiff, Nat.reduceBEq, reduceIte, reduceCtorEq, w3]
  refine ⟨.ready, none, by simp, .inl rfl, ?_⟩
  simp (maxSteps := 4000000) only [push_cast, Int.reduceEq, Int.reduceBNe, Int.reduceBEq, Int.reduceAdd, Int.reduceSub, Int.reduceMul, Int.reduceNeg, Int.reduceLT, Int.reduceLE, Int.reduceToNat, Nat.reduceLT, Nat.reduceAdd, Nat.reduceSub, Nat.reduceMul, Nat.reduceEqDiff, Nat.reduceLeDiff, Nat.reduceBEq, reduceIte, reduceCtorEq, rg11]
  refine ⟨5, .inl rfl, ?_⟩
  simp (maxSteps := 4000000) only [push_cast, Int.reduceEq, Int.reduceBNe, Int.reduceBEq, Int.reduceAdd, Int.reduceSub, Int.reduceMul, Int.reduceNeg, Int.reduceLT, Int.reduceLE, Int.reduceToNat, Nat.reduceLT, Nat.reduceAdd, Nat.reduceSub, Nat.reduceMul, Nat.reduceEqDiff, Nat.reduceLeDiff, Nat.reduceBEq, reduceIte, reduceCtorEq]
  exact Fin.w [] (.tup [({ x with k := x.k ++ [c].reverse, d := 1, en := false } : St).sv .new, .i .i64 0]) nilSS (by simp (maxSteps := 4000000) only [push_cast, Int.reduceEq, Int.reduceBNe, Int.reduceBEq, Int.reduceAdd, Int.reduceSub, Int.reduceMul, Int.reduceNeg, Int.reduceLT, Int.reduceLE, Int.reduceToNat, Nat.reduceLT, Nat.reduceAdd, Nat.reduceSub, Nat.reduceMul, Nat.reduceEqDiff, Nat.reduceLeDiff, Nat.reduceBEq, reduceIte, reduceCtorEq, St.sv, St.cells, List.reverse_cons, List.reverse_nil]) ⟨rfl, rfl⟩
theorem unget_c (x : St) (hx : x.fits) (c : Int) : Contract Tryz.prog 146 nilSS [x.sv .old, .i .u8 c] (isUng (x.UngetS [c])) := by
  refine contract_ev Γok Tryz.func146 rfl rfl [] ?_
  simp (maxSteps := 4000000) only [push_cast, Int.reduceEq, Int.reduceBNe, Int.reduceBEq, Int.reduceAdd, Int.reduceSub, Int.reduceMul, Int.reduceNeg, Int.reduceLT, Int.reduceLE, Int.reduceToNat, Nat.reduceLT, Nat.reduceAdd, Nat.reduceSub, Nat.reduceMul, Nat.reduceEqDiff, Nat.reduceLeDiff, Nat.reduceBEq, reduceIte, reduceCtorEq, Tryz.f146, rg11, St.sv, St.cells]
  refine call_w (ungetAll_c x hx c) [] (by simp (maxSteps := 4000000) only [push_cast, Int.reduceEq, Int.reduceBNe, Int.reduceBEq, Int.reduceAdd, Int.reduceSub, Int.reduceMul, Int.reduceNeg, Int.reduceLT, Int.reduceLE, Int.reduceToNat, Nat.reduceLT, Nat.reduceAdd, Nat.reduceSub, Nat.reduceMul, Nat.reduceEqDiff, Nat.reduceLeDiff, Nat.reduceBEq, reduceIte, reduceCtorEq, St.sv, St.cells]) ?_
  rintro sv post ⟨rfl, rfl⟩
  simp (maxSteps := 4000000) only [push_cast, Int.reduceEq, Int.reduceBNe, Int.reduceBEq, Int.reduceAdd, Int.reduceSub, Int.reduceMul, Int.reduceNeg, Int.reduceLT, Int.reduceLE, Int.reduceToNat, Nat.reduceLT, Nat.reduceAdd, Nat.reduceSub, Nat.reduceMul, Nat.reduceEqDiff, Nat.reduceLeDiff, Nat.reduceBEq, reduceIte, reduceCtorEq, St.sv, St.cells, rg11]
  exact Fin.w [] (.tup [(x.UngetS [c]).1.sv .new, .i .i64 _]) nilSS (by simp (maxSteps := 4000000) only [push_cast, Int.reduceEq, Int.reduceBNe, Int.reduceBEq, Int.reduceAdd, Int.reduceSub, Int.reduceMul, Int.reduceNeg, Int.reduceLT, Int.reduceLE, Int.reduceToNat, Nat.reduceLT, Nat.reduceAdd, Nat.reduceSub, Nat.reduceMul, Nat.reduceEqDiff, Nat.reduceLeDiff, Nat.reduceBEq, reduceIte, reduceCtorEq, St.sv, St.cells]) ⟨rfl, rfl⟩
end Go.Proofs.YtmciepkhpocafaaGreat
/- A stream as a source: the plain law. -/
namespace Go.Proofs.YtmciepkhpocafaaGreat
open Go Go.Eng
set_option maxHeartbeats 4000000
set_option linter.unusedSimpArgs false
set_option linter.unusedVariables false
set_option maxRecDepth 100000

def isByte (c : Int) : Prop := 0 ≤ c ∧ c ≤ 255
/-- What a Raw tells are bytes. -/
def RawM.By (M : RawM) : Prop := ∀ g n, M.ok g → 1 ≤ n → n ≤ 1048576 → ∀ c, c ∈ (M.rd g n).2.1 → isByte c
theorem someV_by {M : RawM} (hR : M.Rd) (hB : M.By) (n : Int) (h1 : 1 ≤ n) (h2 : n ≤ 1048576) : ∀ (k : Nat) (g : M.σ), M.ok g → ∀ c, c ∈ (M.some n k g).2.1 → isByte c
  | 0, g, _, c, h => by simp [RawM.some] at h
  | k + 1, g, hg, c, h => by
    have hk := hR.keep g n hg h1 h2
    simp only [RawM.some] at h
    split at h
    · split at h
      · simp at h
      · exact someV_by hR hB n h1 h2 k _ hk c h
    · split at h
      · simp at h
      · split at h
        · simp at h
        · exact hB g n hg h1 h2 c h
/-- A stream and its Raw, as a source. -/
structure LOK (M : RawM) (s : St × M.σ) : Prop where
  fits : s.1.fits
  ok : M.ok s.2
  bi : ∀ c, c ∈ s.1.i → isByte c
  bk : ∀ c, c ∈ s.1.k → isByte c
def nxS (M : RawM) (s : St × M.σ) : St × M.σ := ((s.1.Get M s.2).1, (s.1.Get M s.2).2.1)
def nxC (M : RawM) (s : St × M.σ) : UInt8 := UInt8.ofNat (s.1.Get M s.2).2.2.1.toNat
def nxE (M : RawM) (s : St × M.σ) : Int := (s.1.Get M s.2).2.2.2
theorem getD_by {l : List Int} (h : ∀ c, c ∈ l → isByte c) (n : Nat) : isByte (l.getD n 0) := by
  by_cases hn : n < l.length
  · have : l.getD n 0 = l[n] := by simp [List.getD, hn]
    rw [this]
    exact h _ (List.getElem_mem hn)
  · have : l.getD n 0 = 0 := by rw [List.getD_eq_getElem?_getD, List.getElem?_eq_none (by omega)]; rfl
    rw [this]
    exact ⟨by omega, by omega⟩
theorem Get_by {M : RawM} (hR : M.Rd) (hB : M.By) {s : St × M.σ} (h : LOK M s) : isByte (s.1.Get M s.2).2.2.1 ∧ (∀ c, c ∈ (s.1.Get M s.2).1.i → isByte c) ∧ (∀ c, c ∈ (s.1.Get M s.2).1.k → isByte c) := by
  obtain ⟨x, g⟩ := s
  obtain ⟨hf, hg, bi, bk⟩ := h
  simp only at hf hg bi bk ⊢
  have z : isByte 0 := ⟨by omega, by omega⟩
  unfold St.Get
  split
  · exact ⟨z, bi, bk⟩
  · rename_i hb
    obtain ⟨hm, hc⟩ := bErr_zero (by omega : x.bErr = 0)
    obtain ⟨a1, a2⟩ := ask_rng (May.bd hm).1
    have hsome := someV_by hR hB (askV x.m x.s) a1 (by omega) 8192 g hg
    have hfill : (∀ c, c ∈ (({ x with d := 1 } : St).fill M g).1.i → isByte c) ∧ (∀ c, c ∈ (({ x with d := 1 } : St).fill M g).1.k → isByte c) := by
      unfold St.fill
      split
      · exact ⟨bi, bk⟩
      · split
        · exact ⟨bi, bk⟩
        · refine ⟨fun c hc => ?_, bk⟩
          rcases List.mem_append.1 hc with hc | hc
          · exact bi c hc
          · exact hsome c hc
    unfold St.get
    split
    · exact ⟨z, bi, bk⟩
    · split
      · exact ⟨z, bi, bk⟩
      · split
        · exact ⟨getD_by bk _, bi, fun c hc => bk c (List.mem_of_mem_take hc)⟩
        · split
          · exact ⟨getD_by bi _, fun c hc => bi c (List.mem_of_mem_drop hc), bk⟩
          · dsimp only
            split
            · exact ⟨z, hfill.1, hfill.2⟩
            · exact ⟨getD_by hfill.1 _, fun c hc => hfill.1 c (List.mem_of_mem_drop hc), hfill.2⟩
theorem nx_byte {M : RawM} (hR : M.Rd) (hB : M.By) {s : St × M.σ} (h : LOK M s) : ((nxC M s).toNat : Int) = (s.1.Get M s.2).2.2.1 := by
  obtain ⟨h1, h2⟩ := (Get_by hR hB h).1
  unfold nxC
  rw [UInt8.toNat_ofNat']
  omega
theorem nx_ok {M : RawM} (hR : M.Rd) (hB : M.By) {s : St × M.σ} (h : LOK M s) : LOK M (nxS M s) := by
  obtain ⟨_, h2, h3⟩ := Get_by hR hB h
  exact ⟨Get_fits M s.1 s.2 h.fits, Get_ok M hR s.1 s.2 h.ok, h2, h3⟩
def bkS {M : RawM} (s : St × M.σ) (c : UInt8) : St × M.σ := ((s.1.UngetS [(c.toNat : Int)]).1, s.2)
theorem bk_ok {M : RawM} {s : St × M.σ} (h : LOK M s) (c : UInt8) : LOK M (bkS s c) := by
  obtain ⟨x, g⟩ := s
  obtain ⟨hf, hg, bi, bk⟩ := h
  have hc := u8_lt c
  have key : (x.UngetS [(c.toNat : Int)]).1.o = x.o ∧ (x.UngetS [(c.toNat : Int)]).1.i = x.i ∧ ((x.UngetS [(c.toNat : Int)]).1.k = x.k ∨ ((x.UngetS [(c.toNat : Int)]).1.k = x.k ++ [(c.toNat : Int)] ∧ x.k.length ≤ 8)) := by
    unfold St.UngetS
    split
    · exact ⟨rfl, rfl, .inl rfl⟩
    · split
      · exact ⟨rfl, rfl, .inl rfl⟩
      · split
        · exact ⟨rfl, rfl, .inl rfl⟩
        · split
          · exact ⟨rfl, rfl, .inl rfl⟩
          · rename_i h8
            split
            · exact ⟨rfl, rfl, .inl rfl⟩
            · exact ⟨rfl, rfl, .inr ⟨by simp, by simp at h8; omega⟩⟩
  obtain ⟨k1, k2, k3⟩ := key
  simp only at hf bi bk
  refine ⟨⟨by show (x.UngetS _).1.o.length ≤ _; rw [k1]; exact hf.o, by show (x.UngetS _).1.i.length ≤ _; rw [k2]; exact hf.i, ?_⟩, hg, ?_, ?_⟩
  · show (x.UngetS _).1.k.length ≤ _
    rcases k3 with k3 | ⟨k3, k4⟩
    · rw [k3]; exact hf.k
    · rw [k3]; simp; omega
  · show ∀ c', c' ∈ (x.UngetS _).1.i → _
    rw [k2]; exact bi
  · show ∀ c', c' ∈ (x.UngetS _).1.k → _
    rcases k3 with k3 | ⟨k3, k4⟩
    · rw [k3]; exact bk
    · rw [k3]
      intro c' hc'
      rcases List.mem_append.1 hc' with h | h
      · exact bk c' h
      · rw [List.mem_singleton.1 h]; exact ⟨by omega, by omega⟩
/-- What is taken: the source, the bytes, the error that was told last. -/
def takeL (M : RawM) (fits : UInt8 → Bool) : Nat → St × M.σ → (St × M.σ) × List UInt8 × Int
  | 0, s => (s, [], 0)
  | n + 1, s => if nxE M s ≠ 0 then (nxS M s, [], nxE M s)
    else if fits (nxC M s) then ((takeL M fits n (nxS M s)).1, nxC M s :: (takeL M fits n (nxS M s)).2.1, (takeL M fits n (nxS M s)).2.2)
    else (bkS (nxS M s) (nxC M s), [], 0)
theorem takeL_ok {M : RawM} (hR : M.Rd) (hB : M.By) (fits : UInt8 → Bool) : ∀ (n : Nat) (s : St × M.σ), LOK M s → LOK M (takeL M fits n s).1 ∧ (takeL M fits n s).2.1.length ≤ n
  | 0, s, h => ⟨h, Nat.le_refl _⟩
  | n + 1, s, h => by
    have h1 := nx_ok hR hB h
    simp only [takeL]
    split
    · exact ⟨h1, Nat.zero_le _⟩
    · split
      · obtain ⟨q1, q2⟩ := takeL_ok hR hB fits n _ h1
        exact ⟨q1, by simp only [List.length_cons]; omega⟩
      · exact ⟨bk_ok h1 _, Nat.zero_le _⟩
/-- A source that comes to its end. -/
structure Ends (M : RawM) (mu : St × M.σ → Nat) : Prop where
  less : ∀ s, LOK M s → nxE M s = 0 → mu (nxS M s) < mu s
/-- Blanks are passed. -/
def blanksL (M : RawM) : Nat → St × M.σ → (St × M.σ) × Int
  | 0, s => (s, 0)
  | f + 1, s => if (takeL M isBlank 1 s).2.1 = [] then ((takeL M isBlank 1 s).1, (takeL M isBlank 1 s).2.2) else blanksL M f (takeL M isBlank 1 s).1
theorem blanksL_ok {M : RawM} (hR : M.Rd) (hB : M.By) : ∀ (f : Nat) (s : St × M.σ), LOK M s → LOK M (blanksL M f s).1
  | 0, s, h => h
  | f + 1, s, h => by
    have h1 := (takeL_ok hR hB isBlank 1 s h).1
    simp only [blanksL]
    split
    · exact h1
    · exact blanksL_ok hR hB f _ h1
theorem take1_less {M : RawM} {mu : St × M.σ → Nat} (hE : Ends M mu) {s : St × M.σ} (h : LOK M s) (hne : (takeL M isBlank 1 s).2.1 ≠ []) : mu (takeL M isBlank 1 s).1 < mu s ∧ (takeL M isBlank 1 s).2.2 = 0 := by
  simp only [takeL] at hne ⊢
  split
  · rename_i h1; rw [if_pos h1] at hne; exact absurd rfl hne
  · rename_i h1
    rw [if_neg h1] at hne
    split
    · exact ⟨hE.less s h (by simpa using h1), rfl⟩
    · rename_i h2; rw [if_neg h2] at hne; exact absurd rfl hne
end Go.Proofs.YtmciepkhpocafaaGreat
/- A stream as a source: its bytes; what is taken of it. -/
namespace Go.Proofs.YtmciepkhpocafaaGreat
open Go Go.Eng
set_option maxHeartbeats 4000000
set_option linter.unusedSimpArgs false
set_option linter.unusedVariables false
set_option maxRecDepth 100000

def liveC (M : RawM) (x : St) : List SV := [.b x.r, .b x.w, .i .i64 x.m, .i .i64 x.s, .ints .u8 .new x.o, .ints .u8 .new x.i, .ints .u8 .new x.k, .i .i64 x.d, .b x.en, .b x.bad, .b x.cl, M.v]
theorem live_W (M : RawM) (x : St) (f : Nat → Nat) : WL false f (liveC M x) (liveC M x) = True := by
  apply propext
  refine ⟨fun _ => trivial, fun _ => ?_⟩
  simp (maxSteps := 4000000) only [push_cast, Int.reduceEq, Int.reduceBNe, Int.reduceBEq, Int.reduceAdd, Int.reduceSub, Int.reduceMul, Int.reduceNeg, Int.reduceLT, Int.reduceLE, Int.reduceToNat, Nat.reduceLT, Nat.reduceAdd, Nat.reduceSub, Nat.reduceMul, Nat.reduceEqDiff, Nat.reduceLeDiff, Nat.reduceBEq, reduceIte, reduceCtorEq, liveC, RawM.v]
theorem live_ren (M : RawM) (x : St) (f : Nat → Nat) : renL f (liveC M x) = liveC M x := by
  simp (maxSteps := 4000000) only [push_cast, Int.reduceEq, Int.reduceBNe, Int.reduceBEq, Int.reduceAdd, Int.reduceSub, Int.reduceMul, Int.reduceNeg, Int.reduceLT, Int.reduceLE, Int.reduceToNat, Nat.reduceLT, Nat.reduceAdd, Nat.reduceSub, Nat.reduceMul, Nat.reduceEqDiff, Nat.reduceLeDiff, Nat.reduceBEq, reduceIte, reduceCtorEq, liveC, RawM.v]
def liveS (M : RawM) (s : St × M.σ) : SS := ⟨[], [(0, 97, liveC M s.1)], [], [(1, M.res s.2)], 2, 2, []⟩
theorem nextL_c (M : RawM) (hR : M.Rd) (hB : M.By) (s : St × M.σ) (h : LOK M s) : Contract Tryz.prog 145 (liveS M s) [.ptr 0 0] (fun sv post => sv = .tup [.i .u8 ((nxC M s).toNat : Int), .i .i64 (nxE M s)] ∧ post = liveS M (nxS M s)) := by
  rw [nx_byte hR hB h]
  refine contract_ev Γok Tryz.func145 rfl rfl [] ?_
  simp (maxSteps := 4000000) only [push_cast, Int.reduceEq, Int.reduceBNe, Int.reduceBEq, Int.reduceAdd, Int.reduceSub, Int.reduceMul, Int.reduceNeg, Int.reduceLT, Int.reduceLE, Int.reduceToNat, Nat.reduceLT, Nat.reduceAdd, Nat.reduceSub, Nat.reduceMul, Nat.reduceEqDiff, Nat.reduceLeDiff, Nat.reduceBEq, reduceIte, reduceCtorEq, Tryz.f145, liveS, liveC, RawM.v]
  refine (region_plan rfl Γok mixed (.pure 0 (.pure 1 (.pure 2 (.pure 3 (.pure 4 (.pure 5 (.pure 6 (.pure 7 (.eff (.cons 8 [] (.pure 9 (.pure 10 (.pure 11 (.pure 12 (.eff (.cons 13 [3, 7] (.eff (.cons 14 [] (.pure 15 (.pure 16 .done)) .nil)) .nil)))))) (.cons 13 [3, 7] (.eff (.cons 8 [] (.pure 9 (.pure 10 (.pure 11 (.pure 12 (.eff (.cons 14 [] (.pure 15 (.pure 16 .done)) .nil)))))) .nil)) .nil))))))))))) 26 rfl (by kernel_rfl) ?_)
  simp (maxSteps := 4000000) only [push_cast, Int.reduceEq, Int.reduceBNe, Int.reduceBEq, Int.reduceAdd, Int.reduceSub, Int.reduceMul, Int.reduceNeg, Int.reduceLT, Int.reduceLE, Int.reduceToNat, Nat.reduceLT, Nat.reduceAdd, Nat.reduceSub, Nat.reduceMul, Nat.reduceEqDiff, Nat.reduceLeDiff, Nat.reduceBEq, reduceIte, reduceCtorEq, rg11]
  and_intros
  all_goals
    refine call_w (GetR_c M hR s.1 s.2 h.ok h.fits) [1] (by simp (maxSteps := 4000000) only [push_cast, Int.reduceEq, Int.reduceBNe, Int.reduceBEq, Int.reduceAdd, Int.reduceSub, Int.reduceMul, Int.reduceNeg, Int.reduceLT, Int.reduceLE, Int.reduceToNat, Nat.reduceLT, Nat.reduceAdd, Nat.reduceSub, Nat.reduceMul, Nat.reduceEqDiff, Nat.reduceLeDiff, Nat.reduceBEq, reduceIte, reduceCtorEq, St.sv, St.cells, RawM.v]) ?_
    rintro sv post ⟨rfl, rfl⟩
    simp (maxSteps := 4000000) only [push_cast, Int.reduceEq, Int.reduceBNe, Int.reduceBEq, Int.reduceAdd, Int.reduceSub, Int.reduceMul, Int.reduceNeg, Int.reduceLT, Int.reduceLE, Int.reduceToNat, Nat.reduceLT, Nat.reduceAdd, Nat.reduceSub, Nat.reduceMul, Nat.reduceEqDiff, Nat.reduceLeDiff, Nat.reduceBEq, reduceIte, reduceCtorEq, St.sv, St.cells, rg11]
    exact Fin.w [0, 1] (.tup [.i .u8 (s.1.Get M s.2).2.2.1, .i .i64 (s.1.Get M s.2).2.2.2]) (liveS M (nxS M s)) (by simp (maxSteps := 4000000) only [push_cast, Int.reduceEq, Int.reduceBNe, Int.reduceBEq, Int.reduceAdd, Int.reduceSub, Int.reduceMul, Int.reduceNeg, Int.reduceLT, Int.reduceLE, Int.reduceToNat, Nat.reduceLT, Nat.reduceAdd, Nat.reduceSub, Nat.reduceMul, Nat.reduceEqDiff, Nat.reduceLeDiff, Nat.reduceBEq, reduceIte, reduceCtorEq, liveS, liveC, RawM.v, nxS]) ⟨rfl, rfl⟩
theorem backL_c (M : RawM) (s : St × M.σ) (h : LOK M s) (c : UInt8) : Contract Tryz.prog 144 (liveS M s) [.ptr 0 0, .i .u8 (c.toNat : Int)] (fun sv post => sv = .tup [] ∧ post = liveS M (bkS s c)) := by
  refine contract_ev Γok Tryz.func144 rfl rfl [] ?_
  simp (maxSteps := 4000000) only [push_cast, Int.reduceEq, Int.reduceBNe, Int.reduceBEq, Int.reduceAdd, Int.reduceSub, Int.reduceMul, Int.reduceNeg, Int.reduceLT, Int.reduceLE, Int.reduceToNat, Nat.reduceLT, Nat.reduceAdd, Nat.reduceSub, Nat.reduceMul, Nat.reduceEqDiff, Nat.reduceLeDiff, Nat.reduceBEq, reduceIte, reduceCtorEq, Tryz.f144, liveS, liveC, RawM.v, rg11]
  refine call_w (unget_c s.1 h.fits c.toNat) [] (by simp (maxSteps := 4000000) only [push_cast, Int.reduceEq, Int.reduceBNe, Int.reduceBEq, Int.reduceAdd, Int.reduceSub, Int.reduceMul, Int.reduceNeg, Int.reduceLT, Int.reduceLE, Int.reduceToNat, Nat.reduceLT, Nat.reduceAdd, Nat.reduceSub, Nat.reduceMul, Nat.reduceEqDiff, Nat.reduceLeDiff, Nat.reduceBEq, reduceIte, reduceCtorEq, St.sv, St.cells]) ?_
  rintro sv post ⟨rfl, rfl⟩
  simp (maxSteps := 4000000) only [push_cast, Int.reduceEq, Int.reduceBNe, Int.reduceBEq, Int.reduceAdd, Int.reduceSub, Int.reduceMul, Int.reduceNeg, Int.reduceLT, Int.reduceLE, Int.reduceToNat, Nat.reduceLT, Nat.reduceAdd, Nat.reduceSub, Nat.reduceMul, Nat.reduceEqDiff, Nat.reduceLeDiff, Nat.reduceBEq, reduceIte, reduceCtorEq, St.sv, St.cells, rg11]
  exact Fin.w [0, 1] (.tup []) (liveS M (bkS s c)) (by simp (maxSteps := 4000000) only [push_cast, Int.reduceEq, Int.reduceBNe, Int.reduceBEq, Int.reduceAdd, Int.reduceSub, Int.reduceMul, Int.reduceNeg, Int.reduceLT, Int.reduceLE, Int.reduceToNat, Nat.reduceLT, Nat.reduceAdd, Nat.reduceSub, Nat.reduceMul, Nat.reduceEqDiff, Nat.reduceLeDiff, Nat.reduceBEq, reduceIte, reduceCtorEq, liveS, liveC, RawM.v, bkS]) ⟨rfl, rfl⟩
theorem nextLM : MethodIs Tryz.prog 95 "millrace/scan.next" 145 := methodIs_of (by kernel_rfl)
theorem backLM : MethodIs Tryz.prog 95 "millrace/scan.back" 144 := methodIs_of (by kernel_rfl)
def rdLL (e : Int) : List SV := [.ifc 95 (.ptr 0 0), .i .i64 e]
def rdLS (M : RawM) (s : St × M.σ) (e : Int) : SS := ⟨[], [(0, 97, liveC M s.1), (1, 72, rdLL e)], [], [(2, M.res s.2)], 3, 3, []⟩
def isTakeL (M : RawM) (fits : UInt8 → Bool) (most : Nat) (s : St × M.σ) (e : Int) (sv : SV) (post : SS) : Prop :=
  sv = .s (bs (takeL M fits most s).2.1) ∧ post = rdLS M (takeL M fits most s).1 (if most = 0 then e else (takeL M fits most s).2.2)
theorem takeLA_c (M : RawM) (hR : M.Rd) (hB : M.By) (fits : UInt8 → Bool) (g : FuncId) (hg : ∀ c : UInt8, Contract Tryz.prog g nilSS [.i .u8 (c.toNat : Int)] (fun sv post => sv = .b (fits c) ∧ post = nilSS)) (most : Nat) (hm : most ≤ 100000) (s : St × M.σ) (h : LOK M s) (e : Int) :
    Contract Tryz.prog 50 (rdLS M s e) [.ptr 1 0, .i .i64 most, .fn (.func g) [] []] (isTakeL M fits most s e) := by
  refine contract_ev Γok Tryz.func50 rfl rfl [] ?_
  simp (maxSteps := 4000000) only [push_cast, Int.reduceEq, Int.reduceBNe, Int.reduceBEq, Int.reduceAdd, Int.reduceSub, Int.reduceMul, Int.reduceNeg, Int.reduceLT, Int.reduceLE, Int.reduceToNat, Nat.reduceLT, Nat.reduceAdd, Nat.reduceSub, Nat.reduceMul, Nat.reduceEqDiff, Nat.reduceLeDiff, Nat.reduceBEq, reduceIte, reduceCtorEq, Tryz.f50, rdLS, rdLL]
  refine loop_ok (ι := {q : List UInt8 × Nat × (St × M.σ) // (takeL M fits most s).2.1 = q.1 ++ (takeL M fits q.2.1 q.2.2).2.1 ∧ (takeL M fits most s).2.2 = (takeL M fits q.2.1 q.2.2).2.2 ∧ (takeL M fits most s).1 = (takeL M fits q.2.1 q.2.2).1 ∧ q.1.length + q.2.1 = most ∧ LOK M q.2.2})
    (fun q => ⟨[.ptr 1 0, .i .i64 most, .fn (.func g) [] [], .any, .any, .any, .any, .ints .u8 (.tok 3 true) (ofU q.1.1)] ++ List.replicate 36 .any, [(0, 97, liveC M q.1.2.2.1), (1, 72, rdLL (if q.1.1 = [] then e else 0))], [3], [(2, M.res q.1.2.2.2)], 4, 3, []⟩) (fun q => q.1.2.1) ⟨([], most, s), by simp, rfl, rfl, by simp, h⟩ ?_ ?_
  · refine Sub.trans (Sub.tokFr 7 rfl) (Sub.w [0, 1, 2, 3] ?_)
    simp (maxSteps := 4000000) only [push_cast, Int.reduceEq, Int.reduceBNe, Int.reduceBEq, Int.reduceAdd, Int.reduceSub, Int.reduceMul, Int.reduceNeg, Int.reduceLT, Int.reduceLE, Int.reduceToNat, Nat.reduceLT, Nat.reduceAdd, Nat.reduceSub, Nat.reduceMul, Nat.reduceEqDiff, Nat.reduceLeDiff, Nat.reduceBEq, reduceIte, reduceCtorEq, rdLL, live_W]
    rfl
  rintro ⟨⟨out, k, s'⟩, h1, h2, h3, h4, h5⟩
  simp only at h1 h2 h3 h4 h5
  refine evCode_sound Γok _ _ _ ?_
  simp (maxSteps := 4000000) only [push_cast, Int.reduceEq, Int.reduceBNe, Int.reduceBEq, Int.reduceAdd, Int.reduceSub, Int.reduceMul, Int.reduceNeg, Int.reduceLT, Int.reduceLE, Int.reduceToNat, Nat.reduceLT, Nat.reduceAdd, Nat.reduceSub, Nat.reduceMul, Nat.reduceEqDiff, Nat.reduceLeDiff, Nat.reduceBEq, reduceIte, reduceCtorEq, ofU_len, rdLL]
  have fin : ∀ (z : St × M.σ) (x : Int), (takeL M fits most s).2.1 = out → (takeL M fits most s).1 = z → x = (if most = 0 then e else (takeL M fits most s).2.2) → isTakeL M fits most s e (.s (bs out)) (rdLS M z x) := by
    rintro z x hs rfl rfl
    unfold isTakeL
    rw [hs]
    exact ⟨rfl, rfl⟩
  refine ⟨fun h => ?_, fun h => ?_⟩
  · obtain ⟨k, rfl⟩ : ∃ k', k = k' + 1 := ⟨k - 1, by omega⟩
    simp only [takeL] at h1 h2 h3
    have h5' := nx_ok hR hB h5
    refine inv_of nextLM (ent_w (nextL_c M hR hB s' h5) [0, 2] (by simp (maxSteps := 4000000) only [push_cast, Int.reduceEq, Int.reduceBNe, Int.reduceBEq, Int.reduceAdd, Int.reduceSub, Int.reduceMul, Int.reduceNeg, Int.reduceLT, Int.reduceLE, Int.reduceToNat, Nat.reduceLT, Nat.reduceAdd, Nat.reduceSub, Nat.reduceMul, Nat.reduceEqDiff, Nat.reduceLeDiff, Nat.reduceBEq, reduceIte, reduceCtorEq, liveS, live_W]) ?_)
    rintro sv post ⟨rfl, rfl⟩
    simp (maxSteps := 4000000) only [push_cast, Int.reduceEq, Int.reduceBNe, Int.reduceBEq, Int.reduceAdd, Int.reduceSub, Int.reduceMul, Int.reduceNeg, Int.reduceLT, Int.reduceLE, Int.reduceToNat, Nat.reduceLT, Nat.reduceAdd, Nat.reduceSub, Nat.reduceMul, Nat.reduceEqDiff, Nat.reduceLeDiff, Nat.reduceBEq, reduceIte, reduceCtorEq, liveS, live_ren, ofU_len]
    refine ⟨fun he => ?_, fun he => ?_⟩
    · rw [if_pos he] at h1 h2 h3
      rw [bs_str]
      exact Fin.w [0, 1, 2] _ (rdLS M (nxS M s') (nxE M s')) (by simp (maxSteps := 4000000) only [push_cast, Int.reduceEq, Int.reduceBNe, Int.reduceBEq, Int.reduceAdd, Int.reduceSub, Int.reduceMul, Int.reduceNeg, Int.reduceLT, Int.reduceLE, Int.reduceToNat, Nat.reduceLT, Nat.reduceAdd, Nat.reduceSub, Nat.reduceMul, Nat.reduceEqDiff, Nat.reduceLeDiff, Nat.reduceBEq, reduceIte, reduceCtorEq, rdLS, rdLL, live_W]) (fin _ _ (by rw [h1]; simp) h3 (by rw [if_neg (by omega), h2]))
    · rw [if_neg (by omega)] at h1 h2 h3
      refine call_w (hg (nxC M s')) [] (by simp (maxSteps := 4000000) only [push_cast, Int.reduceEq, Int.reduceBNe, Int.reduceBEq, Int.reduceAdd, Int.reduceSub, Int.reduceMul, Int.reduceNeg, Int.reduceLT, Int.reduceLE, Int.reduceToNat, Nat.reduceLT, Nat.reduceAdd, Nat.reduceSub, Nat.reduceMul, Nat.reduceEqDiff, Nat.reduceLeDiff, Nat.reduceBEq, reduceIte, reduceCtorEq]) ?_
      rintro sv post ⟨rfl, rfl⟩
      simp (maxSteps := 4000000) only [push_cast, Int.reduceEq, Int.reduceBNe, Int.reduceBEq, Int.reduceAdd, Int.reduceSub, Int.reduceMul, Int.reduceNeg, Int.reduceLT, Int.reduceLE, Int.reduceToNat, Nat.reduceLT, Nat.reduceAdd, Nat.reduceSub, Nat.reduceMul, Nat.reduceEqDiff, Nat.reduceLeDiff, Nat.reduceBEq, reduceIte, reduceCtorEq]
      refine ⟨fun hf => ?_, fun hf => ?_⟩
      · rw [if_neg (by rw [hf]; simp)] at h1 h2 h3
        refine inv_of backLM (ent_w (backL_c M (nxS M s') h5' (nxC M s')) [0, 2] (by simp (maxSteps := 4000000) only [push_cast, Int.reduceEq, Int.reduceBNe, Int.reduceBEq, Int.reduceAdd, Int.reduceSub, Int.reduceMul, Int.reduceNeg, Int.reduceLT, Int.reduceLE, Int.reduceToNat, Nat.reduceLT, Nat.reduceAdd, Nat.reduceSub, Nat.reduceMul, Nat.reduceEqDiff, Nat.reduceLeDiff, Nat.reduceBEq, reduceIte, reduceCtorEq, liveS, live_W]) ?_)
        rintro sv post ⟨rfl, rfl⟩
        simp (maxSteps := 4000000) only [push_cast, Int.reduceEq, Int.reduceBNe, Int.reduceBEq, Int.reduceAdd, Int.reduceSub, Int.reduceMul, Int.reduceNeg, Int.reduceLT, Int.reduceLE, Int.reduceToNat, Nat.reduceLT, Nat.reduceAdd, Nat.reduceSub, Nat.reduceMul, Nat.reduceEqDiff, Nat.reduceLeDiff, Nat.reduceBEq, reduceIte, reduceCtorEq, liveS, live_ren]
        rw [bs_str]
        exact Fin.w [0, 1, 2] _ (rdLS M (bkS (nxS M s') (nxC M s')) 0) (by simp (maxSteps := 4000000) only [push_cast, Int.reduceEq, Int.reduceBNe, Int.reduceBEq, Int.reduceAdd, Int.reduceSub, Int.reduceMul, Int.reduceNeg, Int.reduceLT, Int.reduceLE, Int.reduceToNat, Nat.reduceLT, Nat.reduceAdd, Nat.reduceSub, Nat.reduceMul, Nat.reduceEqDiff, Nat.reduceLeDiff, Nat.reduceBEq, reduceIte, reduceCtorEq, rdLS, rdLL, live_W]; try exact he.symm) (fin _ 0 (by rw [h1]; simp) h3 (by rw [if_neg (by omega), h2]))
      · rw [if_pos hf] at h1 h2 h3
        refine ⟨by rw [ofU_len]; omega, ⟨(out ++ [nxC M s'], k, nxS M s'), by rw [h1, List.append_assoc]; rfl, h2, h3, by simp only [List.length_append, List.length_cons, List.length_nil]; omega, h5'⟩, by simp only; omega, Sub.w [0, 1, 2, 5] ?_⟩
        simp (maxSteps := 4000000) only [push_cast, Int.reduceEq, Int.reduceBNe, Int.reduceBEq, Int.reduceAdd, Int.reduceSub, Int.reduceMul, Int.reduceNeg, Int.reduceLT, Int.reduceLE, Int.reduceToNat, Nat.reduceLT, Nat.reduceAdd, Nat.reduceSub, Nat.reduceMul, Nat.reduceEqDiff, Nat.reduceLeDiff, Nat.reduceBEq, reduceIte, reduceCtorEq, ofU_app, rdLL, live_W]
        exact ⟨rfl, by rw [he]; exact if_neg (by simp)⟩
  · obtain rfl : k = 0 := by omega
    rw [bs_str]
    refine Fin.w [0, 1, 2] _ (rdLS M s' (if out = [] then e else 0)) (by simp (maxSteps := 4000000) only [push_cast, Int.reduceEq, Int.reduceBNe, Int.reduceBEq, Int.reduceAdd, Int.reduceSub, Int.reduceMul, Int.reduceNeg, Int.reduceLT, Int.reduceLE, Int.reduceToNat, Nat.reduceLT, Nat.reduceAdd, Nat.reduceSub, Nat.reduceMul, Nat.reduceEqDiff, Nat.reduceLeDiff, Nat.reduceBEq, reduceIte, reduceCtorEq, rdLS, rdLL, live_W]) (fin _ _ (by rw [h1]; simp [takeL]) h3 ?_)
    rw [h2]
    by_cases hm0 : most = 0
    · rw [if_pos hm0, if_pos (List.eq_nil_of_length_eq_zero (by omega))]
    · rw [if_neg hm0, if_neg (by rintro rfl; simp at h4; omega)]
      rfl
def rdLNS (base : Int) (M : RawM) (s : St × M.σ) (e : Int) : SS := ⟨[], [(0, 97, liveC M s.1), (1, 72, rdLL e), (3, 3, [.i .i64 base])], [], [(2, M.res s.2)], 4, 4, []⟩
def isTakeLN (base : Int) (M : RawM) (fits : UInt8 → Bool) (most : Nat) (s : St × M.σ) (e : Int) (sv : SV) (post : SS) : Prop :=
  sv = .s (bs (takeL M fits most s).2.1) ∧ post = rdLNS base M (takeL M fits most s).1 (if most = 0 then e else (takeL M fits most s).2.2)
theorem takeLN_c (base : Int) (M : RawM) (hR : M.Rd) (hB : M.By) (fits : UInt8 → Bool) (g : FuncId) (hg : ∀ c : UInt8, Contract Tryz.prog g ⟨[], [(0, 3, [.i .i64 base])], [], [], 1, 1, []⟩ [.i .u8 (c.toNat : Int), .ptr 0 0] (fun sv post => sv = .b (fits c) ∧ post = ⟨[], [(0, 3, [.i .i64 base])], [], [], 1, 1, []⟩)) (most : Nat) (hm : most ≤ 100000) (s : St × M.σ) (h : LOK M s) (e : Int) :
    Contract Tryz.prog 50 (rdLNS base M s e) [.ptr 1 0, .i .i64 most, .fn (.func g) [] [.ptr 3 0]] (isTakeLN base M fits most s e) := by
  refine contract_ev Γok Tryz.func50 rfl rfl [] ?_
  simp (maxSteps := 4000000) only [push_cast, Int.reduceEq, Int.reduceBNe, Int.reduceBEq, Int.reduceAdd, Int.reduceSub, Int.reduceMul, Int.reduceNeg, Int.reduceLT, Int.reduceLE, Int.reduceToNat, Nat.reduceLT, Nat.reduceAdd, Nat.reduceSub, Nat.reduceMul, Nat.reduceEqDiff, Nat.reduceLeDiff, Nat.reduceBEq, reduceIte, reduceCtorEq, Tryz.f50, rdLNS, rdLL, partC]
  refine loop_ok (ι := {q : List UInt8 × Nat × (St × M.σ) // (takeL M fits most s).2.1 = q.1 ++ (takeL M fits q.2.1 q.2.2).2.1 ∧ (takeL M fits most s).2.2 = (takeL M fits q.2.1 q.2.2).2.2 ∧ (takeL M fits most s).1 = (takeL M fits q.2.1 q.2.2).1 ∧ q.1.length + q.2.1 = most ∧ LOK M q.2.2})
    (fun q => ⟨[.ptr 1 0, .i .i64 most, .fn (.func g) [] [.ptr 3 0], .any, .any, .any, .any, .ints .u8 (.tok 4 true) (ofU q.1.1)] ++ List.replicate 36 .any, [(0, 97, liveC M q.1.2.2.1), (1, 72, rdLL (if q.1.1 = [] then e else 0)), (3, 3, [.i .i64 base])], [4], [(2, M.res q.1.2.2.2)], 5, 4, []⟩) (fun q => q.1.2.1) ⟨([], most, s), by simp, rfl, rfl, by simp, h⟩ ?_ ?_
  · refine Sub.trans (Sub.tokFr 7 rfl) (Sub.w [0, 1, 2, 3, 4] ?_)
    simp (maxSteps := 4000000) only [push_cast, Int.reduceEq, Int.reduceBNe, Int.reduceBEq, Int.reduceAdd, Int.reduceSub, Int.reduceMul, Int.reduceNeg, Int.reduceLT, Int.reduceLE, Int.reduceToNat, Nat.reduceLT, Nat.reduceAdd, Nat.reduceSub, Nat.reduceMul, Nat.reduceEqDiff, Nat.reduceLeDiff, Nat.reduceBEq, reduceIte, reduceCtorEq, rdLL, live_W, partC]
    rfl
  rintro ⟨⟨out, k, s'⟩, h1, h2, h3, h4, h5⟩
  simp only at h1 h2 h3 h4 h5
  refine evCode_sound Γok _ _ _ ?_
  simp (maxSteps := 4000000) only [push_cast, Int.reduceEq, Int.reduceBNe, Int.reduceBEq, Int.reduceAdd, Int.reduceSub, Int.reduceMul, Int.reduceNeg, Int.reduceLT, Int.reduceLE, Int.reduceToNat, Nat.reduceLT, Nat.reduceAdd, Nat.reduceSub, Nat.reduceMul, Nat.reduceEqDiff, Nat.reduceLeDiff, Nat.reduceBEq, reduceIte, reduceCtorEq, ofU_len, rdLL, partC]
  have fin : ∀ (z : St × M.σ) (x : Int), (takeL M fits most s).2.1 = out → (takeL M fits most s).1 = z → x = (if most = 0 then e else (takeL M fits most s).2.2) → isTakeLN base M fits most s e (.s (bs out)) (rdLNS base M z x) := by
    rintro z x hs rfl rfl
    unfold isTakeLN
    rw [hs]
    exact ⟨rfl, rfl⟩
  refine ⟨fun h => ?_, fun h => ?_⟩
  · obtain ⟨k, rfl⟩ : ∃ k', k = k' + 1 := ⟨k - 1, by omega⟩
    simp only [takeL] at h1 h2 h3
    have h5' := nx_ok hR hB h5
    refine inv_of nextLM (ent_w (nextL_c M hR hB s' h5) [0, 2] (by simp (maxSteps := 4000000) only [push_cast, Int.reduceEq, Int.reduceBNe, Int.reduceBEq, Int.reduceAdd, Int.reduceSub, Int.reduceMul, Int.reduceNeg, Int.reduceLT, Int.reduceLE, Int.reduceToNat, Nat.reduceLT, Nat.reduceAdd, Nat.reduceSub, Nat.reduceMul, Nat.reduceEqDiff, Nat.reduceLeDiff, Nat.reduceBEq, reduceIte, reduceCtorEq, liveS, live_W, partC]) ?_)
    rintro sv post ⟨rfl, rfl⟩
    simp (maxSteps := 4000000) only [push_cast, Int.reduceEq, Int.reduceBNe, Int.reduceBEq, Int.reduceAdd, Int.reduceSub, Int.reduceMul, Int.reduceNeg, Int.reduceLT, Int.reduceLE, Int.reduceToNat, Nat.reduceLT, Nat.reduceAdd, Nat.reduceSub, Nat.reduceMul, Nat.reduceEqDiff, Nat.reduceLeDiff, Nat.reduceBEq, reduceIte, reduceCtorEq, liveS, live_ren, ofU_len, partC]
    refine ⟨fun he => ?_, fun he => ?_⟩
    · rw [if_pos he] at h1 h2 h3
      rw [bs_str]
      exact Fin.w [0, 1, 2, 3] _ (rdLNS base M (nxS M s') (nxE M s')) (by simp (maxSteps := 4000000) only [push_cast, Int.reduceEq, Int.reduceBNe, Int.reduceBEq, Int.reduceAdd, Int.reduceSub, Int.reduceMul, Int.reduceNeg, Int.reduceLT, Int.reduceLE, Int.reduceToNat, Nat.reduceLT, Nat.reduceAdd, Nat.reduceSub, Nat.reduceMul, Nat.reduceEqDiff, Nat.reduceLeDiff, Nat.reduceBEq, reduceIte, reduceCtorEq, rdLNS, rdLL, live_W, partC]) (fin _ _ (by rw [h1]; simp) h3 (by rw [if_neg (by omega), h2]))
    · rw [if_neg (by omega)] at h1 h2 h3
      refine call_w (hg (nxC M s')) [3] (by simp (maxSteps := 4000000) only [push_cast, Int.reduceEq, Int.reduceBNe, Int.reduceBEq, Int.reduceAdd, Int.reduceSub, Int.reduceMul, Int.reduceNeg, Int.reduceLT, Int.reduceLE, Int.reduceToNat, Nat.reduceLT, Nat.reduceAdd, Nat.reduceSub, Nat.reduceMul, Nat.reduceEqDiff, Nat.reduceLeDiff, Nat.reduceBEq, reduceIte, reduceCtorEq, partC]) ?_
      rintro sv post ⟨rfl, rfl⟩
      simp (maxSteps := 4000000) only [push_cast, Int.reduceEq, Int.reduceBNe, Int.reduceBEq, Int.reduceAdd, Int.reduceSub, Int.reduceMul, Int.reduceNeg, Int.reduceLT, Int.reduceLE, Int.reduceToNat, Nat.reduceLT, Nat.reduceAdd, Nat.reduceSub, Nat.reduceMul, Nat.reduceEqDiff, Nat.reduceLeDiff, Nat.reduceBEq, reduceIte, reduceCtorEq, partC]
      refine ⟨fun hf => ?_, fun hf => ?_⟩
      · rw [if_neg (by rw [hf]; simp)] at h1 h2 h3
        refine inv_of backLM (ent_w (backL_c M (nxS M s') h5' (nxC M s')) [0, 2] (by simp (maxSteps := 4000000) only [push_cast, Int.reduceEq, Int.reduceBNe, Int.reduceBEq, Int.reduceAdd, Int.reduceSub, Int.reduceMul, Int.reduceNeg, Int.reduceLT, Int.reduceLE, Int.reduceToNat, Nat.reduceLT, Nat.reduceAdd, Nat.reduceSub, Nat.reduceMul, Nat.reduceEqDiff, Nat.reduceLeDiff, Nat.reduceBEq, reduceIte, reduceCtorEq, liveS, live_W, partC]) ?_)
        rintro sv post ⟨rfl, rfl⟩
        simp (maxSteps := 4000000) only [push_cast, Int.reduceEq, Int.reduceBNe, Int.reduceBEq, Int.reduceAdd, Int.reduceSub, Int.reduceMul, Int.reduceNeg, Int.reduceLT, Int.reduceLE, Int.reduceToNat, Nat.reduceLT, Nat.reduceAdd, Nat.reduceSub, Nat.reduceMul, Nat.reduceEqDiff, Nat.reduceLeDiff, Nat.reduceBEq, reduceIte, reduceCtorEq, liveS, live_ren, partC]
        rw [bs_str]
        exact Fin.w [0, 1, 2, 3] _ (rdLNS base M (bkS (nxS M s') (nxC M s')) 0) (by simp (maxSteps := 4000000) only [push_cast, Int.reduceEq, Int.reduceBNe, Int.reduceBEq, Int.reduceAdd, Int.reduceSub, Int.reduceMul, Int.reduceNeg, Int.reduceLT, Int.reduceLE, Int.reduceToNat, Nat.reduceLT, Nat.reduceAdd, Nat.reduceSub, Nat.reduceMul, Nat.reduceEqDiff, Nat.reduceLeDiff, Nat.reduceBEq, reduceIte, reduceCtorEq, rdLNS, rdLL, live_W, partC]; try exact he.symm) (fin _ 0 (by rw [h1]; simp) h3 (by rw [if_neg (by omega), h2]))
      · rw [if_pos hf] at h1 h2 h3
        refine ⟨by rw [ofU_len]; omega, ⟨(out ++ [nxC M s'], k, nxS M s'), by rw [h1, List.append_assoc]; rfl, h2, h3, by simp only [List.length_append, List.length_cons, List.length_nil]; omega, h5'⟩, by simp only; omega, Sub.w [0, 1, 2, 3, 6] ?_⟩
        simp (maxSteps := 4000000) only [push_cast, Int.reduceEq, Int.reduceBNe, Int.reduceBEq, Int.reduceAdd, Int.reduceSub, Int.reduceMul, Int.reduceNeg, Int.reduceLT, Int.reduceLE, Int.reduceToNat, Nat.reduceLT, Nat.reduceAdd, Nat.reduceSub, Nat.reduceMul, Nat.reduceEqDiff, Nat.reduceLeDiff, Nat.reduceBEq, reduceIte, reduceCtorEq, ofU_app, rdLL, live_W, partC]
        exact ⟨rfl, by rw [he]; exact if_neg (by simp)⟩
  · obtain rfl : k = 0 := by omega
    rw [bs_str]
    refine Fin.w [0, 1, 2, 3] _ (rdLNS base M s' (if out = [] then e else 0)) (by simp (maxSteps := 4000000) only [push_cast, Int.reduceEq, Int.reduceBNe, Int.reduceBEq, Int.reduceAdd, Int.reduceSub, Int.reduceMul, Int.reduceNeg, Int.reduceLT, Int.reduceLE, Int.reduceToNat, Nat.reduceLT, Nat.reduceAdd, Nat.reduceSub, Nat.reduceMul, Nat.reduceEqDiff, Nat.reduceLeDiff, Nat.reduceBEq, reduceIte, reduceCtorEq, rdLNS, rdLL, live_W, partC]) (fin _ _ (by rw [h1]; simp [takeL]) h3 ?_)
    rw [h2]
    by_cases hm0 : most = 0
    · rw [if_pos hm0, if_pos (List.eq_nil_of_length_eq_zero (by omega))]
    · rw [if_neg hm0, if_neg (by rintro rfl; simp at h4; omega)]
      rfl
def rdLCS (p : PartP) (M : RawM) (s : St × M.σ) (e : Int) : SS := ⟨[], [(0, 97, liveC M s.1), (1, 72, rdLL e), (3, 102, (partC p))], [], [(2, M.res s.2)], 4, 4, []⟩
def isTakeLC (p : PartP) (M : RawM) (fits : UInt8 → Bool) (most : Nat) (s : St × M.σ) (e : Int) (sv : SV) (post : SS) : Prop :=
  sv = .s (bs (takeL M fits most s).2.1) ∧ post = rdLCS p M (takeL M fits most s).1 (if most = 0 then e else (takeL M fits most s).2.2)
theorem takeLC_c (p : PartP) (M : RawM) (hR : M.Rd) (hB : M.By) (fits : UInt8 → Bool) (g : FuncId) (hg : ∀ c : UInt8, Contract Tryz.prog g ⟨[], [(0, 102, (partC p))], [], [], 1, 1, []⟩ [.i .u8 (c.toNat : Int), .ptr 0 0] (fun sv post => sv = .b (fits c) ∧ post = ⟨[], [(0, 102, (partC p))], [], [], 1, 1, []⟩)) (most : Nat) (hm : most ≤ 100000) (s : St × M.σ) (h : LOK M s) (e : Int) :
    Contract Tryz.prog 50 (rdLCS p M s e) [.ptr 1 0, .i .i64 most, .fn (.func g) [] [.ptr 3 0]] (isTakeLC p M fits most s e) := by
  refine contract_ev Γok Tryz.func50 rfl rfl [] ?_
  simp (maxSteps := 4000000) only [push_cast, Int.reduceEq, Int.reduceBNe, Int.reduceBEq, Int.reduceAdd, Int.reduceSub, Int.reduceMul, Int.reduceNeg, Int.reduceLT, Int.reduceLE, Int.reduceToNat, Nat.reduceLT, Nat.reduceAdd, Nat.reduceSub, Nat.reduceMul, Nat.reduceEqDiff, Nat.reduceLeDiff, Nat.reduceBEq, reduceIte, reduceCtorEq, Tryz.f50, rdLCS, rdLL, partC]
  refine loop_ok (ι := {q : List UInt8 × Nat × (St × M.σ) // (takeL M fits most s).2.1 = q.1 ++ (takeL M fits q.2.1 q.2.2).2.1 ∧ (takeL M fits most s).2.2 = (takeL M fits q.2.1 q.2.2).2.2 ∧ (takeL M fits most s).1 = (takeL M fits q.2.1 q.2.2).1 ∧ q.1.length + q.2.1 = most ∧ LOK M q.2.2})
    (fun q => ⟨[.ptr 1 0, .i .i64 most, .fn (.func g) [] [.ptr 3 0], .any, .any, .any, .any, .ints .u8 (.tok 4 true) (ofU q.1.1)] ++ List.replicate 36 .any, [(0, 97, liveC M q.1.2.2.1), (1, 72, rdLL (if q.1.1 = [] then e else 0)), (3, 102, (partC p))], [4], [(2, M.res q.1.2.2.2)], 5, 4, []⟩) (fun q => q.1.2.1) ⟨([], most, s), by simp, rfl, rfl, by simp, h⟩ ?_ ?_
  · refine Sub.trans (Sub.tokFr 7 rfl) (Sub.w [0, 1, 2, 3, 4] ?_)
    simp (maxSteps := 4000000) only [push_cast, Int.reduceEq, Int.reduceBNe, Int.reduceBEq, Int.reduceAdd, Int.reduceSub, Int.reduceMul, Int.reduceNeg, Int.reduceLT, Int.reduceLE, Int.reduceToNat, Nat.reduceLT, Nat.reduceAdd, Nat.reduceSub, Nat.reduceMul, Nat.reduceEqDiff, Nat.reduceLeDiff, Nat.reduceBEq, reduceIte, reduceCtorEq, rdLL, live_W, partC]
    rfl
  rintro ⟨⟨out, k, s'⟩, h1, h2, h3, h4, h5⟩
  simp only at h1 h2 h3 h4 h5
  refine evCode_sound Γok _ _ _ ?_
  simp (maxSteps := 4000000) only [push_cast, Int.reduceEq, Int.reduceBNe, Int.reduceBEq, Int.reduceAdd, Int.reduceSub, Int.reduceMul, Int.reduceNeg, Int.reduceLT, Int.reduceLE, Int.reduceToNat, Nat.reduceLT, Nat.reduceAdd, Nat.reduceSub, Nat.reduceMul, Nat.reduceEqDiff, Nat.reduceLeDiff, Nat.reduceBEq, reduceIte, reduceCtorEq, ofU_len, rdLL, partC]
  have fin : ∀ (z : St × M.σ) (x : Int), (takeL M fits most s).2.1 = out → (takeL M fits most s).1 = z → x = (if most = 0 then e else (takeL M fits most s).2.2) → isTakeLC p M fits most s e (.s (bs out)) (rdLCS p M z x) := by
    rintro z x hs rfl rfl
    unfold isTakeLC
    rw [hs]
    exact ⟨rfl, rfl⟩
  refine ⟨fun h => ?_, fun h => ?_⟩
  · obtain ⟨k, rfl⟩ : ∃ k', k = k' + 1 := ⟨k - 1, by omega⟩
    simp only [takeL] at h1 h2 h3
    have h5' := nx_ok hR hB h5
    refine inv_of nextLM (ent_w (nextL_c M hR hB s' h5) [0, 2] (by simp (maxSteps := 4000000) only [push_cast, Int.reduceEq, Int.reduceBNe, Int.reduceBEq, Int.reduceAdd, Int.reduceSub, Int.reduceMul, Int.reduceNeg, Int.reduceLT, Int.reduceLE, Int.reduceToNat, Nat.reduceLT, Nat.reduceAdd, Nat.reduceSub, Nat.reduceMul, Nat.reduceEqDiff, Nat.reduceLeDiff, Nat.reduceBEq, reduceIte, reduceCtorEq, liveS, live_W, partC]) ?_)
    rintro sv post ⟨rfl, rfl⟩
    simp (maxSteps := 4000000) only [push_cast, Int.reduceEq, Int.reduceBNe, Int.reduceBEq, Int.reduceAdd, Int.reduceSub, Int.reduceMul, Int.reduceNeg, Int.reduceLT, Int.reduceLE, Int.reduceToNat, Nat.reduceLT, Nat.reduceAdd, Nat.reduceSub, Nat.reduceMul, Nat.reduceEqDiff, Nat.reduceLeDiff, Nat.reduceBEq, reduceIte, reduceCtorEq, liveS, live_ren, ofU_len, partC]
    refine ⟨fun he => ?_, fun he => ?_⟩
    · rw [if_pos he] at h1 h2 h3
      rw [bs_str]
      exact Fin.w [0, 1, 2, 3] _ (rdLCS p M (nxS M s') (nxE M s')) (by simp (maxSteps := 4000000) only [push_cast, Int.reduceEq, Int.reduceBNe, Int.reduceBEq, Int.reduceAdd, Int.reduceSub, Int.reduceMul, Int.reduceNeg, Int.reduceLT, Int.reduceLE, Int.reduceToNat, Nat.reduceLT, Nat.reduceAdd, Nat.reduceSub, Nat.reduceMul, Nat.reduceEqDiff, Nat.reduceLeDiff, Nat.reduceBEq, reduceIte, reduceCtorEq, rdLCS, rdLL, live_W, partC]) (fin _ _ (by rw [h1]; simp) h3 (by rw [if_neg (by omega), h2]))
    · rw [if_neg (by omega)] at h1 h2 h3
      refine call_w (hg (nxC M s')) [3] (by simp (maxSteps := 4000000) only [push_cast, Int.reduceEq, Int.reduceBNe, Int.reduceBEq, Int.reduceAdd, Int.reduceSub, Int.reduceMul, Int.reduceNeg, Int.reduceLT, Int.reduceLE, Int.reduceToNat, Nat.reduceLT, Nat.reduceAdd, Nat.reduceSub, Nat.reduceMul, Nat.reduceEqDiff, Nat.reduceLeDiff, Nat.reduceBEq, reduceIte, reduceCtorEq, partC]) ?_
      rintro sv post ⟨rfl, rfl⟩
      simp (maxSteps := 4000000) only [push_cast, Int.reduceEq, Int.reduceBNe, Int.reduceBEq, Int.reduceAdd, Int.reduceSub, Int.reduceMul, Int.reduceNeg, Int.reduceLT, Int.reduceLE, Int.reduceToNat, Nat.reduceLT, Nat.reduceAdd, Nat.reduceSub, Nat.reduceMul, Nat.reduceEqDiff, Nat.reduceLeDiff, Nat.reduceBEq, reduceIte, reduceCtorEq, partC]
      refine ⟨fun hf => ?_, fun hf => ?_⟩
      · rw [if_neg (by rw [hf]; simp)] at h1 h2 h3
        refine inv_of backLM (ent_w (backL_c M (nxS M s') h5' (nxC M s')) [0, 2] (by simp (maxSteps := 4000000) only [push_cast, Int.reduceEq, Int.reduceBNe, Int.reduceBEq, Int.reduceAdd, Int.reduceSub, Int.reduceMul, Int.reduceNeg, Int.reduceLT, Int.reduceLE, Int.reduceToNat, Nat.reduceLT, Nat.reduceAdd, Nat.reduceSub, Nat.reduceMul, Nat.reduceEqDiff, Nat.reduceLeDiff, Nat.reduceBEq, reduceIte, reduceCtorEq, liveS, live_W, partC]) ?_)
        rintro sv post ⟨rfl, rfl⟩
        simp (maxSteps := 4000000) only [push_cast, Int.reduceEq, Int.reduceBNe, Int.reduceBEq, Int.reduceAdd, Int.reduceSub, Int.reduceMul, Int.reduceNeg, Int.reduceLT, Int.reduceLE, Int.reduceToNat, Nat.reduceLT, Nat.reduceAdd, Nat.reduceSub, Nat.reduceMul, Nat.reduceEqDiff, Nat.reduceLeDiff, Nat.reduceBEq, reduceIte, reduceCtorEq, liveS, live_ren, partC]
        rw [bs_str]
        exact Fin.w [0, 1, 2, 3] _ (rdLCS p M (bkS (nxS M s') (nxC M s')) 0) (by simp (maxSteps := 4000000) only [push_cast, Int.reduceEq, Int.reduceBNe, Int.reduceBEq, Int.reduceAdd, Int.reduceSub, Int.reduceMul, Int.reduceNeg, Int.reduceLT, Int.reduceLE, Int.reduceToNat, Nat.reduceLT, Nat.reduceAdd, Nat.reduceSub, Nat.reduceMul, Nat.reduceEqDiff, Nat.reduceLeDiff, Nat.reduceBEq, reduceIte, reduceCtorEq, rdLCS, rdLL, live_W, partC]; try exact he.symm) (fin _ 0 (by rw [h1]; simp) h3 (by rw [if_neg (by omega), h2]))
      · rw [if_pos hf] at h1 h2 h3
        refine ⟨by rw [ofU_len]; omega, ⟨(out ++ [nxC M s'], k, nxS M s'), by rw [h1, List.append_assoc]; rfl, h2, h3, by simp only [List.length_append, List.length_cons, List.length_nil]; omega, h5'⟩, by simp only; omega, Sub.w [0, 1, 2, 3, 6] ?_⟩
        simp (maxSteps := 4000000) only [push_cast, Int.reduceEq, Int.reduceBNe, Int.reduceBEq, Int.reduceAdd, Int.reduceSub, Int.reduceMul, Int.reduceNeg, Int.reduceLT, Int.reduceLE, Int.reduceToNat, Nat.reduceLT, Nat.reduceAdd, Nat.reduceSub, Nat.reduceMul, Nat.reduceEqDiff, Nat.reduceLeDiff, Nat.reduceBEq, reduceIte, reduceCtorEq, ofU_app, rdLL, live_W, partC]
        exact ⟨rfl, by rw [he]; exact if_neg (by simp)⟩
  · obtain rfl : k = 0 := by omega
    rw [bs_str]
    refine Fin.w [0, 1, 2, 3] _ (rdLCS p M s' (if out = [] then e else 0)) (by simp (maxSteps := 4000000) only [push_cast, Int.reduceEq, Int.reduceBNe, Int.reduceBEq, Int.reduceAdd, Int.reduceSub, Int.reduceMul, Int.reduceNeg, Int.reduceLT, Int.reduceLE, Int.reduceToNat, Nat.reduceLT, Nat.reduceAdd, Nat.reduceSub, Nat.reduceMul, Nat.reduceEqDiff, Nat.reduceLeDiff, Nat.reduceBEq, reduceIte, reduceCtorEq, rdLCS, rdLL, live_W, partC]) (fin _ _ (by rw [h1]; simp [takeL]) h3 ?_)
    rw [h2]
    by_cases hm0 : most = 0
    · rw [if_pos hm0, if_pos (List.eq_nil_of_length_eq_zero (by omega))]
    · rw [if_neg hm0, if_neg (by rintro rfl; simp at h4; omega)]
      rfl
end Go.Proofs.YtmciepkhpocafaaGreat
/- A stream as a source: the reader's small methods; a number. -/
namespace Go.Proofs.YtmciepkhpocafaaGreat
open Go Go.Eng
set_option maxHeartbeats 4000000
set_option linter.unusedSimpArgs false
set_option linter.unusedVariables false
set_option maxRecDepth 100000

def lackZ (z : Int) : Int := if z = 0 then 181 else z
def softZ (z : Int) : Int := if z = 111 then 0 else z
theorem lacksL_c (M : RawM) (s : St × M.σ) (e : Int) : Contract Tryz.prog 52 (rdLS M s e) [.ptr 1 0] (fun sv post => sv = .i .i64 (lackZ e) ∧ post = rdLS M s e) := by
  refine contract_ev Γok Tryz.func52 rfl rfl [] ?_
  simp (maxSteps := 4000000) only [push_cast, Int.reduceEq, Int.reduceBNe, Int.reduceBEq, Int.reduceAdd, Int.reduceSub, Int.reduceMul, Int.reduceNeg, Int.reduceLT, Int.reduceLE, Int.reduceToNat, Nat.reduceLT, Nat.reduceAdd, Nat.reduceSub, Nat.reduceMul, Nat.reduceEqDiff, Nat.reduceLeDiff, Nat.reduceBEq, reduceIte, reduceCtorEq, Tryz.f52, rdLS, rdLL]
  refine ⟨fun h => ?_, fun h => ?_⟩
  · exact Fin.w [0, 1, 2] (.i .i64 e) (rdLS M s e) (by simp (maxSteps := 4000000) only [push_cast, Int.reduceEq, Int.reduceBNe, Int.reduceBEq, Int.reduceAdd, Int.reduceSub, Int.reduceMul, Int.reduceNeg, Int.reduceLT, Int.reduceLE, Int.reduceToNat, Nat.reduceLT, Nat.reduceAdd, Nat.reduceSub, Nat.reduceMul, Nat.reduceEqDiff, Nat.reduceLeDiff, Nat.reduceBEq, reduceIte, reduceCtorEq, rdLS, rdLL, live_W]) ⟨by unfold lackZ; rw [if_neg h], rfl⟩
  · subst h
    exact Fin.w [0, 1, 2] (.i .i64 181) (rdLS M s 0) (by simp (maxSteps := 4000000) only [push_cast, Int.reduceEq, Int.reduceBNe, Int.reduceBEq, Int.reduceAdd, Int.reduceSub, Int.reduceMul, Int.reduceNeg, Int.reduceLT, Int.reduceLE, Int.reduceToNat, Nat.reduceLT, Nat.reduceAdd, Nat.reduceSub, Nat.reduceMul, Nat.reduceEqDiff, Nat.reduceLeDiff, Nat.reduceBEq, reduceIte, reduceCtorEq, rdLS, rdLL, live_W]) ⟨rfl, rfl⟩
theorem softL_c (M : RawM) (s : St × M.σ) (e : Int) : Contract Tryz.prog 54 (rdLS M s e) [.ptr 1 0] (fun sv post => sv = .i .i64 (softZ e) ∧ post = rdLS M s (softZ e)) := by
  refine contract_ev Γok Tryz.func54 rfl rfl [] ?_
  simp (maxSteps := 4000000) only [push_cast, Int.reduceEq, Int.reduceBNe, Int.reduceBEq, Int.reduceAdd, Int.reduceSub, Int.reduceMul, Int.reduceNeg, Int.reduceLT, Int.reduceLE, Int.reduceToNat, Nat.reduceLT, Nat.reduceAdd, Nat.reduceSub, Nat.reduceMul, Nat.reduceEqDiff, Nat.reduceLeDiff, Nat.reduceBEq, reduceIte, reduceCtorEq, Tryz.f54, rdLS, rdLL]
  refine ⟨fun h => ?_, fun h => ?_⟩
  · exact Fin.w [0, 1, 2] (.i .i64 0) (rdLS M s 0) (by simp (maxSteps := 4000000) only [push_cast, Int.reduceEq, Int.reduceBNe, Int.reduceBEq, Int.reduceAdd, Int.reduceSub, Int.reduceMul, Int.reduceNeg, Int.reduceLT, Int.reduceLE, Int.reduceToNat, Nat.reduceLT, Nat.reduceAdd, Nat.reduceSub, Nat.reduceMul, Nat.reduceEqDiff, Nat.reduceLeDiff, Nat.reduceBEq, reduceIte, reduceCtorEq, rdLS, rdLL, live_W]) ⟨by unfold softZ; rw [if_pos h], by unfold softZ; rw [if_pos h]; rfl⟩
  · exact Fin.w [0, 1, 2] (.i .i64 e) (rdLS M s e) (by simp (maxSteps := 4000000) only [push_cast, Int.reduceEq, Int.reduceBNe, Int.reduceBEq, Int.reduceAdd, Int.reduceSub, Int.reduceMul, Int.reduceNeg, Int.reduceLT, Int.reduceLE, Int.reduceToNat, Nat.reduceLT, Nat.reduceAdd, Nat.reduceSub, Nat.reduceMul, Nat.reduceEqDiff, Nat.reduceLeDiff, Nat.reduceBEq, reduceIte, reduceCtorEq, rdLS, rdLL, live_W]) ⟨by unfold softZ; rw [if_neg h], by unfold softZ; rw [if_neg h]; rfl⟩
def isBlanksL (M : RawM) (B : (St × M.σ) × Int) (sv : SV) (post : SS) : Prop := sv = .tup [] ∧ post = rdLS M B.1 B.2
theorem blanksL_c (M : RawM) (hR : M.Rd) (hB : M.By) (mu : St × M.σ → Nat) (hE : Ends M mu) (s : St × M.σ) (h : LOK M s) (e : Int) (f : Nat) (hf : mu s < f) : Contract Tryz.prog 53 (rdLS M s e) [.ptr 1 0] (isBlanksL M (blanksL M f s)) := by
  refine contract_ev Γok Tryz.func53 rfl rfl [] ?_
  simp (maxSteps := 4000000) only [push_cast, Int.reduceEq, Int.reduceBNe, Int.reduceBEq, Int.reduceAdd, Int.reduceSub, Int.reduceMul, Int.reduceNeg, Int.reduceLT, Int.reduceLE, Int.reduceToNat, Nat.reduceLT, Nat.reduceAdd, Nat.reduceSub, Nat.reduceMul, Nat.reduceEqDiff, Nat.reduceLeDiff, Nat.reduceBEq, reduceIte, reduceCtorEq, Tryz.f53, rdLS, rdLL]
  refine loop_ok (ι := {q : Nat × (St × M.σ) // blanksL M f s = blanksL M q.1 q.2 ∧ LOK M q.2 ∧ mu q.2 < q.1})
    (fun q => ⟨[.ptr 1 0] ++ List.replicate 12 .any, [(0, 97, liveC M q.1.2.1), (1, 72, rdLL 0)], [], [(2, M.res q.1.2.2)], 3, 3, []⟩) (fun q => q.1.1) ⟨(f, s), rfl, h, hf⟩ ?_ ?_
  · refine Sub.w [0, 1, 2] ?_
    simp (maxSteps := 4000000) only [push_cast, Int.reduceEq, Int.reduceBNe, Int.reduceBEq, Int.reduceAdd, Int.reduceSub, Int.reduceMul, Int.reduceNeg, Int.reduceLT, Int.reduceLE, Int.reduceToNat, Nat.reduceLT, Nat.reduceAdd, Nat.reduceSub, Nat.reduceMul, Nat.reduceEqDiff, Nat.reduceLeDiff, Nat.reduceBEq, reduceIte, reduceCtorEq, rdLL, live_W]
  rintro ⟨⟨f', s'⟩, h1, h2, h3⟩
  simp only at h1 h2 h3
  obtain ⟨f', rfl⟩ : ∃ k, f' = k + 1 := ⟨f' - 1, by omega⟩
  refine evCode_sound Γok _ _ _ ?_
  simp (maxSteps := 4000000) only [push_cast, Int.reduceEq, Int.reduceBNe, Int.reduceBEq, Int.reduceAdd, Int.reduceSub, Int.reduceMul, Int.reduceNeg, Int.reduceLT, Int.reduceLE, Int.reduceToNat, Nat.reduceLT, Nat.reduceAdd, Nat.reduceSub, Nat.reduceMul, Nat.reduceEqDiff, Nat.reduceLeDiff, Nat.reduceBEq, reduceIte, reduceCtorEq, rdLL]
  refine call_w (takeLA_c M hR hB isBlank 57 blank_c 1 (by omega) s' h2 0) [0, 1, 2] (by simp (maxSteps := 4000000) only [push_cast, Int.reduceEq, Int.reduceBNe, Int.reduceBEq, Int.reduceAdd, Int.reduceSub, Int.reduceMul, Int.reduceNeg, Int.reduceLT, Int.reduceLE, Int.reduceToNat, Nat.reduceLT, Nat.reduceAdd, Nat.reduceSub, Nat.reduceMul, Nat.reduceEqDiff, Nat.reduceLeDiff, Nat.reduceBEq, reduceIte, reduceCtorEq, rdLS, rdLL, live_W]) ?_
  rintro sv post ⟨rfl, rfl⟩
  rw [if_neg (by omega)]
  have hless := take1_less hE h2
  have hok := (takeL_ok hR hB isBlank 1 s' h2).1
  simp only [blanksL] at h1
  generalize takeL M isBlank 1 s' = T at h1 hless hok ⊢
  simp (maxSteps := 4000000) only [push_cast, Int.reduceEq, Int.reduceBNe, Int.reduceBEq, Int.reduceAdd, Int.reduceSub, Int.reduceMul, Int.reduceNeg, Int.reduceLT, Int.reduceLE, Int.reduceToNat, Nat.reduceLT, Nat.reduceAdd, Nat.reduceSub, Nat.reduceMul, Nat.reduceEqDiff, Nat.reduceLeDiff, Nat.reduceBEq, reduceIte, reduceCtorEq, rdLS, rdLL, live_ren, mk_bs, bs_tl]
  refine ⟨fun h4 => ?_, fun h4 => ?_⟩
  · rw [if_pos h4] at h1
    rw [h1]
    exact Fin.w [0, 1, 2] (.tup []) (rdLS M T.1 T.2.2) (by simp (maxSteps := 4000000) only [push_cast, Int.reduceEq, Int.reduceBNe, Int.reduceBEq, Int.reduceAdd, Int.reduceSub, Int.reduceMul, Int.reduceNeg, Int.reduceLT, Int.reduceLE, Int.reduceToNat, Nat.reduceLT, Nat.reduceAdd, Nat.reduceSub, Nat.reduceMul, Nat.reduceEqDiff, Nat.reduceLeDiff, Nat.reduceBEq, reduceIte, reduceCtorEq, rdLS, rdLL, live_W]) ⟨rfl, rfl⟩
  · rw [if_neg h4] at h1
    obtain ⟨g1, g2⟩ := hless h4
    rw [g2]
    refine ⟨⟨(f', T.1), h1, hok, by simp only; omega⟩, by simp only; omega, Sub.w [0, 1, 2] ?_⟩
    simp (maxSteps := 4000000) only [push_cast, Int.reduceEq, Int.reduceBNe, Int.reduceBEq, Int.reduceAdd, Int.reduceSub, Int.reduceMul, Int.reduceNeg, Int.reduceLT, Int.reduceLE, Int.reduceToNat, Nat.reduceLT, Nat.reduceAdd, Nat.reduceSub, Nat.reduceMul, Nat.reduceEqDiff, Nat.reduceLeDiff, Nat.reduceBEq, reduceIte, reduceCtorEq, rdLL, live_W]

def sgnL (M : RawM) (p : PartP) (s : St × M.σ) : (St × M.σ) × List UInt8 × Int := if p.verb = 100 then takeL M isSign 1 s else (s, [], 0)
def digL (M : RawM) (p : PartP) (most : Nat) (s : St × M.σ) : (St × M.σ) × List UInt8 × Int := if (sgnL M p s).2.1.length < most then takeL M (fitB (baseQ p.verb)) (most - (sgnL M p s).2.1.length) (sgnL M p s).1 else ((sgnL M p s).1, [], 0)
/-- The Arg, the error, the source, the error that it told last. -/
def numberL (M : RawM) (p : PartP) (most : Nat) (s : St × M.σ) : AV × Int × (St × M.σ) × Int :=
  let S := sgnL M p s
  let T := digL M p most s
  let N := parseBaseP (baseQ p.verb) T.2.1
  if T.2.1 = [] then (noArg, lackZ T.2.2, T.1, T.2.2)
  else if N.2.1 ≠ 0 then (noArg, 181, T.1, T.2.2)
  else if p.verb ≠ 100 then (⟨2, 0, N.1, []⟩, softZ T.2.2, T.1, softZ T.2.2)
  else if 9223372036854775808 < N.1 ∨ N.1 = 9223372036854775808 ∧ S.2.1 ≠ [45] then (noArg, 181, T.1, T.2.2)
  else (⟨1, if S.2.1 = [45] then -(N.1 : Int) else N.1, 0, []⟩, softZ T.2.2, T.1, softZ T.2.2)
theorem sgnL_ok {M : RawM} (hR : M.Rd) (hB : M.By) (p : PartP) {s : St × M.σ} (h : LOK M s) : LOK M (sgnL M p s).1 ∧ (sgnL M p s).2.1.length ≤ 1 := by
  unfold sgnL
  split
  · exact takeL_ok hR hB isSign 1 s h
  · exact ⟨h, by simp⟩
theorem digL_ok {M : RawM} (hR : M.Rd) (hB : M.By) (p : PartP) (most : Nat) {s : St × M.σ} (h : LOK M s) : LOK M (digL M p most s).1 ∧ (digL M p most s).2.1.length ≤ most := by
  obtain ⟨h1, h2⟩ := sgnL_ok hR hB p h
  unfold digL
  split
  · have := takeL_ok hR hB (fitB (baseQ p.verb)) (most - (sgnL M p s).2.1.length) _ h1
    exact ⟨this.1, by omega⟩
  · exact ⟨h1, by simp⟩
theorem numberL_ok {M : RawM} (hR : M.Rd) (hB : M.By) (p : PartP) (most : Nat) {s : St × M.σ} (h : LOK M s) : LOK M (numberL M p most s).2.2.1 := by
  have h2 := (digL_ok hR hB p most h).1
  unfold numberL
  simp only
  split
  · exact h2
  split
  · exact h2
  split
  · exact h2
  split
  · exact h2
  · exact h2
def isOneL (M : RawM) (R : AV × Int × (St × M.σ) × Int) (sv : SV) (post : SS) : Prop := sv = .tup [.agg (argQ R.1), .i .i64 R.2.1] ∧ post = rdLS M R.2.2.1 R.2.2.2
def numLHp (M : RawM) (p : PartP) (s : St × M.σ) (e : Int) : List (Nat × TypeId × List SV) := [(0, 97, liveC M s.1), (1, 72, rdLL e), (3, 102, partC p), (4, 32, [.i .i64 0, .i .i64 0, .i .u64 0, .s (bs [])])]
theorem numberL_c (M : RawM) (hR : M.Rd) (hB : M.By) (p : PartP) (most : Nat) (hm0 : 1 ≤ most) (hm : most ≤ 4096) (s : St × M.σ) (h : LOK M s) (e : Int) :
    Contract Tryz.prog 58 (rdLS M s e) [.ptr 1 0, .agg (partC p), .i .i64 most] (isOneL M (numberL M p most s)) := by
  refine contract_of Γok Tryz.func58 rfl rfl (stop := []) ?_
  simp only [Tryz.f58]
  obtain ⟨hs1, hs2⟩ := sgnL_ok hR hB p h
  obtain ⟨hd1, hd2⟩ := digL_ok hR hB p most h
  refine CodeOK.seq (evCode_sound Γok _ _ _ ?_)
  simp (maxSteps := 4000000) only [push_cast, Int.reduceEq, Int.reduceBNe, Int.reduceBEq, Int.reduceAdd, Int.reduceSub, Int.reduceMul, Int.reduceNeg, Int.reduceLT, Int.reduceLE, Int.reduceToNat, Nat.reduceLT, Nat.reduceAdd, Nat.reduceSub, Nat.reduceMul, Nat.reduceEqDiff, Nat.reduceLeDiff, Nat.reduceBEq, reduceIte, reduceCtorEq, rdLS, rdLL, partC]
  refine CodeOK.seq (evCode_sound Γok _ _ _ ?_)
  simp (maxSteps := 4000000) only [push_cast, Int.reduceEq, Int.reduceBNe, Int.reduceBEq, Int.reduceAdd, Int.reduceSub, Int.reduceMul, Int.reduceNeg, Int.reduceLT, Int.reduceLE, Int.reduceToNat, Nat.reduceLT, Nat.reduceAdd, Nat.reduceSub, Nat.reduceMul, Nat.reduceEqDiff, Nat.reduceLeDiff, Nat.reduceBEq, reduceIte, reduceCtorEq, mk_bs]
  refine code_cut ⟨[.ptr 1 0, .any, .i .i64 most, .any, .ptr 3 0, .any, .ptr 4 0, .any, .s (bs (sgnL M p s).2.1)] ++ List.replicate 68 .any, numLHp M p (sgnL M p s).1 (if p.verb = 100 then (sgnL M p s).2.2 else e), [], [(2, M.res (sgnL M p s).1.2)], 5, 3, []⟩ (evCode_sound Γok _ _ _ ?_) (CodeOK.seq (evCode_sound Γok _ _ _ ?_))
  · simp (maxSteps := 4000000) only [push_cast, Int.reduceEq, Int.reduceBNe, Int.reduceBEq, Int.reduceAdd, Int.reduceSub, Int.reduceMul, Int.reduceNeg, Int.reduceLT, Int.reduceLE, Int.reduceToNat, Nat.reduceLT, Nat.reduceAdd, Nat.reduceSub, Nat.reduceMul, Nat.reduceEqDiff, Nat.reduceLeDiff, Nat.reduceBEq, reduceIte, reduceCtorEq, q100, mk_bs]
    refine ⟨fun hv => ?_, fun hv => ?_⟩
    · refine call_w (takeLA_c M hR hB isSign 82 sign_c 1 (by omega) s h e) [0, 1, 2] (by simp (maxSteps := 4000000) only [push_cast, Int.reduceEq, Int.reduceBNe, Int.reduceBEq, Int.reduceAdd, Int.reduceSub, Int.reduceMul, Int.reduceNeg, Int.reduceLT, Int.reduceLE, Int.reduceToNat, Nat.reduceLT, Nat.reduceAdd, Nat.reduceSub, Nat.reduceMul, Nat.reduceEqDiff, Nat.reduceLeDiff, Nat.reduceBEq, reduceIte, reduceCtorEq, rdLS, rdLL, live_W]) ?_
      rintro sv post ⟨rfl, rfl⟩
      have e1 : sgnL M p s = takeL M isSign 1 s := if_pos hv
      rw [e1, if_pos hv, if_neg (by omega)]
      simp (maxSteps := 4000000) only [push_cast, Int.reduceEq, Int.reduceBNe, Int.reduceBEq, Int.reduceAdd, Int.reduceSub, Int.reduceMul, Int.reduceNeg, Int.reduceLT, Int.reduceLE, Int.reduceToNat, Nat.reduceLT, Nat.reduceAdd, Nat.reduceSub, Nat.reduceMul, Nat.reduceEqDiff, Nat.reduceLeDiff, Nat.reduceBEq, reduceIte, reduceCtorEq, rdLS, rdLL, live_ren]
      refine Sub.w [0, 1, 2, 3, 4] ?_
      simp (maxSteps := 4000000) only [push_cast, Int.reduceEq, Int.reduceBNe, Int.reduceBEq, Int.reduceAdd, Int.reduceSub, Int.reduceMul, Int.reduceNeg, Int.reduceLT, Int.reduceLE, Int.reduceToNat, Nat.reduceLT, Nat.reduceAdd, Nat.reduceSub, Nat.reduceMul, Nat.reduceEqDiff, Nat.reduceLeDiff, Nat.reduceBEq, reduceIte, reduceCtorEq, numLHp, rdLL, partC, mk_bs, live_W]
    · have e1 : sgnL M p s = (s, [], 0) := if_neg hv
      rw [e1, if_neg hv]
      refine Sub.w [0, 1, 2, 3, 4] ?_
      simp (maxSteps := 4000000) only [push_cast, Int.reduceEq, Int.reduceBNe, Int.reduceBEq, Int.reduceAdd, Int.reduceSub, Int.reduceMul, Int.reduceNeg, Int.reduceLT, Int.reduceLE, Int.reduceToNat, Nat.reduceLT, Nat.reduceAdd, Nat.reduceSub, Nat.reduceMul, Nat.reduceEqDiff, Nat.reduceLeDiff, Nat.reduceBEq, reduceIte, reduceCtorEq, numLHp, rdLL, partC, mk_bs, live_W]
  simp (maxSteps := 4000000) only [push_cast, Int.reduceEq, Int.reduceBNe, Int.reduceBEq, Int.reduceAdd, Int.reduceSub, Int.reduceMul, Int.reduceNeg, Int.reduceLT, Int.reduceLE, Int.reduceToNat, Nat.reduceLT, Nat.reduceAdd, Nat.reduceSub, Nat.reduceMul, Nat.reduceEqDiff, Nat.reduceLeDiff, Nat.reduceBEq, reduceIte, reduceCtorEq, numLHp, rdLL, partC]
  generalize he1 : (if p.verb = 100 then (sgnL M p s).2.2 else e) = e1
  refine call_w (partBase_c p) [] (by simp (maxSteps := 4000000) only [push_cast, Int.reduceEq, Int.reduceBNe, Int.reduceBEq, Int.reduceAdd, Int.reduceSub, Int.reduceMul, Int.reduceNeg, Int.reduceLT, Int.reduceLE, Int.reduceToNat, Nat.reduceLT, Nat.reduceAdd, Nat.reduceSub, Nat.reduceMul, Nat.reduceEqDiff, Nat.reduceLeDiff, Nat.reduceBEq, reduceIte, reduceCtorEq, partC]) ?_
  rintro sv post ⟨rfl, rfl⟩
  simp (maxSteps := 4000000) only [push_cast, Int.reduceEq, Int.reduceBNe, Int.reduceBEq, Int.reduceAdd, Int.reduceSub, Int.reduceMul, Int.reduceNeg, Int.reduceLT, Int.reduceLE, Int.reduceToNat, Nat.reduceLT, Nat.reduceAdd, Nat.reduceSub, Nat.reduceMul, Nat.reduceEqDiff, Nat.reduceLeDiff, Nat.reduceBEq, reduceIte, reduceCtorEq]
  refine CodeOK.seq (evCode_sound Γok _ _ _ ?_)
  simp (maxSteps := 4000000) only [push_cast, Int.reduceEq, Int.reduceBNe, Int.reduceBEq, Int.reduceAdd, Int.reduceSub, Int.reduceMul, Int.reduceNeg, Int.reduceLT, Int.reduceLE, Int.reduceToNat, Nat.reduceLT, Nat.reduceAdd, Nat.reduceSub, Nat.reduceMul, Nat.reduceEqDiff, Nat.reduceLeDiff, Nat.reduceBEq, reduceIte, reduceCtorEq, mk_bs]
  have hbq := baseQ_ok p.verb
  refine code_cut ⟨[.ptr 1 0, .any, .i .i64 most, .any, .ptr 3 0, .any, .ptr 4 0, .any, .s (bs (sgnL M p s).2.1), .ptr 5 0, .s (bs (digL M p most s).2.1)] ++ List.replicate 66 .any, numLHp M p (digL M p most s).1 (digL M p most s).2.2 ++ [(5, 3, [.i .i64 (baseQ p.verb)])], [], [(2, M.res (digL M p most s).1.2)], 6, 3, []⟩ (evCode_sound Γok _ _ _ ?_) (evCode_sound Γok _ _ _ ?_)
  · simp (maxSteps := 4000000) only [push_cast, Int.reduceEq, Int.reduceBNe, Int.reduceBEq, Int.reduceAdd, Int.reduceSub, Int.reduceMul, Int.reduceNeg, Int.reduceLT, Int.reduceLE, Int.reduceToNat, Nat.reduceLT, Nat.reduceAdd, Nat.reduceSub, Nat.reduceMul, Nat.reduceEqDiff, Nat.reduceLeDiff, Nat.reduceBEq, reduceIte, reduceCtorEq, bs_size, mk_bs]
    refine ⟨fun hl => ?_, fun hl => ?_⟩
    · have e2 : digL M p most s = takeL M (fitB (baseQ p.verb)) (most - (sgnL M p s).2.1.length) (sgnL M p s).1 := if_pos (by omega)
      have e3 : IntKind.i64.wrap ((most : Int) - ((sgnL M p s).2.1.length : Int)) = ((most - (sgnL M p s).2.1.length : Nat) : Int) := by rw [wrap64 (by omega) (by omega)]; omega
      rw [e3, e2]
      refine call_w (takeLN_c (baseQ p.verb) M hR hB (fitB (baseQ p.verb)) 84 (digitB_c (baseQ p.verb) hbq.1 hbq.2) (most - (sgnL M p s).2.1.length) (by omega) (sgnL M p s).1 hs1 e1) [0, 1, 2, 5] (by simp (maxSteps := 4000000) only [push_cast, Int.reduceEq, Int.reduceBNe, Int.reduceBEq, Int.reduceAdd, Int.reduceSub, Int.reduceMul, Int.reduceNeg, Int.reduceLT, Int.reduceLE, Int.reduceToNat, Nat.reduceLT, Nat.reduceAdd, Nat.reduceSub, Nat.reduceMul, Nat.reduceEqDiff, Nat.reduceLeDiff, Nat.reduceBEq, reduceIte, reduceCtorEq, rdLNS, rdLL, live_W]) ?_
      rintro sv post ⟨rfl, rfl⟩
      rw [if_neg (show ¬ most - (sgnL M p s).2.1.length = 0 by omega)]
      simp (maxSteps := 4000000) only [push_cast, Int.reduceEq, Int.reduceBNe, Int.reduceBEq, Int.reduceAdd, Int.reduceSub, Int.reduceMul, Int.reduceNeg, Int.reduceLT, Int.reduceLE, Int.reduceToNat, Nat.reduceLT, Nat.reduceAdd, Nat.reduceSub, Nat.reduceMul, Nat.reduceEqDiff, Nat.reduceLeDiff, Nat.reduceBEq, reduceIte, reduceCtorEq, rdLNS, rdLL, live_ren]
      refine Sub.w [0, 1, 2, 3, 4, 5] ?_
      simp (maxSteps := 4000000) only [push_cast, Int.reduceEq, Int.reduceBNe, Int.reduceBEq, Int.reduceAdd, Int.reduceSub, Int.reduceMul, Int.reduceNeg, Int.reduceLT, Int.reduceLE, Int.reduceToNat, Nat.reduceLT, Nat.reduceAdd, Nat.reduceSub, Nat.reduceMul, Nat.reduceEqDiff, Nat.reduceLeDiff, Nat.reduceBEq, reduceIte, reduceCtorEq, numLHp, rdLL, partC, mk_bs, live_W]
    · have e2 : digL M p most s = ((sgnL M p s).1, [], 0) := if_neg (by omega)
      rw [e2]
      refine Sub.w [0, 1, 2, 3, 4, 5] ?_
      simp (maxSteps := 4000000) only [push_cast, Int.reduceEq, Int.reduceBNe, Int.reduceBEq, Int.reduceAdd, Int.reduceSub, Int.reduceMul, Int.reduceNeg, Int.reduceLT, Int.reduceLE, Int.reduceToNat, Nat.reduceLT, Nat.reduceAdd, Nat.reduceSub, Nat.reduceMul, Nat.reduceEqDiff, Nat.reduceLeDiff, Nat.reduceBEq, reduceIte, reduceCtorEq, numLHp, rdLL, partC, mk_bs, live_W]
  simp (maxSteps := 4000000) only [push_cast, Int.reduceEq, Int.reduceBNe, Int.reduceBEq, Int.reduceAdd, Int.reduceSub, Int.reduceMul, Int.reduceNeg, Int.reduceLT, Int.reduceLE, Int.reduceToNat, Nat.reduceLT, Nat.reduceAdd, Nat.reduceSub, Nat.reduceMul, Nat.reduceEqDiff, Nat.reduceLeDiff, Nat.reduceBEq, reduceIte, reduceCtorEq, numLHp, rdLL, partC, mk_bs, bs_tl]
  have hR' : numberL M p most s = if (digL M p most s).2.1 = [] then (noArg, lackZ (digL M p most s).2.2, (digL M p most s).1, (digL M p most s).2.2)
    else if (parseBaseP (baseQ p.verb) (digL M p most s).2.1).2.1 ≠ 0 then (noArg, 181, (digL M p most s).1, (digL M p most s).2.2)
    else if p.verb ≠ 100 then (⟨2, 0, (parseBaseP (baseQ p.verb) (digL M p most s).2.1).1, []⟩, softZ (digL M p most s).2.2, (digL M p most s).1, softZ (digL M p most s).2.2)
    else if 9223372036854775808 < (parseBaseP (baseQ p.verb) (digL M p most s).2.1).1 ∨ (parseBaseP (baseQ p.verb) (digL M p most s).2.1).1 = 9223372036854775808 ∧ (sgnL M p s).2.1 ≠ [45] then (noArg, 181, (digL M p most s).1, (digL M p most s).2.2)
    else (⟨1, if (sgnL M p s).2.1 = [45] then -((parseBaseP (baseQ p.verb) (digL M p most s).2.1).1 : Int) else (parseBaseP (baseQ p.verb) (digL M p most s).2.1).1, 0, []⟩, softZ (digL M p most s).2.2, (digL M p most s).1, softZ (digL M p most s).2.2) := rfl
  generalize numberL M p most s = R at hR' ⊢
  generalize (sgnL M p s).2.1 = S at hR' ⊢
  generalize digL M p most s = TT at hR' hd1 hd2 ⊢
  obtain ⟨Z, T, te⟩ := TT
  simp only at hR' hd1 hd2 ⊢
  refine ⟨fun hT => ?_, fun hT => ?_⟩
  · refine call_w (lacksL_c M Z te) [0, 1, 2] (by simp (maxSteps := 4000000) only [push_cast, Int.reduceEq, Int.reduceBNe, Int.reduceBEq, Int.reduceAdd, Int.reduceSub, Int.reduceMul, Int.reduceNeg, Int.reduceLT, Int.reduceLE, Int.reduceToNat, Nat.reduceLT, Nat.reduceAdd, Nat.reduceSub, Nat.reduceMul, Nat.reduceEqDiff, Nat.reduceLeDiff, Nat.reduceBEq, reduceIte, reduceCtorEq, rdLS, rdLL, live_W]) ?_
    rintro sv post ⟨rfl, rfl⟩
    rw [if_pos hT] at hR'
    subst hR'
    simp (maxSteps := 4000000) only [push_cast, Int.reduceEq, Int.reduceBNe, Int.reduceBEq, Int.reduceAdd, Int.reduceSub, Int.reduceMul, Int.reduceNeg, Int.reduceLT, Int.reduceLE, Int.reduceToNat, Nat.reduceLT, Nat.reduceAdd, Nat.reduceSub, Nat.reduceMul, Nat.reduceEqDiff, Nat.reduceLeDiff, Nat.reduceBEq, reduceIte, reduceCtorEq, rdLS, rdLL, live_ren]
    exact Fin.w [0, 1, 2] (.tup [.agg (argQ noArg), .i .i64 (lackZ te)]) (rdLS M Z te) (by simp (maxSteps := 4000000) only [push_cast, Int.reduceEq, Int.reduceBNe, Int.reduceBEq, Int.reduceAdd, Int.reduceSub, Int.reduceMul, Int.reduceNeg, Int.reduceLT, Int.reduceLE, Int.reduceToNat, Nat.reduceLT, Nat.reduceAdd, Nat.reduceSub, Nat.reduceMul, Nat.reduceEqDiff, Nat.reduceLeDiff, Nat.reduceBEq, reduceIte, reduceCtorEq, rdLS, rdLL, argQ, noArg, live_W]) ⟨rfl, rfl⟩
  · rw [if_neg hT] at hR'
    refine call_w (parseBase_c T (baseQ p.verb) hbq.1 hbq.2 (by omega)) [] (by simp (maxSteps := 4000000) only [push_cast, Int.reduceEq, Int.reduceBNe, Int.reduceBEq, Int.reduceAdd, Int.reduceSub, Int.reduceMul, Int.reduceNeg, Int.reduceLT, Int.reduceLE, Int.reduceToNat, Nat.reduceLT, Nat.reduceAdd, Nat.reduceSub, Nat.reduceMul, Nat.reduceEqDiff, Nat.reduceLeDiff, Nat.reduceBEq, reduceIte, reduceCtorEq]) ?_
    rintro sv post ⟨rfl, rfl⟩
    generalize parseBaseP (baseQ p.verb) T = NN at hR' ⊢
    obtain ⟨N, ne, ni⟩ := NN
    simp only at hR'
    simp (maxSteps := 4000000) only [push_cast, Int.reduceEq, Int.reduceBNe, Int.reduceBEq, Int.reduceAdd, Int.reduceSub, Int.reduceMul, Int.reduceNeg, Int.reduceLT, Int.reduceLE, Int.reduceToNat, Nat.reduceLT, Nat.reduceAdd, Nat.reduceSub, Nat.reduceMul, Nat.reduceEqDiff, Nat.reduceLeDiff, Nat.reduceBEq, reduceIte, reduceCtorEq, q100, mk_bs, bs_tl]
    refine ⟨fun h1 => ?_, fun h1 => ⟨fun h2 => ?_, fun h2 => ⟨fun h3 => ?_, fun h3 => ⟨fun h4 => ?_, fun h4 => ?_⟩⟩⟩⟩
    · rw [if_pos h1] at hR'
      subst hR'
      exact Fin.w [0, 1, 2] (.tup [.agg (argQ noArg), .i .i64 181]) (rdLS M Z te) (by simp (maxSteps := 4000000) only [push_cast, Int.reduceEq, Int.reduceBNe, Int.reduceBEq, Int.reduceAdd, Int.reduceSub, Int.reduceMul, Int.reduceNeg, Int.reduceLT, Int.reduceLE, Int.reduceToNat, Nat.reduceLT, Nat.reduceAdd, Nat.reduceSub, Nat.reduceMul, Nat.reduceEqDiff, Nat.reduceLeDiff, Nat.reduceBEq, reduceIte, reduceCtorEq, rdLS, rdLL, argQ, noArg, live_W]) ⟨rfl, rfl⟩
    · rw [if_neg (by omega), if_pos h2] at hR'
      subst hR'
      refine call_w (softL_c M Z te) [0, 1, 2] (by simp (maxSteps := 4000000) only [push_cast, Int.reduceEq, Int.reduceBNe, Int.reduceBEq, Int.reduceAdd, Int.reduceSub, Int.reduceMul, Int.reduceNeg, Int.reduceLT, Int.reduceLE, Int.reduceToNat, Nat.reduceLT, Nat.reduceAdd, Nat.reduceSub, Nat.reduceMul, Nat.reduceEqDiff, Nat.reduceLeDiff, Nat.reduceBEq, reduceIte, reduceCtorEq, rdLS, rdLL, live_W]) ?_
      rintro sv post ⟨rfl, rfl⟩
      simp (maxSteps := 4000000) only [push_cast, Int.reduceEq, Int.reduceBNe, Int.reduceBEq, Int.reduceAdd, Int.reduceSub, Int.reduceMul, Int.reduceNeg, Int.reduceLT, Int.reduceLE, Int.reduceToNat, Nat.reduceLT, Nat.reduceAdd, Nat.reduceSub, Nat.reduceMul, Nat.reduceEqDiff, Nat.reduceLeDiff, Nat.reduceBEq, reduceIte, reduceCtorEq, rdLS, rdLL, live_ren]
      exact Fin.w [0, 1, 2] (.tup [.agg (argQ ⟨2, 0, N, []⟩), .i .i64 (softZ te)]) (rdLS M Z (softZ te)) (by simp (maxSteps := 4000000) only [push_cast, Int.reduceEq, Int.reduceBNe, Int.reduceBEq, Int.reduceAdd, Int.reduceSub, Int.reduceMul, Int.reduceNeg, Int.reduceLT, Int.reduceLE, Int.reduceToNat, Nat.reduceLT, Nat.reduceAdd, Nat.reduceSub, Nat.reduceMul, Nat.reduceEqDiff, Nat.reduceLeDiff, Nat.reduceBEq, reduceIte, reduceCtorEq, rdLS, rdLL, argQ, noArg, live_W]) ⟨rfl, rfl⟩
    · rw [if_neg (by omega), if_neg (by simp [h2]), if_pos (by rcases h3 with q | ⟨q, q2⟩; exact .inl (by omega); exact .inr ⟨by omega, q2⟩)] at hR'
      subst hR'
      exact Fin.w [0, 1, 2] (.tup [.agg (argQ noArg), .i .i64 181]) (rdLS M Z te) (by simp (maxSteps := 4000000) only [push_cast, Int.reduceEq, Int.reduceBNe, Int.reduceBEq, Int.reduceAdd, Int.reduceSub, Int.reduceMul, Int.reduceNeg, Int.reduceLT, Int.reduceLE, Int.reduceToNat, Nat.reduceLT, Nat.reduceAdd, Nat.reduceSub, Nat.reduceMul, Nat.reduceEqDiff, Nat.reduceLeDiff, Nat.reduceBEq, reduceIte, reduceCtorEq, rdLS, rdLL, argQ, noArg, live_W]) ⟨rfl, rfl⟩
    · have hn3 : ¬ (9223372036854775808 < N ∨ N = 9223372036854775808 ∧ S ≠ [45]) := by
        rintro (q | ⟨q, q2⟩)
        · omega
        · exact q2 h4
      rw [if_neg (by omega), if_neg (by simp [h2]), if_neg hn3, if_pos h4] at hR'
      subst hR'
      refine call_w (softL_c M Z te) [0, 1, 2] (by simp (maxSteps := 4000000) only [push_cast, Int.reduceEq, Int.reduceBNe, Int.reduceBEq, Int.reduceAdd, Int.reduceSub, Int.reduceMul, Int.reduceNeg, Int.reduceLT, Int.reduceLE, Int.reduceToNat, Nat.reduceLT, Nat.reduceAdd, Nat.reduceSub, Nat.reduceMul, Nat.reduceEqDiff, Nat.reduceLeDiff, Nat.reduceBEq, reduceIte, reduceCtorEq, rdLS, rdLL, live_W]) ?_
      rintro sv post ⟨rfl, rfl⟩
      simp (maxSteps := 4000000) only [push_cast, Int.reduceEq, Int.reduceBNe, Int.reduceBEq, Int.reduceAdd, Int.reduceSub, Int.reduceMul, Int.reduceNeg, Int.reduceLT, Int.reduceLE, Int.reduceToNat, Nat.reduceLT, Nat.reduceAdd, Nat.reduceSub, Nat.reduceMul, Nat.reduceEqDiff, Nat.reduceLeDiff, Nat.reduceBEq, reduceIte, reduceCtorEq, rdLS, rdLL, live_ren]
      have hneg : IntKind.i64.wrap (IntKind.u64.wrap (0 - (N : Int))) = -(N : Int) := by
        rw [IntKind.wrap_u64]
        have : N ≤ 9223372036854775808 := by omega
        rw [IntKind.wrap_i64]
        omega
      exact Fin.w [0, 1, 2] (.tup [.agg (argQ ⟨1, -(N : Int), 0, []⟩), .i .i64 (softZ te)]) (rdLS M Z (softZ te)) (by simp (maxSteps := 4000000) only [push_cast, Int.reduceEq, Int.reduceBNe, Int.reduceBEq, Int.reduceAdd, Int.reduceSub, Int.reduceMul, Int.reduceNeg, Int.reduceLT, Int.reduceLE, Int.reduceToNat, Nat.reduceLT, Nat.reduceAdd, Nat.reduceSub, Nat.reduceMul, Nat.reduceEqDiff, Nat.reduceLeDiff, Nat.reduceBEq, reduceIte, reduceCtorEq, rdLS, rdLL, argQ, noArg, live_W]; exact hneg.symm) ⟨rfl, rfl⟩
    · have hn3 : ¬ (9223372036854775808 < N ∨ N = 9223372036854775808 ∧ S ≠ [45]) := by
        rintro (q | ⟨q, q2⟩)
        · omega
        · rcases h3.2 with q3 | q3
          · omega
          · exact h4 q3
      rw [if_neg (by omega), if_neg (by simp [h2]), if_neg hn3, if_neg h4] at hR'
      subst hR'
      refine call_w (softL_c M Z te) [0, 1, 2] (by simp (maxSteps := 4000000) only [push_cast, Int.reduceEq, Int.reduceBNe, Int.reduceBEq, Int.reduceAdd, Int.reduceSub, Int.reduceMul, Int.reduceNeg, Int.reduceLT, Int.reduceLE, Int.reduceToNat, Nat.reduceLT, Nat.reduceAdd, Nat.reduceSub, Nat.reduceMul, Nat.reduceEqDiff, Nat.reduceLeDiff, Nat.reduceBEq, reduceIte, reduceCtorEq, rdLS, rdLL, live_W]) ?_
      rintro sv post ⟨rfl, rfl⟩
      simp (maxSteps := 4000000) only [push_cast, Int.reduceEq, Int.reduceBNe, Int.reduceBEq, Int.reduceAdd, Int.reduceSub, Int.reduceMul, Int.reduceNeg, Int.reduceLT, Int.reduceLE, Int.reduceToNat, Nat.reduceLT, Nat.reduceAdd, Nat.reduceSub, Nat.reduceMul, Nat.reduceEqDiff, Nat.reduceLeDiff, Nat.reduceBEq, reduceIte, reduceCtorEq, rdLS, rdLL, live_ren]
      have hlt : (N : Int) < 9223372036854775808 := by
        rcases h3.2 with q3 | q3
        · omega
        · exact absurd q3 h4
      exact Fin.w [0, 1, 2] (.tup [.agg (argQ ⟨1, N, 0, []⟩), .i .i64 (softZ te)]) (rdLS M Z (softZ te)) (by simp (maxSteps := 4000000) only [push_cast, Int.reduceEq, Int.reduceBNe, Int.reduceBEq, Int.reduceAdd, Int.reduceSub, Int.reduceMul, Int.reduceNeg, Int.reduceLT, Int.reduceLE, Int.reduceToNat, Nat.reduceLT, Nat.reduceAdd, Nat.reduceSub, Nat.reduceMul, Nat.reduceEqDiff, Nat.reduceLeDiff, Nat.reduceBEq, reduceIte, reduceCtorEq, rdLS, rdLL, argQ, noArg, live_W]; exact (wrap64 (n := (N : Int)) (by omega) (by omega)).symm) ⟨rfl, rfl⟩
end Go.Proofs.YtmciepkhpocafaaGreat
/- A stream as a source: a part. -/
namespace Go.Proofs.YtmciepkhpocafaaGreat
open Go Go.Eng
set_option maxHeartbeats 4000000
set_option linter.unusedSimpArgs false
set_option linter.unusedVariables false
set_option maxRecDepth 100000

/-- f: more than the source has. -/
def oneL (M : RawM) (p : PartP) (f : Nat) (s : St × M.σ) : AV × Int × (St × M.σ) × Int :=
  if p.verb = 0 then
    let T := takeL M (fun c => c == p.c) 1 s
    if T.2.1 = [] then (noArg, lackZ T.2.2, T.1, T.2.2) else (noArg, 0, T.1, T.2.2)
  else if p.verb = 32 then (noArg, softZ (blanksL M f s).2, (blanksL M f s).1, softZ (blanksL M f s).2)
  else if p.verb = 99 then
    let T := takeL M (fun _ => true) (wantQ p) s
    if T.2.1.length < wantQ p then (noArg, lackZ T.2.2, T.1, T.2.2)
    else if p.width = 0 then (⟨3, 0, (((T.2.1[0]?).getD 0).toNat : Int), []⟩, 0, T.1, T.2.2) else (⟨4, 0, 0, T.2.1⟩, 0, T.1, T.2.2)
  else if (blanksL M f s).2 ≠ 0 then (noArg, (blanksL M f s).2, (blanksL M f s).1, (blanksL M f s).2)
  else if p.verb = 115 then
    let T := takeL M (fun c => !isBlank c) (mostQ p) (blanksL M f s).1
    if T.2.1 = [] then (noArg, lackZ T.2.2, T.1, T.2.2) else (⟨4, 0, 0, T.2.1⟩, softZ T.2.2, T.1, softZ T.2.2)
  else numberL M p (mostQ p) (blanksL M f s).1
theorem oneL_ok {M : RawM} (hR : M.Rd) (hB : M.By) (p : PartP) (f : Nat) {s : St × M.σ} (h : LOK M s) : LOK M (oneL M p f s).2.2.1 := by
  have hb := blanksL_ok hR hB f s h
  unfold oneL
  split
  · have := (takeL_ok hR hB (fun c => c == p.c) 1 s h).1
    dsimp only
    split <;> exact this
  split
  · exact hb
  split
  · have := (takeL_ok hR hB (fun _ => true) (wantQ p) s h).1
    dsimp only
    split
    · exact this
    split <;> exact this
  split
  · exact hb
  split
  · have := (takeL_ok hR hB (fun c => !isBlank c) (mostQ p) _ hb).1
    dsimp only
    split <;> exact this
  · exact numberL_ok hR hB p (mostQ p) hb
theorem oneL_c (M : RawM) (hR : M.Rd) (hB : M.By) (mu : St × M.σ → Nat) (hE : Ends M mu) (p : PartP) (hw : p.width ≤ 4096) (s : St × M.σ) (h : LOK M s) (e : Int) (f : Nat) (hf : mu s < f) :
    Contract Tryz.prog 31 (rdLS M s e) [.ptr 1 0, .agg (partC p)] (isOneL M (oneL M p f s)) := by
  refine contract_of Γok Tryz.func31 rfl rfl (stop := []) ?_
  simp only [Tryz.f31]
  refine CodeOK.seq (evCode_sound Γok _ _ _ ?_)
  simp (maxSteps := 4000000) only [push_cast, Int.reduceEq, Int.reduceBNe, Int.reduceBEq, Int.reduceAdd, Int.reduceSub, Int.reduceMul, Int.reduceNeg, Int.reduceLT, Int.reduceLE, Int.reduceToNat, Nat.reduceLT, Nat.reduceAdd, Nat.reduceSub, Nat.reduceMul, Nat.reduceEqDiff, Nat.reduceLeDiff, Nat.reduceBEq, reduceIte, reduceCtorEq, rdLS, rdLL, partC]
  refine CodeOK.seq (evCode_sound Γok _ _ _ ?_)
  simp (maxSteps := 4000000) only [push_cast, Int.reduceEq, Int.reduceBNe, Int.reduceBEq, Int.reduceAdd, Int.reduceSub, Int.reduceMul, Int.reduceNeg, Int.reduceLT, Int.reduceLE, Int.reduceToNat, Nat.reduceLT, Nat.reduceAdd, Nat.reduceSub, Nat.reduceMul, Nat.reduceEqDiff, Nat.reduceLeDiff, Nat.reduceBEq, reduceIte, reduceCtorEq, mk_bs]
  refine CodeOK.seq (evCode_sound Γok _ _ _ ?_)
  simp (maxSteps := 4000000) only [push_cast, Int.reduceEq, Int.reduceBNe, Int.reduceBEq, Int.reduceAdd, Int.reduceSub, Int.reduceMul, Int.reduceNeg, Int.reduceLT, Int.reduceLE, Int.reduceToNat, Nat.reduceLT, Nat.reduceAdd, Nat.reduceSub, Nat.reduceMul, Nat.reduceEqDiff, Nat.reduceLeDiff, Nat.reduceBEq, reduceIte, reduceCtorEq, mk_bs, q0, u32, q99, bs_size]
  have fin : ∀ (A : AV) (x : Int) (k : St × M.σ) (z : Int), oneL M p f s = (A, x, k, z) → isOneL M (oneL M p f s) (.tup [.agg (argQ A), .i .i64 x]) (rdLS M k z) := fun A x k z h => by rw [h]; exact ⟨rfl, rfl⟩
  refine ⟨fun h0 => ?_, fun h0 => ⟨fun h1 => ?_, fun h1 => ⟨fun h2 => ?_, fun h2 => ?_⟩⟩⟩
  · have hq : oneL M p f s = if (takeL M (fun c => c == p.c) 1 s).2.1 = [] then (noArg, lackZ (takeL M (fun c => c == p.c) 1 s).2.2, (takeL M (fun c => c == p.c) 1 s).1, (takeL M (fun c => c == p.c) 1 s).2.2) else (noArg, 0, (takeL M (fun c => c == p.c) 1 s).1, (takeL M (fun c => c == p.c) 1 s).2.2) := if_pos h0
    refine call_w (takeLC_c p M hR hB (fun c => c == p.c) 51 (match_c p) 1 (by omega) s h 0) [0, 1, 2, 3] (by simp (maxSteps := 4000000) only [push_cast, Int.reduceEq, Int.reduceBNe, Int.reduceBEq, Int.reduceAdd, Int.reduceSub, Int.reduceMul, Int.reduceNeg, Int.reduceLT, Int.reduceLE, Int.reduceToNat, Nat.reduceLT, Nat.reduceAdd, Nat.reduceSub, Nat.reduceMul, Nat.reduceEqDiff, Nat.reduceLeDiff, Nat.reduceBEq, reduceIte, reduceCtorEq, rdLCS, rdLL, partC, live_W]) ?_
    rintro sv post ⟨rfl, rfl⟩
    rw [if_neg (by omega)]
    generalize takeL M (fun c => c == p.c) 1 s = T at hq ⊢
    simp (maxSteps := 4000000) only [push_cast, Int.reduceEq, Int.reduceBNe, Int.reduceBEq, Int.reduceAdd, Int.reduceSub, Int.reduceMul, Int.reduceNeg, Int.reduceLT, Int.reduceLE, Int.reduceToNat, Nat.reduceLT, Nat.reduceAdd, Nat.reduceSub, Nat.reduceMul, Nat.reduceEqDiff, Nat.reduceLeDiff, Nat.reduceBEq, reduceIte, reduceCtorEq, rdLCS, rdLL, partC, bs_tl, live_ren]
    refine ⟨fun h4 => ?_, fun h4 => ?_⟩
    · rw [if_pos h4] at hq
      refine call_w (lacksL_c M T.1 T.2.2) [0, 1, 2] (by simp (maxSteps := 4000000) only [push_cast, Int.reduceEq, Int.reduceBNe, Int.reduceBEq, Int.reduceAdd, Int.reduceSub, Int.reduceMul, Int.reduceNeg, Int.reduceLT, Int.reduceLE, Int.reduceToNat, Nat.reduceLT, Nat.reduceAdd, Nat.reduceSub, Nat.reduceMul, Nat.reduceEqDiff, Nat.reduceLeDiff, Nat.reduceBEq, reduceIte, reduceCtorEq, rdLS, rdLL, live_W]) ?_
      rintro sv post ⟨rfl, rfl⟩
      simp (maxSteps := 4000000) only [push_cast, Int.reduceEq, Int.reduceBNe, Int.reduceBEq, Int.reduceAdd, Int.reduceSub, Int.reduceMul, Int.reduceNeg, Int.reduceLT, Int.reduceLE, Int.reduceToNat, Nat.reduceLT, Nat.reduceAdd, Nat.reduceSub, Nat.reduceMul, Nat.reduceEqDiff, Nat.reduceLeDiff, Nat.reduceBEq, reduceIte, reduceCtorEq, rdLS, rdLL, live_ren]
      exact Fin.w [0, 1, 2] (.tup [.agg (argQ noArg), .i .i64 (lackZ T.2.2)]) (rdLS M T.1 T.2.2) (by simp (maxSteps := 4000000) only [push_cast, Int.reduceEq, Int.reduceBNe, Int.reduceBEq, Int.reduceAdd, Int.reduceSub, Int.reduceMul, Int.reduceNeg, Int.reduceLT, Int.reduceLE, Int.reduceToNat, Nat.reduceLT, Nat.reduceAdd, Nat.reduceSub, Nat.reduceMul, Nat.reduceEqDiff, Nat.reduceLeDiff, Nat.reduceBEq, reduceIte, reduceCtorEq, rdLS, rdLL, argQ, noArg, mk_bs, live_W]) (fin noArg _ _ _ hq)
    · rw [if_neg h4] at hq
      exact Fin.w [0, 1, 2] (.tup [.agg (argQ noArg), .i .i64 0]) (rdLS M T.1 T.2.2) (by simp (maxSteps := 4000000) only [push_cast, Int.reduceEq, Int.reduceBNe, Int.reduceBEq, Int.reduceAdd, Int.reduceSub, Int.reduceMul, Int.reduceNeg, Int.reduceLT, Int.reduceLE, Int.reduceToNat, Nat.reduceLT, Nat.reduceAdd, Nat.reduceSub, Nat.reduceMul, Nat.reduceEqDiff, Nat.reduceLeDiff, Nat.reduceBEq, reduceIte, reduceCtorEq, rdLS, rdLL, argQ, noArg, mk_bs, live_W]) (fin noArg 0 _ _ hq)
  · have hq : oneL M p f s = (noArg, softZ (blanksL M f s).2, (blanksL M f s).1, softZ (blanksL M f s).2) := by unfold oneL; rw [if_neg h0, if_pos h1]
    refine call_w (blanksL_c M hR hB mu hE s h 0 f hf) [0, 1, 2] (by simp (maxSteps := 4000000) only [push_cast, Int.reduceEq, Int.reduceBNe, Int.reduceBEq, Int.reduceAdd, Int.reduceSub, Int.reduceMul, Int.reduceNeg, Int.reduceLT, Int.reduceLE, Int.reduceToNat, Nat.reduceLT, Nat.reduceAdd, Nat.reduceSub, Nat.reduceMul, Nat.reduceEqDiff, Nat.reduceLeDiff, Nat.reduceBEq, reduceIte, reduceCtorEq, rdLS, rdLL, live_W]) ?_
    rintro sv post ⟨rfl, rfl⟩
    generalize blanksL M f s = B at hq ⊢
    simp (maxSteps := 4000000) only [push_cast, Int.reduceEq, Int.reduceBNe, Int.reduceBEq, Int.reduceAdd, Int.reduceSub, Int.reduceMul, Int.reduceNeg, Int.reduceLT, Int.reduceLE, Int.reduceToNat, Nat.reduceLT, Nat.reduceAdd, Nat.reduceSub, Nat.reduceMul, Nat.reduceEqDiff, Nat.reduceLeDiff, Nat.reduceBEq, reduceIte, reduceCtorEq, rdLS, rdLL, live_ren]
    refine call_w (softL_c M B.1 B.2) [0, 1, 2] (by simp (maxSteps := 4000000) only [push_cast, Int.reduceEq, Int.reduceBNe, Int.reduceBEq, Int.reduceAdd, Int.reduceSub, Int.reduceMul, Int.reduceNeg, Int.reduceLT, Int.reduceLE, Int.reduceToNat, Nat.reduceLT, Nat.reduceAdd, Nat.reduceSub, Nat.reduceMul, Nat.reduceEqDiff, Nat.reduceLeDiff, Nat.reduceBEq, reduceIte, reduceCtorEq, rdLS, rdLL, live_W]) ?_
    rintro sv post ⟨rfl, rfl⟩
    simp (maxSteps := 4000000) only [push_cast, Int.reduceEq, Int.reduceBNe, Int.reduceBEq, Int.reduceAdd, Int.reduceSub, Int.reduceMul, Int.reduceNeg, Int.reduceLT, Int.reduceLE, Int.reduceToNat, Nat.reduceLT, Nat.reduceAdd, Nat.reduceSub, Nat.reduceMul, Nat.reduceEqDiff, Nat.reduceLeDiff, Nat.reduceBEq, reduceIte, reduceCtorEq, rdLS, rdLL, live_ren]
    exact Fin.w [0, 1, 2] (.tup [.agg (argQ noArg), .i .i64 (softZ B.2)]) (rdLS M B.1 (softZ B.2)) (by simp (maxSteps := 4000000) only [push_cast, Int.reduceEq, Int.reduceBNe, Int.reduceBEq, Int.reduceAdd, Int.reduceSub, Int.reduceMul, Int.reduceNeg, Int.reduceLT, Int.reduceLE, Int.reduceToNat, Nat.reduceLT, Nat.reduceAdd, Nat.reduceSub, Nat.reduceMul, Nat.reduceEqDiff, Nat.reduceLeDiff, Nat.reduceBEq, reduceIte, reduceCtorEq, rdLS, rdLL, argQ, noArg, mk_bs, live_W]) (fin noArg _ _ _ hq)
  · have hmax : maxI (p.width : Int) 1 = (wantQ p : Int) := by unfold maxI wantQ; split <;> split <;> omega
    have hwant : 1 ≤ wantQ p ∧ wantQ p ≤ 4096 := by unfold wantQ; split <;> omega
    have hq : oneL M p f s = if (takeL M (fun _ => true) (wantQ p) s).2.1.length < wantQ p then (noArg, lackZ (takeL M (fun _ => true) (wantQ p) s).2.2, (takeL M (fun _ => true) (wantQ p) s).1, (takeL M (fun _ => true) (wantQ p) s).2.2)
      else if p.width = 0 then (⟨3, 0, ((((takeL M (fun _ => true) (wantQ p) s).2.1[0]?).getD 0).toNat : Int), []⟩, 0, (takeL M (fun _ => true) (wantQ p) s).1, (takeL M (fun _ => true) (wantQ p) s).2.2) else (⟨4, 0, 0, (takeL M (fun _ => true) (wantQ p) s).2.1⟩, 0, (takeL M (fun _ => true) (wantQ p) s).1, (takeL M (fun _ => true) (wantQ p) s).2.2) := by
      unfold oneL
      rw [if_neg h0, if_neg h1, if_pos h2]
    rw [hmax]
    refine call_w (takeLA_c M hR hB (fun _ => true) 55 anyB_c (wantQ p) (by omega) s h 0) [0, 1, 2] (by simp (maxSteps := 4000000) only [push_cast, Int.reduceEq, Int.reduceBNe, Int.reduceBEq, Int.reduceAdd, Int.reduceSub, Int.reduceMul, Int.reduceNeg, Int.reduceLT, Int.reduceLE, Int.reduceToNat, Nat.reduceLT, Nat.reduceAdd, Nat.reduceSub, Nat.reduceMul, Nat.reduceEqDiff, Nat.reduceLeDiff, Nat.reduceBEq, reduceIte, reduceCtorEq, rdLS, rdLL, live_W]) ?_
    rintro sv post ⟨rfl, rfl⟩
    rw [if_neg (show ¬ wantQ p = 0 by omega)]
    have htl := (takeL_ok hR hB (fun _ => true) (wantQ p) s h).2
    generalize takeL M (fun _ => true) (wantQ p) s = T at hq htl ⊢
    simp (maxSteps := 4000000) only [push_cast, Int.reduceEq, Int.reduceBNe, Int.reduceBEq, Int.reduceAdd, Int.reduceSub, Int.reduceMul, Int.reduceNeg, Int.reduceLT, Int.reduceLE, Int.reduceToNat, Nat.reduceLT, Nat.reduceAdd, Nat.reduceSub, Nat.reduceMul, Nat.reduceEqDiff, Nat.reduceLeDiff, Nat.reduceBEq, reduceIte, reduceCtorEq, rdLS, rdLL, bs_size, bs_at, live_ren]
    refine ⟨fun h4 => ?_, fun h4 => ⟨fun h5 => ?_, fun h5 => ?_⟩⟩
    · rw [if_pos (by omega)] at hq
      refine call_w (lacksL_c M T.1 T.2.2) [0, 1, 2] (by simp (maxSteps := 4000000) only [push_cast, Int.reduceEq, Int.reduceBNe, Int.reduceBEq, Int.reduceAdd, Int.reduceSub, Int.reduceMul, Int.reduceNeg, Int.reduceLT, Int.reduceLE, Int.reduceToNat, Nat.reduceLT, Nat.reduceAdd, Nat.reduceSub, Nat.reduceMul, Nat.reduceEqDiff, Nat.reduceLeDiff, Nat.reduceBEq, reduceIte, reduceCtorEq, rdLS, rdLL, live_W]) ?_
      rintro sv post ⟨rfl, rfl⟩
      simp (maxSteps := 4000000) only [push_cast, Int.reduceEq, Int.reduceBNe, Int.reduceBEq, Int.reduceAdd, Int.reduceSub, Int.reduceMul, Int.reduceNeg, Int.reduceLT, Int.reduceLE, Int.reduceToNat, Nat.reduceLT, Nat.reduceAdd, Nat.reduceSub, Nat.reduceMul, Nat.reduceEqDiff, Nat.reduceLeDiff, Nat.reduceBEq, reduceIte, reduceCtorEq, rdLS, rdLL, live_ren]
      exact Fin.w [0, 1, 2] (.tup [.agg (argQ noArg), .i .i64 (lackZ T.2.2)]) (rdLS M T.1 T.2.2) (by simp (maxSteps := 4000000) only [push_cast, Int.reduceEq, Int.reduceBNe, Int.reduceBEq, Int.reduceAdd, Int.reduceSub, Int.reduceMul, Int.reduceNeg, Int.reduceLT, Int.reduceLE, Int.reduceToNat, Nat.reduceLT, Nat.reduceAdd, Nat.reduceSub, Nat.reduceMul, Nat.reduceEqDiff, Nat.reduceLeDiff, Nat.reduceBEq, reduceIte, reduceCtorEq, rdLS, rdLL, argQ, noArg, mk_bs, live_W]) (fin noArg _ _ _ hq)
    · rw [if_neg (by omega), if_pos (by omega)] at hq
      have hu := u8_lt ((T.2.1[0]?).getD 0)
      have hwu : IntKind.u64.wrap (((T.2.1[0]?).getD 0).toNat : Int) = (((T.2.1[0]?).getD 0).toNat : Int) := by rw [IntKind.wrap_u64]; omega
      rw [hwu]
      exact ⟨by omega, Fin.w [0, 1, 2] (.tup [.agg (argQ ⟨3, 0, (((T.2.1[0]?).getD 0).toNat : Int), []⟩), .i .i64 0]) (rdLS M T.1 T.2.2) (by simp (maxSteps := 4000000) only [push_cast, Int.reduceEq, Int.reduceBNe, Int.reduceBEq, Int.reduceAdd, Int.reduceSub, Int.reduceMul, Int.reduceNeg, Int.reduceLT, Int.reduceLE, Int.reduceToNat, Nat.reduceLT, Nat.reduceAdd, Nat.reduceSub, Nat.reduceMul, Nat.reduceEqDiff, Nat.reduceLeDiff, Nat.reduceBEq, reduceIte, reduceCtorEq, rdLS, rdLL, argQ, noArg, mk_bs, live_W]) (fin ⟨3, 0, (((T.2.1[0]?).getD 0).toNat : Int), []⟩ _ _ _ hq)⟩
    · rw [if_neg (by omega), if_neg (by omega)] at hq
      exact Fin.w [0, 1, 2] (.tup [.agg (argQ ⟨4, 0, 0, T.2.1⟩), .i .i64 0]) (rdLS M T.1 T.2.2) (by simp (maxSteps := 4000000) only [push_cast, Int.reduceEq, Int.reduceBNe, Int.reduceBEq, Int.reduceAdd, Int.reduceSub, Int.reduceMul, Int.reduceNeg, Int.reduceLT, Int.reduceLE, Int.reduceToNat, Nat.reduceLT, Nat.reduceAdd, Nat.reduceSub, Nat.reduceMul, Nat.reduceEqDiff, Nat.reduceLeDiff, Nat.reduceBEq, reduceIte, reduceCtorEq, rdLS, rdLL, argQ, noArg, mk_bs, live_W]) (fin ⟨4, 0, 0, T.2.1⟩ _ _ _ hq)
  · have hq : oneL M p f s = if (blanksL M f s).2 ≠ 0 then (noArg, (blanksL M f s).2, (blanksL M f s).1, (blanksL M f s).2) else if p.verb = 115 then
        (if (takeL M (fun c => !isBlank c) (mostQ p) (blanksL M f s).1).2.1 = [] then (noArg, lackZ (takeL M (fun c => !isBlank c) (mostQ p) (blanksL M f s).1).2.2, (takeL M (fun c => !isBlank c) (mostQ p) (blanksL M f s).1).1, (takeL M (fun c => !isBlank c) (mostQ p) (blanksL M f s).1).2.2) else (⟨4, 0, 0, (takeL M (fun c => !isBlank c) (mostQ p) (blanksL M f s).1).2.1⟩, softZ (takeL M (fun c => !isBlank c) (mostQ p) (blanksL M f s).1).2.2, (takeL M (fun c => !isBlank c) (mostQ p) (blanksL M f s).1).1, softZ (takeL M (fun c => !isBlank c) (mostQ p) (blanksL M f s).1).2.2))
      else numberL M p (mostQ p) (blanksL M f s).1 := by
      unfold oneL
      rw [if_neg h0, if_neg h1, if_neg h2]
    have hmost : 1 ≤ mostQ p ∧ mostQ p ≤ 4096 := by unfold mostQ; split <;> omega
    refine CodeOK.seq (evCode_sound Γok _ _ _ ?_)
    simp (maxSteps := 4000000) only [push_cast, Int.reduceEq, Int.reduceBNe, Int.reduceBEq, Int.reduceAdd, Int.reduceSub, Int.reduceMul, Int.reduceNeg, Int.reduceLT, Int.reduceLE, Int.reduceToNat, Nat.reduceLT, Nat.reduceAdd, Nat.reduceSub, Nat.reduceMul, Nat.reduceEqDiff, Nat.reduceLeDiff, Nat.reduceBEq, reduceIte, reduceCtorEq]
    have hbok := blanksL_ok hR hB f s h
    refine call_w (blanksL_c M hR hB mu hE s h 0 f hf) [0, 1, 2] (by simp (maxSteps := 4000000) only [push_cast, Int.reduceEq, Int.reduceBNe, Int.reduceBEq, Int.reduceAdd, Int.reduceSub, Int.reduceMul, Int.reduceNeg, Int.reduceLT, Int.reduceLE, Int.reduceToNat, Nat.reduceLT, Nat.reduceAdd, Nat.reduceSub, Nat.reduceMul, Nat.reduceEqDiff, Nat.reduceLeDiff, Nat.reduceBEq, reduceIte, reduceCtorEq, rdLS, rdLL, live_W]) ?_
    rintro sv post ⟨rfl, rfl⟩
    generalize blanksL M f s = B at hq hbok ⊢
    obtain ⟨Z, ze⟩ := B
    simp only at hq hbok ⊢
    simp (maxSteps := 4000000) only [push_cast, Int.reduceEq, Int.reduceBNe, Int.reduceBEq, Int.reduceAdd, Int.reduceSub, Int.reduceMul, Int.reduceNeg, Int.reduceLT, Int.reduceLE, Int.reduceToNat, Nat.reduceLT, Nat.reduceAdd, Nat.reduceSub, Nat.reduceMul, Nat.reduceEqDiff, Nat.reduceLeDiff, Nat.reduceBEq, reduceIte, reduceCtorEq, rdLS, rdLL, live_ren]
    refine ⟨fun h4 => ?_, fun h4 => ?_⟩
    · rw [if_pos h4] at hq
      refine (region_plan rfl Γok mixed (.pure 0 (.pure 1 (.pure 2 (.pure 3 (.pure 4 (.eff (.cons 5 [4] (.pure 6 .done) .nil))))))) 95 rfl (by kernel_rfl) ?_)
      simp (maxSteps := 4000000) only [push_cast, Int.reduceEq, Int.reduceBNe, Int.reduceBEq, Int.reduceAdd, Int.reduceSub, Int.reduceMul, Int.reduceNeg, Int.reduceLT, Int.reduceLE, Int.reduceToNat, Nat.reduceLT, Nat.reduceAdd, Nat.reduceSub, Nat.reduceMul, Nat.reduceEqDiff, Nat.reduceLeDiff, Nat.reduceBEq, reduceIte, reduceCtorEq, mk_bs]
      exact Fin.w [0, 1, 2] (.tup [.agg (argQ noArg), .i .i64 ze]) (rdLS M Z ze) (by simp (maxSteps := 4000000) only [push_cast, Int.reduceEq, Int.reduceBNe, Int.reduceBEq, Int.reduceAdd, Int.reduceSub, Int.reduceMul, Int.reduceNeg, Int.reduceLT, Int.reduceLE, Int.reduceToNat, Nat.reduceLT, Nat.reduceAdd, Nat.reduceSub, Nat.reduceMul, Nat.reduceEqDiff, Nat.reduceLeDiff, Nat.reduceBEq, reduceIte, reduceCtorEq, rdLS, rdLL, argQ, noArg, mk_bs, live_W]) (fin noArg ze _ _ hq)
    subst h4
    rw [if_neg (by simp)] at hq
    refine CodeOK.seq (evCode_sound Γok _ _ _ ?_)
    simp (maxSteps := 4000000) only [push_cast, Int.reduceEq, Int.reduceBNe, Int.reduceBEq, Int.reduceAdd, Int.reduceSub, Int.reduceMul, Int.reduceNeg, Int.reduceLT, Int.reduceLE, Int.reduceToNat, Nat.reduceLT, Nat.reduceAdd, Nat.reduceSub, Nat.reduceMul, Nat.reduceEqDiff, Nat.reduceLeDiff, Nat.reduceBEq, reduceIte, reduceCtorEq]
    refine code_cut ⟨[.ptr 1 0, .any, .any, .ptr 3 0, .ptr 4 0, .any, .any, .any, .i .i64 (mostQ p)] ++ List.replicate 86 .any, numLHp M p Z 0, [], [(2, M.res Z.2)], 5, 3, []⟩ (evCode_sound Γok _ _ _ ?_) ?_
    · simp (maxSteps := 4000000) only [push_cast, Int.reduceEq, Int.reduceBNe, Int.reduceBEq, Int.reduceAdd, Int.reduceSub, Int.reduceMul, Int.reduceNeg, Int.reduceLT, Int.reduceLE, Int.reduceToNat, Nat.reduceLT, Nat.reduceAdd, Nat.reduceSub, Nat.reduceMul, Nat.reduceEqDiff, Nat.reduceLeDiff, Nat.reduceBEq, reduceIte, reduceCtorEq]
      refine ⟨fun q => Sub.w [0, 1, 2, 3, 4] ?_, fun q => Sub.w [0, 1, 2, 3, 4] ?_⟩
      · simp (maxSteps := 4000000) only [push_cast, Int.reduceEq, Int.reduceBNe, Int.reduceBEq, Int.reduceAdd, Int.reduceSub, Int.reduceMul, Int.reduceNeg, Int.reduceLT, Int.reduceLE, Int.reduceToNat, Nat.reduceLT, Nat.reduceAdd, Nat.reduceSub, Nat.reduceMul, Nat.reduceEqDiff, Nat.reduceLeDiff, Nat.reduceBEq, reduceIte, reduceCtorEq, numLHp, rdLL, partC, live_W, mk_bs]
        unfold mostQ; rw [if_pos (by omega)]; rfl
      · simp (maxSteps := 4000000) only [push_cast, Int.reduceEq, Int.reduceBNe, Int.reduceBEq, Int.reduceAdd, Int.reduceSub, Int.reduceMul, Int.reduceNeg, Int.reduceLT, Int.reduceLE, Int.reduceToNat, Nat.reduceLT, Nat.reduceAdd, Nat.reduceSub, Nat.reduceMul, Nat.reduceEqDiff, Nat.reduceLeDiff, Nat.reduceBEq, reduceIte, reduceCtorEq, numLHp, rdLL, partC, live_W, mk_bs]
        unfold mostQ; rw [if_neg (by omega)]
    refine evCode_sound Γok _ _ _ ?_
    simp (maxSteps := 4000000) only [push_cast, Int.reduceEq, Int.reduceBNe, Int.reduceBEq, Int.reduceAdd, Int.reduceSub, Int.reduceMul, Int.reduceNeg, Int.reduceLT, Int.reduceLE, Int.reduceToNat, Nat.reduceLT, Nat.reduceAdd, Nat.reduceSub, Nat.reduceMul, Nat.reduceEqDiff, Nat.reduceLeDiff, Nat.reduceBEq, reduceIte, reduceCtorEq, numLHp, rdLL, partC, q115]
    refine ⟨fun h5 => ?_, fun h5 => ?_⟩
    · rw [if_pos h5] at hq
      refine call_w (takeLA_c M hR hB (fun c => !isBlank c) 56 full_c (mostQ p) (by omega) Z hbok 0) [0, 1, 2] (by simp (maxSteps := 4000000) only [push_cast, Int.reduceEq, Int.reduceBNe, Int.reduceBEq, Int.reduceAdd, Int.reduceSub, Int.reduceMul, Int.reduceNeg, Int.reduceLT, Int.reduceLE, Int.reduceToNat, Nat.reduceLT, Nat.reduceAdd, Nat.reduceSub, Nat.reduceMul, Nat.reduceEqDiff, Nat.reduceLeDiff, Nat.reduceBEq, reduceIte, reduceCtorEq, rdLS, rdLL, live_W]) ?_
      rintro sv post ⟨rfl, rfl⟩
      rw [if_neg (show ¬ mostQ p = 0 by omega)]
      generalize takeL M (fun c => !isBlank c) (mostQ p) Z = T at hq ⊢
      simp (maxSteps := 4000000) only [push_cast, Int.reduceEq, Int.reduceBNe, Int.reduceBEq, Int.reduceAdd, Int.reduceSub, Int.reduceMul, Int.reduceNeg, Int.reduceLT, Int.reduceLE, Int.reduceToNat, Nat.reduceLT, Nat.reduceAdd, Nat.reduceSub, Nat.reduceMul, Nat.reduceEqDiff, Nat.reduceLeDiff, Nat.reduceBEq, reduceIte, reduceCtorEq, rdLS, rdLL, mk_bs, bs_tl, live_ren]
      refine ⟨fun h6 => ?_, fun h6 => ?_⟩
      · rw [if_pos h6] at hq
        refine call_w (lacksL_c M T.1 T.2.2) [0, 1, 2] (by simp (maxSteps := 4000000) only [push_cast, Int.reduceEq, Int.reduceBNe, Int.reduceBEq, Int.reduceAdd, Int.reduceSub, Int.reduceMul, Int.reduceNeg, Int.reduceLT, Int.reduceLE, Int.reduceToNat, Nat.reduceLT, Nat.reduceAdd, Nat.reduceSub, Nat.reduceMul, Nat.reduceEqDiff, Nat.reduceLeDiff, Nat.reduceBEq, reduceIte, reduceCtorEq, rdLS, rdLL, live_W]) ?_
        rintro sv post ⟨rfl, rfl⟩
        simp (maxSteps := 4000000) only [push_cast, Int.reduceEq, Int.reduceBNe, Int.reduceBEq, Int.reduceAdd, Int.reduceSub, Int.reduceMul, Int.reduceNeg, Int.reduceLT, Int.reduceLE, Int.reduceToNat, Nat.reduceLT, Nat.reduceAdd, Nat.reduceSub, Nat.reduceMul, Nat.reduceEqDiff, Nat.reduceLeDiff, Nat.reduceBEq, reduceIte, reduceCtorEq, rdLS, rdLL, live_ren]
        exact Fin.w [0, 1, 2] (.tup [.agg (argQ noArg), .i .i64 (lackZ T.2.2)]) (rdLS M T.1 T.2.2) (by simp (maxSteps := 4000000) only [push_cast, Int.reduceEq, Int.reduceBNe, Int.reduceBEq, Int.reduceAdd, Int.reduceSub, Int.reduceMul, Int.reduceNeg, Int.reduceLT, Int.reduceLE, Int.reduceToNat, Nat.reduceLT, Nat.reduceAdd, Nat.reduceSub, Nat.reduceMul, Nat.reduceEqDiff, Nat.reduceLeDiff, Nat.reduceBEq, reduceIte, reduceCtorEq, rdLS, rdLL, argQ, noArg, mk_bs, live_W]) (fin noArg _ _ _ hq)
      · rw [if_neg h6] at hq
        refine call_w (softL_c M T.1 T.2.2) [0, 1, 2] (by simp (maxSteps := 4000000) only [push_cast, Int.reduceEq, Int.reduceBNe, Int.reduceBEq, Int.reduceAdd, Int.reduceSub, Int.reduceMul, Int.reduceNeg, Int.reduceLT, Int.reduceLE, Int.reduceToNat, Nat.reduceLT, Nat.reduceAdd, Nat.reduceSub, Nat.reduceMul, Nat.reduceEqDiff, Nat.reduceLeDiff, Nat.reduceBEq, reduceIte, reduceCtorEq, rdLS, rdLL, live_W]) ?_
        rintro sv post ⟨rfl, rfl⟩
        simp (maxSteps := 4000000) only [push_cast, Int.reduceEq, Int.reduceBNe, Int.reduceBEq, Int.reduceAdd, Int.reduceSub, Int.reduceMul, Int.reduceNeg, Int.reduceLT, Int.reduceLE, Int.reduceToNat, Nat.reduceLT, Nat.reduceAdd, Nat.reduceSub, Nat.reduceMul, Nat.reduceEqDiff, Nat.reduceLeDiff, Nat.reduceBEq, reduceIte, reduceCtorEq, rdLS, rdLL, live_ren]
        exact Fin.w [0, 1, 2] (.tup [.agg (argQ ⟨4, 0, 0, T.2.1⟩), .i .i64 (softZ T.2.2)]) (rdLS M T.1 (softZ T.2.2)) (by simp (maxSteps := 4000000) only [push_cast, Int.reduceEq, Int.reduceBNe, Int.reduceBEq, Int.reduceAdd, Int.reduceSub, Int.reduceMul, Int.reduceNeg, Int.reduceLT, Int.reduceLE, Int.reduceToNat, Nat.reduceLT, Nat.reduceAdd, Nat.reduceSub, Nat.reduceMul, Nat.reduceEqDiff, Nat.reduceLeDiff, Nat.reduceBEq, reduceIte, reduceCtorEq, rdLS, rdLL, argQ, noArg, mk_bs, live_W]) (fin ⟨4, 0, 0, T.2.1⟩ _ _ _ hq)
    · rw [if_neg h5] at hq
      refine call_w (numberL_c M hR hB p (mostQ p) hmost.1 hmost.2 Z hbok 0) [0, 1, 2] (by simp (maxSteps := 4000000) only [push_cast, Int.reduceEq, Int.reduceBNe, Int.reduceBEq, Int.reduceAdd, Int.reduceSub, Int.reduceMul, Int.reduceNeg, Int.reduceLT, Int.reduceLE, Int.reduceToNat, Nat.reduceLT, Nat.reduceAdd, Nat.reduceSub, Nat.reduceMul, Nat.reduceEqDiff, Nat.reduceLeDiff, Nat.reduceBEq, reduceIte, reduceCtorEq, rdLS, rdLL, partC, live_W]) ?_
      rintro sv post ⟨rfl, rfl⟩
      generalize numberL M p (mostQ p) Z = R at hq ⊢
      obtain ⟨A, x, k, z⟩ := R
      simp (maxSteps := 4000000) only [push_cast, Int.reduceEq, Int.reduceBNe, Int.reduceBEq, Int.reduceAdd, Int.reduceSub, Int.reduceMul, Int.reduceNeg, Int.reduceLT, Int.reduceLE, Int.reduceToNat, Nat.reduceLT, Nat.reduceAdd, Nat.reduceSub, Nat.reduceMul, Nat.reduceEqDiff, Nat.reduceLeDiff, Nat.reduceBEq, reduceIte, reduceCtorEq, rdLS, rdLL, argQ, live_ren]
      exact Fin.w [0, 1, 2] (.tup [.agg (argQ A), .i .i64 x]) (rdLS M k z) (by simp (maxSteps := 4000000) only [push_cast, Int.reduceEq, Int.reduceBNe, Int.reduceBEq, Int.reduceAdd, Int.reduceSub, Int.reduceMul, Int.reduceNeg, Int.reduceLT, Int.reduceLE, Int.reduceToNat, Nat.reduceLT, Nat.reduceAdd, Nat.reduceSub, Nat.reduceMul, Nat.reduceEqDiff, Nat.reduceLeDiff, Nat.reduceBEq, reduceIte, reduceCtorEq, rdLS, rdLL, argQ, noArg, live_W]) (fin A x k z hq)
end Go.Proofs.YtmciepkhpocafaaGreat
/- A stream as a source: all parts; scan.Read. -/
namespace Go.Proofs.YtmciepkhpocafaaGreat
open Go Go.Eng
set_option maxHeartbeats 4000000
set_option linter.unusedSimpArgs false
set_option linter.unusedVariables false
set_option maxRecDepth 100000

/-- The Args that are told, the error, the source. -/
def allL (M : RawM) (mu : St × M.σ → Nat) : List PartP → St × M.σ → List AV → List AV × Int × (St × M.σ)
  | [], s, out => (out, 0, s)
  | p :: r, s, out => if (oneL M p (mu s + 1) s).2.1 ≠ 0 then (out, (oneL M p (mu s + 1) s).2.1, (oneL M p (mu s + 1) s).2.2.1) else allL M mu r (oneL M p (mu s + 1) s).2.2.1 (if p.tells then out ++ [(oneL M p (mu s + 1) s).1] else out)
theorem allL_ok {M : RawM} (hR : M.Rd) (hB : M.By) (mu : St × M.σ → Nat) : ∀ (ps : List PartP) (s : St × M.σ) (out : List AV), LOK M s → LOK M (allL M mu ps s out).2.2
  | [], s, out, h => h
  | p :: r, s, out, h => by
    have h1 := oneL_ok hR hB p (mu s + 1) h
    simp only [allL]
    split
    · exact h1
    · exact allL_ok hR hB mu r _ _ h1
def isAllL (M : RawM) (R : List AV × Int × (St × M.σ)) (sv : SV) (post : SS) : Prop := sv = .tup [.sl 4 .old R.1.length (argElQ R.1), .i .i64 R.2.1] ∧ ∃ z, post = rdLS M R.2.2 z
theorem allL_c (M : RawM) (hR : M.Rd) (hB : M.By) (mu : St × M.σ → Nat) (hE : Ends M mu) (ps : List PartP) (hps : ∀ p, p ∈ ps → p.width ≤ 4096) (hpl : ps.length ≤ 65536) (s : St × M.σ) (h : LOK M s) (e : Int) :
    Contract Tryz.prog 14 (rdLS M s e) [.ptr 1 0, .sl 4 .old ps.length (partEl ps)] (isAllL M (allL M mu ps s [])) := by
  refine contract_of Γok Tryz.func14 rfl rfl (stop := []) ?_
  refine evCode_sound Γok _ _ _ ?_
  simp (maxSteps := 4000000) only [push_cast, Int.reduceEq, Int.reduceBNe, Int.reduceBEq, Int.reduceAdd, Int.reduceSub, Int.reduceMul, Int.reduceNeg, Int.reduceLT, Int.reduceLE, Int.reduceToNat, Nat.reduceLT, Nat.reduceAdd, Nat.reduceSub, Nat.reduceMul, Nat.reduceEqDiff, Nat.reduceLeDiff, Nat.reduceBEq, reduceIte, reduceCtorEq, Tryz.f14, rdLS, rdLL]
  refine loop_ok (ι := {q : Nat × List PartP × (St × M.σ) × List AV × Int // allL M mu q.2.1 q.2.2.1 q.2.2.2.1 = allL M mu ps s [] ∧ ps.drop q.1 = q.2.1 ∧ q.1 + q.2.1.length = ps.length ∧ LOK M q.2.2.1 ∧ q.2.2.2.1.length ≤ q.1})
    (fun q => ⟨[.ptr 1 0, .any, .any, .any, .any, .any, .sl 4 (.tok 3 true) q.1.2.2.2.1.length (argElQ q.1.2.2.2.1), .any, .any, .any, .any, .sl 4 .old ps.length (partEl ps), .i .i64 ps.length, .i .i64 q.1.1] ++ List.replicate 21 .any, [(0, 97, liveC M q.1.2.2.1.1), (1, 72, rdLL q.1.2.2.2.2)], [3], [(2, M.res q.1.2.2.1.2)], 4, 3, []⟩) (fun q => q.1.2.1.length) ⟨(0, ps, s, [], e), rfl, rfl, by simp, h, by simp⟩ ?_ ?_
  · refine Sub.trans (Sub.tokFrS 6 4 (argElQ []) rfl) (Sub.w [0, 1, 2, 3] ?_)
    simp (maxSteps := 4000000) only [push_cast, Int.reduceEq, Int.reduceBNe, Int.reduceBEq, Int.reduceAdd, Int.reduceSub, Int.reduceMul, Int.reduceNeg, Int.reduceLT, Int.reduceLE, Int.reduceToNat, Nat.reduceLT, Nat.reduceAdd, Nat.reduceSub, Nat.reduceMul, Nat.reduceEqDiff, Nat.reduceLeDiff, Nat.reduceBEq, reduceIte, reduceCtorEq, rdLL, live_W]
    exact ⟨fun i hi => absurd hi (Nat.not_lt_zero _), fun i _ j _ => W_part _ ps i j⟩
  rintro ⟨⟨i, r, s', out, z⟩, h1, h2, h3, h4, h5⟩
  simp only at h1 h2 h3 h4 h5
  refine evCode_sound Γok _ _ _ ?_
  simp (maxSteps := 4000000) only [push_cast, Int.reduceEq, Int.reduceBNe, Int.reduceBEq, Int.reduceAdd, Int.reduceSub, Int.reduceMul, Int.reduceNeg, Int.reduceLT, Int.reduceLE, Int.reduceToNat, Nat.reduceLT, Nat.reduceAdd, Nat.reduceSub, Nat.reduceMul, Nat.reduceEqDiff, Nat.reduceLeDiff, Nat.reduceBEq, reduceIte, reduceCtorEq, rdLL]
  refine ⟨fun h6 => ?_, fun h6 => ?_⟩
  · obtain ⟨p, r, rfl⟩ : ∃ d r', r = d :: r' := by
      cases r with
      | nil => simp only [List.length_nil] at h3; omega
      | cons d r => exact ⟨d, r, rfl⟩
    simp only [List.length_cons] at h3
    have hp : p ∈ ps := List.mem_of_mem_drop (by rw [h2]; exact List.mem_cons_self)
    have hmap : List.map (partEl ps ((i : Int)).toNat) (List.range 4) = partC p := by
      rw [Int.toNat_natCast]
      show _ = List.map (partEl (p :: r) 0) (List.range 4)
      congr 1
      funext j
      have := partEl_drop ps i 0 j
      rw [h2] at this
      exact this
    rw [hmap]
    have hr : ps.drop (i + 1) = r := by rw [← List.drop_drop, h2]; rfl
    simp (maxSteps := 4000000) only [push_cast, Int.reduceEq, Int.reduceBNe, Int.reduceBEq, Int.reduceAdd, Int.reduceSub, Int.reduceMul, Int.reduceNeg, Int.reduceLT, Int.reduceLE, Int.reduceToNat, Nat.reduceLT, Nat.reduceAdd, Nat.reduceSub, Nat.reduceMul, Nat.reduceEqDiff, Nat.reduceLeDiff, Nat.reduceBEq, reduceIte, reduceCtorEq, partC]
    refine ⟨by omega, ?_⟩
    have hok := oneL_ok hR hB p (mu s' + 1) h4
    refine call_w (oneL_c M hR hB mu hE p (hps p hp) s' h4 z (mu s' + 1) (Nat.lt_succ_self _)) [0, 1, 2] (by simp (maxSteps := 4000000) only [push_cast, Int.reduceEq, Int.reduceBNe, Int.reduceBEq, Int.reduceAdd, Int.reduceSub, Int.reduceMul, Int.reduceNeg, Int.reduceLT, Int.reduceLE, Int.reduceToNat, Nat.reduceLT, Nat.reduceAdd, Nat.reduceSub, Nat.reduceMul, Nat.reduceEqDiff, Nat.reduceLeDiff, Nat.reduceBEq, reduceIte, reduceCtorEq, rdLS, rdLL, partC, live_W]) ?_
    rintro sv post ⟨rfl, rfl⟩
    simp only [allL] at h1
    generalize oneL M p (mu s' + 1) s' = R at h1 hok ⊢
    obtain ⟨A, x, Z, z'⟩ := R
    simp only at h1 hok
    simp (maxSteps := 4000000) only [push_cast, Int.reduceEq, Int.reduceBNe, Int.reduceBEq, Int.reduceAdd, Int.reduceSub, Int.reduceMul, Int.reduceNeg, Int.reduceLT, Int.reduceLE, Int.reduceToNat, Nat.reduceLT, Nat.reduceAdd, Nat.reduceSub, Nat.reduceMul, Nat.reduceEqDiff, Nat.reduceLeDiff, Nat.reduceBEq, reduceIte, reduceCtorEq, rdLS, rdLL, argQ, live_ren]
    refine ⟨fun h7 => ?_, fun h7 => ?_⟩
    · rw [if_pos h7] at h1
      rw [← h1]
      exact Fin.w [0, 1, 2] (.tup [.sl 4 .old out.length (argElQ out), .i .i64 x]) (rdLS M Z z') (by simp (maxSteps := 4000000) only [push_cast, Int.reduceEq, Int.reduceBNe, Int.reduceBEq, Int.reduceAdd, Int.reduceSub, Int.reduceMul, Int.reduceNeg, Int.reduceLT, Int.reduceLE, Int.reduceToNat, Nat.reduceLT, Nat.reduceAdd, Nat.reduceSub, Nat.reduceMul, Nat.reduceEqDiff, Nat.reduceLeDiff, Nat.reduceBEq, reduceIte, reduceCtorEq, rdLS, rdLL, live_W]; exact fun i _ j _ => W_argQ _ out i j) ⟨rfl, z', rfl⟩
    · rw [if_neg (by omega)] at h1
      refine call_w (tells_c p) [] (by simp (maxSteps := 4000000) only [push_cast, Int.reduceEq, Int.reduceBNe, Int.reduceBEq, Int.reduceAdd, Int.reduceSub, Int.reduceMul, Int.reduceNeg, Int.reduceLT, Int.reduceLE, Int.reduceToNat, Nat.reduceLT, Nat.reduceAdd, Nat.reduceSub, Nat.reduceMul, Nat.reduceEqDiff, Nat.reduceLeDiff, Nat.reduceBEq, reduceIte, reduceCtorEq, partC]) ?_
      rintro sv post ⟨rfl, rfl⟩
      simp (maxSteps := 4000000) only [push_cast, Int.reduceEq, Int.reduceBNe, Int.reduceBEq, Int.reduceAdd, Int.reduceSub, Int.reduceMul, Int.reduceNeg, Int.reduceLT, Int.reduceLE, Int.reduceToNat, Nat.reduceLT, Nat.reduceAdd, Nat.reduceSub, Nat.reduceMul, Nat.reduceEqDiff, Nat.reduceLeDiff, Nat.reduceBEq, reduceIte, reduceCtorEq]
      refine ⟨fun h8 => ?_, fun h8 => ?_⟩
      · rw [if_pos h8] at h1
        have e2 : catEl out.length (argElQ out) (elOf [[SV.i .i64 A.kind, .i .i64 A.n, .i .u64 A.u, .s (bs A.t)]]) = argElQ (out ++ [A]) := argElQ_app out A
        refine ⟨by omega, fun i' hi' j hj => ?_, ⟨(i + 1, r, Z, out ++ [A], z'), h1, hr, by simp only; omega, hok, by simp only [List.length_append, List.length_cons, List.length_nil]; omega⟩, by simp only; omega, Sub.w [0, 1, 2, 7] ?_⟩
        · obtain rfl : i' = 0 := by omega
          match j, hj with
          | 0, _ => rfl
          | 1, _ => rfl
          | 2, _ => rfl
          | 3, _ => rfl
        · simp (maxSteps := 4000000) only [push_cast, Int.reduceEq, Int.reduceBNe, Int.reduceBEq, Int.reduceAdd, Int.reduceSub, Int.reduceMul, Int.reduceNeg, Int.reduceLT, Int.reduceLE, Int.reduceToNat, Nat.reduceLT, Nat.reduceAdd, Nat.reduceSub, Nat.reduceMul, Nat.reduceEqDiff, Nat.reduceLeDiff, Nat.reduceBEq, reduceIte, reduceCtorEq, e2, rdLL, List.length_append, live_W]
          exact ⟨fun i _ j _ => W_argQ _ (out ++ [A]) i j, fun i _ j _ => W_part _ ps i j, (wrap64 (n := (i : Int) + 1) (by omega) (by omega)).symm⟩
      · rw [if_neg (by rw [h8]; simp)] at h1
        refine ⟨⟨(i + 1, r, Z, out, z'), h1, hr, by simp only; omega, hok, by simp only; omega⟩, by simp only; omega, Sub.w [0, 1, 2, 3] ?_⟩
        simp (maxSteps := 4000000) only [push_cast, Int.reduceEq, Int.reduceBNe, Int.reduceBEq, Int.reduceAdd, Int.reduceSub, Int.reduceMul, Int.reduceNeg, Int.reduceLT, Int.reduceLE, Int.reduceToNat, Nat.reduceLT, Nat.reduceAdd, Nat.reduceSub, Nat.reduceMul, Nat.reduceEqDiff, Nat.reduceLeDiff, Nat.reduceBEq, reduceIte, reduceCtorEq, rdLL, live_W]
        exact ⟨fun i _ j _ => W_argQ _ out i j, fun i _ j _ => W_part _ ps i j, (wrap64 (n := (i : Int) + 1) (by omega) (by omega)).symm⟩
  · obtain rfl : r = [] := List.eq_nil_of_length_eq_zero (by omega)
    simp only [allL] at h1
    rw [← h1]
    exact Fin.w [0, 1, 2] (.tup [.sl 4 .old out.length (argElQ out), .i .i64 0]) (rdLS M s' z) (by simp (maxSteps := 4000000) only [push_cast, Int.reduceEq, Int.reduceBNe, Int.reduceBEq, Int.reduceAdd, Int.reduceSub, Int.reduceMul, Int.reduceNeg, Int.reduceLT, Int.reduceLE, Int.reduceToNat, Nat.reduceLT, Nat.reduceAdd, Nat.reduceSub, Nat.reduceMul, Nat.reduceEqDiff, Nat.reduceLeDiff, Nat.reduceBEq, reduceIte, reduceCtorEq, rdLS, rdLL, live_W]; exact fun i _ j _ => W_argQ _ out i j) ⟨rfl, z, rfl⟩

/-- What is wrong ahead of all. -/
def readE (f : List UInt8) (x : St) : Int := if x.bErr ≠ 0 then x.bErr else (partsP f).2.1
def isRead (M : RawM) (mu : St × M.σ → Nat) (f : List UInt8) (s : St × M.σ) (sv : SV) (post : SS) : Prop :=
  (readE f s.1 ≠ 0 ∧ sv = .tup [s.1.sv .new, .ints .u8 .nil [], .i .i64 (readE f s.1)] ∧ post = preR (M.res s.2)) ∨
  (readE f s.1 = 0 ∧ sv = .tup [(allL M mu (partsP f).1 s []).2.2.1.sv .new, .sl 4 .old (allL M mu (partsP f).1 s []).1.length (argElQ (allL M mu (partsP f).1 s []).1), .i .i64 (allL M mu (partsP f).1 s []).2.1] ∧ post = preR (M.res (allL M mu (partsP f).1 s []).2.2.2))
theorem scanRead_c (M : RawM) (hR : M.Rd) (hB : M.By) (mu : St × M.σ → Nat) (hE : Ends M mu) (f : List UInt8) (s : St × M.σ) (h : LOK M s) :
    Contract Tryz.prog 9 (preR (M.res s.2)) [s.1.sv .old, M.v, .s (bs f)] (isRead M mu f s) := by
  obtain ⟨x, g⟩ := s
  have hx := h.fits
  obtain ⟨ho, hi, hk⟩ := id hx
  simp only at ho hi hk hx
  refine contract_ev Γok Tryz.func9 rfl rfl [] ?_
  simp (maxSteps := 4000000) only [push_cast, Int.reduceEq, Int.reduceBNe, Int.reduceBEq, Int.reduceAdd, Int.reduceSub, Int.reduceMul, Int.reduceNeg, Int.reduceLT, Int.reduceLE, Int.reduceToNat, Nat.reduceLT, Nat.reduceAdd, Nat.reduceSub, Nat.reduceMul, Nat.reduceEqDiff, Nat.reduceLeDiff, Nat.reduceBEq, reduceIte, reduceCtorEq, Tryz.f9, rg11, St.sv, St.cells, RawM.v]
  refine (region_plan rfl Γok mixed (.pure 0 (.pure 1 (.pure 2 (.pure 3 (.pure 4 (.pure 6 (.pure 7 (.pure 9 (.pure 10 (.eff (.cons 5 [7, 10] (.eff (.cons 8 [10] (.eff (.cons 11 [] (.pure 12 (.pure 13 (.pure 14 (.eff (.cons 15 [] (.pure 16 (.pure 17 (.pure 18 (.eff (.cons 19 [] (.pure 20 (.pure 21 (.pure 22 (.eff (.cons 23 [] .done .nil))))) .nil))))) .nil))))) .nil)) .nil)) .nil))))))))))) 91 rfl (by kernel_rfl) ?_)
  simp (maxSteps := 4000000) only [push_cast, Int.reduceEq, Int.reduceBNe, Int.reduceBEq, Int.reduceAdd, Int.reduceSub, Int.reduceMul, Int.reduceNeg, Int.reduceLT, Int.reduceLE, Int.reduceToNat, Nat.reduceLT, Nat.reduceAdd, Nat.reduceSub, Nat.reduceMul, Nat.reduceEqDiff, Nat.reduceLeDiff, Nat.reduceBEq, reduceIte, reduceCtorEq]
  refine call_w (sclone_c x.o ho) [] (by simp (maxSteps := 4000000) only [push_cast, Int.reduceEq, Int.reduceBNe, Int.reduceBEq, Int.reduceAdd, Int.reduceSub, Int.reduceMul, Int.reduceNeg, Int.reduceLT, Int.reduceLE, Int.reduceToNat, Nat.reduceLT, Nat.reduceAdd, Nat.reduceSub, Nat.reduceMul, Nat.reduceEqDiff, Nat.reduceLeDiff, Nat.reduceBEq, reduceIte, reduceCtorEq]) ?_
  rintro sv post ⟨rfl, rfl⟩
  simp (maxSteps := 4000000) only [push_cast, Int.reduceEq, Int.reduceBNe, Int.reduceBEq, Int.reduceAdd, Int.reduceSub, Int.reduceMul, Int.reduceNeg, Int.reduceLT, Int.reduceLE, Int.reduceToNat, Nat.reduceLT, Nat.reduceAdd, Nat.reduceSub, Nat.reduceMul, Nat.reduceEqDiff, Nat.reduceLeDiff, Nat.reduceBEq, reduceIte, reduceCtorEq]
  refine call_w (sclone_c x.i hi) [] (by simp (maxSteps := 4000000) only [push_cast, Int.reduceEq, Int.reduceBNe, Int.reduceBEq, Int.reduceAdd, Int.reduceSub, Int.reduceMul, Int.reduceNeg, Int.reduceLT, Int.reduceLE, Int.reduceToNat, Nat.reduceLT, Nat.reduceAdd, Nat.reduceSub, Nat.reduceMul, Nat.reduceEqDiff, Nat.reduceLeDiff, Nat.reduceBEq, reduceIte, reduceCtorEq]) ?_
  rintro sv post ⟨rfl, rfl⟩
  simp (maxSteps := 4000000) only [push_cast, Int.reduceEq, Int.reduceBNe, Int.reduceBEq, Int.reduceAdd, Int.reduceSub, Int.reduceMul, Int.reduceNeg, Int.reduceLT, Int.reduceLE, Int.reduceToNat, Nat.reduceLT, Nat.reduceAdd, Nat.reduceSub, Nat.reduceMul, Nat.reduceEqDiff, Nat.reduceLeDiff, Nat.reduceBEq, reduceIte, reduceCtorEq]
  refine call_w (sclone_c x.k hk) [] (by simp (maxSteps := 4000000) only [push_cast, Int.reduceEq, Int.reduceBNe, Int.reduceBEq, Int.reduceAdd, Int.reduceSub, Int.reduceMul, Int.reduceNeg, Int.reduceLT, Int.reduceLE, Int.reduceToNat, Nat.reduceLT, Nat.reduceAdd, Nat.reduceSub, Nat.reduceMul, Nat.reduceEqDiff, Nat.reduceLeDiff, Nat.reduceBEq, reduceIte, reduceCtorEq]) ?_
  rintro sv post ⟨rfl, rfl⟩
  simp (maxSteps := 4000000) only [push_cast, Int.reduceEq, Int.reduceBNe, Int.reduceBEq, Int.reduceAdd, Int.reduceSub, Int.reduceMul, Int.reduceNeg, Int.reduceLT, Int.reduceLE, Int.reduceToNat, Nat.reduceLT, Nat.reduceAdd, Nat.reduceSub, Nat.reduceMul, Nat.reduceEqDiff, Nat.reduceLeDiff, Nat.reduceBEq, reduceIte, reduceCtorEq, rg11]
  refine call_w (checkR_c x hx) [] (by simp (maxSteps := 4000000) only [push_cast, Int.reduceEq, Int.reduceBNe, Int.reduceBEq, Int.reduceAdd, Int.reduceSub, Int.reduceMul, Int.reduceNeg, Int.reduceLT, Int.reduceLE, Int.reduceToNat, Nat.reduceLT, Nat.reduceAdd, Nat.reduceSub, Nat.reduceMul, Nat.reduceEqDiff, Nat.reduceLeDiff, Nat.reduceBEq, reduceIte, reduceCtorEq, St.sv, St.cells]) ?_
  rintro sv post ⟨rfl, rfl⟩
  simp (maxSteps := 4000000) only [push_cast, Int.reduceEq, Int.reduceBNe, Int.reduceBEq, Int.reduceAdd, Int.reduceSub, Int.reduceMul, Int.reduceNeg, Int.reduceLT, Int.reduceLE, Int.reduceToNat, Nat.reduceLT, Nat.reduceAdd, Nat.reduceSub, Nat.reduceMul, Nat.reduceEqDiff, Nat.reduceLeDiff, Nat.reduceBEq, reduceIte, reduceCtorEq, rg11]
  have bad : ∀ e : Int, readE f x = e → e ≠ 0 → isRead M mu f (x, g) (.tup [x.sv .new, .ints .u8 .nil [], .i .i64 e]) (preR (M.res g)) := by
    rintro e rfl h
    exact .inl ⟨h, rfl, rfl⟩
  refine ⟨fun h1 => ?_, fun h1 => ⟨fun h2 => ?_, fun h2 => ?_⟩⟩
  · have e1 : x.bErr = 51 := by
      unfold St.bErr
      by_cases hm : x.May
      · rw [if_pos hm] at h1; exact absurd rfl h1
      · rw [if_neg hm]
    have e2 : (if x.May then (0 : Int) else 51) = 51 := by
      by_cases hm : x.May
      · rw [if_pos hm] at h1; exact absurd rfl h1
      · rw [if_neg hm]
    rw [e2]
    exact Fin.w [0] (.tup [x.sv .new, .ints .u8 .nil [], .i .i64 51]) (preR (M.res g)) (by simp (maxSteps := 4000000) only [push_cast, Int.reduceEq, Int.reduceBNe, Int.reduceBEq, Int.reduceAdd, Int.reduceSub, Int.reduceMul, Int.reduceNeg, Int.reduceLT, Int.reduceLE, Int.reduceToNat, Nat.reduceLT, Nat.reduceAdd, Nat.reduceSub, Nat.reduceMul, Nat.reduceEqDiff, Nat.reduceLeDiff, Nat.reduceBEq, reduceIte, reduceCtorEq, St.sv, St.cells, preR]) (bad 51 (by unfold readE; rw [e1]; rfl) (by decide))
  all_goals
    have hm : x.May := by
      by_cases hm : x.May
      · exact hm
      · rw [if_neg hm] at h1; omega
  · have e1 : x.bErr = 113 := by unfold St.bErr; rw [if_pos hm, if_pos h2]
    exact Fin.w [0] (.tup [x.sv .new, .ints .u8 .nil [], .i .i64 113]) (preR (M.res g)) (by simp (maxSteps := 4000000) only [push_cast, Int.reduceEq, Int.reduceBNe, Int.reduceBEq, Int.reduceAdd, Int.reduceSub, Int.reduceMul, Int.reduceNeg, Int.reduceLT, Int.reduceLE, Int.reduceToNat, Nat.reduceLT, Nat.reduceAdd, Nat.reduceSub, Nat.reduceMul, Nat.reduceEqDiff, Nat.reduceLeDiff, Nat.reduceBEq, reduceIte, reduceCtorEq, St.sv, St.cells, preR]) (bad 113 (by unfold readE; rw [e1]; rfl) (by decide))
  · have e1 : x.bErr = 0 := by unfold St.bErr; rw [if_pos hm, if_neg (by simp [h2])]
    have e3 : readE f x = (partsP f).2.1 := by unfold readE; rw [if_neg (by rw [e1]; simp)]
    rw [e3] at bad
    have good : (partsP f).2.1 = 0 → isRead M mu f (x, g) (.tup [(allL M mu (partsP f).1 (x, g) []).2.2.1.sv .new, .sl 4 .old (allL M mu (partsP f).1 (x, g) []).1.length (argElQ (allL M mu (partsP f).1 (x, g) []).1), .i .i64 (allL M mu (partsP f).1 (x, g) []).2.1]) (preR (M.res (allL M mu (partsP f).1 (x, g) []).2.2.2)) := fun h => .inr ⟨by rw [e3]; exact h, rfl, rfl⟩
    refine call_w (parts_c f) [] (by simp (maxSteps := 4000000) only [push_cast, Int.reduceEq, Int.reduceBNe, Int.reduceBEq, Int.reduceAdd, Int.reduceSub, Int.reduceMul, Int.reduceNeg, Int.reduceLT, Int.reduceLE, Int.reduceToNat, Nat.reduceLT, Nat.reduceAdd, Nat.reduceSub, Nat.reduceMul, Nat.reduceEqDiff, Nat.reduceLeDiff, Nat.reduceBEq, reduceIte, reduceCtorEq]) ?_
    rintro sv post ⟨rfl, hp⟩
    obtain ⟨hok1, hok2⟩ := partsP_ok f
    generalize partsP f = P at hp hok1 hok2 bad good
    obtain ⟨ps, pe, pa⟩ := P
    simp only at hp hok1 hok2 bad good
    rcases hp with ⟨rfl, rfl⟩ | ⟨hne, rfl⟩
    · simp (maxSteps := 4000000) only [push_cast, Int.reduceEq, Int.reduceBNe, Int.reduceBEq, Int.reduceAdd, Int.reduceSub, Int.reduceMul, Int.reduceNeg, Int.reduceLT, Int.reduceLE, Int.reduceToNat, Nat.reduceLT, Nat.reduceAdd, Nat.reduceSub, Nat.reduceMul, Nat.reduceEqDiff, Nat.reduceLeDiff, Nat.reduceBEq, reduceIte, reduceCtorEq, ren_partf]
      refine call_w (allL_c M hR hB mu hE ps hok1 hok2 (x, g) h 0) [3, 7, 0] (by simp (maxSteps := 4000000) only [push_cast, Int.reduceEq, Int.reduceBNe, Int.reduceBEq, Int.reduceAdd, Int.reduceSub, Int.reduceMul, Int.reduceNeg, Int.reduceLT, Int.reduceLE, Int.reduceToNat, Nat.reduceLT, Nat.reduceAdd, Nat.reduceSub, Nat.reduceMul, Nat.reduceEqDiff, Nat.reduceLeDiff, Nat.reduceBEq, reduceIte, reduceCtorEq, rdLS, rdLL, liveC, RawM.v]; exact fun i _ j _ => W_part _ ps i j) ?_
      rintro sv post ⟨rfl, z, rfl⟩
      have hR2 := good rfl
      generalize allL M mu ps (x, g) [] = R at hR2 ⊢
      obtain ⟨out, ze, x', g'⟩ := R
      simp only at hR2 ⊢
      simp (maxSteps := 4000000) only [push_cast, Int.reduceEq, Int.reduceBNe, Int.reduceBEq, Int.reduceAdd, Int.reduceSub, Int.reduceMul, Int.reduceNeg, Int.reduceLT, Int.reduceLE, Int.reduceToNat, Nat.reduceLT, Nat.reduceAdd, Nat.reduceSub, Nat.reduceMul, Nat.reduceEqDiff, Nat.reduceLeDiff, Nat.reduceBEq, reduceIte, reduceCtorEq, rdLS, rdLL, liveC, RawM.v, ren_argQf, rg11]
      exact Fin.w [0] _ (preR (M.res g')) (by simp (maxSteps := 4000000) only [push_cast, Int.reduceEq, Int.reduceBNe, Int.reduceBEq, Int.reduceAdd, Int.reduceSub, Int.reduceMul, Int.reduceNeg, Int.reduceLT, Int.reduceLE, Int.reduceToNat, Nat.reduceLT, Nat.reduceAdd, Nat.reduceSub, Nat.reduceMul, Nat.reduceEqDiff, Nat.reduceLeDiff, Nat.reduceBEq, reduceIte, reduceCtorEq, St.sv, St.cells, preR]; exact fun i _ j _ => W_argQ _ out i j) hR2
    · simp (maxSteps := 4000000) only [push_cast, Int.reduceEq, Int.reduceBNe, Int.reduceBEq, Int.reduceAdd, Int.reduceSub, Int.reduceMul, Int.reduceNeg, Int.reduceLT, Int.reduceLE, Int.reduceToNat, Nat.reduceLT, Nat.reduceAdd, Nat.reduceSub, Nat.reduceMul, Nat.reduceEqDiff, Nat.reduceLeDiff, Nat.reduceBEq, reduceIte, reduceCtorEq]
      refine ⟨fun h => ?_, fun h => absurd h hne⟩
      exact Fin.w [0] (.tup [x.sv .new, .ints .u8 .nil [], .i .i64 pe]) (preR (M.res g)) (by simp (maxSteps := 4000000) only [push_cast, Int.reduceEq, Int.reduceBNe, Int.reduceBEq, Int.reduceAdd, Int.reduceSub, Int.reduceMul, Int.reduceNeg, Int.reduceLT, Int.reduceLE, Int.reduceToNat, Nat.reduceLT, Nat.reduceAdd, Nat.reduceSub, Nat.reduceMul, Nat.reduceEqDiff, Nat.reduceLeDiff, Nat.reduceBEq, reduceIte, reduceCtorEq, St.sv, St.cells, preR]) (bad pe rfl hne)
end Go.Proofs.YtmciepkhpocafaaGreat
/- A stream over what feeds it, as a source: what is read of it is what is read of its bytes. -/
namespace Go.Proofs.YtmciepkhpocafaaGreat
open Go Go.Eng
set_option maxHeartbeats 4000000
set_option linter.unusedSimpArgs false
set_option linter.unusedVariables false
set_option maxRecDepth 100000

def muF (M : RawM) (rest : M.σ → List Int) (s : St × M.σ) : Nat := s.1.k.length + s.1.i.length + (rest s.2).length
theorem feeds_ends {M : RawM} {rest : M.σ → List Int} (hF : Feeds M rest) : Ends M (muF M rest) := by
  refine ⟨fun s h he => ?_⟩
  obtain ⟨x, g⟩ := s
  unfold nxE at he
  unfold muF nxS
  simp only at he ⊢
  unfold St.Get at he ⊢
  split at he
  · rename_i h1; exact absurd he h1
  · rename_i h1
    rw [if_neg h1]
    obtain ⟨hm, hc⟩ := bErr_zero (by omega : x.bErr = 0)
    obtain ⟨a1, a2⟩ := ask_rng (May.bd hm).1
    unfold St.get at he ⊢
    split at he
    · simp at he
    · rename_i h2
      rw [if_neg h2]
      split at he
      · simp at he
      · rename_i h3
        rw [if_neg h3]
        split at he
        · rename_i h4
          rw [if_pos h4]
          have hp : 0 < x.k.length := List.length_pos_iff.2 h4
          simp only [List.length_take]
          omega
        · rename_i h4
          rw [if_neg h4]
          split at he
          · rename_i h5
            rw [if_pos h5]
            have hp : 0 < x.i.length := List.length_pos_iff.2 h5
            simp only [List.length_drop]
            omega
          · rename_i h5
            rw [if_neg h5]
            have hi : x.i = [] := by simpa using h5
            have hne := fill_i M { x with d := 1 } g
            dsimp only at he ⊢
            split at he
            · rename_i h6; exact absurd he h6
            · rename_i h6
              rw [if_neg h6]
              have h7 := hne (by simpa using h6)
              obtain ⟨f1, f2, f3⟩ := hF.run g (askV x.m x.s) h.ok a1 a2
              have f4 := congrArg List.length f2
              rw [List.length_append] at f4
              have h6' : (({ x with d := 1 } : St).fill M g).2.2 = 0 := by simpa using h6
              revert h6' h7
              unfold St.fill
              split
              · intro _ h; simp at h
              · split
                · intro _ h; simp at h
                · intro h7 _
                  simp only [St.noted, hi, List.nil_append] at h7 ⊢
                  have hp := List.length_pos_iff.2 h7
                  simp only [List.length_drop, List.length_nil]
                  omega

/-- A stream that reads, a byte pushed back at most: what is left. -/
structure RdK (M : RawM) (rest : M.σ → List Int) (s : St × M.σ) (l : List UInt8) : Prop where
  may : s.1.May
  r : s.1.r = true
  cl : s.1.cl = false
  d : s.1.d ≠ 2
  o : s.1.o = []
  en : s.1.en = true → rest s.2 = []
  ok : M.ok s.2
  k : s.1.k.length ≤ 1
  all : s.1.k.reverse ++ (s.1.i ++ rest s.2) = ofU l
theorem ofU_by {l : List UInt8} {c : Int} (h : c ∈ ofU l) : isByte c := by
  unfold ofU at h
  obtain ⟨u, _, rfl⟩ := List.mem_map.1 h
  have := u8_lt u
  exact ⟨by omega, by omega⟩
theorem RdK.lok {M : RawM} {rest : M.σ → List Int} {s : St × M.σ} {l : List UInt8} (h : RdK M rest s l) : LOK M s := by
  obtain ⟨b1, b2, b3, b4⟩ := May.bd h.may
  refine ⟨⟨by omega, by omega, by omega⟩, h.ok, fun c hc => ofU_by (l := l) ?_, fun c hc => ofU_by (l := l) ?_⟩
  · rw [← h.all]; exact List.mem_append_right _ (List.mem_append_left _ hc)
  · rw [← h.all]; exact List.mem_append_left _ (List.mem_reverse.2 hc)
theorem rdk_get {M : RawM} (hR : M.Rd) {rest : M.σ → List Int} (hF : Feeds M rest) {s : St × M.σ} {l : List UInt8} (h : RdK M rest s l) :
    (match l with
    | [] => nxE M s = 111 ∧ RdK M rest (nxS M s) []
    | c :: r => nxE M s = 0 ∧ nxC M s = c ∧ RdK M rest (nxS M s) r ∧ (nxS M s).1.k = []) := by
  obtain ⟨x, g⟩ := s
  have u8r : ∀ c : UInt8, UInt8.ofNat ((c.toNat : Int)).toNat = c := fun c => by rw [Int.toNat_natCast, UInt8.ofNat_toNat]
  by_cases hk : x.k = []
  · have hrd : Reads M rest x g := ⟨h.may, h.r, h.cl, h.d, hk, h.o, h.en, h.ok⟩
    have hall : left M rest x g = ofU l := by
      have := h.all
      simp only [hk, List.reverse_nil, List.nil_append] at this
      exact this
    obtain ⟨k1, k2⟩ := get_feeds hR hF hrd
    rw [hall] at k2
    cases l with
    | nil =>
      obtain ⟨e1, e2, e3, e4⟩ := k2
      refine ⟨?_, ⟨k1.may, k1.r, k1.cl, k1.d, k1.o, k1.en, k1.ok, by show (x.Get M g).1.k.length ≤ 1; rw [k1.k]; simp, ?_⟩⟩
      · show (x.Get M g).2.2.2 = 111
        rw [e1]
      · show (x.Get M g).1.k.reverse ++ ((x.Get M g).1.i ++ rest (x.Get M g).2.1) = ofU []
        rw [k1.k]
        exact e2
    | cons c r =>
      obtain ⟨e1, e2, e3⟩ := k2
      refine ⟨?_, ?_, ⟨k1.may, k1.r, k1.cl, k1.d, k1.o, k1.en, k1.ok, by show (x.Get M g).1.k.length ≤ 1; rw [k1.k]; simp, ?_⟩, k1.k⟩
      · show (x.Get M g).2.2.2 = 0
        rw [e1]
      · show UInt8.ofNat (x.Get M g).2.2.1.toNat = c
        rw [e1]
        exact u8r c
      · show (x.Get M g).1.k.reverse ++ ((x.Get M g).1.i ++ rest (x.Get M g).2.1) = ofU r
        rw [k1.k]
        exact e2
  · obtain ⟨c0, hc0⟩ : ∃ c0, x.k = [c0] := by
      have := h.k
      simp only at this
      match hx : x.k, this with
      | [], _ => exact absurd hx hk
      | [c0], _ => exact ⟨c0, rfl⟩
      | _ :: _ :: _, h2 => simp at h2
    have hall := h.all
    simp only [hc0, List.reverse_cons, List.reverse_nil, List.nil_append, List.cons_append] at hall
    cases l with
    | nil => simp [ofU] at hall
    | cons c r =>
      have ho : ofU (c :: r) = (c.toNat : Int) :: ofU r := rfl
      rw [ho] at hall
      obtain ⟨hcc, htl⟩ := List.cons.inj hall
      have hb : x.bErr = 0 := by
        unfold St.bErr
        rw [if_pos h.may, if_neg (by have := h.cl; simp only at this; simp [this])]
      have hg : x.Get M g = ({ x with d := 1, k := [] }, g, c0, 0) := by
        unfold St.Get
        rw [if_neg (by rw [hb]; simp)]
        unfold St.get
        rw [if_neg (by have := h.r; simp only at this; simp [this]), if_neg h.d, if_pos hk, hc0]
        rfl
      have hmay : ({ x with d := 1, k := [] } : St).May := by
        obtain ⟨h1, h2, h3, h4, h5, h6, h7⟩ := h.may
        have ho := h.o
        have hr := h.r
        have hcl := h.cl
        simp only at ho hr hcl
        exact ⟨h1, h2, h3, h4, by simp, .inl hcl, .inr (.inl ⟨rfl, hr, by simp [ho]⟩)⟩
      unfold nxE nxC nxS
      simp only [hg]
      refine ⟨trivial, by rw [hcc]; exact u8r c, ⟨hmay, h.r, h.cl, by simp, h.o, h.en, h.ok, by simp, by simpa using htl⟩, trivial⟩
theorem rdk_byte {M : RawM} (hR : M.Rd) {rest : M.σ → List Int} (hF : Feeds M rest) {x : St} {g : M.σ} {l : List UInt8} (h : RdK M rest (x, g) l) : isByte (x.Get M g).2.2.1 := by
  by_cases hk : x.k = []
  · have hrd : Reads M rest x g := ⟨h.may, h.r, h.cl, h.d, hk, h.o, h.en, h.ok⟩
    have hall : left M rest x g = ofU l := by
      have := h.all
      simp only [hk, List.reverse_nil, List.nil_append] at this
      exact this
    obtain ⟨k1, k2⟩ := get_feeds hR hF hrd
    rw [hall] at k2
    cases l with
    | nil => rw [k2.1]; exact ⟨by simp, by simp⟩
    | cons c r => rw [k2.1]; exact ofU_by (l := c :: r) (by simp [ofU])
  · unfold St.Get
    split
    · exact ⟨by simp, by simp⟩
    · unfold St.get
      split
      · exact ⟨by simp, by simp⟩
      · split
        · exact ⟨by simp, by simp⟩
        · exact getD_by (fun c hc => ofU_by (l := l) (by rw [← h.all]; exact List.mem_append_left _ (List.mem_reverse.2 hc))) _
theorem rdk_back {M : RawM} {rest : M.σ → List Int} {s : St × M.σ} {l : List UInt8} (h : RdK M rest s l) (hk : s.1.k = []) (c : UInt8) : RdK M rest (bkS s c) (c :: l) := by
  obtain ⟨x, g⟩ := s
  simp only at hk
  have hb : x.bErr = 0 := by
    unfold St.bErr
    rw [if_pos h.may, if_neg (by have := h.cl; simp only at this; simp [this])]
  have hu : x.UngetS [(c.toNat : Int)] = ({ x with k := [(c.toNat : Int)], d := 1, en := false }, 0) := by
    unfold St.UngetS
    rw [if_neg (by rw [hb]; simp), if_neg (by have := h.r; simp only at this; simp [this]), if_neg h.d, if_neg (by simp [hk]), if_neg (by simp), hk]
    rfl
  have hmay : ({ x with k := [(c.toNat : Int)], d := 1, en := false } : St).May := by
    obtain ⟨h1, h2, h3, h4, h5, h6, h7⟩ := h.may
    have ho := h.o
    have hr := h.r
    have hcl := h.cl
    simp only at ho hr hcl
    exact ⟨h1, h2, h3, h4, by simp, .inl hcl, .inr (.inl ⟨rfl, hr, by simp [ho]⟩)⟩
  have hall := h.all
  simp only [hk, List.reverse_nil, List.nil_append] at hall
  unfold bkS
  simp only [hu]
  exact ⟨hmay, h.r, h.cl, by simp, h.o, by simp, h.ok, by simp, by simp only [List.reverse_cons, List.reverse_nil, List.nil_append, List.cons_append, hall]; rfl⟩

theorem take_feeds {M : RawM} (hR : M.Rd) {rest : M.σ → List Int} (hF : Feeds M rest) (fits : UInt8 → Bool) : ∀ (n : Nat) (s : St × M.σ) (l : List UInt8), RdK M rest s l →
    (takeL M fits n s).2.1 = (takeP fits n l).s ∧ (takeL M fits n s).2.2 = endE (takeP fits n l).ended ∧ RdK M rest (takeL M fits n s).1 (l.drop (takeP fits n l).s.length)
  | 0, s, l, h => ⟨rfl, rfl, by simpa [takeP, takeL] using h⟩
  | n + 1, s, [], h => by
    obtain ⟨h1, h2⟩ := rdk_get hR hF h
    simp only [takeL, takeP]
    rw [if_pos (by rw [h1]; simp)]
    exact ⟨rfl, by rw [h1]; rfl, h2⟩
  | n + 1, s, c :: r, h => by
    obtain ⟨h1, h2, h3, h4⟩ := rdk_get hR hF h
    simp only [takeL, takeP]
    rw [if_neg (by rw [h1]; simp), h2]
    by_cases hf : fits c = true
    · obtain ⟨i1, i2, i3⟩ := take_feeds hR hF fits n (nxS M s) r h3
      rw [if_pos hf, if_pos hf]
      exact ⟨by rw [i1], i2, by simpa using i3⟩
    · rw [if_neg hf, if_neg hf]
      exact ⟨rfl, rfl, rdk_back h3 h4 c⟩
theorem blanks_feeds {M : RawM} (hR : M.Rd) {rest : M.σ → List Int} (hF : Feeds M rest) : ∀ (f : Nat) (s : St × M.σ) (l : List UInt8), RdK M rest s l → l.length < f →
    (blanksL M f s).2 = endE (decide (skipP l = l.length)) ∧ RdK M rest (blanksL M f s).1 (l.drop (skipP l))
  | 0, s, l, h, hf => absurd hf (Nat.not_lt_zero _)
  | f + 1, s, l, h, hf => by
    obtain ⟨i1, i2, i3⟩ := take_feeds hR hF isBlank 1 s l h
    simp only [blanksL]
    rw [i1]
    cases l with
    | nil =>
      rw [if_pos (by rfl)]
      exact ⟨i2, i3⟩
    | cons c r =>
      rcases hb : isBlank c with _ | _
      · have ht : takeP isBlank 1 (c :: r) = ⟨[], c :: r, false⟩ := by simp only [takeP, hb]; rfl
        rw [ht] at i2 i3 ⊢
        have hs : skipP (c :: r) = 0 := by simp only [skipP, hb]; rfl
        rw [if_pos rfl, hs]
        exact ⟨i2, i3⟩
      · have ht : takeP isBlank 1 (c :: r) = ⟨[c], r, false⟩ := by simp only [takeP, hb]; rfl
        rw [ht] at i2 i3 ⊢
        have hs : skipP (c :: r) = skipP r + 1 := by simp only [skipP, hb, if_true]
        rw [if_neg (by simp), hs]
        simp only [List.length_cons] at hf i3
        obtain ⟨j1, j2⟩ := blanks_feeds hR hF f _ r (by simpa using i3) (by omega)
        refine ⟨by rw [j1]; congr 1; rw [decide_eq_decide]; simp, by simpa using j2⟩
theorem lack_endZ (b : Bool) : lackZ (endE b) = lackE b := by cases b <;> rfl
theorem soft_endZ (b : Bool) : softZ (endE b) = 0 := by cases b <;> rfl
theorem number_feeds {M : RawM} (hR : M.Rd) {rest : M.σ → List Int} (hF : Feeds M rest) (p : PartP) (most : Nat) (s : St × M.σ) (l : List UInt8) (h : RdK M rest s l) :
    (numberL M p most s).1 = (numberQ p most l).1 ∧ (numberL M p most s).2.1 = (numberQ p most l).2.1 ∧ RdK M rest (numberL M p most s).2.2.1 (l.drop (numberQ p most l).2.2.1) := by
  have hS : (sgnL M p s).2.1 = (sgnQ p l).s ∧ RdK M rest (sgnL M p s).1 (l.drop (sgnQ p l).s.length) := by
    unfold sgnL sgnQ
    split
    · obtain ⟨i1, i2, i3⟩ := take_feeds hR hF isSign 1 s l h
      exact ⟨i1, i3⟩
    · exact ⟨rfl, by simpa using h⟩
  obtain ⟨s1, s2⟩ := hS
  have hD : (digL M p most s).2.1 = (digQ p most l).s ∧ (digL M p most s).2.2 = endE (digQ p most l).ended ∧ RdK M rest (digL M p most s).1 (l.drop ((sgnQ p l).s.length + (digQ p most l).s.length)) := by
    unfold digL digQ
    rw [s1]
    split
    · obtain ⟨i1, i2, i3⟩ := take_feeds hR hF (fitB (baseQ p.verb)) (most - (sgnQ p l).s.length) _ _ s2
      exact ⟨i1, i2, by rw [← List.drop_drop]; exact i3⟩
    · exact ⟨rfl, rfl, by simpa using s2⟩
  obtain ⟨d1, d2, d3⟩ := hD
  unfold numberL numberQ
  simp only
  rw [d1, d2, s1, lack_endZ, soft_endZ]
  by_cases c1 : (digQ p most l).s = []
  · rw [if_pos c1, if_pos c1]
    rw [c1] at d3
    exact ⟨rfl, rfl, by simpa using d3⟩
  rw [if_neg c1, if_neg c1]
  by_cases c2 : (parseBaseP (baseQ p.verb) (digQ p most l).s).2.1 ≠ 0
  · rw [if_pos c2, if_pos c2]
    exact ⟨rfl, rfl, d3⟩
  rw [if_neg c2, if_neg c2]
  by_cases c3 : p.verb ≠ 100
  · rw [if_pos c3, if_pos c3]
    exact ⟨rfl, rfl, d3⟩
  rw [if_neg c3, if_neg c3]
  by_cases c4 : 9223372036854775808 < (parseBaseP (baseQ p.verb) (digQ p most l).s).1 ∨ (parseBaseP (baseQ p.verb) (digQ p most l).s).1 = 9223372036854775808 ∧ (sgnQ p l).s ≠ [45]
  · rw [if_pos c4, if_pos c4]
    exact ⟨rfl, rfl, d3⟩
  rw [if_neg c4, if_neg c4]
  exact ⟨rfl, rfl, d3⟩
theorem one_feeds {M : RawM} (hR : M.Rd) {rest : M.σ → List Int} (hF : Feeds M rest) (p : PartP) (f : Nat) (s : St × M.σ) (l : List UInt8) (h : RdK M rest s l) (hf : l.length < f) :
    (oneL M p f s).1 = (oneQ p l).1 ∧ (oneL M p f s).2.1 = (oneQ p l).2.1 ∧ RdK M rest (oneL M p f s).2.2.1 (l.drop (oneQ p l).2.2.1) := by
  obtain ⟨b1, b2⟩ := blanks_feeds hR hF f s l h hf
  unfold oneL oneQ
  by_cases c0 : p.verb = 0
  · rw [if_pos c0, if_pos c0]
    obtain ⟨i1, i2, i3⟩ := take_feeds hR hF (fun c => c == p.c) 1 s l h
    simp only
    rw [i1, i2, lack_endZ]
    split
    · rename_i hs
      rw [hs] at i3
      exact ⟨rfl, rfl, by simpa using i3⟩
    · exact ⟨rfl, rfl, i3⟩
  rw [if_neg c0, if_neg c0]
  by_cases c1 : p.verb = 32
  · rw [if_pos c1, if_pos c1, b1, soft_endZ]
    exact ⟨rfl, rfl, b2⟩
  rw [if_neg c1, if_neg c1]
  by_cases c2 : p.verb = 99
  · rw [if_pos c2, if_pos c2]
    obtain ⟨i1, i2, i3⟩ := take_feeds hR hF (fun _ => true) (wantQ p) s l h
    simp only
    rw [i1, i2, lack_endZ]
    split
    · exact ⟨rfl, rfl, i3⟩
    split
    · exact ⟨rfl, rfl, i3⟩
    · exact ⟨rfl, rfl, i3⟩
  rw [if_neg c2, if_neg c2, b1]
  by_cases c3 : skipP l = l.length
  · have he : endE (decide (skipP l = l.length)) = 111 := by rw [decide_eq_true c3]; rfl
    rw [he, if_pos (by simp), if_pos c3]
    exact ⟨rfl, rfl, b2⟩
  have he : endE (decide (skipP l = l.length)) = 0 := by rw [decide_eq_false c3]; rfl
  rw [he, if_neg (by simp), if_neg c3]
  by_cases c4 : p.verb = 115
  · rw [if_pos c4, if_pos c4]
    obtain ⟨i1, i2, i3⟩ := take_feeds hR hF (fun c => !isBlank c) (mostQ p) _ _ b2
    simp only
    rw [i1, i2, lack_endZ, soft_endZ]
    split
    · rename_i hs
      rw [hs] at i3
      exact ⟨rfl, rfl, by simpa using i3⟩
    · exact ⟨rfl, rfl, by rw [← List.drop_drop]; exact i3⟩
  rw [if_neg c4, if_neg c4]
  obtain ⟨n1, n2, n3⟩ := number_feeds hR hF p (mostQ p) _ _ b2
  exact ⟨n1, n2, by rw [← List.drop_drop]; exact n3⟩
theorem rdk_mu {M : RawM} {rest : M.σ → List Int} {s : St × M.σ} {l : List UInt8} (h : RdK M rest s l) : l.length = muF M rest s := by
  have := congrArg List.length h.all
  simp only [List.length_append, List.length_reverse, ofU_len] at this
  unfold muF
  omega
theorem all_feeds {M : RawM} (hR : M.Rd) {rest : M.σ → List Int} (hF : Feeds M rest) (b : List UInt8) : ∀ (ps : List PartP) (s : St × M.σ) (k : Nat) (out : List AV), RdK M rest s (b.drop k) →
    (allL M (muF M rest) ps s out).1 = (allQ b ps k out).1 ∧ (allL M (muF M rest) ps s out).2.1 = (allQ b ps k out).2.1 ∧ RdK M rest (allL M (muF M rest) ps s out).2.2 (b.drop (allQ b ps k out).2.2)
  | [], s, k, out, h => ⟨rfl, rfl, h⟩
  | p :: r, s, k, out, h => by
    obtain ⟨i1, i2, i3⟩ := one_feeds hR hF p (muF M rest s + 1) s (b.drop k) h (by rw [rdk_mu h]; exact Nat.lt_succ_self _)
    simp only [allL, allQ]
    rw [i1, i2]
    rw [List.drop_drop] at i3
    split
    · exact ⟨rfl, rfl, i3⟩
    · exact all_feeds hR hF b r _ _ _ i3
theorem allQ_le (b : List UInt8) : ∀ (ps : List PartP) (k : Nat) (out : List AV), k ≤ b.length → (allQ b ps k out).2.2 ≤ b.length
  | [], k, out, h => h
  | p :: r, k, out, h => by
    have := oneQ_le p (b.drop k)
    rw [List.length_drop] at this
    simp only [allQ]
    split
    · simp only; omega
    · exact allQ_le b r _ _ (by omega)
end Go.Proofs.YtmciepkhpocafaaGreat
