/- Texts joined, in order: Pa, Pb, Pc, Pd. -/
import Derived.Test.YtlgpcngfcglanaaGreatZSbRl
import Derived.Test.YtlgpcngfcglanaaGreatZLaKb
import Derived.Test.YtlgpcngfcglanaaGreatZIxSo
/- Places of a stream. -/
namespace Go.Proofs.YtlgpcngfcglanaaGreat
open Go Go.Eng
set_option maxHeartbeats 4000000
set_option linter.unusedSimpArgs false
set_option linter.unusedVariables false
set_option maxRecDepth 100000

/-- Behind the delivery of what it had. -/
def St.settled (M : RawM) (x : St) (g : M.σ) (bad : Bool) : St × M.σ × Int :=
  if x.bErr ≠ 0 then (x, g, x.bErr)
  else if bad = true then (x, g, 1)
  else if x.o.length = 0 then (x, g, 0)
  else ({ (x.Flush M g).1 with d := x.d }, (x.Flush M g).2.1, (x.Flush M g).2.2)

theorem w1 : IntKind.i64.wrap 1 = 1 := rfl
theorem w2 : IntKind.i64.wrap 2 = 2 := rfl
theorem w3 : IntKind.i64.wrap 3 = 3 := rfl
theorem settled_c (M : RawM) (hW : M.Wr) (x : St) (hx : x.fits) (g : M.σ) (hg : M.ok g) (hr : x.o.length ≤ M.rm g) (bad : Bool) : Contract Tryz.prog 45 (preR (M.res g)) [x.sv .old, M.v, .b bad] (isS M (x.settled M g bad)) := by
  have hx' := hx
  obtain ⟨ho, hi, hk⟩ := hx'
  refine contract_ev Γok Tryz.func45 rfl rfl [] ?_
  simp (maxSteps := 4000000) only [push_cast, Int.reduceEq, Int.reduceBNe, Int.reduceBEq, Int.reduceAdd, Int.reduceSub, Int.reduceMul, Int.reduceNeg, Int.reduceLT, Int.reduceLE, Int.reduceToNat, Nat.reduceLT, Nat.reduceAdd, Nat.reduceSub, Nat.reduceMul, Nat.reduceEqDiff, Nat.reduceLeDiff, Nat.reduceBEq, reduceIte, reduceCtorEq, Tryz.f45, rg11, St.sv, St.cells, RawM.v]
  refine loop_unroll 4 ?_
  simp (maxSteps := 4000000) only [push_cast, Int.reduceEq, Int.reduceBNe, Int.reduceBEq, Int.reduceAdd, Int.reduceSub, Int.reduceMul, Int.reduceNeg, Int.reduceLT, Int.reduceLE, Int.reduceToNat, Nat.reduceLT, Nat.reduceAdd, Nat.reduceSub, Nat.reduceMul, Nat.reduceEqDiff, Nat.reduceLeDiff, Nat.reduceBEq, reduceIte, reduceCtorEq]
  refine evCode_sound Γok _ _ _ ?_
  simp (maxSteps := 4000000) only [push_cast, Int.reduceEq, Int.reduceBNe, Int.reduceBEq, Int.reduceAdd, Int.reduceSub, Int.reduceMul, Int.reduceNeg, Int.reduceLT, Int.reduceLE, Int.reduceToNat, Nat.reduceLT, Nat.reduceAdd, Nat.reduceSub, Nat.reduceMul, Nat.reduceEqDiff, Nat.reduceLeDiff, Nat.reduceBEq, reduceIte, reduceCtorEq]
  refine call_w (sclone_c x.o ho) [] (by simp (maxSteps := 4000000) only [push_cast, Int.reduceEq, Int.reduceBNe, Int.reduceBEq, Int.reduceAdd, Int.reduceSub, Int.reduceMul, Int.reduceNeg, Int.reduceLT, Int.reduceLE, Int.reduceToNat, Nat.reduceLT, Nat.reduceAdd, Nat.reduceSub, Nat.reduceMul, Nat.reduceEqDiff, Nat.reduceLeDiff, Nat.reduceBEq, reduceIte, reduceCtorEq]) ?_
  rintro sv post ⟨rfl, rfl⟩
  simp (maxSteps := 4000000) only [push_cast, Int.reduceEq, Int.reduceBNe, Int.reduceBEq, Int.reduceAdd, Int.reduceSub, Int.reduceMul, Int.reduceNeg, Int.reduceLT, Int.reduceLE, Int.reduceToNat, Nat.reduceLT, Nat.reduceAdd, Nat.reduceSub, Nat.reduceMul, Nat.reduceEqDiff, Nat.reduceLeDiff, Nat.reduceBEq, reduceIte, reduceCtorEq, w1]
  refine evCode_sound Γok _ _ _ ?_
  simp (maxSteps := 4000000) only [push_cast, Int.reduceEq, Int.reduceBNe, Int.reduceBEq, Int.reduceAdd, Int.reduceSub, Int.reduceMul, Int.reduceNeg, Int.reduceLT, Int.reduceLE, Int.reduceToNat, Nat.reduceLT, Nat.reduceAdd, Nat.reduceSub, Nat.reduceMul, Nat.reduceEqDiff, Nat.reduceLeDiff, Nat.reduceBEq, reduceIte, reduceCtorEq]
  refine call_w (sclone_c x.i hi) [] (by simp (maxSteps := 4000000) only [push_cast, Int.reduceEq, Int.reduceBNe, Int.reduceBEq, Int.reduceAdd, Int.reduceSub, Int.reduceMul, Int.reduceNeg, Int.reduceLT, Int.reduceLE, Int.reduceToNat, Nat.reduceLT, Nat.reduceAdd, Nat.reduceSub, Nat.reduceMul, Nat.reduceEqDiff, Nat.reduceLeDiff, Nat.reduceBEq, reduceIte, reduceCtorEq]) ?_
  rintro sv post ⟨rfl, rfl⟩
  simp (maxSteps := 4000000) only [push_cast, Int.reduceEq, Int.reduceBNe, Int.reduceBEq, Int.reduceAdd, Int.reduceSub, Int.reduceMul, Int.reduceNeg, Int.reduceLT, Int.reduceLE, Int.reduceToNat, Nat.reduceLT, Nat.reduceAdd, Nat.reduceSub, Nat.reduceMul, Nat.reduceEqDiff, Nat.reduceLeDiff, Nat.reduceBEq, reduceIte, reduceCtorEq, w2]
  refine evCode_sound Γok _ _ _ ?_
  simp (maxSteps := 4000000) only [push_cast, Int.reduceEq, Int.reduceBNe, Int.reduceBEq, Int.reduceAdd, Int.reduceSub, Int.reduceMul, Int.reduceNeg, Int.reduceLT, Int.reduceLE, Int.reduceToNat, Nat.reduceLT, Nat.reduceAdd, Nat.reduceSub, Nat.reduceMul, Nat.reduceEqDiff, Nat.reduceLeDiff, Nat.reduceBEq, reduceIte, reduceCtorEq]
  refine call_w (sclone_c x.k hk) [] (by simp (maxSteps := 4000000) only [push_cast, Int.reduceEq, Int.reduceBNe, Int.reduceBEq, Int.reduceAdd, Int.reduceSub, Int.reduceMul, Int.reduceNeg, Int.reduceLT, Int.reduceLE, Int.reduceToNat, Nat.reduceLT, Nat.reduceAdd, Nat.reduceSub, Nat.reduceMul, Nat.reduceEqDiff, Nat.reduceLeDiff, Nat.reduceBEq, reduceIte, reduceCtorEq]) ?_
  rintro sv post ⟨rfl, rfl⟩
  simp (maxSteps := 4000000) only [push_cast, Int.reduceEq, Int.reduceBNe, Int.reduceBEq, Int.reduceAdd, Int.reduceSub, Int.reduceMul, Int.reduceNeg, Int.reduceLT, Int.reduceLE, Int.reduceToNat, Nat.reduceLT, Nat.reduceAdd, Nat.reduceSub, Nat.reduceMul, Nat.reduceEqDiff, Nat.reduceLeDiff, Nat.reduceBEq, reduceIte, reduceCtorEq, w3]
  refine evCode_sound Γok _ _ _ ?_
  simp (maxSteps := 4000000) only [push_cast, Int.reduceEq, Int.reduceBNe, Int.reduceBEq, Int.reduceAdd, Int.reduceSub, Int.reduceMul, Int.reduceNeg, Int.reduceLT, Int.reduceLE, Int.reduceToNat, Nat.reduceLT, Nat.reduceAdd, Nat.reduceSub, Nat.reduceMul, Nat.reduceEqDiff, Nat.reduceLeDiff, Nat.reduceBEq, reduceIte, reduceCtorEq, rg11]
  refine call_w (checkR_c x hx) [] (by simp (maxSteps := 4000000) only [push_cast, Int.reduceEq, Int.reduceBNe, Int.reduceBEq, Int.reduceAdd, Int.reduceSub, Int.reduceMul, Int.reduceNeg, Int.reduceLT, Int.reduceLE, Int.reduceToNat, Nat.reduceLT, Nat.reduceAdd, Nat.reduceSub, Nat.reduceMul, Nat.reduceEqDiff, Nat.reduceLeDiff, Nat.reduceBEq, reduceIte, reduceCtorEq, St.sv, St.cells]) ?_
  rintro sv post ⟨rfl, rfl⟩
  simp (maxSteps := 4000000) only [push_cast, Int.reduceEq, Int.reduceBNe, Int.reduceBEq, Int.reduceAdd, Int.reduceSub, Int.reduceMul, Int.reduceNeg, Int.reduceLT, Int.reduceLE, Int.reduceToNat, Nat.reduceLT, Nat.reduceAdd, Nat.reduceSub, Nat.reduceMul, Nat.reduceEqDiff, Nat.reduceLeDiff, Nat.reduceBEq, reduceIte, reduceCtorEq, rg11]
  refine ⟨fun h => ?_, fun h => ⟨fun h1 => ?_, fun h1 => ⟨fun h2 => ?_, fun h2 => ⟨fun h3 => ?_, fun h3 => ?_⟩⟩⟩⟩
  · have hm : ¬ x.May := fun hm => h (by rw [if_pos hm])
    have e : x.settled M g bad = (x, g, 51) := by unfold St.settled St.bErr; simp [hm]
    rw [e, if_neg hm]
    exact Fin.w [0] (.tup [x.sv .new, .i .i64 51]) _ (by simp (maxSteps := 4000000) only [push_cast, Int.reduceEq, Int.reduceBNe, Int.reduceBEq, Int.reduceAdd, Int.reduceSub, Int.reduceMul, Int.reduceNeg, Int.reduceLT, Int.reduceLE, Int.reduceToNat, Nat.reduceLT, Nat.reduceAdd, Nat.reduceSub, Nat.reduceMul, Nat.reduceEqDiff, Nat.reduceLeDiff, Nat.reduceBEq, reduceIte, reduceCtorEq, St.sv, St.cells]) ⟨rfl, rfl⟩
  all_goals
    have hm : x.May := by
      by_cases hm : x.May
      · exact hm
      · rw [if_neg hm] at h; omega
  · have e : x.settled M g bad = (x, g, 113) := by unfold St.settled St.bErr; simp [hm, h1]
    rw [e]
    exact Fin.w [0] (.tup [x.sv .new, .i .i64 113]) _ (by simp (maxSteps := 4000000) only [push_cast, Int.reduceEq, Int.reduceBNe, Int.reduceBEq, Int.reduceAdd, Int.reduceSub, Int.reduceMul, Int.reduceNeg, Int.reduceLT, Int.reduceLE, Int.reduceToNat, Nat.reduceLT, Nat.reduceAdd, Nat.reduceSub, Nat.reduceMul, Nat.reduceEqDiff, Nat.reduceLeDiff, Nat.reduceBEq, reduceIte, reduceCtorEq, St.sv, St.cells]) ⟨rfl, rfl⟩
  all_goals
    have hb : x.bErr = 0 := by unfold St.bErr; simp [hm, h1]
  · have e : x.settled M g bad = (x, g, 1) := by unfold St.settled; simp [hb, h2]
    rw [e]
    exact Fin.w [0] (.tup [x.sv .new, .i .i64 1]) _ (by simp (maxSteps := 4000000) only [push_cast, Int.reduceEq, Int.reduceBNe, Int.reduceBEq, Int.reduceAdd, Int.reduceSub, Int.reduceMul, Int.reduceNeg, Int.reduceLT, Int.reduceLE, Int.reduceToNat, Nat.reduceLT, Nat.reduceAdd, Nat.reduceSub, Nat.reduceMul, Nat.reduceEqDiff, Nat.reduceLeDiff, Nat.reduceBEq, reduceIte, reduceCtorEq, St.sv, St.cells]) ⟨rfl, rfl⟩
  · have e : x.settled M g bad = (x, g, 0) := by unfold St.settled; simp [hb, h2, show x.o.length = 0 by omega]
    rw [e]
    exact Fin.w [0] (.tup [x.sv .new, .i .i64 0]) _ (by simp (maxSteps := 4000000) only [push_cast, Int.reduceEq, Int.reduceBNe, Int.reduceBEq, Int.reduceAdd, Int.reduceSub, Int.reduceMul, Int.reduceNeg, Int.reduceLT, Int.reduceLE, Int.reduceToNat, Nat.reduceLT, Nat.reduceAdd, Nat.reduceSub, Nat.reduceMul, Nat.reduceEqDiff, Nat.reduceLeDiff, Nat.reduceBEq, reduceIte, reduceCtorEq, St.sv, St.cells]) ⟨rfl, rfl⟩
  · have e : x.settled M g bad = ({ (x.Flush M g).1 with d := x.d }, (x.Flush M g).2.1, (x.Flush M g).2.2) := by unfold St.settled; rw [if_neg (by rw [hb]; simp), if_neg (by simp [h2]), if_neg (by omega)]
    rw [e]
    refine call_w (FlushR_c M hW x g hg hx hr) [0] (by simp (maxSteps := 4000000) only [push_cast, Int.reduceEq, Int.reduceBNe, Int.reduceBEq, Int.reduceAdd, Int.reduceSub, Int.reduceMul, Int.reduceNeg, Int.reduceLT, Int.reduceLE, Int.reduceToNat, Nat.reduceLT, Nat.reduceAdd, Nat.reduceSub, Nat.reduceMul, Nat.reduceEqDiff, Nat.reduceLeDiff, Nat.reduceBEq, reduceIte, reduceCtorEq, St.sv, St.cells, RawM.v]) ?_
    rintro sv post ⟨rfl, rfl⟩
    simp (maxSteps := 4000000) only [push_cast, Int.reduceEq, Int.reduceBNe, Int.reduceBEq, Int.reduceAdd, Int.reduceSub, Int.reduceMul, Int.reduceNeg, Int.reduceLT, Int.reduceLE, Int.reduceToNat, Nat.reduceLT, Nat.reduceAdd, Nat.reduceSub, Nat.reduceMul, Nat.reduceEqDiff, Nat.reduceLeDiff, Nat.reduceBEq, reduceIte, reduceCtorEq, St.sv, St.cells, rg11]
    exact Fin.w [0] (.tup [({ (x.Flush M g).1 with d := x.d } : St).sv .new, .i .i64 (x.Flush M g).2.2]) _ (by simp (maxSteps := 4000000) only [push_cast, Int.reduceEq, Int.reduceBNe, Int.reduceBEq, Int.reduceAdd, Int.reduceSub, Int.reduceMul, Int.reduceNeg, Int.reduceLT, Int.reduceLE, Int.reduceToNat, Nat.reduceLT, Nat.reduceAdd, Nat.reduceSub, Nat.reduceMul, Nat.reduceEqDiff, Nat.reduceLeDiff, Nat.reduceBEq, reduceIte, reduceCtorEq, St.sv, St.cells]) ⟨rfl, rfl⟩

/-- The place as its user sees it. -/
def St.here (M : RawM) (x : St) (g : M.σ) : M.σ × Int × Int :=
  if (M.sk g 0 1).2.2 ≠ 0 then ((M.sk g 0 1).1, 0, (M.sk g 0 1).2.2) else ((M.sk g 0 1).1, IntKind.i64.wrap (IntKind.i64.wrap ((M.sk g 0 1).2.1 - x.i.length) - x.k.length), 0)
theorem here_c (M : RawM) (hS : M.Sk) (x : St) (g : M.σ) (hg : M.ok g) : Contract Tryz.prog 46 (preR (M.res g)) [x.sv .old, M.v] (fun sv post => sv = .tup [.i .i64 (x.here M g).2.1, .i .i64 (x.here M g).2.2] ∧ post = preR (M.res (x.here M g).1)) := by
  refine contract_ev Γok Tryz.func46 rfl rfl [] ?_
  simp (maxSteps := 4000000) only [push_cast, Int.reduceEq, Int.reduceBNe, Int.reduceBEq, Int.reduceAdd, Int.reduceSub, Int.reduceMul, Int.reduceNeg, Int.reduceLT, Int.reduceLE, Int.reduceToNat, Nat.reduceLT, Nat.reduceAdd, Nat.reduceSub, Nat.reduceMul, Nat.reduceEqDiff, Nat.reduceLeDiff, Nat.reduceBEq, reduceIte, reduceCtorEq, Tryz.f46, rg11, St.sv, St.cells, RawM.v]
  refine inv_w (hS.run g 0 1 hg) [0] (by simp (maxSteps := 4000000) only [push_cast, Int.reduceEq, Int.reduceBNe, Int.reduceBEq, Int.reduceAdd, Int.reduceSub, Int.reduceMul, Int.reduceNeg, Int.reduceLT, Int.reduceLE, Int.reduceToNat, Nat.reduceLT, Nat.reduceAdd, Nat.reduceSub, Nat.reduceMul, Nat.reduceEqDiff, Nat.reduceLeDiff, Nat.reduceBEq, reduceIte, reduceCtorEq]) ?_
  rintro sv post ⟨rfl, rfl⟩
  simp (maxSteps := 4000000) only [push_cast, Int.reduceEq, Int.reduceBNe, Int.reduceBEq, Int.reduceAdd, Int.reduceSub, Int.reduceMul, Int.reduceNeg, Int.reduceLT, Int.reduceLE, Int.reduceToNat, Nat.reduceLT, Nat.reduceAdd, Nat.reduceSub, Nat.reduceMul, Nat.reduceEqDiff, Nat.reduceLeDiff, Nat.reduceBEq, reduceIte, reduceCtorEq, rg11]
  unfold St.here
  refine ⟨fun h => ?_, fun h => ?_⟩
  · rw [if_pos h]
    exact Fin.w [0] (.tup [.i .i64 0, .i .i64 (M.sk g 0 1).2.2]) _ (by simp (maxSteps := 4000000) only [push_cast, Int.reduceEq, Int.reduceBNe, Int.reduceBEq, Int.reduceAdd, Int.reduceSub, Int.reduceMul, Int.reduceNeg, Int.reduceLT, Int.reduceLE, Int.reduceToNat, Nat.reduceLT, Nat.reduceAdd, Nat.reduceSub, Nat.reduceMul, Nat.reduceEqDiff, Nat.reduceLeDiff, Nat.reduceBEq, reduceIte, reduceCtorEq]) ⟨rfl, rfl⟩
  · rw [if_neg (by omega)]
    exact Fin.w [0] (.tup [.i .i64 _, .i .i64 0]) _ (by simp (maxSteps := 4000000) only [push_cast, Int.reduceEq, Int.reduceBNe, Int.reduceBEq, Int.reduceAdd, Int.reduceSub, Int.reduceMul, Int.reduceNeg, Int.reduceLT, Int.reduceLE, Int.reduceToNat, Nat.reduceLT, Nat.reduceAdd, Nat.reduceSub, Nat.reduceMul, Nat.reduceEqDiff, Nat.reduceLeDiff, Nat.reduceBEq, reduceIte, reduceCtorEq]) ⟨rfl, rfl⟩

def St.Tell (M : RawM) (x : St) (g : M.σ) : St × M.σ × Int × Int :=
  if (x.settled M g false).2.2 ≠ 0 then ((x.settled M g false).1, (x.settled M g false).2.1, 0, (x.settled M g false).2.2)
  else if ((x.settled M g false).1.here M (x.settled M g false).2.1).2.2 ≠ 0 then ((x.settled M g false).1, ((x.settled M g false).1.here M (x.settled M g false).2.1).1, 0, ((x.settled M g false).1.here M (x.settled M g false).2.1).2.2)
  else if ((x.settled M g false).1.here M (x.settled M g false).2.1).2.1 < 0 then ((x.settled M g false).1, ((x.settled M g false).1.here M (x.settled M g false).2.1).1, 0, 4)
  else ((x.settled M g false).1, ((x.settled M g false).1.here M (x.settled M g false).2.1).1, ((x.settled M g false).1.here M (x.settled M g false).2.1).2.1, 0)
def isT (M : RawM) (r : St × M.σ × Int × Int) (sv : SV) (post : SS) : Prop := sv = .tup [r.1.sv .new, .i .i64 r.2.2.1, .i .i64 r.2.2.2] ∧ post = preR (M.res r.2.1)

theorem Flush_ok (M : RawM) (hW : M.Wr) (x : St) (g : M.σ) (hg : M.ok g) (hx : x.o.length ≤ 1048576) (hr : x.o.length ≤ M.rm g) : M.ok (x.Flush M g).2.1 := by
  have h := (deliver_ok M hW x g hg hx hr).1
  unfold St.Flush
  split
  · exact hg
  · split
    · split <;> exact h
    · exact hg
theorem settled_ok (M : RawM) (hW : M.Wr) (x : St) (g : M.σ) (hg : M.ok g) (hx : x.o.length ≤ 1048576) (hr : x.o.length ≤ M.rm g) (bad : Bool) : M.ok (x.settled M g bad).2.1 := by
  have h := Flush_ok M hW x g hg hx hr
  unfold St.settled
  split
  · exact hg
  · split
    · exact hg
    · split
      · exact hg
      · exact h

theorem Tell_c (M : RawM) (hW : M.Wr) (hS : M.Sk) (x : St) (hx : x.fits) (hx2 : x.o.length ≤ 1048576) (g : M.σ) (hg : M.ok g) (hr : x.o.length ≤ M.rm g) : Contract Tryz.prog 23 (preR (M.res g)) [x.sv .old, M.v] (isT M (x.Tell M g)) := by
  have hok := settled_ok M hW x g hg hx2 hr false
  refine contract_ev Γok Tryz.func23 rfl rfl [] ?_
  simp (maxSteps := 4000000) only [push_cast, Int.reduceEq, Int.reduceBNe, Int.reduceBEq, Int.reduceAdd, Int.reduceSub, Int.reduceMul, Int.reduceNeg, Int.reduceLT, Int.reduceLE, Int.reduceToNat, Nat.reduceLT, Nat.reduceAdd, Nat.reduceSub, Nat.reduceMul, Nat.reduceEqDiff, Nat.reduceLeDiff, Nat.reduceBEq, reduceIte, reduceCtorEq, Tryz.f23, rg11, St.sv, St.cells, RawM.v]
  refine call_w (settled_c M hW x hx g hg hr false) [0] (by simp (maxSteps := 4000000) only [push_cast, Int.reduceEq, Int.reduceBNe, Int.reduceBEq, Int.reduceAdd, Int.reduceSub, Int.reduceMul, Int.reduceNeg, Int.reduceLT, Int.reduceLE, Int.reduceToNat, Nat.reduceLT, Nat.reduceAdd, Nat.reduceSub, Nat.reduceMul, Nat.reduceEqDiff, Nat.reduceLeDiff, Nat.reduceBEq, reduceIte, reduceCtorEq, St.sv, St.cells, RawM.v]) ?_
  rintro sv post ⟨rfl, rfl⟩
  unfold St.Tell
  generalize x.settled M g false = z at hok ⊢
  simp (maxSteps := 4000000) only [push_cast, Int.reduceEq, Int.reduceBNe, Int.reduceBEq, Int.reduceAdd, Int.reduceSub, Int.reduceMul, Int.reduceNeg, Int.reduceLT, Int.reduceLE, Int.reduceToNat, Nat.reduceLT, Nat.reduceAdd, Nat.reduceSub, Nat.reduceMul, Nat.reduceEqDiff, Nat.reduceLeDiff, Nat.reduceBEq, reduceIte, reduceCtorEq, St.sv, St.cells, rg11]
  refine ⟨fun h => ?_, fun h => ?_⟩
  · rw [if_pos h]
    exact Fin.w [0] (.tup [z.1.sv .new, .i .i64 0, .i .i64 z.2.2]) _ (by simp (maxSteps := 4000000) only [push_cast, Int.reduceEq, Int.reduceBNe, Int.reduceBEq, Int.reduceAdd, Int.reduceSub, Int.reduceMul, Int.reduceNeg, Int.reduceLT, Int.reduceLE, Int.reduceToNat, Nat.reduceLT, Nat.reduceAdd, Nat.reduceSub, Nat.reduceMul, Nat.reduceEqDiff, Nat.reduceLeDiff, Nat.reduceBEq, reduceIte, reduceCtorEq, St.sv, St.cells]) ⟨rfl, rfl⟩
  rw [if_neg (by omega)]
  refine call_w (here_c M hS z.1 z.2.1 hok) [0] (by simp (maxSteps := 4000000) only [push_cast, Int.reduceEq, Int.reduceBNe, Int.reduceBEq, Int.reduceAdd, Int.reduceSub, Int.reduceMul, Int.reduceNeg, Int.reduceLT, Int.reduceLE, Int.reduceToNat, Nat.reduceLT, Nat.reduceAdd, Nat.reduceSub, Nat.reduceMul, Nat.reduceEqDiff, Nat.reduceLeDiff, Nat.reduceBEq, reduceIte, reduceCtorEq, St.sv, St.cells, RawM.v]) ?_
  rintro sv post ⟨rfl, rfl⟩
  generalize z.1.here M z.2.1 = h2
  simp (maxSteps := 4000000) only [push_cast, Int.reduceEq, Int.reduceBNe, Int.reduceBEq, Int.reduceAdd, Int.reduceSub, Int.reduceMul, Int.reduceNeg, Int.reduceLT, Int.reduceLE, Int.reduceToNat, Nat.reduceLT, Nat.reduceAdd, Nat.reduceSub, Nat.reduceMul, Nat.reduceEqDiff, Nat.reduceLeDiff, Nat.reduceBEq, reduceIte, reduceCtorEq, St.sv, St.cells, rg11]
  refine ⟨fun h3 => ?_, fun h3 => ⟨fun h4 => ?_, fun h4 => ?_⟩⟩
  · rw [if_pos h3]
    exact Fin.w [0] (.tup [z.1.sv .new, .i .i64 0, .i .i64 h2.2.2]) _ (by simp (maxSteps := 4000000) only [push_cast, Int.reduceEq, Int.reduceBNe, Int.reduceBEq, Int.reduceAdd, Int.reduceSub, Int.reduceMul, Int.reduceNeg, Int.reduceLT, Int.reduceLE, Int.reduceToNat, Nat.reduceLT, Nat.reduceAdd, Nat.reduceSub, Nat.reduceMul, Nat.reduceEqDiff, Nat.reduceLeDiff, Nat.reduceBEq, reduceIte, reduceCtorEq, St.sv, St.cells]) ⟨rfl, rfl⟩
  · rw [if_neg (by omega), if_pos h4]
    exact Fin.w [0] (.tup [z.1.sv .new, .i .i64 0, .i .i64 4]) _ (by simp (maxSteps := 4000000) only [push_cast, Int.reduceEq, Int.reduceBNe, Int.reduceBEq, Int.reduceAdd, Int.reduceSub, Int.reduceMul, Int.reduceNeg, Int.reduceLT, Int.reduceLE, Int.reduceToNat, Nat.reduceLT, Nat.reduceAdd, Nat.reduceSub, Nat.reduceMul, Nat.reduceEqDiff, Nat.reduceLeDiff, Nat.reduceBEq, reduceIte, reduceCtorEq, St.sv, St.cells]) ⟨rfl, rfl⟩
  · rw [if_neg (by omega), if_neg (by omega)]
    exact Fin.w [0] (.tup [z.1.sv .new, .i .i64 h2.2.1, .i .i64 0]) _ (by simp (maxSteps := 4000000) only [push_cast, Int.reduceEq, Int.reduceBNe, Int.reduceBEq, Int.reduceAdd, Int.reduceSub, Int.reduceMul, Int.reduceNeg, Int.reduceLT, Int.reduceLE, Int.reduceToNat, Nat.reduceLT, Nat.reduceAdd, Nat.reduceSub, Nat.reduceMul, Nat.reduceEqDiff, Nat.reduceLeDiff, Nat.reduceBEq, reduceIte, reduceCtorEq, St.sv, St.cells]) ⟨rfl, rfl⟩

/-- Sought: where, by the Raw. -/
def St.sought (M : RawM) (x : St) (q : M.σ × Int × Int) : St × M.σ × Int × Int :=
  if q.2.2 ≠ 0 then (x, q.1, 0, q.2.2) else ({ x with o := [], i := [], k := [], en := false, d := 0 }, q.1, q.2.1, 0)
def St.Seek1 (M : RawM) (x : St) (h : M.σ × Int × Int) (off : Int) : St × M.σ × Int × Int :=
  if h.2.2 ≠ 0 then (x, h.1, 0, h.2.2)
  else if off < IntKind.i64.wrap (0 - h.2.1) ∨ IntKind.i64.wrap (1048576 - h.2.1) < off then (x, h.1, 0, 4)
  else x.sought M (M.sk h.1 (IntKind.i64.wrap (h.2.1 + off)) 0)
def St.Seek (M : RawM) (x : St) (g : M.σ) (off w : Int) : St × M.σ × Int × Int :=
  if (x.settled M g (decide (w < 0) || decide (2 < w))).2.2 ≠ 0 then ((x.settled M g (decide (w < 0) || decide (2 < w))).1, (x.settled M g (decide (w < 0) || decide (2 < w))).2.1, 0, (x.settled M g (decide (w < 0) || decide (2 < w))).2.2)
  else if w = 1 then (x.settled M g (decide (w < 0) || decide (2 < w))).1.Seek1 M ((x.settled M g (decide (w < 0) || decide (2 < w))).1.here M (x.settled M g (decide (w < 0) || decide (2 < w))).2.1) off
  else (x.settled M g (decide (w < 0) || decide (2 < w))).1.sought M (M.sk (x.settled M g (decide (w < 0) || decide (2 < w))).2.1 off w)

theorem here_ok (M : RawM) (hS : M.Sk) (x : St) (g : M.σ) (hg : M.ok g) : M.ok (x.here M g).1 := by
  have := hS.keep g 0 1 hg
  unfold St.here
  split <;> exact this

theorem Seek_c (M : RawM) (hW : M.Wr) (hS : M.Sk) (x : St) (hx : x.fits) (hx2 : x.o.length ≤ 1048576) (g : M.σ) (hg : M.ok g) (hr : x.o.length ≤ M.rm g) (off w : Int) : Contract Tryz.prog 22 (preR (M.res g)) [x.sv .old, M.v, .i .i64 off, .i .i64 w] (isT M (x.Seek M g off w)) := by
  have hok := settled_ok M hW x g hg hx2 hr (decide (w < 0) || decide (2 < w))
  refine contract_ev Γok Tryz.func22 rfl rfl [] ?_
  simp (maxSteps := 4000000) only [push_cast, Int.reduceEq, Int.reduceBNe, Int.reduceBEq, Int.reduceAdd, Int.reduceSub, Int.reduceMul, Int.reduceNeg, Int.reduceLT, Int.reduceLE, Int.reduceToNat, Nat.reduceLT, Nat.reduceAdd, Nat.reduceSub, Nat.reduceMul, Nat.reduceEqDiff, Nat.reduceLeDiff, Nat.reduceBEq, reduceIte, reduceCtorEq, Tryz.f22, rg11, St.sv, St.cells, RawM.v]
  refine call_w (settled_c M hW x hx g hg hr (decide (w < 0) || decide (2 < w))) [0] (by simp (maxSteps := 4000000) only [push_cast, Int.reduceEq, Int.reduceBNe, Int.reduceBEq, Int.reduceAdd, Int.reduceSub, Int.reduceMul, Int.reduceNeg, Int.reduceLT, Int.reduceLE, Int.reduceToNat, Nat.reduceLT, Nat.reduceAdd, Nat.reduceSub, Nat.reduceMul, Nat.reduceEqDiff, Nat.reduceLeDiff, Nat.reduceBEq, reduceIte, reduceCtorEq, St.sv, St.cells, RawM.v]) ?_
  rintro sv post ⟨rfl, rfl⟩
  unfold St.Seek
  generalize x.settled M g (decide (w < 0) || decide (2 < w)) = z at hok ⊢
  simp (maxSteps := 4000000) only [push_cast, Int.reduceEq, Int.reduceBNe, Int.reduceBEq, Int.reduceAdd, Int.reduceSub, Int.reduceMul, Int.reduceNeg, Int.reduceLT, Int.reduceLE, Int.reduceToNat, Nat.reduceLT, Nat.reduceAdd, Nat.reduceSub, Nat.reduceMul, Nat.reduceEqDiff, Nat.reduceLeDiff, Nat.reduceBEq, reduceIte, reduceCtorEq, St.sv, St.cells, rg11]
  refine ⟨fun h => ?_, fun h => ⟨fun h1 => ?_, fun h1 => ?_⟩⟩
  · rw [if_pos h]
    exact Fin.w [0] (.tup [z.1.sv .new, .i .i64 0, .i .i64 z.2.2]) _ (by simp (maxSteps := 4000000) only [push_cast, Int.reduceEq, Int.reduceBNe, Int.reduceBEq, Int.reduceAdd, Int.reduceSub, Int.reduceMul, Int.reduceNeg, Int.reduceLT, Int.reduceLE, Int.reduceToNat, Nat.reduceLT, Nat.reduceAdd, Nat.reduceSub, Nat.reduceMul, Nat.reduceEqDiff, Nat.reduceLeDiff, Nat.reduceBEq, reduceIte, reduceCtorEq, St.sv, St.cells]) ⟨rfl, rfl⟩
  · rw [if_neg (by omega), if_pos h1]
    have hok2 := here_ok M hS z.1 z.2.1 hok
    refine call_w (here_c M hS z.1 z.2.1 hok) [0] (by simp (maxSteps := 4000000) only [push_cast, Int.reduceEq, Int.reduceBNe, Int.reduceBEq, Int.reduceAdd, Int.reduceSub, Int.reduceMul, Int.reduceNeg, Int.reduceLT, Int.reduceLE, Int.reduceToNat, Nat.reduceLT, Nat.reduceAdd, Nat.reduceSub, Nat.reduceMul, Nat.reduceEqDiff, Nat.reduceLeDiff, Nat.reduceBEq, reduceIte, reduceCtorEq, St.sv, St.cells, RawM.v]) ?_
    rintro sv post ⟨rfl, rfl⟩
    generalize z.1.here M z.2.1 = h2 at hok2 ⊢
    simp (maxSteps := 4000000) only [push_cast, Int.reduceEq, Int.reduceBNe, Int.reduceBEq, Int.reduceAdd, Int.reduceSub, Int.reduceMul, Int.reduceNeg, Int.reduceLT, Int.reduceLE, Int.reduceToNat, Nat.reduceLT, Nat.reduceAdd, Nat.reduceSub, Nat.reduceMul, Nat.reduceEqDiff, Nat.reduceLeDiff, Nat.reduceBEq, reduceIte, reduceCtorEq, St.sv, St.cells, rg11]
    unfold St.Seek1
    refine ⟨fun h3 => ?_, fun h3 => ⟨fun h4 => ?_, fun h4 => ?_⟩⟩
    · rw [if_pos h3]
      exact Fin.w [0] (.tup [z.1.sv .new, .i .i64 0, .i .i64 h2.2.2]) _ (by simp (maxSteps := 4000000) only [push_cast, Int.reduceEq, Int.reduceBNe, Int.reduceBEq, Int.reduceAdd, Int.reduceSub, Int.reduceMul, Int.reduceNeg, Int.reduceLT, Int.reduceLE, Int.reduceToNat, Nat.reduceLT, Nat.reduceAdd, Nat.reduceSub, Nat.reduceMul, Nat.reduceEqDiff, Nat.reduceLeDiff, Nat.reduceBEq, reduceIte, reduceCtorEq, St.sv, St.cells]) ⟨rfl, rfl⟩
    · rw [if_neg (by omega), if_pos h4]
      exact Fin.w [0] (.tup [z.1.sv .new, .i .i64 0, .i .i64 4]) _ (by simp (maxSteps := 4000000) only [push_cast, Int.reduceEq, Int.reduceBNe, Int.reduceBEq, Int.reduceAdd, Int.reduceSub, Int.reduceMul, Int.reduceNeg, Int.reduceLT, Int.reduceLE, Int.reduceToNat, Nat.reduceLT, Nat.reduceAdd, Nat.reduceSub, Nat.reduceMul, Nat.reduceEqDiff, Nat.reduceLeDiff, Nat.reduceBEq, reduceIte, reduceCtorEq, St.sv, St.cells]) ⟨rfl, rfl⟩
    · rw [if_neg (by omega), if_neg (by omega)]
      refine inv_w (hS.run h2.1 (IntKind.i64.wrap (h2.2.1 + off)) 0 hok2) [0] (by simp (maxSteps := 4000000) only [push_cast, Int.reduceEq, Int.reduceBNe, Int.reduceBEq, Int.reduceAdd, Int.reduceSub, Int.reduceMul, Int.reduceNeg, Int.reduceLT, Int.reduceLE, Int.reduceToNat, Nat.reduceLT, Nat.reduceAdd, Nat.reduceSub, Nat.reduceMul, Nat.reduceEqDiff, Nat.reduceLeDiff, Nat.reduceBEq, reduceIte, reduceCtorEq]) ?_
      rintro sv post ⟨rfl, rfl⟩
      unfold St.sought
      generalize M.sk h2.1 (IntKind.i64.wrap (h2.2.1 + off)) 0 = q
      simp (maxSteps := 4000000) only [push_cast, Int.reduceEq, Int.reduceBNe, Int.reduceBEq, Int.reduceAdd, Int.reduceSub, Int.reduceMul, Int.reduceNeg, Int.reduceLT, Int.reduceLE, Int.reduceToNat, Nat.reduceLT, Nat.reduceAdd, Nat.reduceSub, Nat.reduceMul, Nat.reduceEqDiff, Nat.reduceLeDiff, Nat.reduceBEq, reduceIte, reduceCtorEq, rg11]
      refine ⟨fun h5 => ?_, fun h5 => ?_⟩
      · rw [if_pos h5]
        exact Fin.w [0] (.tup [z.1.sv .new, .i .i64 0, .i .i64 q.2.2]) _ (by simp (maxSteps := 4000000) only [push_cast, Int.reduceEq, Int.reduceBNe, Int.reduceBEq, Int.reduceAdd, Int.reduceSub, Int.reduceMul, Int.reduceNeg, Int.reduceLT, Int.reduceLE, Int.reduceToNat, Nat.reduceLT, Nat.reduceAdd, Nat.reduceSub, Nat.reduceMul, Nat.reduceEqDiff, Nat.reduceLeDiff, Nat.reduceBEq, reduceIte, reduceCtorEq, St.sv, St.cells]) ⟨rfl, rfl⟩
      · rw [if_neg (by omega)]
        exact Fin.w [0] (.tup [({ z.1 with o := [], i := [], k := [], en := false, d := 0 } : St).sv .new, .i .i64 q.2.1, .i .i64 0]) _ (by simp (maxSteps := 4000000) only [push_cast, Int.reduceEq, Int.reduceBNe, Int.reduceBEq, Int.reduceAdd, Int.reduceSub, Int.reduceMul, Int.reduceNeg, Int.reduceLT, Int.reduceLE, Int.reduceToNat, Nat.reduceLT, Nat.reduceAdd, Nat.reduceSub, Nat.reduceMul, Nat.reduceEqDiff, Nat.reduceLeDiff, Nat.reduceBEq, reduceIte, reduceCtorEq, St.sv, St.cells]) ⟨rfl, rfl⟩
  · rw [if_neg (by omega), if_neg h1]
    refine inv_w (hS.run z.2.1 off w hok) [0] (by simp (maxSteps := 4000000) only [push_cast, Int.reduceEq, Int.reduceBNe, Int.reduceBEq, Int.reduceAdd, Int.reduceSub, Int.reduceMul, Int.reduceNeg, Int.reduceLT, Int.reduceLE, Int.reduceToNat, Nat.reduceLT, Nat.reduceAdd, Nat.reduceSub, Nat.reduceMul, Nat.reduceEqDiff, Nat.reduceLeDiff, Nat.reduceBEq, reduceIte, reduceCtorEq]) ?_
    rintro sv post ⟨rfl, rfl⟩
    unfold St.sought
    generalize M.sk z.2.1 off w = q
    simp (maxSteps := 4000000) only [push_cast, Int.reduceEq, Int.reduceBNe, Int.reduceBEq, Int.reduceAdd, Int.reduceSub, Int.reduceMul, Int.reduceNeg, Int.reduceLT, Int.reduceLE, Int.reduceToNat, Nat.reduceLT, Nat.reduceAdd, Nat.reduceSub, Nat.reduceMul, Nat.reduceEqDiff, Nat.reduceLeDiff, Nat.reduceBEq, reduceIte, reduceCtorEq, rg11]
    refine ⟨fun h5 => ?_, fun h5 => ?_⟩
    · rw [if_pos h5]
      exact Fin.w [0] (.tup [z.1.sv .new, .i .i64 0, .i .i64 q.2.2]) _ (by simp (maxSteps := 4000000) only [push_cast, Int.reduceEq, Int.reduceBNe, Int.reduceBEq, Int.reduceAdd, Int.reduceSub, Int.reduceMul, Int.reduceNeg, Int.reduceLT, Int.reduceLE, Int.reduceToNat, Nat.reduceLT, Nat.reduceAdd, Nat.reduceSub, Nat.reduceMul, Nat.reduceEqDiff, Nat.reduceLeDiff, Nat.reduceBEq, reduceIte, reduceCtorEq, St.sv, St.cells]) ⟨rfl, rfl⟩
    · rw [if_neg (by omega)]
      exact Fin.w [0] (.tup [({ z.1 with o := [], i := [], k := [], en := false, d := 0 } : St).sv .new, .i .i64 q.2.1, .i .i64 0]) _ (by simp (maxSteps := 4000000) only [push_cast, Int.reduceEq, Int.reduceBNe, Int.reduceBEq, Int.reduceAdd, Int.reduceSub, Int.reduceMul, Int.reduceNeg, Int.reduceLT, Int.reduceLE, Int.reduceToNat, Nat.reduceLT, Nat.reduceAdd, Nat.reduceSub, Nat.reduceMul, Nat.reduceEqDiff, Nat.reduceLeDiff, Nat.reduceBEq, reduceIte, reduceCtorEq, St.sv, St.cells]) ⟨rfl, rfl⟩
end Go.Proofs.YtlgpcngfcglanaaGreat
/- Places: the page's example. -/
namespace Go.Proofs.YtlgpcngfcglanaaGreat
open Go Go.Eng
set_option maxHeartbeats 4000000
set_option linter.unusedSimpArgs false
set_option linter.unusedVariables false
set_option maxRecDepth 100000

theorem num14_c (m : Int) : Contract Tryz.prog 20 nilSS [.i .i64 m] (fun sv post => sv = .i .i64 m ∧ post = nilSS) := by
  refine contract_ev Γok Tryz.func20 rfl rfl [] ?_
  simp (maxSteps := 4000000) only [push_cast, Int.reduceEq, Int.reduceBNe, Int.reduceBEq, Int.reduceAdd, Int.reduceSub, Int.reduceMul, Int.reduceNeg, Int.reduceLT, Int.reduceLE, Int.reduceToNat, Nat.reduceLT, Nat.reduceAdd, Nat.reduceSub, Nat.reduceMul, Nat.reduceEqDiff, Nat.reduceLeDiff, Nat.reduceBEq, reduceIte, reduceCtorEq, Tryz.f20]
  exact Fin.nil rfl (psv := .i .i64 _) (by simp (maxSteps := 4000000) only [push_cast, Int.reduceEq, Int.reduceBNe, Int.reduceBEq, Int.reduceAdd, Int.reduceSub, Int.reduceMul, Int.reduceNeg, Int.reduceLT, Int.reduceLE, Int.reduceToNat, Nat.reduceLT, Nat.reduceAdd, Nat.reduceSub, Nat.reduceMul, Nat.reduceEqDiff, Nat.reduceLeDiff, Nat.reduceBEq, reduceIte, reduceCtorEq]) ⟨rfl, rfl⟩

def hiSt (i : List Int) (d : Int) (en : Bool) : St := ⟨true, true, 3, 4, [], i, [], d, en, false, false⟩
theorem pl1 (b : Nat) : (hiSt [] 0 false).Get (growM b) (([104, 101, 108, 108, 111], 0) : List Int × Int) = (hiSt [101, 108, 108] 1 false, (([104, 101, 108, 108, 111], 4) : List Int × Int), 104, 0) := by kernel_rfl
theorem pl2 (b : Nat) : (hiSt [101, 108, 108] 1 false).Tell (growM b) (([104, 101, 108, 108, 111], 4) : List Int × Int) = (hiSt [101, 108, 108] 1 false, (([104, 101, 108, 108, 111], 4) : List Int × Int), 1, 0) := by kernel_rfl
theorem pl3 (b : Nat) : (hiSt [101, 108, 108] 1 false).Seek (growM b) (([104, 101, 108, 108, 111], 4) : List Int × Int) 1 1 = (hiSt [] 0 false, (([104, 101, 108, 108, 111], 2) : List Int × Int), 2, 0) := by kernel_rfl
theorem pl4 (b : Nat) : (hiSt [] 0 false).Get (growM b) (([104, 101, 108, 108, 111], 2) : List Int × Int) = (hiSt [108, 111] 1 false, (([104, 101, 108, 108, 111], 5) : List Int × Int), 108, 0) := by kernel_rfl

theorem alive14_c : Contract Tryz.prog 19 nilSS [] (fun sv post => sv = .b true ∧ post = nilSS) := by
  have e0 : newSt true true 3 4 = hiSt [] 0 false := rfl
  have may0 : mayV 3 4 = 0 := rfl
  have hv : ∀ b, (growM b).v = .ifc 47 (.raw (.pointer (some ⟨b, 0, none⟩))) := fun b => rfl
  have hr : ∀ b (s : List Int × Int), (growM b).res s = growR b s.1 s.2 := fun b s => rfl
  have wz : IntKind.i64.wrap 0 = 0 := rfl
  refine contract_ev Γok Tryz.func19 rfl rfl [] ?_
  simp (maxSteps := 4000000) only [push_cast, Int.reduceEq, Int.reduceBNe, Int.reduceBEq, Int.reduceAdd, Int.reduceSub, Int.reduceMul, Int.reduceNeg, Int.reduceLT, Int.reduceLE, Int.reduceToNat, Nat.reduceLT, Nat.reduceAdd, Nat.reduceSub, Nat.reduceMul, Nat.reduceEqDiff, Nat.reduceLeDiff, Nat.reduceBEq, reduceIte, reduceCtorEq, Tryz.f19]
  refine call_w (newGrow_c [104, 101, 108, 108, 111] (by simp)) [] (by simp (maxSteps := 4000000) only [push_cast, Int.reduceEq, Int.reduceBNe, Int.reduceBEq, Int.reduceAdd, Int.reduceSub, Int.reduceMul, Int.reduceNeg, Int.reduceLT, Int.reduceLE, Int.reduceToNat, Nat.reduceLT, Nat.reduceAdd, Nat.reduceSub, Nat.reduceMul, Nat.reduceEqDiff, Nat.reduceLeDiff, Nat.reduceBEq, reduceIte, reduceCtorEq]) ?_
  rintro sv post ⟨b, rfl, rfl⟩
  simp (maxSteps := 4000000) only [push_cast, Int.reduceEq, Int.reduceBNe, Int.reduceBEq, Int.reduceAdd, Int.reduceSub, Int.reduceMul, Int.reduceNeg, Int.reduceLT, Int.reduceLE, Int.reduceToNat, Nat.reduceLT, Nat.reduceAdd, Nat.reduceSub, Nat.reduceMul, Nat.reduceEqDiff, Nat.reduceLeDiff, Nat.reduceBEq, reduceIte, reduceCtorEq]
  refine call_w (newS_c _ _ _ _ _ _ _ _ openRW_c 3 4) [] (by simp (maxSteps := 4000000) only [push_cast, Int.reduceEq, Int.reduceBNe, Int.reduceBEq, Int.reduceAdd, Int.reduceSub, Int.reduceMul, Int.reduceNeg, Int.reduceLT, Int.reduceLE, Int.reduceToNat, Nat.reduceLT, Nat.reduceAdd, Nat.reduceSub, Nat.reduceMul, Nat.reduceEqDiff, Nat.reduceLeDiff, Nat.reduceBEq, reduceIte, reduceCtorEq, modeV]) ?_
  rintro sv post ⟨rfl, rfl⟩
  simp (maxSteps := 4000000) only [push_cast, Int.reduceEq, Int.reduceBNe, Int.reduceBEq, Int.reduceAdd, Int.reduceSub, Int.reduceMul, Int.reduceNeg, Int.reduceLT, Int.reduceLE, Int.reduceToNat, Nat.reduceLT, Nat.reduceAdd, Nat.reduceSub, Nat.reduceMul, Nat.reduceEqDiff, Nat.reduceLeDiff, Nat.reduceBEq, reduceIte, reduceCtorEq, St.sv, St.cells]
  refine call_w (num14_c 0) [] (by simp (maxSteps := 4000000) only [push_cast, Int.reduceEq, Int.reduceBNe, Int.reduceBEq, Int.reduceAdd, Int.reduceSub, Int.reduceMul, Int.reduceNeg, Int.reduceLT, Int.reduceLE, Int.reduceToNat, Nat.reduceLT, Nat.reduceAdd, Nat.reduceSub, Nat.reduceMul, Nat.reduceEqDiff, Nat.reduceLeDiff, Nat.reduceBEq, reduceIte, reduceCtorEq]) ?_
  rintro sv post ⟨rfl, rfl⟩
  simp (maxSteps := 4000000) only [push_cast, Int.reduceEq, Int.reduceBNe, Int.reduceBEq, Int.reduceAdd, Int.reduceSub, Int.reduceMul, Int.reduceNeg, Int.reduceLT, Int.reduceLE, Int.reduceToNat, Nat.reduceLT, Nat.reduceAdd, Nat.reduceSub, Nat.reduceMul, Nat.reduceEqDiff, Nat.reduceLeDiff, Nat.reduceBEq, reduceIte, reduceCtorEq, may0]
  refine call_w (num14_c 0) [] (by simp (maxSteps := 4000000) only [push_cast, Int.reduceEq, Int.reduceBNe, Int.reduceBEq, Int.reduceAdd, Int.reduceSub, Int.reduceMul, Int.reduceNeg, Int.reduceLT, Int.reduceLE, Int.reduceToNat, Nat.reduceLT, Nat.reduceAdd, Nat.reduceSub, Nat.reduceMul, Nat.reduceEqDiff, Nat.reduceLeDiff, Nat.reduceBEq, reduceIte, reduceCtorEq]) ?_
  rintro sv post ⟨rfl, rfl⟩
  simp (maxSteps := 4000000) only [push_cast, Int.reduceEq, Int.reduceBNe, Int.reduceBEq, Int.reduceAdd, Int.reduceSub, Int.reduceMul, Int.reduceNeg, Int.reduceLT, Int.reduceLE, Int.reduceToNat, Nat.reduceLT, Nat.reduceAdd, Nat.reduceSub, Nat.reduceMul, Nat.reduceEqDiff, Nat.reduceLeDiff, Nat.reduceBEq, reduceIte, reduceCtorEq, e0, hiSt, rg11, wz]
  refine call_w (GetR_c (growM b) (growM_rd b) (hiSt [] 0 false) (([104, 101, 108, 108, 111], 0) : List Int × Int) (by exact ⟨by decide, by decide, by decide⟩) (by exact ⟨by decide, by decide, by decide⟩)) [3] (by simp (maxSteps := 4000000) only [push_cast, Int.reduceEq, Int.reduceBNe, Int.reduceBEq, Int.reduceAdd, Int.reduceSub, Int.reduceMul, Int.reduceNeg, Int.reduceLT, Int.reduceLE, Int.reduceToNat, Nat.reduceLT, Nat.reduceAdd, Nat.reduceSub, Nat.reduceMul, Nat.reduceEqDiff, Nat.reduceLeDiff, Nat.reduceBEq, reduceIte, reduceCtorEq, hv, hr, St.sv, St.cells, hiSt]) ?_
  rintro sv post ⟨rfl, rfl⟩
  rw [pl1 b]
  simp (maxSteps := 4000000) only [push_cast, Int.reduceEq, Int.reduceBNe, Int.reduceBEq, Int.reduceAdd, Int.reduceSub, Int.reduceMul, Int.reduceNeg, Int.reduceLT, Int.reduceLE, Int.reduceToNat, Nat.reduceLT, Nat.reduceAdd, Nat.reduceSub, Nat.reduceMul, Nat.reduceEqDiff, Nat.reduceLeDiff, Nat.reduceBEq, reduceIte, reduceCtorEq, hv, hr, St.sv, St.cells, hiSt, rg11]
  refine call_w (Tell_c (growM b) (growM_wr b) (growM_sk b) (hiSt [101, 108, 108] 1 false) (by exact ⟨by decide, by decide, by decide⟩) (by decide) (([104, 101, 108, 108, 111], 4) : List Int × Int) (by exact ⟨by decide, by decide, by decide⟩) (by simp [hiSt, growM])) [3] (by simp (maxSteps := 4000000) only [push_cast, Int.reduceEq, Int.reduceBNe, Int.reduceBEq, Int.reduceAdd, Int.reduceSub, Int.reduceMul, Int.reduceNeg, Int.reduceLT, Int.reduceLE, Int.reduceToNat, Nat.reduceLT, Nat.reduceAdd, Nat.reduceSub, Nat.reduceMul, Nat.reduceEqDiff, Nat.reduceLeDiff, Nat.reduceBEq, reduceIte, reduceCtorEq, hv, hr, St.sv, St.cells, hiSt]) ?_
  rintro sv post ⟨rfl, rfl⟩
  rw [pl2 b]
  simp (maxSteps := 4000000) only [push_cast, Int.reduceEq, Int.reduceBNe, Int.reduceBEq, Int.reduceAdd, Int.reduceSub, Int.reduceMul, Int.reduceNeg, Int.reduceLT, Int.reduceLE, Int.reduceToNat, Nat.reduceLT, Nat.reduceAdd, Nat.reduceSub, Nat.reduceMul, Nat.reduceEqDiff, Nat.reduceLeDiff, Nat.reduceBEq, reduceIte, reduceCtorEq, hv, hr, St.sv, St.cells, hiSt, rg11]
  refine call_w (Seek_c (growM b) (growM_wr b) (growM_sk b) (hiSt [101, 108, 108] 1 false) (by exact ⟨by decide, by decide, by decide⟩) (by decide) (([104, 101, 108, 108, 111], 4) : List Int × Int) (by exact ⟨by decide, by decide, by decide⟩) (by simp [hiSt, growM]) 1 1) [3] (by simp (maxSteps := 4000000) only [push_cast, Int.reduceEq, Int.reduceBNe, Int.reduceBEq, Int.reduceAdd, Int.reduceSub, Int.reduceMul, Int.reduceNeg, Int.reduceLT, Int.reduceLE, Int.reduceToNat, Nat.reduceLT, Nat.reduceAdd, Nat.reduceSub, Nat.reduceMul, Nat.reduceEqDiff, Nat.reduceLeDiff, Nat.reduceBEq, reduceIte, reduceCtorEq, hv, hr, St.sv, St.cells, hiSt]) ?_
  rintro sv post ⟨rfl, rfl⟩
  rw [pl3 b]
  simp (maxSteps := 4000000) only [push_cast, Int.reduceEq, Int.reduceBNe, Int.reduceBEq, Int.reduceAdd, Int.reduceSub, Int.reduceMul, Int.reduceNeg, Int.reduceLT, Int.reduceLE, Int.reduceToNat, Nat.reduceLT, Nat.reduceAdd, Nat.reduceSub, Nat.reduceMul, Nat.reduceEqDiff, Nat.reduceLeDiff, Nat.reduceBEq, reduceIte, reduceCtorEq, hv, hr, St.sv, St.cells, hiSt, rg11]
  refine call_w (GetR_c (growM b) (growM_rd b) (hiSt [] 0 false) (([104, 101, 108, 108, 111], 2) : List Int × Int) (by exact ⟨by decide, by decide, by decide⟩) (by exact ⟨by decide, by decide, by decide⟩)) [3] (by simp (maxSteps := 4000000) only [push_cast, Int.reduceEq, Int.reduceBNe, Int.reduceBEq, Int.reduceAdd, Int.reduceSub, Int.reduceMul, Int.reduceNeg, Int.reduceLT, Int.reduceLE, Int.reduceToNat, Nat.reduceLT, Nat.reduceAdd, Nat.reduceSub, Nat.reduceMul, Nat.reduceEqDiff, Nat.reduceLeDiff, Nat.reduceBEq, reduceIte, reduceCtorEq, hv, hr, St.sv, St.cells, hiSt]) ?_
  rintro sv post ⟨rfl, rfl⟩
  rw [pl4 b]
  simp (maxSteps := 4000000) only [push_cast, Int.reduceEq, Int.reduceBNe, Int.reduceBEq, Int.reduceAdd, Int.reduceSub, Int.reduceMul, Int.reduceNeg, Int.reduceLT, Int.reduceLE, Int.reduceToNat, Nat.reduceLT, Nat.reduceAdd, Nat.reduceSub, Nat.reduceMul, Nat.reduceEqDiff, Nat.reduceLeDiff, Nat.reduceBEq, reduceIte, reduceCtorEq, hv, hr, St.sv, St.cells, hiSt, rg11]
  refine call_w (num14_c 0) [] (by simp (maxSteps := 4000000) only [push_cast, Int.reduceEq, Int.reduceBNe, Int.reduceBEq, Int.reduceAdd, Int.reduceSub, Int.reduceMul, Int.reduceNeg, Int.reduceLT, Int.reduceLE, Int.reduceToNat, Nat.reduceLT, Nat.reduceAdd, Nat.reduceSub, Nat.reduceMul, Nat.reduceEqDiff, Nat.reduceLeDiff, Nat.reduceBEq, reduceIte, reduceCtorEq]) ?_
  rintro sv post ⟨rfl, rfl⟩
  simp (maxSteps := 4000000) only [push_cast, Int.reduceEq, Int.reduceBNe, Int.reduceBEq, Int.reduceAdd, Int.reduceSub, Int.reduceMul, Int.reduceNeg, Int.reduceLT, Int.reduceLE, Int.reduceToNat, Nat.reduceLT, Nat.reduceAdd, Nat.reduceSub, Nat.reduceMul, Nat.reduceEqDiff, Nat.reduceLeDiff, Nat.reduceBEq, reduceIte, reduceCtorEq]
  refine call_w (num14_c 0) [] (by simp (maxSteps := 4000000) only [push_cast, Int.reduceEq, Int.reduceBNe, Int.reduceBEq, Int.reduceAdd, Int.reduceSub, Int.reduceMul, Int.reduceNeg, Int.reduceLT, Int.reduceLE, Int.reduceToNat, Nat.reduceLT, Nat.reduceAdd, Nat.reduceSub, Nat.reduceMul, Nat.reduceEqDiff, Nat.reduceLeDiff, Nat.reduceBEq, reduceIte, reduceCtorEq]) ?_
  rintro sv post ⟨rfl, rfl⟩
  simp (maxSteps := 4000000) only [push_cast, Int.reduceEq, Int.reduceBNe, Int.reduceBEq, Int.reduceAdd, Int.reduceSub, Int.reduceMul, Int.reduceNeg, Int.reduceLT, Int.reduceLE, Int.reduceToNat, Nat.reduceLT, Nat.reduceAdd, Nat.reduceSub, Nat.reduceMul, Nat.reduceEqDiff, Nat.reduceLeDiff, Nat.reduceBEq, reduceIte, reduceCtorEq, wz]
  refine call_w (num14_c 0) [] (by simp (maxSteps := 4000000) only [push_cast, Int.reduceEq, Int.reduceBNe, Int.reduceBEq, Int.reduceAdd, Int.reduceSub, Int.reduceMul, Int.reduceNeg, Int.reduceLT, Int.reduceLE, Int.reduceToNat, Nat.reduceLT, Nat.reduceAdd, Nat.reduceSub, Nat.reduceMul, Nat.reduceEqDiff, Nat.reduceLeDiff, Nat.reduceBEq, reduceIte, reduceCtorEq]) ?_
  rintro sv post ⟨rfl, rfl⟩
  simp (maxSteps := 4000000) only [push_cast, Int.reduceEq, Int.reduceBNe, Int.reduceBEq, Int.reduceAdd, Int.reduceSub, Int.reduceMul, Int.reduceNeg, Int.reduceLT, Int.reduceLE, Int.reduceToNat, Nat.reduceLT, Nat.reduceAdd, Nat.reduceSub, Nat.reduceMul, Nat.reduceEqDiff, Nat.reduceLeDiff, Nat.reduceBEq, reduceIte, reduceCtorEq, wz]
  refine call_w (num14_c 0) [] (by simp (maxSteps := 4000000) only [push_cast, Int.reduceEq, Int.reduceBNe, Int.reduceBEq, Int.reduceAdd, Int.reduceSub, Int.reduceMul, Int.reduceNeg, Int.reduceLT, Int.reduceLE, Int.reduceToNat, Nat.reduceLT, Nat.reduceAdd, Nat.reduceSub, Nat.reduceMul, Nat.reduceEqDiff, Nat.reduceLeDiff, Nat.reduceBEq, reduceIte, reduceCtorEq]) ?_
  rintro sv post ⟨rfl, rfl⟩
  simp (maxSteps := 4000000) only [push_cast, Int.reduceEq, Int.reduceBNe, Int.reduceBEq, Int.reduceAdd, Int.reduceSub, Int.reduceMul, Int.reduceNeg, Int.reduceLT, Int.reduceLE, Int.reduceToNat, Nat.reduceLT, Nat.reduceAdd, Nat.reduceSub, Nat.reduceMul, Nat.reduceEqDiff, Nat.reduceLeDiff, Nat.reduceBEq, reduceIte, reduceCtorEq, wz]
  exact Fin.nil rfl (psv := .b true) (by simp (maxSteps := 4000000) only [push_cast, Int.reduceEq, Int.reduceBNe, Int.reduceBEq, Int.reduceAdd, Int.reduceSub, Int.reduceMul, Int.reduceNeg, Int.reduceLT, Int.reduceLE, Int.reduceToNat, Nat.reduceLT, Nat.reduceAdd, Nat.reduceSub, Nat.reduceMul, Nat.reduceEqDiff, Nat.reduceLeDiff, Nat.reduceBEq, reduceIte, reduceCtorEq]) ⟨rfl, rfl⟩
end Go.Proofs.YtlgpcngfcglanaaGreat
/- Places over memory that grows: what is got, where it is. -/
namespace Go.Proofs.YtlgpcngfcglanaaGreat
open Go Go.Eng
set_option maxHeartbeats 4000000
set_option linter.unusedSimpArgs false
set_option linter.unusedVariables false

theorem growM_some (b : Nat) (g : List Int × Int) (n : Int) (h0 : 0 ≤ g.2) (hn : 0 ≤ n) :
    someV (growM b) g n = ((g.1, g.2 + (readV g.1 g.2 n).length), readV g.1 g.2 n, 0) := by
  have hl : ((readV g.1 g.2 n).length : Int) ≤ n := by unfold readV; rw [List.length_take]; omega
  obtain ⟨F, hF⟩ : ∃ F, 8192 = F + 1 := ⟨8191, rfl⟩
  have e0 : someV (growM b) g n = RawM.some (growM b) n (F + 1) g := by unfold someV; rw [hF]
  rw [e0]
  simp only [RawM.some]
  have e : (growM b).rd g n = ((g.1, g.2 + (readV g.1 g.2 n).length), readV g.1 g.2 n, 0) := rfl
  rw [e]
  dsimp only
  rw [if_neg (by omega), if_neg (by simp), if_neg (by omega)]
  rfl

/-- A stream that reads memory: what it holds lies ahead of the memory's place; p: the place that its user sees. -/
structure PL (x : St) (g : List Int × Int) (data : List Int) (p : Nat) : Prop where
  may : x.May
  r : x.r = true
  cl : x.cl = false
  d : x.d ≠ 2
  k : x.k = []
  o : x.o = []
  en : x.en = true → data.length ≤ p
  g1 : g.1 = data
  g2 : g.2 = p + x.i.length
  hi : x.i = (data.take (p + x.i.length)).drop p
  lim : p ≤ 1048576

theorem PL.bErr {x : St} {g : List Int × Int} {data : List Int} {p : Nat} (h : PL x g data p) : x.bErr = 0 := by
  unfold St.bErr; rw [if_pos h.may, if_neg (by simp [h.cl])]
theorem PL.fits {x : St} {g : List Int × Int} {data : List Int} {p : Nat} (h : PL x g data p) : x.fits := by
  obtain ⟨b1, b2, b3, b4⟩ := May.bd h.may
  exact ⟨by omega, by omega, by omega⟩
theorem PL.ilen {x : St} {g : List Int × Int} {data : List Int} {p : Nat} (h : PL x g data p) : x.i ≠ [] → p + x.i.length ≤ data.length := by
  intro hne
  have := congrArg List.length h.hi
  rw [List.length_drop, List.length_take] at this
  have := List.length_pos_iff.2 hne
  omega
theorem PL.ok {b : Nat} {x : St} {g : List Int × Int} {data : List Int} {p : Nat} (h : PL x g data p) (hd : data.length ≤ 1048576) : (growM b).ok g := by
  have h1 := h.ilen
  have h2 := h.g2
  have h3 := h.lim
  refine ⟨by omega, ?_, by rw [h.g1]; exact hd⟩
  by_cases hne : x.i = []
  · rw [hne] at h2; simp at h2; omega
  · have := h1 hne; omega

theorem new_pl (data : List Int) (w : Bool) {m s : Int} (h : mayV m s = 0) : PL (newSt true w m s) (data, 0) data 0 := by
  have e := newSt_ok true w h
  exact ⟨newSt_may true w h, by rw [e], by rw [e], by rw [e]; simp, by rw [e], by rw [e], by rw [e]; simp, rfl, by rw [e]; simp, by rw [e]; simp, by omega⟩

/-- A byte more is got, or the end is told. -/
theorem pl_get (b : Nat) {x : St} {g : List Int × Int} {data : List Int} {p : Nat} (h : PL x g data p) (hd : data.length ≤ 1048576) :
    ∃ x' g' c e, x.Get (growM b) g = (x', g', c, e) ∧ x'.m = x.m ∧ x'.s = x.s ∧ (p < data.length → c = data.getD p 0 ∧ e = 0 ∧ PL x' g' data (p + 1)) ∧ (data.length ≤ p → e = 111 ∧ PL x' g' data p) := by
  have hb := h.bErr
  have hil := h.ilen
  obtain ⟨r, w, m, s, o, iv, k, d, en, bad, cl⟩ := x
  obtain ⟨h1, h2, h3, h4, h5, h6, hen, hg1, hg2, hi, hlim⟩ := h
  simp only at h2 h3 h4 h5 h6 hen hg2 hi hil
  subst h2 h3 h5 h6
  obtain ⟨D, q⟩ := g
  simp only at hg1 hg2
  subst hg1
  obtain ⟨b1, b2, b3, b4⟩ := May.bd h1
  simp only at b1 b3
  obtain ⟨u1, u2⟩ := ask_rng b1
  have hnote : ∀ (y : St), y.noted 0 = y := fun y => by simp [St.noted]
  unfold St.Get
  rw [if_neg (by rw [hb]; simp)]
  unfold St.get
  dsimp only
  rw [if_neg (by simp), if_neg h4, if_neg (by simp)]
  by_cases hne : iv = []
  · subst hne
    rw [if_neg (by simp)]
    simp only [List.length_nil, Int.natCast_zero, Int.add_zero] at hg2
    unfold St.fill
    dsimp only
    by_cases hen2 : en = true
    · have hpl := hen hen2
      subst hen2
      simp only [if_true]
      rw [if_pos (by simp)]
      exact ⟨_, _, _, _, rfl, rfl, rfl, fun h => absurd h (by omega), fun _ => ⟨rfl, may_got h1 rfl rfl (by simp) (by simp), rfl, rfl, by simp, rfl, rfl, fun _ => hpl, rfl, by simpa using hg2, by simp, hlim⟩⟩
    · have hen3 : en = false := by simpa using hen2
      subst hen3
      simp only [Bool.false_eq_true, if_false]
      have hz : someV (growM b) (D, q) (askV m s) = ((D, q + (readV D q (askV m s)).length), readV D q (askV m s), 0) := growM_some b (D, q) _ (by dsimp only; omega) (by omega)
      have hqp : q.toNat = p := by omega
      by_cases hpl : p < D.length
      · have hr : (readV D q (askV m s)).length = min (askV m s).toNat (D.length - p) := by unfold readV; rw [List.length_take, List.length_drop, hqp]
        have hrn : readV D q (askV m s) ≠ [] := by intro h0; rw [h0] at hr; simp at hr; omega
        have hseg : readV D q (askV m s) = (D.take (p + (readV D q (askV m s)).length)).drop p := by
          rw [List.drop_take, Nat.add_sub_cancel_left, hr]
          unfold readV
          rw [hqp]
          rcases Nat.le_total (askV m s).toNat (D.length - p) with h | h
          · rw [Nat.min_eq_left h]
          · rw [Nat.min_eq_right h, List.take_of_length_le (by simp; omega), List.take_of_length_le (by simp)]
        have hget : (readV D q (askV m s)).getD 0 0 = D.getD p 0 := by
          unfold readV
          simp only [List.getD_eq_getElem?_getD]
          rw [List.getElem?_take, if_pos (by omega), List.getElem?_drop, hqp]
          simp
        generalize readV D q (askV m s) = L at hz hr hrn hseg hget
        rw [hz]
        dsimp only
        rw [if_neg (show ¬ ((0 : Int) = 0 ∧ L = []) from fun h => hrn h.2)]
        dsimp only
        rw [hnote, if_neg (by simp)]
        have hLp := List.length_pos_iff.2 hrn
        refine ⟨_, _, _, _, rfl, rfl, rfl, fun _ => ⟨by rw [List.nil_append]; exact hget, rfl, ?_⟩, fun h => absurd h (by omega)⟩
        refine ⟨may_got h1 rfl rfl (by dsimp only; simp; omega) (by simp), rfl, rfl, by simp, rfl, rfl, by simp, rfl, ?_, ?_, by omega⟩
        · dsimp only
          rw [List.nil_append, List.length_drop]
          omega
        · dsimp only
          rw [List.nil_append, List.length_drop, show p + 1 + (L.length - 1) = p + L.length by omega]
          conv => lhs; rw [hseg]
          rw [List.drop_drop]
      · have hr : readV D q (askV m s) = [] := by unfold readV; rw [List.drop_of_length_le (by omega)]; simp
        have hz2 : someV (growM b) (D, q) (askV m s) = ((D, q), ([] : List Int), (0 : Int)) := by
          rw [hz, hr]; simp; rfl
        rw [hz2]
        dsimp only
        rw [if_pos (show (0 : Int) = 0 ∧ ([] : List Int) = [] from ⟨rfl, rfl⟩)]
        dsimp only
        rw [if_pos (by simp)]
        exact ⟨_, _, _, _, rfl, rfl, rfl, fun h => absurd h (by omega), fun _ => ⟨rfl, may_got h1 rfl rfl (by simp) (by simp), rfl, rfl, by simp, rfl, rfl, fun _ => by omega, rfl, by simpa using hg2, by simp, hlim⟩⟩
  · rw [if_pos hne]
    have hpos := List.length_pos_iff.2 hne
    have hlt := hil hne
    refine ⟨_, _, _, _, rfl, rfl, rfl, fun _ => ⟨?_, rfl, ?_⟩, fun h => absurd h (by omega)⟩
    · conv => lhs; rw [hi]
      simp only [List.getD_eq_getElem?_getD]
      rw [List.getElem?_drop, List.getElem?_take, if_pos (by omega)]
      simp
    · refine ⟨may_got h1 rfl rfl (by simp; omega) (by simp), rfl, rfl, by simp, rfl, rfl, fun he => by have := hen he; omega, rfl, ?_, ?_, by omega⟩
      · dsimp only
        rw [List.length_drop]
        omega
      · dsimp only
        rw [List.length_drop, show p + 1 + (iv.length - 1) = p + iv.length by omega]
        conv => lhs; rw [hi]
        rw [List.drop_drop]

theorem pl_settled (b : Nat) {x : St} {g : List Int × Int} {data : List Int} {p : Nat} (h : PL x g data p) (bad : Bool) : x.settled (growM b) g bad = (x, g, if bad = true then 1 else 0) := by
  unfold St.settled
  rw [if_neg (by rw [h.bErr]; simp)]
  cases bad with
  | true => rw [if_pos rfl, if_pos rfl]; rfl
  | false => rw [if_neg (by simp), if_pos (by rw [h.o]; rfl), if_neg (by simp)]; rfl

theorem gK_here (data : List Int) (q : Int) (h0 : 0 ≤ q) (h1 : q ≤ 1048576) : gK 1048576 data q 0 1 = ((data, q), q, 0) := by
  unfold gK
  rw [if_neg (by omega)]
  simp only [show ¬ (1 : Int) = 0 by omega, if_false, if_true]
  rw [if_neg (by omega)]
  simp

theorem pl_here (b : Nat) {x : St} {g : List Int × Int} {data : List Int} {p : Nat} (h : PL x g data p) (hd : data.length ≤ 1048576) : x.here (growM b) g = (g, (p : Int), 0) := by
  obtain ⟨k0, k1, k2⟩ := h.ok (b := b) hd
  have e : (growM b).sk g 0 1 = (g, g.2, 0) := gK_here g.1 g.2 k0 k1
  unfold St.here
  rw [e]
  dsimp only
  rw [if_neg (by simp), h.k]
  have := h.g2
  simp only [List.length_nil, Int.natCast_zero, Int.sub_zero]
  rw [wrap64 (n := g.2 - x.i.length) (by omega) (by omega), wrap64 (by omega) (by omega)]
  congr 2
  omega

theorem pl_tell (b : Nat) {x : St} {g : List Int × Int} {data : List Int} {p : Nat} (h : PL x g data p) (hd : data.length ≤ 1048576) : x.Tell (growM b) g = (x, g, (p : Int), 0) := by
  have e1 := pl_settled b h false
  have e2 := pl_here b h hd
  unfold St.Tell
  rw [e1]
  dsimp only
  rw [e2]
  dsimp only
  have hp0 : ¬ ((p : Int) < 0) := by omega
  simp [hp0]
  try rfl

theorem gK_cases (data : List Int) (q o w : Int) : (∃ e, e ≠ 0 ∧ gK 1048576 data q o w = ((data, q), 0, e)) ∨ ∃ at_, 0 ≤ at_ ∧ at_ ≤ 1048576 ∧ gK 1048576 data q o w = ((data, at_), at_, 0) := by
  unfold gK
  split
  · exact .inl ⟨1, by omega, rfl⟩
  · generalize (if w = 0 then (0 : Int) else if w = 1 then q else data.length) = base
    split
    · exact .inl ⟨4, by omega, rfl⟩
    · exact .inr ⟨base + o, by omega, by omega, rfl⟩

theorem pl_seek (b : Nat) {x : St} {g : List Int × Int} {data : List Int} {p : Nat} (h : PL x g data p) (hd : data.length ≤ 1048576) (off w : Int) :
    (∃ e, e ≠ 0 ∧ x.Seek (growM b) g off w = (x, g, 0, e)) ∨ ∃ x' at_, (0 : Int) ≤ at_ ∧ at_ ≤ 1048576 ∧ x.Seek (growM b) g off w = (x', (data, at_), at_, 0) ∧ PL x' (data, at_) data at_.toNat ∧ x'.m = x.m ∧ x'.s = x.s := by
  have e1 := pl_settled b h (decide (w < 0) || decide (2 < w))
  have e2 := pl_here b h hd
  have hg1 := h.g1
  have fin : ∀ at_ : Int, 0 ≤ at_ → at_ ≤ 1048576 → PL { x with o := [], i := [], k := [], en := false, d := 0 } (data, at_) data at_.toNat := fun at_ a0 a1 => by
    have hm := h.may
    refine ⟨?_, h.r, h.cl, by simp, rfl, rfl, by simp, rfl, by simp; omega, by simp, by omega⟩
    obtain ⟨m1, m2, m3, m4, m5, m6, m7⟩ := hm
    exact ⟨m1, by have := may_zero' m1; simp; omega, .inr rfl, by simp, by simp, .inl h.cl, .inl ⟨rfl, rfl, rfl, rfl⟩⟩
  have sought : ∀ (q : (growM b).σ × Int × Int), (q = (g, 0, q.2.2) ∧ q.2.2 ≠ 0) ∨ (∃ at_ : Int, 0 ≤ at_ ∧ at_ ≤ 1048576 ∧ q = ((data, at_), at_, 0)) →
      (∃ e, e ≠ 0 ∧ x.sought (growM b) q = (x, g, 0, e)) ∨ ∃ x' at_, (0 : Int) ≤ at_ ∧ at_ ≤ 1048576 ∧ x.sought (growM b) q = (x', (data, at_), at_, 0) ∧ PL x' (data, at_) data at_.toNat ∧ x'.m = x.m ∧ x'.s = x.s := by
    rintro q (⟨hq, hn⟩ | ⟨at_, a0, a1, rfl⟩)
    · left
      refine ⟨q.2.2, hn, ?_⟩
      unfold St.sought
      rw [if_pos hn, hq]; rfl
    · right
      refine ⟨_, at_, a0, a1, ?_, fin at_ a0 a1, rfl, rfl⟩
      unfold St.sought
      dsimp only
      rw [if_neg (by simp)]; rfl
  have ksk : ∀ o w', ((growM b).sk g o w' = (g, 0, ((growM b).sk g o w').2.2) ∧ ((growM b).sk g o w').2.2 ≠ 0) ∨ (∃ at_ : Int, 0 ≤ at_ ∧ at_ ≤ 1048576 ∧ (growM b).sk g o w' = ((data, at_), at_, 0)) := by
    intro o w'
    have e : (growM b).sk g o w' = gK 1048576 g.1 g.2 o w' := rfl
    rw [e]
    rcases gK_cases g.1 g.2 o w' with ⟨e, he, hk⟩ | ⟨at_, a0, a1, hk⟩
    · left; rw [hk]; exact ⟨rfl, he⟩
    · right; exact ⟨at_, a0, a1, by rw [hk, hg1]⟩
  unfold St.Seek
  rw [e1]
  dsimp only
  by_cases hbad : (decide (w < 0) || decide (2 < w)) = true
  · rw [if_pos hbad, if_pos (by simp)]
    exact .inl ⟨1, by simp, rfl⟩
  · rw [if_neg hbad, if_neg (by simp)]
    split
    · rw [e2]
      unfold St.Seek1
      dsimp only
      rw [if_neg (by simp)]
      split
      · exact .inl ⟨4, by simp, rfl⟩
      · exact sought _ (ksk _ _)
    · exact sought _ (ksk _ _)
end Go.Proofs.YtlgpcngfcglanaaGreat
/- PositionTells: Tell behind a Seek tells its place; what is got there is what the Raw has there. -/
namespace Go.Proofs.YtlgpcngfcglanaaGreat
open Go Go.Eng
set_option maxHeartbeats 4000000
set_option linter.unusedSimpArgs false
set_option linter.unusedVariables false
set_option maxRecDepth 100000

def mod40 (n : Int) : Int := ((n.tmod 40) + 40).tmod 40
theorem mod40_rng (n : Int) : 0 ≤ mod40 n ∧ mod40 n < 40 ∧ IntKind.i64.wrap (n.tmod 40 + 40) = n.tmod 40 + 40 := by
  have h1 := Int.tmod_lt_of_pos n (show (0 : Int) < 40 by omega)
  have h2 := Int.lt_tmod_of_pos n (show (0 : Int) < 40 by omega)
  unfold mod40
  refine ⟨Int.tmod_nonneg _ (by omega), Int.tmod_lt_of_pos _ (by omega), wrap64 (by omega) (by omega)⟩

end Go.Proofs.YtlgpcngfcglanaaGreat
