/- A stream's state; a stream at work: what its parts come to. -/
import Derived.Test.YtdbhgnjpjpmioaaRb
namespace Go.Proofs.Ytdbhgnjpjpmioaa
open Go Go.Eng
set_option linter.unusedSimpArgs false
set_option linter.unusedVariables false
set_option maxRecDepth 100000

structure St where
  r : Bool
  w : Bool
  m : Int
  s : Int
  o : List Int
  i : List Int
  k : List Int
  d : Int
  en : Bool
  bad : Bool
  cl : Bool
def St.cells (x : St) (a b c : Tag) : List SV := [.b x.r, .b x.w, .i .i64 x.m, .i .i64 x.s, .ints .u8 a x.o, .ints .u8 b x.i, .ints .u8 c x.k, .i .i64 x.d, .b x.en, .b x.bad, .b x.cl]
def St.sv (x : St) (t : Tag) : SV := .agg (x.cells t t t)
/-- A stream at work: names 2, 3: what it holds to be written, and to be got. -/
def St.work (x : St) (v : SV) : List SV := [.b x.r, .b x.w, .i .i64 x.m, .i .i64 x.s, .ints .u8 (.tok 2 true) x.o, .ints .u8 (.tok 3 true) x.i, .ints .u8 .new x.k, .i .i64 x.d, .b x.en, .b x.bad, .b x.cl, v]
/-- What a part of it is handed; the tokens stay with its caller. -/
def preD (M : RawM) (x : St) (g : M.σ) : SS := ⟨[], [(0, 106, x.work M.v)], [], [(1, M.res g)], 4, 4, []⟩
/-- The same, the tokens too. -/
def preW (M : RawM) (x : St) (g : M.σ) : SS := ⟨[], [(0, 106, x.work M.v)], [2, 3], [(1, M.res g)], 4, 2, []⟩

def St.noted (x : St) (e : Int) : St := { x with bad := x.bad || (e != 0 && e != 52) }
/-- How a part ends: the tokens stay with its caller. -/
def isD (M : RawM) (r : St × M.σ × Int) (sv : SV) (post : SS) : Prop := sv = .i .i64 r.2.2 ∧ post = preD M r.1 r.2.1
/-- How a part ends: new tokens. -/
def isW (M : RawM) (r : St × M.σ × Int) (sv : SV) (post : SS) : Prop := sv = .i .i64 r.2.2 ∧ post = preW M r.1 r.2.1
def isN (x : St) (t : TypeId) (y : Value) (e : Int) (sv : SV) (post : SS) : Prop := sv = .i .i64 e ∧ post = ⟨[], [(0, 106, (x.noted e).work (.ifc t (.raw y)))], [], [], 4, 4, []⟩

theorem notedR_c (x : St) (t : TypeId) (y : Value) (e : Int) : Contract Try.prog 66 ⟨[], [(0, 106, x.work (.ifc t (.raw y)))], [], [], 4, 4, []⟩ [.ptr 0 0, .i .i64 e] (isN x t y e) := by
  refine contract_ev Γok Try.func66 rfl rfl [] ?_
  simp (maxSteps := 4000000) only [push_cast, Int.reduceEq, Int.reduceBNe, Int.reduceBEq, Int.reduceAdd, Int.reduceSub, Int.reduceMul, Int.reduceNeg, Int.reduceLT, Int.reduceLE, Nat.reduceLT, Nat.reduceAdd, Nat.reduceSub, Nat.reduceMul, Nat.reduceEqDiff, Nat.reduceLeDiff, Nat.reduceBEq, reduceIte, reduceCtorEq, Try.f66, St.work]
  exact Fin.w [0, 1, 2, 3] (.i .i64 e) _ (by simp (maxSteps := 4000000) only [push_cast, Int.reduceEq, Int.reduceBNe, Int.reduceBEq, Int.reduceAdd, Int.reduceSub, Int.reduceMul, Int.reduceNeg, Int.reduceLT, Int.reduceLE, Nat.reduceLT, Nat.reduceAdd, Nat.reduceSub, Nat.reduceMul, Nat.reduceEqDiff, Nat.reduceLeDiff, Nat.reduceBEq, reduceIte, reduceCtorEq, St.work, St.noted]) ⟨rfl, rfl⟩

/-- Delivered: what was held. -/
def St.deliver (M : RawM) (x : St) (g : M.σ) : St × M.σ × Int :=
  (({ x with o := (putV M g x.o).2.1 } : St).noted (putV M g x.o).2.2, (putV M g x.o).1, (putV M g x.o).2.2)

theorem deliverR_c (M : RawM) (hW : M.Wr) (x : St) (g : M.σ) (hg : M.ok g) (hx : x.o.length ≤ 1048576) (hr : x.o.length ≤ M.rm g) : Contract Try.prog 56 (preD M x g) [.ptr 0 0] (isD M (x.deliver M g)) := by
  refine contract_ev Γok Try.func56 rfl rfl [] ?_
  simp (maxSteps := 4000000) only [push_cast, Int.reduceEq, Int.reduceBNe, Int.reduceBEq, Int.reduceAdd, Int.reduceSub, Int.reduceMul, Int.reduceNeg, Int.reduceLT, Int.reduceLE, Nat.reduceLT, Nat.reduceAdd, Nat.reduceSub, Nat.reduceMul, Nat.reduceEqDiff, Nat.reduceLeDiff, Nat.reduceBEq, reduceIte, reduceCtorEq, Try.f56, preD, St.work, RawM.v]
  refine (region_plan rfl Γok mixed (.pure 0 (.pure 1 (.pure 2 (.pure 3 (.pure 4 (.pure 5 (.pure 6 (.pure 7 (.pure 8 (.eff (.cons 9 [] (.pure 10 (.pure 11 (.pure 12 (.pure 13 (.pure 14 .done))))) .nil))))))))))) 32 rfl (by kernel_rfl) ?_)
  simp (maxSteps := 4000000) only [push_cast, Int.reduceEq, Int.reduceBNe, Int.reduceBEq, Int.reduceAdd, Int.reduceSub, Int.reduceMul, Int.reduceNeg, Int.reduceLT, Int.reduceLE, Nat.reduceLT, Nat.reduceAdd, Nat.reduceSub, Nat.reduceMul, Nat.reduceEqDiff, Nat.reduceLeDiff, Nat.reduceBEq, reduceIte, reduceCtorEq]
  refine call_w (putR_c M hW g hg x.o hx hr) [1] (by simp (maxSteps := 4000000) only [push_cast, Int.reduceEq, Int.reduceBNe, Int.reduceBEq, Int.reduceAdd, Int.reduceSub, Int.reduceMul, Int.reduceNeg, Int.reduceLT, Int.reduceLE, Nat.reduceLT, Nat.reduceAdd, Nat.reduceSub, Nat.reduceMul, Nat.reduceEqDiff, Nat.reduceLeDiff, Nat.reduceBEq, reduceIte, reduceCtorEq, RawM.v]) ?_
  rintro sv post ⟨rfl, rfl⟩
  simp (maxSteps := 4000000) only [push_cast, Int.reduceEq, Int.reduceBNe, Int.reduceBEq, Int.reduceAdd, Int.reduceSub, Int.reduceMul, Int.reduceNeg, Int.reduceLT, Int.reduceLE, Nat.reduceLT, Nat.reduceAdd, Nat.reduceSub, Nat.reduceMul, Nat.reduceEqDiff, Nat.reduceLeDiff, Nat.reduceBEq, reduceIte, reduceCtorEq]
  have hl := putGo_len M (8193 * (x.o.length + 1)) g x.o 0
  have hd := putGo_drop M (8193 * (x.o.length + 1)) g x.o 0
  have e1 : x.o.drop ((x.o.length : Int) - ((putV M g x.o).2.1.length : Int)).toNat = (putV M g x.o).2.1 := by
    rw [show ((x.o.length : Int) - ((putV M g x.o).2.1.length : Int)).toNat = x.o.length - (putV M g x.o).2.1.length by omega]
    exact hd.symm
  have hl' : (putV M g x.o).2.1.length ≤ x.o.length := hl
  refine ⟨by omega, ?_⟩
  rw [e1]
  refine call_w (notedR_c { x with o := (putV M g x.o).2.1 } M.t M.y (putV M g x.o).2.2) [0, 1, 2, 3] (by simp (maxSteps := 4000000) only [push_cast, Int.reduceEq, Int.reduceBNe, Int.reduceBEq, Int.reduceAdd, Int.reduceSub, Int.reduceMul, Int.reduceNeg, Int.reduceLT, Int.reduceLE, Nat.reduceLT, Nat.reduceAdd, Nat.reduceSub, Nat.reduceMul, Nat.reduceEqDiff, Nat.reduceLeDiff, Nat.reduceBEq, reduceIte, reduceCtorEq, St.work]) ?_
  rintro sv post ⟨rfl, rfl⟩
  simp (maxSteps := 4000000) only [push_cast, Int.reduceEq, Int.reduceBNe, Int.reduceBEq, Int.reduceAdd, Int.reduceSub, Int.reduceMul, Int.reduceNeg, Int.reduceLT, Int.reduceLE, Nat.reduceLT, Nat.reduceAdd, Nat.reduceSub, Nat.reduceMul, Nat.reduceEqDiff, Nat.reduceLeDiff, Nat.reduceBEq, reduceIte, reduceCtorEq, St.work]
  exact Fin.w [0, 1, 2, 3] (.i .i64 _) _ (by simp (maxSteps := 4000000) only [push_cast, Int.reduceEq, Int.reduceBNe, Int.reduceBEq, Int.reduceAdd, Int.reduceSub, Int.reduceMul, Int.reduceNeg, Int.reduceLT, Int.reduceLE, Nat.reduceLT, Nat.reduceAdd, Nat.reduceSub, Nat.reduceMul, Nat.reduceEqDiff, Nat.reduceLeDiff, Nat.reduceBEq, reduceIte, reduceCtorEq, preD, St.work, RawM.v, St.deliver]) ⟨rfl, rfl⟩

/-- It is the way now: whether it may be. -/
def St.wErr (x : St) : Int := if x.w = false then 65 else if x.d = 1 ∧ (x.en = false ∨ 0 < x.i.length + x.k.length) then 112 else 0

theorem writeR_c (M : RawM) (x : St) (g : M.σ) (hi : x.i.length ≤ 140737488355328) (hk : x.k.length ≤ 140737488355328) : Contract Try.prog 64 (preD M x g) [.ptr 0 0] (isD M (if x.wErr = 0 then { x with d := 2 } else x, g, x.wErr)) := by
  refine contract_ev Γok Try.func64 rfl rfl [] ?_
  simp (maxSteps := 4000000) only [push_cast, Int.reduceEq, Int.reduceBNe, Int.reduceBEq, Int.reduceAdd, Int.reduceSub, Int.reduceMul, Int.reduceNeg, Int.reduceLT, Int.reduceLE, Nat.reduceLT, Nat.reduceAdd, Nat.reduceSub, Nat.reduceMul, Nat.reduceEqDiff, Nat.reduceLeDiff, Nat.reduceBEq, reduceIte, reduceCtorEq, Try.f64, preD, St.work, RawM.v]
  refine ⟨fun h => ?_, fun h => ?_⟩
  · have e : x.wErr = 65 := by simp [St.wErr, h]
    rw [e, if_neg (by omega)]
    exact Fin.w [0, 1, 2, 3] (.i .i64 65) _ (by simp (maxSteps := 4000000) only [push_cast, Int.reduceEq, Int.reduceBNe, Int.reduceBEq, Int.reduceAdd, Int.reduceSub, Int.reduceMul, Int.reduceNeg, Int.reduceLT, Int.reduceLE, Nat.reduceLT, Nat.reduceAdd, Nat.reduceSub, Nat.reduceMul, Nat.reduceEqDiff, Nat.reduceLeDiff, Nat.reduceBEq, reduceIte, reduceCtorEq, preD, St.work, RawM.v]) ⟨rfl, rfl⟩
  refine (region_plan rfl Γok mixed (.pure 0 (.pure 1 (.pure 2 (.pure 3 (.pure 4 (.pure 5 (.pure 6 (.pure 7 (.pure 8 (.pure 9 (.pure 10 (.pure 11 (.pure 12 (.pure 13 (.pure 14 (.pure 15 (.pure 16 (.pure 17 (.pure 18 (.pure 19 (.pure 20 (.pure 21 (.pure 22 (.pure 23 (.pure 24 (.pure 25 (.pure 26 (.pure 27 (.pure 28 (.pure 29 (.pure 30 .done))))))))))))))))))))))))))))))) 45 rfl (by kernel_rfl) ?_)
  simp (maxSteps := 4000000) only [push_cast, Int.reduceEq, Int.reduceBNe, Int.reduceBEq, Int.reduceAdd, Int.reduceSub, Int.reduceMul, Int.reduceNeg, Int.reduceLT, Int.reduceLE, Nat.reduceLT, Nat.reduceAdd, Nat.reduceSub, Nat.reduceMul, Nat.reduceEqDiff, Nat.reduceLeDiff, Nat.reduceBEq, reduceIte, reduceCtorEq]
  rw [wrap64 (n := (x.i.length : Int) + x.k.length) (by omega) (by omega)]
  refine ⟨fun h1 => ?_, fun h1 => ?_⟩
  · have e : x.wErr = 112 := by
      unfold St.wErr
      rw [if_neg (by simp [h]), if_pos ⟨h1.1, h1.2.imp id (fun h => by omega)⟩]
    rw [e, if_neg (by omega)]
    exact Fin.w [0, 1, 2, 3] (.i .i64 112) _ (by simp (maxSteps := 4000000) only [push_cast, Int.reduceEq, Int.reduceBNe, Int.reduceBEq, Int.reduceAdd, Int.reduceSub, Int.reduceMul, Int.reduceNeg, Int.reduceLT, Int.reduceLE, Nat.reduceLT, Nat.reduceAdd, Nat.reduceSub, Nat.reduceMul, Nat.reduceEqDiff, Nat.reduceLeDiff, Nat.reduceBEq, reduceIte, reduceCtorEq, preD, St.work, RawM.v]) ⟨rfl, rfl⟩
  · have e : x.wErr = 0 := by
      unfold St.wErr
      rw [if_neg (by simp [h]), if_neg]
      rintro ⟨c1, c2⟩
      rcases h1 with h1 | h1
      · exact h1 c1
      · rcases c2 with c2 | c2
        · rw [c2] at h1; simp at h1
        · omega
    rw [e, if_pos rfl]
    exact Fin.w [0, 1, 2, 3] (.i .i64 0) _ (by simp (maxSteps := 4000000) only [push_cast, Int.reduceEq, Int.reduceBNe, Int.reduceBEq, Int.reduceAdd, Int.reduceSub, Int.reduceMul, Int.reduceNeg, Int.reduceLT, Int.reduceLE, Nat.reduceLT, Nat.reduceAdd, Nat.reduceSub, Nat.reduceMul, Nat.reduceEqDiff, Nat.reduceLeDiff, Nat.reduceBEq, reduceIte, reduceCtorEq, preD, St.work, RawM.v]) ⟨rfl, rfl⟩
end Go.Proofs.Ytdbhgnjpjpmioaa
