/- A byte is got off a stream at work. -/
import Derived.Test.YtdbhgnjpjpmioaaRd
namespace Go.Proofs.Ytdbhgnjpjpmioaa
open Go Go.Eng
set_option linter.unusedSimpArgs false
set_option linter.unusedVariables false
set_option maxRecDepth 100000

/-- So many bytes are asked for at once. -/
def askV (m s : Int) : Int := if m = 1 then 1 else s
def St.fill (M : RawM) (x : St) (g : M.σ) : St × M.σ × Int :=
  if x.en = true then (x, g, 111)
  else if (someV M g (askV x.m x.s)).2.2 = 0 ∧ (someV M g (askV x.m x.s)).2.1 = [] then ({ x with en := true }, (someV M g (askV x.m x.s)).1, 111)
  else (({ x with i := x.i ++ (someV M g (askV x.m x.s)).2.1 } : St).noted (someV M g (askV x.m x.s)).2.2, (someV M g (askV x.m x.s)).1, (someV M g (askV x.m x.s)).2.2)

theorem ask_rng {m s : Int} (h : mayV m s = 0) : 1 ≤ askV m s ∧ askV m s ≤ 65536 := by
  obtain ⟨h1, h2, h3, h4⟩ := may_zero' h
  unfold askV
  split <;> omega

theorem fillW_c (M : RawM) (hR : M.Rd) (x : St) (g : M.σ) (hg : M.ok g) (hm : mayV x.m x.s = 0) (hi : x.i.length ≤ 1048576) :
    Contract Try.prog 69 (preW M x g) [.ptr 0 0] (isW M (x.fill M g)) := by
  obtain ⟨a1, a2⟩ := ask_rng hm
  have hl := someV_len M (askV x.m x.s) a1 8192 g
  refine contract_ev Γok Try.func69 rfl rfl [] ?_
  simp (maxSteps := 4000000) only [push_cast, Int.reduceEq, Int.reduceBNe, Int.reduceBEq, Int.reduceAdd, Int.reduceSub, Int.reduceMul, Int.reduceNeg, Int.reduceLT, Int.reduceLE, Nat.reduceLT, Nat.reduceAdd, Nat.reduceSub, Nat.reduceMul, Nat.reduceEqDiff, Nat.reduceLeDiff, Nat.reduceBEq, reduceIte, reduceCtorEq, Try.f69, preW, St.work, RawM.v]
  unfold St.fill
  refine ⟨fun h => ?_, fun h => ?_⟩
  · rw [if_pos h]
    exact Fin.w [0, 1, 2, 3] (.i .i64 _) _ (by simp (maxSteps := 4000000) only [push_cast, Int.reduceEq, Int.reduceBNe, Int.reduceBEq, Int.reduceAdd, Int.reduceSub, Int.reduceMul, Int.reduceNeg, Int.reduceLT, Int.reduceLE, Nat.reduceLT, Nat.reduceAdd, Nat.reduceSub, Nat.reduceMul, Nat.reduceEqDiff, Nat.reduceLeDiff, Nat.reduceBEq, reduceIte, reduceCtorEq, preW, St.work, RawM.v]) ⟨rfl, rfl⟩
  rw [if_neg (by simp [h])]
  have hl' : (someV M g (askV x.m x.s)).2.1.length ≤ askV x.m x.s := hl
  refine ⟨fun h1 => ?_, fun h1 => ?_⟩
  · have ha : askV x.m x.s = 1 := by unfold askV; rw [if_pos h1]
    rw [ha] at hl' ⊢
    refine call_w (someR_c M hR g hg 1 (by omega) (by omega)) [1] (by simp (maxSteps := 4000000) only [push_cast, Int.reduceEq, Int.reduceBNe, Int.reduceBEq, Int.reduceAdd, Int.reduceSub, Int.reduceMul, Int.reduceNeg, Int.reduceLT, Int.reduceLE, Nat.reduceLT, Nat.reduceAdd, Nat.reduceSub, Nat.reduceMul, Nat.reduceEqDiff, Nat.reduceLeDiff, Nat.reduceBEq, reduceIte, reduceCtorEq, RawM.v]) ?_
    rintro sv post ⟨rfl, rfl⟩
    simp (maxSteps := 4000000) only [push_cast, Int.reduceEq, Int.reduceBNe, Int.reduceBEq, Int.reduceAdd, Int.reduceSub, Int.reduceMul, Int.reduceNeg, Int.reduceLT, Int.reduceLE, Nat.reduceLT, Nat.reduceAdd, Nat.reduceSub, Nat.reduceMul, Nat.reduceEqDiff, Nat.reduceLeDiff, Nat.reduceBEq, reduceIte, reduceCtorEq]
    refine ⟨fun h2 => ?_, fun h2 => ?_⟩
    · rw [if_pos ⟨h2.1, by have := h2.2; simpa using this⟩]
      exact Fin.w [0, 1, 2, 3] (.i .i64 _) _ (by simp (maxSteps := 4000000) only [push_cast, Int.reduceEq, Int.reduceBNe, Int.reduceBEq, Int.reduceAdd, Int.reduceSub, Int.reduceMul, Int.reduceNeg, Int.reduceLT, Int.reduceLE, Nat.reduceLT, Nat.reduceAdd, Nat.reduceSub, Nat.reduceMul, Nat.reduceEqDiff, Nat.reduceLeDiff, Nat.reduceBEq, reduceIte, reduceCtorEq, preW, St.work, RawM.v]) ⟨rfl, rfl⟩
    · rw [if_neg (by rintro ⟨e1, e2⟩; rcases h2 with h2 | h2 <;> simp [e1, e2] at h2)]
      refine ⟨by omega, call_w (notedR_c { x with i := x.i ++ (someV M g 1).2.1 } M.t M.y (someV M g 1).2.2) [0, 1, 2, 4] (by simp (maxSteps := 4000000) only [push_cast, Int.reduceEq, Int.reduceBNe, Int.reduceBEq, Int.reduceAdd, Int.reduceSub, Int.reduceMul, Int.reduceNeg, Int.reduceLT, Int.reduceLE, Nat.reduceLT, Nat.reduceAdd, Nat.reduceSub, Nat.reduceMul, Nat.reduceEqDiff, Nat.reduceLeDiff, Nat.reduceBEq, reduceIte, reduceCtorEq, St.work]) ?_⟩
      rintro sv post ⟨rfl, rfl⟩
      simp (maxSteps := 4000000) only [push_cast, Int.reduceEq, Int.reduceBNe, Int.reduceBEq, Int.reduceAdd, Int.reduceSub, Int.reduceMul, Int.reduceNeg, Int.reduceLT, Int.reduceLE, Nat.reduceLT, Nat.reduceAdd, Nat.reduceSub, Nat.reduceMul, Nat.reduceEqDiff, Nat.reduceLeDiff, Nat.reduceBEq, reduceIte, reduceCtorEq, St.work]
      exact Fin.w [0, 1, 2, 4] (.i .i64 _) _ (by simp (maxSteps := 4000000) only [push_cast, Int.reduceEq, Int.reduceBNe, Int.reduceBEq, Int.reduceAdd, Int.reduceSub, Int.reduceMul, Int.reduceNeg, Int.reduceLT, Int.reduceLE, Nat.reduceLT, Nat.reduceAdd, Nat.reduceSub, Nat.reduceMul, Nat.reduceEqDiff, Nat.reduceLeDiff, Nat.reduceBEq, reduceIte, reduceCtorEq, preW, St.work, RawM.v]) ⟨rfl, rfl⟩
  · have ha : askV x.m x.s = x.s := by unfold askV; rw [if_neg h1]
    rw [ha] at hl' ⊢
    refine call_w (someR_c M hR g hg x.s (by omega) (by omega)) [1] (by simp (maxSteps := 4000000) only [push_cast, Int.reduceEq, Int.reduceBNe, Int.reduceBEq, Int.reduceAdd, Int.reduceSub, Int.reduceMul, Int.reduceNeg, Int.reduceLT, Int.reduceLE, Nat.reduceLT, Nat.reduceAdd, Nat.reduceSub, Nat.reduceMul, Nat.reduceEqDiff, Nat.reduceLeDiff, Nat.reduceBEq, reduceIte, reduceCtorEq, RawM.v]) ?_
    rintro sv post ⟨rfl, rfl⟩
    simp (maxSteps := 4000000) only [push_cast, Int.reduceEq, Int.reduceBNe, Int.reduceBEq, Int.reduceAdd, Int.reduceSub, Int.reduceMul, Int.reduceNeg, Int.reduceLT, Int.reduceLE, Nat.reduceLT, Nat.reduceAdd, Nat.reduceSub, Nat.reduceMul, Nat.reduceEqDiff, Nat.reduceLeDiff, Nat.reduceBEq, reduceIte, reduceCtorEq]
    refine ⟨fun h2 => ?_, fun h2 => ?_⟩
    · rw [if_pos ⟨h2.1, by have := h2.2; simpa using this⟩]
      exact Fin.w [0, 1, 2, 3] (.i .i64 _) _ (by simp (maxSteps := 4000000) only [push_cast, Int.reduceEq, Int.reduceBNe, Int.reduceBEq, Int.reduceAdd, Int.reduceSub, Int.reduceMul, Int.reduceNeg, Int.reduceLT, Int.reduceLE, Nat.reduceLT, Nat.reduceAdd, Nat.reduceSub, Nat.reduceMul, Nat.reduceEqDiff, Nat.reduceLeDiff, Nat.reduceBEq, reduceIte, reduceCtorEq, preW, St.work, RawM.v]) ⟨rfl, rfl⟩
    · rw [if_neg (by rintro ⟨e1, e2⟩; rcases h2 with h2 | h2 <;> simp [e1, e2] at h2)]
      refine ⟨by omega, call_w (notedR_c { x with i := x.i ++ (someV M g x.s).2.1 } M.t M.y (someV M g x.s).2.2) [0, 1, 2, 4] (by simp (maxSteps := 4000000) only [push_cast, Int.reduceEq, Int.reduceBNe, Int.reduceBEq, Int.reduceAdd, Int.reduceSub, Int.reduceMul, Int.reduceNeg, Int.reduceLT, Int.reduceLE, Nat.reduceLT, Nat.reduceAdd, Nat.reduceSub, Nat.reduceMul, Nat.reduceEqDiff, Nat.reduceLeDiff, Nat.reduceBEq, reduceIte, reduceCtorEq, St.work]) ?_⟩
      rintro sv post ⟨rfl, rfl⟩
      simp (maxSteps := 4000000) only [push_cast, Int.reduceEq, Int.reduceBNe, Int.reduceBEq, Int.reduceAdd, Int.reduceSub, Int.reduceMul, Int.reduceNeg, Int.reduceLT, Int.reduceLE, Nat.reduceLT, Nat.reduceAdd, Nat.reduceSub, Nat.reduceMul, Nat.reduceEqDiff, Nat.reduceLeDiff, Nat.reduceBEq, reduceIte, reduceCtorEq, St.work]
      exact Fin.w [0, 1, 2, 4] (.i .i64 _) _ (by simp (maxSteps := 4000000) only [push_cast, Int.reduceEq, Int.reduceBNe, Int.reduceBEq, Int.reduceAdd, Int.reduceSub, Int.reduceMul, Int.reduceNeg, Int.reduceLT, Int.reduceLE, Nat.reduceLT, Nat.reduceAdd, Nat.reduceSub, Nat.reduceMul, Nat.reduceEqDiff, Nat.reduceLeDiff, Nat.reduceBEq, reduceIte, reduceCtorEq, preW, St.work, RawM.v]) ⟨rfl, rfl⟩

/-- A byte is got: the state, the Raw, the byte, the error. -/
def St.get (M : RawM) (x : St) (g : M.σ) : St × M.σ × Int × Int :=
  if x.r = false then (x, g, 0, 65)
  else if x.d = 2 then (x, g, 0, 112)
  else if x.k ≠ [] then ({ x with d := 1, k := x.k.take (x.k.length - 1) }, g, x.k.getD (x.k.length - 1) 0, 0)
  else if x.i ≠ [] then ({ x with d := 1, i := x.i.drop 1 }, g, x.i.getD 0 0, 0)
  else
    (let z := ({ x with d := 1 } : St).fill M g
     if z.2.2 ≠ 0 then (z.1, z.2.1, 0, z.2.2) else ({ z.1 with i := z.1.i.drop 1 }, z.2.1, z.1.i.getD 0 0, 0))
/-- How get ends. -/
def isG (M : RawM) (r : St × M.σ × Int × Int) (sv : SV) (post : SS) : Prop := sv = .tup [.i .u8 r.2.2.1, .i .i64 r.2.2.2] ∧ post = preW M r.1 r.2.1

theorem fill_i (M : RawM) (x : St) (g : M.σ) (h : (x.fill M g).2.2 = 0) : (x.fill M g).1.i ≠ [] := by
  unfold St.fill at h ⊢
  split at h
  · simp at h
  · split at h
    · simp at h
    · rename_i h1 h2
      rw [if_neg h1, if_neg h2]
      simp only [St.noted] at h ⊢
      intro h3
      exact h2 ⟨h, (List.append_eq_nil_iff.1 h3).2⟩

theorem getW_c (M : RawM) (hR : M.Rd) (x : St) (g : M.σ) (hg : M.ok g) (hm : mayV x.m x.s = 0) (hi : x.i.length ≤ 1048576) (hk : x.k.length ≤ 1048576) :
    Contract Try.prog 63 (preW M x g) [.ptr 0 0] (isG M (x.get M g)) := by
  have z0 : ((0 : Nat) : Int) = 0 := rfl
  refine contract_ev Γok Try.func63 rfl rfl [] ?_
  simp (maxSteps := 4000000) only [push_cast, Int.reduceEq, Int.reduceBNe, Int.reduceBEq, Int.reduceAdd, Int.reduceSub, Int.reduceMul, Int.reduceNeg, Int.reduceLT, Int.reduceLE, Nat.reduceLT, Nat.reduceAdd, Nat.reduceSub, Nat.reduceMul, Nat.reduceEqDiff, Nat.reduceLeDiff, Nat.reduceBEq, reduceIte, reduceCtorEq, Try.f63, preW, St.work, RawM.v]
  unfold St.get
  refine ⟨fun h => ?_, fun h => ⟨fun h1 => ?_, fun h1 => ?_⟩⟩
  · rw [if_pos h]
    exact Fin.w [0, 1, 2, 3] (.tup [.i .u8 0, .i .i64 65]) _ (by simp (maxSteps := 4000000) only [push_cast, Int.reduceEq, Int.reduceBNe, Int.reduceBEq, Int.reduceAdd, Int.reduceSub, Int.reduceMul, Int.reduceNeg, Int.reduceLT, Int.reduceLE, Nat.reduceLT, Nat.reduceAdd, Nat.reduceSub, Nat.reduceMul, Nat.reduceEqDiff, Nat.reduceLeDiff, Nat.reduceBEq, reduceIte, reduceCtorEq, preW, St.work, RawM.v]) ⟨rfl, rfl⟩
  · rw [if_neg (by simp [h]), if_pos h1]
    exact Fin.w [0, 1, 2, 3] (.tup [.i .u8 0, .i .i64 112]) _ (by simp (maxSteps := 4000000) only [push_cast, Int.reduceEq, Int.reduceBNe, Int.reduceBEq, Int.reduceAdd, Int.reduceSub, Int.reduceMul, Int.reduceNeg, Int.reduceLT, Int.reduceLE, Nat.reduceLT, Nat.reduceAdd, Nat.reduceSub, Nat.reduceMul, Nat.reduceEqDiff, Nat.reduceLeDiff, Nat.reduceBEq, reduceIte, reduceCtorEq, preW, St.work, RawM.v]) ⟨rfl, rfl⟩
  rw [if_neg (by simp [h]), if_neg h1]
  refine ⟨fun h2 => ?_, fun h2 => ?_⟩
  · rw [if_pos (by rintro e; rw [e] at h2; simp at h2)]
    rw [wrap64 (n := (x.k.length : Int) - 1) (by omega) (by omega)]
    refine ⟨by omega, by omega, ?_⟩
    have e1 : ((x.k.length : Int) - 1).toNat = x.k.length - 1 := by omega
    rw [e1]
    exact Fin.w [0, 1, 2, 3] (.tup [.i .u8 _, .i .i64 0]) _ (by simp (maxSteps := 4000000) only [push_cast, Int.reduceEq, Int.reduceBNe, Int.reduceBEq, Int.reduceAdd, Int.reduceSub, Int.reduceMul, Int.reduceNeg, Int.reduceLT, Int.reduceLE, Nat.reduceLT, Nat.reduceAdd, Nat.reduceSub, Nat.reduceMul, Nat.reduceEqDiff, Nat.reduceLeDiff, Nat.reduceBEq, reduceIte, reduceCtorEq, preW, St.work, RawM.v]) ⟨rfl, rfl⟩
  · have hkn : x.k = [] := by
      have : x.k.length = 0 := by omega
      simpa using this
    rw [if_neg (by simp [hkn])]
    refine ⟨fun h3 => ?_, fun h3 => ?_⟩
    · have hin : x.i = [] := by
        have : x.i.length = 0 := by omega
        simpa using this
      rw [if_neg (by simp [hin])]
      refine call_w (fillW_c M hR { x with d := 1 } g hg hm hi) [0, 1, 2, 3] (by simp (maxSteps := 4000000) only [push_cast, Int.reduceEq, Int.reduceBNe, Int.reduceBEq, Int.reduceAdd, Int.reduceSub, Int.reduceMul, Int.reduceNeg, Int.reduceLT, Int.reduceLE, Nat.reduceLT, Nat.reduceAdd, Nat.reduceSub, Nat.reduceMul, Nat.reduceEqDiff, Nat.reduceLeDiff, Nat.reduceBEq, reduceIte, reduceCtorEq, preW, St.work, RawM.v]) ?_
      rintro sv post ⟨rfl, rfl⟩
      have hz := fill_i M { x with d := 1 } g
      generalize ({ x with d := 1 } : St).fill M g = z at *
      simp (maxSteps := 4000000) only [push_cast, Int.reduceEq, Int.reduceBNe, Int.reduceBEq, Int.reduceAdd, Int.reduceSub, Int.reduceMul, Int.reduceNeg, Int.reduceLT, Int.reduceLE, Nat.reduceLT, Nat.reduceAdd, Nat.reduceSub, Nat.reduceMul, Nat.reduceEqDiff, Nat.reduceLeDiff, Nat.reduceBEq, reduceIte, reduceCtorEq, preW, St.work, RawM.v]
      refine ⟨fun h4 => ?_, fun h4 => ?_⟩
      · rw [if_pos h4]
        exact Fin.w [0, 1, 4, 5] (.tup [.i .u8 0, .i .i64 _]) _ (by simp (maxSteps := 4000000) only [push_cast, Int.reduceEq, Int.reduceBNe, Int.reduceBEq, Int.reduceAdd, Int.reduceSub, Int.reduceMul, Int.reduceNeg, Int.reduceLT, Int.reduceLE, Nat.reduceLT, Nat.reduceAdd, Nat.reduceSub, Nat.reduceMul, Nat.reduceEqDiff, Nat.reduceLeDiff, Nat.reduceBEq, reduceIte, reduceCtorEq, preW, St.work, RawM.v]) ⟨rfl, rfl⟩
      · rw [if_neg (by omega)]
        have hne := hz h4
        have hpos : 0 < z.1.i.length := List.length_pos_iff.2 hne
        refine ⟨by omega, by omega, ?_⟩
        exact Fin.w [0, 1, 4, 5] (.tup [.i .u8 _, .i .i64 0]) _ (by simp (maxSteps := 4000000) only [push_cast, Int.reduceEq, Int.reduceBNe, Int.reduceBEq, Int.reduceAdd, Int.reduceSub, Int.reduceMul, Int.reduceNeg, Int.reduceLT, Int.reduceLE, Nat.reduceLT, Nat.reduceAdd, Nat.reduceSub, Nat.reduceMul, Nat.reduceEqDiff, Nat.reduceLeDiff, Nat.reduceBEq, reduceIte, reduceCtorEq, preW, St.work, RawM.v]; exact ⟨rfl, rfl⟩) ⟨rfl, rfl⟩
    · have hpos : 0 < x.i.length := by omega
      rw [if_pos (List.length_pos_iff.1 hpos)]
      refine ⟨by omega, by omega, ?_⟩
      exact Fin.w [0, 1, 2, 3] (.tup [.i .u8 _, .i .i64 0]) _ (by simp (maxSteps := 4000000) only [push_cast, Int.reduceEq, Int.reduceBNe, Int.reduceBEq, Int.reduceAdd, Int.reduceSub, Int.reduceMul, Int.reduceNeg, Int.reduceLT, Int.reduceLE, Nat.reduceLT, Nat.reduceAdd, Nat.reduceSub, Nat.reduceMul, Nat.reduceEqDiff, Nat.reduceLeDiff, Nat.reduceBEq, reduceIte, reduceCtorEq, preW, St.work, RawM.v]; exact ⟨rfl, rfl⟩) ⟨rfl, rfl⟩
end Go.Proofs.Ytdbhgnjpjpmioaa
