/- Texts joined, in order: Ri, Rj, Rk, Rl, La, Ka, Ba, Bb, Cb, Cc. -/
import Derived.Test.YtbhkpefjnomncaaZwhd
/- Lines: bytes up to one. -/
namespace Go.Proofs.Ytbhkpefjnomncaa
open Go Go.Eng
set_option maxHeartbeats 4000000
set_option linter.unusedSimpArgs false
set_option linter.unusedVariables false
set_option maxRecDepth 100000

theorem sclone_c (l : List Int) (hl : l.length ≤ 140737488355328) : Contract Try.prog 63 nilSS [.ints .u8 .old l] (fun sv post => sv = .ints .u8 (.tok 0 true) l ∧ post = ⟨[], [], [0], [], 1, 0, []⟩) := by
  refine contract_ev Γok Try.func63 rfl rfl [] ?_
  simp (maxSteps := 4000000) only [push_cast, Int.reduceEq, Int.reduceBNe, Int.reduceBEq, Int.reduceAdd, Int.reduceSub, Int.reduceMul, Int.reduceNeg, Int.reduceLT, Int.reduceLE, Int.reduceToNat, Nat.reduceLT, Nat.reduceAdd, Nat.reduceSub, Nat.reduceMul, Nat.reduceEqDiff, Nat.reduceLeDiff, Nat.reduceBEq, reduceIte, reduceCtorEq, Try.f63]
  rintro c hc
  refine ⟨fun h => ?_, fun h => ⟨by omega, Fin.w [1] _ _ (by simp (maxSteps := 4000000) only [push_cast, Int.reduceEq, Int.reduceBNe, Int.reduceBEq, Int.reduceAdd, Int.reduceSub, Int.reduceMul, Int.reduceNeg, Int.reduceLT, Int.reduceLE, Int.reduceToNat, Nat.reduceLT, Nat.reduceAdd, Nat.reduceSub, Nat.reduceMul, Nat.reduceEqDiff, Nat.reduceLeDiff, Nat.reduceBEq, reduceIte, reduceCtorEq]) ⟨rfl, rfl⟩⟩⟩
  have hn := hc h
  subst hn
  exact Fin.wt [0] (.ints .u8 (.tok 0 true) []) ⟨[], [], [0], [], 1, 0, []⟩ (by simp (maxSteps := 4000000) only [push_cast, Int.reduceEq, Int.reduceBNe, Int.reduceBEq, Int.reduceAdd, Int.reduceSub, Int.reduceMul, Int.reduceNeg, Int.reduceLT, Int.reduceLE, Int.reduceToNat, Nat.reduceLT, Nat.reduceAdd, Nat.reduceSub, Nat.reduceMul, Nat.reduceEqDiff, Nat.reduceLeDiff, Nat.reduceBEq, reduceIte, reduceCtorEq]) ⟨rfl, rfl⟩

theorem when_c (b : Bool) (e : Int) : Contract Try.prog 58 nilSS [.b b, .i .i64 e] (fun sv post => sv = .i .i64 (if b then e else 0) ∧ post = nilSS) := by
  refine contract_ev Γok Try.func58 rfl rfl [] ?_
  simp (maxSteps := 4000000) only [push_cast, Int.reduceEq, Int.reduceBNe, Int.reduceBEq, Int.reduceAdd, Int.reduceSub, Int.reduceMul, Int.reduceNeg, Int.reduceLT, Int.reduceLE, Int.reduceToNat, Nat.reduceLT, Nat.reduceAdd, Nat.reduceSub, Nat.reduceMul, Nat.reduceEqDiff, Nat.reduceLeDiff, Nat.reduceBEq, reduceIte, reduceCtorEq, Try.f58]
  refine ⟨fun h => ?_, fun h => ?_⟩ <;> refine Fin.nil rfl (psv := .i .i64 _) ⟨rfl, rfl⟩ ⟨?_, rfl⟩ <;> simp [h]

/-- What is wrong ahead of all. -/
def St.aErr (x : St) (wrong : Int) : Int := if x.May then (if x.cl = true then 113 else wrong) else 51
def isA (x : St) (e : Int) (sv : SV) (post : SS) : Prop := sv = .tup [x.sv .new, .i .i64 e] ∧ post = nilSS

set_option maxHeartbeats 2000000 in
theorem asked_c (x : St) (hx : x.fits) (t : TypeId) (y : Value) (wrong : Int) : Contract Try.prog 57 nilSS [x.sv .old, .ifc t (.raw y), .i .i64 wrong] (isA x (x.aErr wrong)) := by
  have hx' := hx
  obtain ⟨ho, hi, hk⟩ := hx'
  refine contract_ev Γok Try.func57 rfl rfl [] ?_
  simp (maxSteps := 4000000) only [push_cast, Int.reduceEq, Int.reduceBNe, Int.reduceBEq, Int.reduceAdd, Int.reduceSub, Int.reduceMul, Int.reduceNeg, Int.reduceLT, Int.reduceLE, Int.reduceToNat, Nat.reduceLT, Nat.reduceAdd, Nat.reduceSub, Nat.reduceMul, Nat.reduceEqDiff, Nat.reduceLeDiff, Nat.reduceBEq, reduceIte, reduceCtorEq, Try.f57, rg11, St.sv, St.cells]
  refine call_w (checkR_c x hx) [] (by simp (maxSteps := 4000000) only [push_cast, Int.reduceEq, Int.reduceBNe, Int.reduceBEq, Int.reduceAdd, Int.reduceSub, Int.reduceMul, Int.reduceNeg, Int.reduceLT, Int.reduceLE, Int.reduceToNat, Nat.reduceLT, Nat.reduceAdd, Nat.reduceSub, Nat.reduceMul, Nat.reduceEqDiff, Nat.reduceLeDiff, Nat.reduceBEq, reduceIte, reduceCtorEq, St.sv, St.cells]) ?_
  rintro sv post ⟨rfl, rfl⟩
  simp (maxSteps := 4000000) only [push_cast, Int.reduceEq, Int.reduceBNe, Int.reduceBEq, Int.reduceAdd, Int.reduceSub, Int.reduceMul, Int.reduceNeg, Int.reduceLT, Int.reduceLE, Int.reduceToNat, Nat.reduceLT, Nat.reduceAdd, Nat.reduceSub, Nat.reduceMul, Nat.reduceEqDiff, Nat.reduceLeDiff, Nat.reduceBEq, reduceIte, reduceCtorEq]
  unfold St.aErr
  refine ⟨fun h => ?_, fun h => ⟨fun h1 => ?_, fun h1 => ?_⟩⟩
  · have hm : ¬ x.May := fun hm => h (by rw [if_pos hm])
    rw [if_neg hm, if_neg hm]
    refine (region_plan rfl Γok mixed (.pure 0 (.pure 1 (.pure 3 (.pure 4 (.pure 6 (.pure 7 (.eff (.cons 2 [4, 7] (.pure 9 (.eff (.cons 5 [7] (.eff (.cons 8 [] (.eff (.cons 10 [] (.pure 11 (.eff (.cons 12 [] (.pure 13 (.eff (.cons 14 [] .done .nil))) .nil))) .nil)) .nil)) .nil))) .nil)))))))) 35 rfl (by kernel_rfl) ?_)
    simp (maxSteps := 4000000) only [push_cast, Int.reduceEq, Int.reduceBNe, Int.reduceBEq, Int.reduceAdd, Int.reduceSub, Int.reduceMul, Int.reduceNeg, Int.reduceLT, Int.reduceLE, Int.reduceToNat, Nat.reduceLT, Nat.reduceAdd, Nat.reduceSub, Nat.reduceMul, Nat.reduceEqDiff, Nat.reduceLeDiff, Nat.reduceBEq, reduceIte, reduceCtorEq]
    refine call_w (sclone_c x.o ho) [] (by simp (maxSteps := 4000000) only [push_cast, Int.reduceEq, Int.reduceBNe, Int.reduceBEq, Int.reduceAdd, Int.reduceSub, Int.reduceMul, Int.reduceNeg, Int.reduceLT, Int.reduceLE, Int.reduceToNat, Nat.reduceLT, Nat.reduceAdd, Nat.reduceSub, Nat.reduceMul, Nat.reduceEqDiff, Nat.reduceLeDiff, Nat.reduceBEq, reduceIte, reduceCtorEq]) ?_
    rintro sv post ⟨rfl, rfl⟩
    simp (maxSteps := 4000000) only [push_cast, Int.reduceEq, Int.reduceBNe, Int.reduceBEq, Int.reduceAdd, Int.reduceSub, Int.reduceMul, Int.reduceNeg, Int.reduceLT, Int.reduceLE, Int.reduceToNat, Nat.reduceLT, Nat.reduceAdd, Nat.reduceSub, Nat.reduceMul, Nat.reduceEqDiff, Nat.reduceLeDiff, Nat.reduceBEq, reduceIte, reduceCtorEq]
    refine call_w (sclone_c x.i hi) [] (by simp (maxSteps := 4000000) only [push_cast, Int.reduceEq, Int.reduceBNe, Int.reduceBEq, Int.reduceAdd, Int.reduceSub, Int.reduceMul, Int.reduceNeg, Int.reduceLT, Int.reduceLE, Int.reduceToNat, Nat.reduceLT, Nat.reduceAdd, Nat.reduceSub, Nat.reduceMul, Nat.reduceEqDiff, Nat.reduceLeDiff, Nat.reduceBEq, reduceIte, reduceCtorEq]) ?_
    rintro sv post ⟨rfl, rfl⟩
    simp (maxSteps := 4000000) only [push_cast, Int.reduceEq, Int.reduceBNe, Int.reduceBEq, Int.reduceAdd, Int.reduceSub, Int.reduceMul, Int.reduceNeg, Int.reduceLT, Int.reduceLE, Int.reduceToNat, Nat.reduceLT, Nat.reduceAdd, Nat.reduceSub, Nat.reduceMul, Nat.reduceEqDiff, Nat.reduceLeDiff, Nat.reduceBEq, reduceIte, reduceCtorEq]
    refine call_w (sclone_c x.k hk) [] (by simp (maxSteps := 4000000) only [push_cast, Int.reduceEq, Int.reduceBNe, Int.reduceBEq, Int.reduceAdd, Int.reduceSub, Int.reduceMul, Int.reduceNeg, Int.reduceLT, Int.reduceLE, Int.reduceToNat, Nat.reduceLT, Nat.reduceAdd, Nat.reduceSub, Nat.reduceMul, Nat.reduceEqDiff, Nat.reduceLeDiff, Nat.reduceBEq, reduceIte, reduceCtorEq]) ?_
    rintro sv post ⟨rfl, rfl⟩
    simp (maxSteps := 4000000) only [push_cast, Int.reduceEq, Int.reduceBNe, Int.reduceBEq, Int.reduceAdd, Int.reduceSub, Int.reduceMul, Int.reduceNeg, Int.reduceLT, Int.reduceLE, Int.reduceToNat, Nat.reduceLT, Nat.reduceAdd, Nat.reduceSub, Nat.reduceMul, Nat.reduceEqDiff, Nat.reduceLeDiff, Nat.reduceBEq, reduceIte, reduceCtorEq, rg11]
    exact Fin.nil rfl (psv := .tup [x.sv .new, .i .i64 51]) (by simp (maxSteps := 4000000) only [push_cast, Int.reduceEq, Int.reduceBNe, Int.reduceBEq, Int.reduceAdd, Int.reduceSub, Int.reduceMul, Int.reduceNeg, Int.reduceLT, Int.reduceLE, Int.reduceToNat, Nat.reduceLT, Nat.reduceAdd, Nat.reduceSub, Nat.reduceMul, Nat.reduceEqDiff, Nat.reduceLeDiff, Nat.reduceBEq, reduceIte, reduceCtorEq, St.sv, St.cells]) ⟨rfl, rfl⟩
  all_goals
    have hm : x.May := by
      by_cases hm : x.May
      · exact hm
      · rw [if_neg hm] at h; omega
    simp only [if_pos hm]
  · rw [if_pos h1]
    refine (region_plan rfl Γok mixed (.pure 0 (.pure 1 (.pure 3 (.pure 4 (.pure 6 (.pure 7 (.eff (.cons 2 [4, 7] (.pure 9 (.eff (.cons 5 [7] (.eff (.cons 8 [] (.eff (.cons 10 [] (.pure 11 (.eff (.cons 12 [] (.pure 13 (.eff (.cons 14 [] .done .nil))) .nil))) .nil)) .nil)) .nil))) .nil)))))))) 35 rfl (by kernel_rfl) ?_)
    simp (maxSteps := 4000000) only [push_cast, Int.reduceEq, Int.reduceBNe, Int.reduceBEq, Int.reduceAdd, Int.reduceSub, Int.reduceMul, Int.reduceNeg, Int.reduceLT, Int.reduceLE, Int.reduceToNat, Nat.reduceLT, Nat.reduceAdd, Nat.reduceSub, Nat.reduceMul, Nat.reduceEqDiff, Nat.reduceLeDiff, Nat.reduceBEq, reduceIte, reduceCtorEq]
    refine call_w (sclone_c x.o ho) [] (by simp (maxSteps := 4000000) only [push_cast, Int.reduceEq, Int.reduceBNe, Int.reduceBEq, Int.reduceAdd, Int.reduceSub, Int.reduceMul, Int.reduceNeg, Int.reduceLT, Int.reduceLE, Int.reduceToNat, Nat.reduceLT, Nat.reduceAdd, Nat.reduceSub, Nat.reduceMul, Nat.reduceEqDiff, Nat.reduceLeDiff, Nat.reduceBEq, reduceIte, reduceCtorEq]) ?_
    rintro sv post ⟨rfl, rfl⟩
    simp (maxSteps := 4000000) only [push_cast, Int.reduceEq, Int.reduceBNe, Int.reduceBEq, Int.reduceAdd, Int.reduceSub, Int.reduceMul, Int.reduceNeg, Int.reduceLT, Int.reduceLE, Int.reduceToNat, Nat.reduceLT, Nat.reduceAdd, Nat.reduceSub, Nat.reduceMul, Nat.reduceEqDiff, Nat.reduceLeDiff, Nat.reduceBEq, reduceIte, reduceCtorEq]
    refine call_w (sclone_c x.i hi) [] (by simp (maxSteps := 4000000) only [push_cast, Int.reduceEq, Int.reduceBNe, Int.reduceBEq, Int.reduceAdd, Int.reduceSub, Int.reduceMul, Int.reduceNeg, Int.reduceLT, Int.reduceLE, Int.reduceToNat, Nat.reduceLT, Nat.reduceAdd, Nat.reduceSub, Nat.reduceMul, Nat.reduceEqDiff, Nat.reduceLeDiff, Nat.reduceBEq, reduceIte, reduceCtorEq]) ?_
    rintro sv post ⟨rfl, rfl⟩
    simp (maxSteps := 4000000) only [push_cast, Int.reduceEq, Int.reduceBNe, Int.reduceBEq, Int.reduceAdd, Int.reduceSub, Int.reduceMul, Int.reduceNeg, Int.reduceLT, Int.reduceLE, Int.reduceToNat, Nat.reduceLT, Nat.reduceAdd, Nat.reduceSub, Nat.reduceMul, Nat.reduceEqDiff, Nat.reduceLeDiff, Nat.reduceBEq, reduceIte, reduceCtorEq]
    refine call_w (sclone_c x.k hk) [] (by simp (maxSteps := 4000000) only [push_cast, Int.reduceEq, Int.reduceBNe, Int.reduceBEq, Int.reduceAdd, Int.reduceSub, Int.reduceMul, Int.reduceNeg, Int.reduceLT, Int.reduceLE, Int.reduceToNat, Nat.reduceLT, Nat.reduceAdd, Nat.reduceSub, Nat.reduceMul, Nat.reduceEqDiff, Nat.reduceLeDiff, Nat.reduceBEq, reduceIte, reduceCtorEq]) ?_
    rintro sv post ⟨rfl, rfl⟩
    simp (maxSteps := 4000000) only [push_cast, Int.reduceEq, Int.reduceBNe, Int.reduceBEq, Int.reduceAdd, Int.reduceSub, Int.reduceMul, Int.reduceNeg, Int.reduceLT, Int.reduceLE, Int.reduceToNat, Nat.reduceLT, Nat.reduceAdd, Nat.reduceSub, Nat.reduceMul, Nat.reduceEqDiff, Nat.reduceLeDiff, Nat.reduceBEq, reduceIte, reduceCtorEq, rg11]
    exact Fin.nil rfl (psv := .tup [x.sv .new, .i .i64 113]) (by simp (maxSteps := 4000000) only [push_cast, Int.reduceEq, Int.reduceBNe, Int.reduceBEq, Int.reduceAdd, Int.reduceSub, Int.reduceMul, Int.reduceNeg, Int.reduceLT, Int.reduceLE, Int.reduceToNat, Nat.reduceLT, Nat.reduceAdd, Nat.reduceSub, Nat.reduceMul, Nat.reduceEqDiff, Nat.reduceLeDiff, Nat.reduceBEq, reduceIte, reduceCtorEq, St.sv, St.cells]) ⟨rfl, rfl⟩
  · rw [if_neg (by simp [h1])]
    refine (region_plan rfl Γok mixed (.pure 0 (.pure 1 (.pure 3 (.pure 4 (.pure 6 (.pure 7 (.eff (.cons 2 [4, 7] (.pure 9 (.eff (.cons 5 [7] (.eff (.cons 8 [] (.eff (.cons 10 [] (.pure 11 (.eff (.cons 12 [] (.pure 13 (.eff (.cons 14 [] .done .nil))) .nil))) .nil)) .nil)) .nil))) .nil)))))))) 35 rfl (by kernel_rfl) ?_)
    simp (maxSteps := 4000000) only [push_cast, Int.reduceEq, Int.reduceBNe, Int.reduceBEq, Int.reduceAdd, Int.reduceSub, Int.reduceMul, Int.reduceNeg, Int.reduceLT, Int.reduceLE, Int.reduceToNat, Nat.reduceLT, Nat.reduceAdd, Nat.reduceSub, Nat.reduceMul, Nat.reduceEqDiff, Nat.reduceLeDiff, Nat.reduceBEq, reduceIte, reduceCtorEq]
    refine call_w (sclone_c x.o ho) [] (by simp (maxSteps := 4000000) only [push_cast, Int.reduceEq, Int.reduceBNe, Int.reduceBEq, Int.reduceAdd, Int.reduceSub, Int.reduceMul, Int.reduceNeg, Int.reduceLT, Int.reduceLE, Int.reduceToNat, Nat.reduceLT, Nat.reduceAdd, Nat.reduceSub, Nat.reduceMul, Nat.reduceEqDiff, Nat.reduceLeDiff, Nat.reduceBEq, reduceIte, reduceCtorEq]) ?_
    rintro sv post ⟨rfl, rfl⟩
    simp (maxSteps := 4000000) only [push_cast, Int.reduceEq, Int.reduceBNe, Int.reduceBEq, Int.reduceAdd, Int.reduceSub, Int.reduceMul, Int.reduceNeg, Int.reduceLT, Int.reduceLE, Int.reduceToNat, Nat.reduceLT, Nat.reduceAdd, Nat.reduceSub, Nat.reduceMul, Nat.reduceEqDiff, Nat.reduceLeDiff, Nat.reduceBEq, reduceIte, reduceCtorEq]
    refine call_w (sclone_c x.i hi) [] (by simp (maxSteps := 4000000) only [push_cast, Int.reduceEq, Int.reduceBNe, Int.reduceBEq, Int.reduceAdd, Int.reduceSub, Int.reduceMul, Int.reduceNeg, Int.reduceLT, Int.reduceLE, Int.reduceToNat, Nat.reduceLT, Nat.reduceAdd, Nat.reduceSub, Nat.reduceMul, Nat.reduceEqDiff, Nat.reduceLeDiff, Nat.reduceBEq, reduceIte, reduceCtorEq]) ?_
    rintro sv post ⟨rfl, rfl⟩
    simp (maxSteps := 4000000) only [push_cast, Int.reduceEq, Int.reduceBNe, Int.reduceBEq, Int.reduceAdd, Int.reduceSub, Int.reduceMul, Int.reduceNeg, Int.reduceLT, Int.reduceLE, Int.reduceToNat, Nat.reduceLT, Nat.reduceAdd, Nat.reduceSub, Nat.reduceMul, Nat.reduceEqDiff, Nat.reduceLeDiff, Nat.reduceBEq, reduceIte, reduceCtorEq]
    refine call_w (sclone_c x.k hk) [] (by simp (maxSteps := 4000000) only [push_cast, Int.reduceEq, Int.reduceBNe, Int.reduceBEq, Int.reduceAdd, Int.reduceSub, Int.reduceMul, Int.reduceNeg, Int.reduceLT, Int.reduceLE, Int.reduceToNat, Nat.reduceLT, Nat.reduceAdd, Nat.reduceSub, Nat.reduceMul, Nat.reduceEqDiff, Nat.reduceLeDiff, Nat.reduceBEq, reduceIte, reduceCtorEq]) ?_
    rintro sv post ⟨rfl, rfl⟩
    simp (maxSteps := 4000000) only [push_cast, Int.reduceEq, Int.reduceBNe, Int.reduceBEq, Int.reduceAdd, Int.reduceSub, Int.reduceMul, Int.reduceNeg, Int.reduceLT, Int.reduceLE, Int.reduceToNat, Nat.reduceLT, Nat.reduceAdd, Nat.reduceSub, Nat.reduceMul, Nat.reduceEqDiff, Nat.reduceLeDiff, Nat.reduceBEq, reduceIte, reduceCtorEq, rg11]
    exact Fin.nil rfl (psv := .tup [x.sv .new, .i .i64 wrong]) (by simp (maxSteps := 4000000) only [push_cast, Int.reduceEq, Int.reduceBNe, Int.reduceBEq, Int.reduceAdd, Int.reduceSub, Int.reduceMul, Int.reduceNeg, Int.reduceLT, Int.reduceLE, Int.reduceToNat, Nat.reduceLT, Nat.reduceAdd, Nat.reduceSub, Nat.reduceMul, Nat.reduceEqDiff, Nat.reduceLeDiff, Nat.reduceBEq, reduceIte, reduceCtorEq, St.sv, St.cells]) ⟨rfl, rfl⟩

end Go.Proofs.Ytbhkpefjnomncaa
/- Lines: bytes till one stops them. -/
namespace Go.Proofs.Ytbhkpefjnomncaa
open Go Go.Eng
set_option maxHeartbeats 4000000
set_option linter.unusedSimpArgs false
set_option linter.unusedVariables false
set_option maxRecDepth 100000

/-- Bytes till one, or so many. -/
def lineGo (M : RawM) (stop : Int → Bool) (limit : Int) : Nat → St → M.σ → List Int → St × M.σ × List Int × Int
  | 0, x, g, out => (x, g, out, 0)
  | f + 1, x, g, out =>
    if (out.length : Int) < limit then
      (if (x.Get M g).2.2.2 ≠ 0 then ((x.Get M g).1, (x.Get M g).2.1, out, if (x.Get M g).2.2.2 = 111 ∧ 0 < out.length then 0 else (x.Get M g).2.2.2)
       else if stop (x.Get M g).2.2.1 then ((x.Get M g).1, (x.Get M g).2.1, out ++ [(x.Get M g).2.2.1], 0)
       else lineGo M stop limit f (x.Get M g).1 (x.Get M g).2.1 (out ++ [(x.Get M g).2.2.1]))
    else (x, g, out, 0)
def lineV (M : RawM) (stop : Int → Bool) (limit : Int) (x : St) (g : M.σ) : St × M.σ × List Int × Int := lineGo M stop limit (limit.toNat + 1) x g []

theorem fill_len (M : RawM) (x : St) (g : M.σ) (h : 1 ≤ askV x.m x.s) : (x.fill M g).1.o = x.o ∧ (x.fill M g).1.k = x.k ∧ ((x.fill M g).1.i.length : Int) ≤ x.i.length + askV x.m x.s := by
  have hl := someV_len M (askV x.m x.s) h 8192 g
  have hl' : ((someV M g (askV x.m x.s)).2.1.length : Int) ≤ askV x.m x.s := hl
  unfold St.fill
  split
  · exact ⟨rfl, rfl, by dsimp only; omega⟩
  · split
    · exact ⟨rfl, rfl, by dsimp only; omega⟩
    · exact ⟨rfl, rfl, by simp only [St.noted, List.length_append]; omega⟩
theorem get_len (M : RawM) (x : St) (g : M.σ) (h : 1 ≤ askV x.m x.s) : (x.get M g).1.o = x.o ∧ (x.get M g).1.k.length ≤ x.k.length ∧ ((x.get M g).1.i.length : Int) ≤ x.i.length + askV x.m x.s := by
  obtain ⟨h1, h2, h3⟩ := fill_len M { x with d := 1 } g h
  unfold St.get
  split
  · exact ⟨rfl, Nat.le_refl _, by dsimp only; omega⟩
  · split
    · exact ⟨rfl, Nat.le_refl _, by dsimp only; omega⟩
    · split
      · exact ⟨rfl, by simp, by dsimp only; omega⟩
      · split
        · exact ⟨rfl, Nat.le_refl _, by simp only [List.length_drop]; omega⟩
        · dsimp only
          split
          · exact ⟨h1, by rw [h2]; exact Nat.le_refl _, h3⟩
          · exact ⟨h1, by rw [h2]; exact Nat.le_refl _, by simp only [List.length_drop]; simp only at h3; omega⟩
theorem Get_fits (M : RawM) (x : St) (g : M.σ) (hx : x.fits) : (x.Get M g).1.fits := by
  unfold St.Get
  split
  · exact hx
  · rename_i h
    obtain ⟨hm, hc⟩ := bErr_zero (by omega : x.bErr = 0)
    obtain ⟨b1, b2, b3, b4⟩ := May.bd hm
    obtain ⟨a1, a2⟩ := ask_rng b1
    obtain ⟨h1, h2, h3⟩ := get_len M x g a1
    exact ⟨by rw [h1]; exact hx.o, by omega, by omega⟩
theorem fill_ok (M : RawM) (hR : M.Rd) (x : St) (g : M.σ) (hg : M.ok g) (h : mayV x.m x.s = 0) : M.ok (x.fill M g).2.1 := by
  obtain ⟨a1, a2⟩ := ask_rng h
  have := M.some_ok hR (askV x.m x.s) a1 (by omega) 8192 g hg
  unfold St.fill
  split
  · exact hg
  · split <;> exact this
theorem get_ok (M : RawM) (hR : M.Rd) (x : St) (g : M.σ) (hg : M.ok g) (h : mayV x.m x.s = 0) : M.ok (x.get M g).2.1 := by
  have := fill_ok M hR { x with d := 1 } g hg h
  unfold St.get
  split
  · exact hg
  · split
    · exact hg
    · split
      · exact hg
      · split
        · exact hg
        · dsimp only
          split <;> exact this
theorem Get_ok (M : RawM) (hR : M.Rd) (x : St) (g : M.σ) (hg : M.ok g) : M.ok (x.Get M g).2.1 := by
  unfold St.Get
  split
  · exact hg
  · rename_i h
    obtain ⟨hm, hc⟩ := bErr_zero (by omega : x.bErr = 0)
    exact get_ok M hR x g hg (May.bd hm).1

theorem until1_c (c d : Int) : Contract Try.prog 77 ⟨[], [(0, 5, [.i .u8 d])], [], [], 1, 1, []⟩ [.i .u8 c, .ptr 0 0] (fun sv post => sv = .b (c == d) ∧ post = ⟨[], [(0, 5, [.i .u8 d])], [], [], 1, 1, []⟩) := by
  refine contract_ev Γok Try.func77 rfl rfl [] ?_
  simp (maxSteps := 4000000) only [push_cast, Int.reduceEq, Int.reduceBNe, Int.reduceBEq, Int.reduceAdd, Int.reduceSub, Int.reduceMul, Int.reduceNeg, Int.reduceLT, Int.reduceLE, Int.reduceToNat, Nat.reduceLT, Nat.reduceAdd, Nat.reduceSub, Nat.reduceMul, Nat.reduceEqDiff, Nat.reduceLeDiff, Nat.reduceBEq, reduceIte, reduceCtorEq, Try.f77]
  exact Fin.w [0] (.b (c == d)) _ (by simp (maxSteps := 4000000) only [push_cast, Int.reduceEq, Int.reduceBNe, Int.reduceBEq, Int.reduceAdd, Int.reduceSub, Int.reduceMul, Int.reduceNeg, Int.reduceLT, Int.reduceLE, Int.reduceToNat, Nat.reduceLT, Nat.reduceAdd, Nat.reduceSub, Nat.reduceMul, Nat.reduceEqDiff, Nat.reduceLeDiff, Nat.reduceBEq, reduceIte, reduceCtorEq]) ⟨rfl, rfl⟩

/-- How bytes up to one end; block 0: what the closure holds. -/
def isL (M : RawM) (d : Int) (r : St × M.σ × List Int × Int) (sv : SV) (post : SS) : Prop :=
  sv = .tup [r.1.sv .new, .ints .u8 .new r.2.2.1, .i .i64 r.2.2.2] ∧ post = ⟨[], [(0, 5, [.i .u8 d])], [], [(1, M.res r.2.1)], 2, 2, []⟩

theorem getsU_c (M : RawM) (hR : M.Rd) (x : St) (hx : x.fits) (g : M.σ) (hg : M.ok g) (limit d : Int) (hl : 0 ≤ limit) (hl2 : limit ≤ 1048576) : Contract Try.prog 76 ⟨[], [(0, 5, [.i .u8 d])], [], [(1, M.res g)], 2, 2, []⟩
    [x.sv .new, M.v, .i .i64 limit, .fn (.func 77) [] [.ptr 0 0]] (isL M d (lineV M (fun c => c == d) limit x g)) := by
  refine contract_ev Γok Try.func76 rfl rfl [] ?_
  simp (maxSteps := 4000000) only [push_cast, Int.reduceEq, Int.reduceBNe, Int.reduceBEq, Int.reduceAdd, Int.reduceSub, Int.reduceMul, Int.reduceNeg, Int.reduceLT, Int.reduceLE, Int.reduceToNat, Nat.reduceLT, Nat.reduceAdd, Nat.reduceSub, Nat.reduceMul, Nat.reduceEqDiff, Nat.reduceLeDiff, Nat.reduceBEq, reduceIte, reduceCtorEq, Try.f76, St.sv, St.cells, RawM.v, rg11]
  refine CodeOK.sub (Sub.tokFr 11 rfl) ?_
  simp (maxSteps := 4000000) only [push_cast, Int.reduceEq, Int.reduceBNe, Int.reduceBEq, Int.reduceAdd, Int.reduceSub, Int.reduceMul, Int.reduceNeg, Int.reduceLT, Int.reduceLE, Int.reduceToNat, Nat.reduceLT, Nat.reduceAdd, Nat.reduceSub, Nat.reduceMul, Nat.reduceEqDiff, Nat.reduceLeDiff, Nat.reduceBEq, reduceIte, reduceCtorEq]
  refine loop_ok (ι := {q : Nat × St × M.σ × List Int // q.2.1.fits ∧ M.ok q.2.2.1 ∧ (q.2.2.2.length : Int) ≤ limit ∧ limit < q.1 + q.2.2.2.length ∧ lineGo M (fun c => c == d) limit q.1 q.2.1 q.2.2.1 q.2.2.2 = lineV M (fun c => c == d) limit x g})
    (fun q => ⟨[.any, M.v, .i .i64 limit, .fn (.func 77) [] [.ptr 0 0], .ptr 2 0, .any, .any, .any, .ptr 3 0, .any, .any, .ints .u8 (.tok 4 true) q.1.2.2.2] ++ List.replicate 34 .any, [(3, 26, List.replicate 11 .any), (2, 26, q.1.2.1.cells .new .new .new), (0, 5, [.i .u8 d])], [4], [(1, M.res q.1.2.2.1)], 5, 2, []⟩)
    (fun q => q.1.1) ⟨(limit.toNat + 1, x, g, []), hx, hg, by simp only [List.length_nil]; omega, by simp only [List.length_nil]; omega, rfl⟩ ?_ ?_
  · refine Sub.w [0, 1, 2, 3, 4] ?_
    simp (maxSteps := 4000000) only [push_cast, Int.reduceEq, Int.reduceBNe, Int.reduceBEq, Int.reduceAdd, Int.reduceSub, Int.reduceMul, Int.reduceNeg, Int.reduceLT, Int.reduceLE, Int.reduceToNat, Nat.reduceLT, Nat.reduceAdd, Nat.reduceSub, Nat.reduceMul, Nat.reduceEqDiff, Nat.reduceLeDiff, Nat.reduceBEq, reduceIte, reduceCtorEq, RawM.v, St.cells]
  · rintro ⟨⟨f, x', g', out⟩, hx', hg', ho, hf, he⟩
    simp only at hx' hg' ho hf he
    have hkeep := Get_ok M hR x' g' hg'
    have hfit := Get_fits M x' g' hx'
    refine evCode_sound Γok _ _ _ ?_
    simp (maxSteps := 4000000) only [push_cast, Int.reduceEq, Int.reduceBNe, Int.reduceBEq, Int.reduceAdd, Int.reduceSub, Int.reduceMul, Int.reduceNeg, Int.reduceLT, Int.reduceLE, Int.reduceToNat, Nat.reduceLT, Nat.reduceAdd, Nat.reduceSub, Nat.reduceMul, Nat.reduceEqDiff, Nat.reduceLeDiff, Nat.reduceBEq, reduceIte, reduceCtorEq, RawM.v, St.cells, rg11]
    obtain ⟨f, rfl⟩ : ∃ f', f = f' + 1 := ⟨f - 1, by omega⟩
    simp only [lineGo, beq_iff_eq] at he
    refine ⟨fun h1 => ?_, fun h1 => ?_⟩
    · rw [if_pos h1] at he
      refine call_w (GetR_c M hR x' g' hg' hx') [1] (by simp (maxSteps := 4000000) only [push_cast, Int.reduceEq, Int.reduceBNe, Int.reduceBEq, Int.reduceAdd, Int.reduceSub, Int.reduceMul, Int.reduceNeg, Int.reduceLT, Int.reduceLE, Int.reduceToNat, Nat.reduceLT, Nat.reduceAdd, Nat.reduceSub, Nat.reduceMul, Nat.reduceEqDiff, Nat.reduceLeDiff, Nat.reduceBEq, reduceIte, reduceCtorEq, St.sv, St.cells, RawM.v]) ?_
      rintro sv post ⟨rfl, rfl⟩
      simp (maxSteps := 4000000) only [push_cast, Int.reduceEq, Int.reduceBNe, Int.reduceBEq, Int.reduceAdd, Int.reduceSub, Int.reduceMul, Int.reduceNeg, Int.reduceLT, Int.reduceLE, Int.reduceToNat, Nat.reduceLT, Nat.reduceAdd, Nat.reduceSub, Nat.reduceMul, Nat.reduceEqDiff, Nat.reduceLeDiff, Nat.reduceBEq, reduceIte, reduceCtorEq, St.sv, St.cells, rg11]
      refine ⟨fun h2 => ?_, fun h2 => ?_⟩
      · rw [if_pos h2] at he
        rw [← he]
        refine ⟨fun h3 => ?_, fun h3 => ?_⟩
        · rw [if_pos ⟨h3.1, by omega⟩]
          exact Fin.w [0, 1] (.tup [(x'.Get M g').1.sv .new, .ints .u8 .new out, .i .i64 0]) _ (by simp (maxSteps := 4000000) only [push_cast, Int.reduceEq, Int.reduceBNe, Int.reduceBEq, Int.reduceAdd, Int.reduceSub, Int.reduceMul, Int.reduceNeg, Int.reduceLT, Int.reduceLE, Int.reduceToNat, Nat.reduceLT, Nat.reduceAdd, Nat.reduceSub, Nat.reduceMul, Nat.reduceEqDiff, Nat.reduceLeDiff, Nat.reduceBEq, reduceIte, reduceCtorEq, St.sv, St.cells]) ⟨rfl, rfl⟩
        · rw [if_neg (by omega)]
          exact Fin.w [0, 1] (.tup [(x'.Get M g').1.sv .new, .ints .u8 .new out, .i .i64 _]) _ (by simp (maxSteps := 4000000) only [push_cast, Int.reduceEq, Int.reduceBNe, Int.reduceBEq, Int.reduceAdd, Int.reduceSub, Int.reduceMul, Int.reduceNeg, Int.reduceLT, Int.reduceLE, Int.reduceToNat, Nat.reduceLT, Nat.reduceAdd, Nat.reduceSub, Nat.reduceMul, Nat.reduceEqDiff, Nat.reduceLeDiff, Nat.reduceBEq, reduceIte, reduceCtorEq, St.sv, St.cells]) ⟨rfl, rfl⟩
      · rw [if_neg (by omega)] at he
        refine ⟨by omega, ?_⟩
        refine call_w (until1_c (x'.Get M g').2.2.1 d) [0] (by simp (maxSteps := 4000000) only [push_cast, Int.reduceEq, Int.reduceBNe, Int.reduceBEq, Int.reduceAdd, Int.reduceSub, Int.reduceMul, Int.reduceNeg, Int.reduceLT, Int.reduceLE, Int.reduceToNat, Nat.reduceLT, Nat.reduceAdd, Nat.reduceSub, Nat.reduceMul, Nat.reduceEqDiff, Nat.reduceLeDiff, Nat.reduceBEq, reduceIte, reduceCtorEq]) ?_
        rintro sv post ⟨rfl, rfl⟩
        simp (maxSteps := 4000000) only [push_cast, Int.reduceEq, Int.reduceBNe, Int.reduceBEq, Int.reduceAdd, Int.reduceSub, Int.reduceMul, Int.reduceNeg, Int.reduceLT, Int.reduceLE, Int.reduceToNat, Nat.reduceLT, Nat.reduceAdd, Nat.reduceSub, Nat.reduceMul, Nat.reduceEqDiff, Nat.reduceLeDiff, Nat.reduceBEq, reduceIte, reduceCtorEq, rg11]
        refine ⟨fun h3 => ?_, fun h3 => ?_⟩
        · rw [if_pos h3] at he
          rw [← he]
          exact Fin.w [0, 1] (.tup [(x'.Get M g').1.sv .new, .ints .u8 .new _, .i .i64 0]) _ (by simp (maxSteps := 4000000) only [push_cast, Int.reduceEq, Int.reduceBNe, Int.reduceBEq, Int.reduceAdd, Int.reduceSub, Int.reduceMul, Int.reduceNeg, Int.reduceLT, Int.reduceLE, Int.reduceToNat, Nat.reduceLT, Nat.reduceAdd, Nat.reduceSub, Nat.reduceMul, Nat.reduceEqDiff, Nat.reduceLeDiff, Nat.reduceBEq, reduceIte, reduceCtorEq, St.sv, St.cells]) ⟨rfl, rfl⟩
        · rw [if_neg h3] at he
          refine ⟨⟨(f, (x'.Get M g').1, (x'.Get M g').2.1, out ++ [(x'.Get M g').2.2.1]), hfit, hkeep, by simp; omega, by simp; omega, he⟩, by simp only; omega, Sub.w [0, 1, 2, 3, 6] ?_⟩
          simp (maxSteps := 4000000) only [push_cast, Int.reduceEq, Int.reduceBNe, Int.reduceBEq, Int.reduceAdd, Int.reduceSub, Int.reduceMul, Int.reduceNeg, Int.reduceLT, Int.reduceLE, Int.reduceToNat, Nat.reduceLT, Nat.reduceAdd, Nat.reduceSub, Nat.reduceMul, Nat.reduceEqDiff, Nat.reduceLeDiff, Nat.reduceBEq, reduceIte, reduceCtorEq, RawM.v, St.cells]
    · rw [if_neg (by omega)] at he
      rw [← he]
      exact Fin.w [0, 1] (.tup [x'.sv .new, .ints .u8 .new out, .i .i64 0]) _ (by simp (maxSteps := 4000000) only [push_cast, Int.reduceEq, Int.reduceBNe, Int.reduceBEq, Int.reduceAdd, Int.reduceSub, Int.reduceMul, Int.reduceNeg, Int.reduceLT, Int.reduceLE, Int.reduceToNat, Nat.reduceLT, Nat.reduceAdd, Nat.reduceSub, Nat.reduceMul, Nat.reduceEqDiff, Nat.reduceLeDiff, Nat.reduceBEq, reduceIte, reduceCtorEq, St.sv, St.cells]) ⟨rfl, rfl⟩
end Go.Proofs.Ytbhkpefjnomncaa
/- Lines: up to a byte; a line. -/
namespace Go.Proofs.Ytbhkpefjnomncaa
open Go Go.Eng
set_option maxHeartbeats 4000000
set_option linter.unusedSimpArgs false
set_option linter.unusedVariables false
set_option maxRecDepth 100000

/-- Bytes up to one. -/
def St.Until (M : RawM) (x : St) (g : M.σ) (d limit : Int) : St × M.σ × List Int × Int :=
  if x.aErr (if limit < 1 ∨ 65536 < limit then 4 else 0) ≠ 0 then (x, g, [], x.aErr (if limit < 1 ∨ 65536 < limit then 4 else 0))
  else lineV M (fun c => c == d) limit x g
def isU (M : RawM) (r : St × M.σ × List Int × Int) (sv : SV) (post : SS) : Prop := sv = .tup [r.1.sv .new, .ints .u8 .new r.2.2.1, .i .i64 r.2.2.2] ∧ post = preR (M.res r.2.1)

theorem aErr_zero {x : St} {e : Int} (h : x.aErr e = 0) : x.May ∧ x.cl = false ∧ e = 0 := by
  unfold St.aErr at h
  split at h
  · rename_i hm
    split at h
    · omega
    · rename_i hc; exact ⟨hm, by simpa using hc, h⟩
  · omega

theorem bool_ite {p : Prop} [Decidable p] (b : Bool) (h : b = decide p) (e : Int) : (if b = true then e else 0) = if p then e else 0 := by
  subst h; by_cases hp : p <;> simp [hp]

set_option maxHeartbeats 2000000 in
theorem UntilR_c (M : RawM) (hR : M.Rd) (x : St) (hx : x.fits) (g : M.σ) (hg : M.ok g) (d limit : Int) : Contract Try.prog 65 (preR (M.res g)) [x.sv .old, M.v, .i .u8 d, .i .i64 limit] (isU M (x.Until M g d limit)) := by
  have hw := bool_ite (p := limit < 1 ∨ 65536 < limit) (decide (limit < 1) || decide (65536 < limit)) (by simp) 4
  refine contract_ev Γok Try.func65 rfl rfl [] ?_
  simp (maxSteps := 4000000) only [push_cast, Int.reduceEq, Int.reduceBNe, Int.reduceBEq, Int.reduceAdd, Int.reduceSub, Int.reduceMul, Int.reduceNeg, Int.reduceLT, Int.reduceLE, Int.reduceToNat, Nat.reduceLT, Nat.reduceAdd, Nat.reduceSub, Nat.reduceMul, Nat.reduceEqDiff, Nat.reduceLeDiff, Nat.reduceBEq, reduceIte, reduceCtorEq, Try.f65, St.sv, St.cells, RawM.v, rg11]
  refine (region_planS (S := ?S) rfl Γok mixed (.pure 0 (.pure 1 (.pure 2 (.pure 3 (.pure 4 (.pure 5 (.pure 6 (.pure 7 (.eff (.cons 8 [0] (.eff (.cons 9 [] (.pure 10 (.pure 11 (.pure 12 (.eff (.cons 13 [0] (.eff (.cons 14 [] (.pure 15 .done) .nil)) .nil))))) (.cons 13 [0] (.eff (.cons 9 [] (.pure 10 (.pure 11 (.pure 12 (.eff (.cons 14 [] (.pure 15 .done) .nil))))) .nil)) .nil))) (.cons 13 [0] (.eff (.cons 8 [0] (.eff (.cons 9 [] (.pure 10 (.pure 11 (.pure 12 (.eff (.cons 14 [] (.pure 15 .done) .nil))))) .nil)) .nil)) .nil))))))))))) 38 rfl (by kernel_rfl) ?_ ?_)
  case refine_1 =>
    simp (maxSteps := 4000000) only [push_cast, Int.reduceEq, Int.reduceBNe, Int.reduceBEq, Int.reduceAdd, Int.reduceSub, Int.reduceMul, Int.reduceNeg, Int.reduceLT, Int.reduceLE, Int.reduceToNat, Nat.reduceLT, Nat.reduceAdd, Nat.reduceSub, Nat.reduceMul, Nat.reduceEqDiff, Nat.reduceLeDiff, Nat.reduceBEq, reduceIte, reduceCtorEq, rg11]
    refine ⟨?_, ?_⟩ <;> refine call_w (when_c (decide (limit < 1) || decide (65536 < limit)) 4) [] (by simp (maxSteps := 4000000) only [push_cast, Int.reduceEq, Int.reduceBNe, Int.reduceBEq, Int.reduceAdd, Int.reduceSub, Int.reduceMul, Int.reduceNeg, Int.reduceLT, Int.reduceLE, Int.reduceToNat, Nat.reduceLT, Nat.reduceAdd, Nat.reduceSub, Nat.reduceMul, Nat.reduceEqDiff, Nat.reduceLeDiff, Nat.reduceBEq, reduceIte, reduceCtorEq]) ?_ <;> rintro sv post ⟨rfl, rfl⟩ <;> rw [hw] <;> simp (maxSteps := 4000000) only [push_cast, Int.reduceEq, Int.reduceBNe, Int.reduceBEq, Int.reduceAdd, Int.reduceSub, Int.reduceMul, Int.reduceNeg, Int.reduceLT, Int.reduceLE, Int.reduceToNat, Nat.reduceLT, Nat.reduceAdd, Nat.reduceSub, Nat.reduceMul, Nat.reduceEqDiff, Nat.reduceLeDiff, Nat.reduceBEq, reduceIte, reduceCtorEq, rg11]
    · refine ⟨?_, ?_⟩ <;> refine call_w (asked_c x hx M.t M.y (if limit < 1 ∨ 65536 < limit then 4 else 0)) [] (by simp (maxSteps := 4000000) only [push_cast, Int.reduceEq, Int.reduceBNe, Int.reduceBEq, Int.reduceAdd, Int.reduceSub, Int.reduceMul, Int.reduceNeg, Int.reduceLT, Int.reduceLE, Int.reduceToNat, Nat.reduceLT, Nat.reduceAdd, Nat.reduceSub, Nat.reduceMul, Nat.reduceEqDiff, Nat.reduceLeDiff, Nat.reduceBEq, reduceIte, reduceCtorEq, St.sv, St.cells]) ?_ <;> rintro sv post ⟨rfl, rfl⟩ <;> simp (maxSteps := 4000000) only [push_cast, Int.reduceEq, Int.reduceBNe, Int.reduceBEq, Int.reduceAdd, Int.reduceSub, Int.reduceMul, Int.reduceNeg, Int.reduceLT, Int.reduceLE, Int.reduceToNat, Nat.reduceLT, Nat.reduceAdd, Nat.reduceSub, Nat.reduceMul, Nat.reduceEqDiff, Nat.reduceLeDiff, Nat.reduceBEq, reduceIte, reduceCtorEq, St.sv, St.cells, rg11] <;> exact Sub.refl _
    · refine call_w (asked_c x hx M.t M.y (if limit < 1 ∨ 65536 < limit then 4 else 0)) [] (by simp (maxSteps := 4000000) only [push_cast, Int.reduceEq, Int.reduceBNe, Int.reduceBEq, Int.reduceAdd, Int.reduceSub, Int.reduceMul, Int.reduceNeg, Int.reduceLT, Int.reduceLE, Int.reduceToNat, Nat.reduceLT, Nat.reduceAdd, Nat.reduceSub, Nat.reduceMul, Nat.reduceEqDiff, Nat.reduceLeDiff, Nat.reduceBEq, reduceIte, reduceCtorEq, St.sv, St.cells]) ?_
      rintro sv post ⟨rfl, rfl⟩
      simp (maxSteps := 4000000) only [push_cast, Int.reduceEq, Int.reduceBNe, Int.reduceBEq, Int.reduceAdd, Int.reduceSub, Int.reduceMul, Int.reduceNeg, Int.reduceLT, Int.reduceLE, Int.reduceToNat, Nat.reduceLT, Nat.reduceAdd, Nat.reduceSub, Nat.reduceMul, Nat.reduceEqDiff, Nat.reduceLeDiff, Nat.reduceBEq, reduceIte, reduceCtorEq, St.sv, St.cells, rg11]
      exact Sub.refl _
  case refine_2 =>
    simp (maxSteps := 4000000) only [push_cast, Int.reduceEq, Int.reduceBNe, Int.reduceBEq, Int.reduceAdd, Int.reduceSub, Int.reduceMul, Int.reduceNeg, Int.reduceLT, Int.reduceLE, Int.reduceToNat, Nat.reduceLT, Nat.reduceAdd, Nat.reduceSub, Nat.reduceMul, Nat.reduceEqDiff, Nat.reduceLeDiff, Nat.reduceBEq, reduceIte, reduceCtorEq, rg11]
    refine ⟨fun h => ?_, fun h => ?_⟩
    · rw [show x.Until M g d limit = (x, g, [], x.aErr (if limit < 1 ∨ 65536 < limit then 4 else 0)) from if_pos h]
      exact Fin.w [0] (.tup [x.sv .new, .ints .u8 .new [], .i .i64 _]) _ (by simp (maxSteps := 4000000) only [push_cast, Int.reduceEq, Int.reduceBNe, Int.reduceBEq, Int.reduceAdd, Int.reduceSub, Int.reduceMul, Int.reduceNeg, Int.reduceLT, Int.reduceLE, Int.reduceToNat, Nat.reduceLT, Nat.reduceAdd, Nat.reduceSub, Nat.reduceMul, Nat.reduceEqDiff, Nat.reduceLeDiff, Nat.reduceBEq, reduceIte, reduceCtorEq, St.sv, St.cells]) ⟨rfl, rfl⟩
    · rw [show x.Until M g d limit = lineV M (fun c => c == d) limit x g from if_neg (by rw [h]; simp)]
      obtain ⟨hm, hc, he⟩ := aErr_zero h
      have hlim : ¬ (limit < 1 ∨ 65536 < limit) := by intro hl; rw [if_pos hl] at he; omega
      refine call_w (getsU_c M hR x hx g hg limit d (by omega) (by omega)) [2, 0] (by simp (maxSteps := 4000000) only [push_cast, Int.reduceEq, Int.reduceBNe, Int.reduceBEq, Int.reduceAdd, Int.reduceSub, Int.reduceMul, Int.reduceNeg, Int.reduceLT, Int.reduceLE, Int.reduceToNat, Nat.reduceLT, Nat.reduceAdd, Nat.reduceSub, Nat.reduceMul, Nat.reduceEqDiff, Nat.reduceLeDiff, Nat.reduceBEq, reduceIte, reduceCtorEq, St.sv, St.cells, RawM.v]) ?_
      rintro sv post ⟨rfl, rfl⟩
      simp (maxSteps := 4000000) only [push_cast, Int.reduceEq, Int.reduceBNe, Int.reduceBEq, Int.reduceAdd, Int.reduceSub, Int.reduceMul, Int.reduceNeg, Int.reduceLT, Int.reduceLE, Int.reduceToNat, Nat.reduceLT, Nat.reduceAdd, Nat.reduceSub, Nat.reduceMul, Nat.reduceEqDiff, Nat.reduceLeDiff, Nat.reduceBEq, reduceIte, reduceCtorEq, St.sv, St.cells, rg11]
      exact Fin.w [0] (.tup [(lineV M (fun c => c == d) limit x g).1.sv .new, .ints .u8 .new _, .i .i64 _]) _ (by simp (maxSteps := 4000000) only [push_cast, Int.reduceEq, Int.reduceBNe, Int.reduceBEq, Int.reduceAdd, Int.reduceSub, Int.reduceMul, Int.reduceNeg, Int.reduceLT, Int.reduceLE, Int.reduceToNat, Nat.reduceLT, Nat.reduceAdd, Nat.reduceSub, Nat.reduceMul, Nat.reduceEqDiff, Nat.reduceLeDiff, Nat.reduceBEq, reduceIte, reduceCtorEq, St.sv, St.cells]) ⟨rfl, rfl⟩

theorem LineR_c (M : RawM) (hR : M.Rd) (x : St) (hx : x.fits) (g : M.σ) (hg : M.ok g) (limit : Int) : Contract Try.prog 40 (preR (M.res g)) [x.sv .old, M.v, .i .i64 limit] (isU M (x.Until M g 10 limit)) := by
  refine contract_ev Γok Try.func40 rfl rfl [] ?_
  simp (maxSteps := 4000000) only [push_cast, Int.reduceEq, Int.reduceBNe, Int.reduceBEq, Int.reduceAdd, Int.reduceSub, Int.reduceMul, Int.reduceNeg, Int.reduceLT, Int.reduceLE, Int.reduceToNat, Nat.reduceLT, Nat.reduceAdd, Nat.reduceSub, Nat.reduceMul, Nat.reduceEqDiff, Nat.reduceLeDiff, Nat.reduceBEq, reduceIte, reduceCtorEq, Try.f40, St.sv, St.cells, RawM.v, rg11]
  refine call_w (UntilR_c M hR x hx g hg 10 limit) [0] (by simp (maxSteps := 4000000) only [push_cast, Int.reduceEq, Int.reduceBNe, Int.reduceBEq, Int.reduceAdd, Int.reduceSub, Int.reduceMul, Int.reduceNeg, Int.reduceLT, Int.reduceLE, Int.reduceToNat, Nat.reduceLT, Nat.reduceAdd, Nat.reduceSub, Nat.reduceMul, Nat.reduceEqDiff, Nat.reduceLeDiff, Nat.reduceBEq, reduceIte, reduceCtorEq, St.sv, St.cells, RawM.v]) ?_
  rintro sv post ⟨rfl, rfl⟩
  simp (maxSteps := 4000000) only [push_cast, Int.reduceEq, Int.reduceBNe, Int.reduceBEq, Int.reduceAdd, Int.reduceSub, Int.reduceMul, Int.reduceNeg, Int.reduceLT, Int.reduceLE, Int.reduceToNat, Nat.reduceLT, Nat.reduceAdd, Nat.reduceSub, Nat.reduceMul, Nat.reduceEqDiff, Nat.reduceLeDiff, Nat.reduceBEq, reduceIte, reduceCtorEq, St.sv, St.cells, rg11]
  exact Fin.w [0] (.tup [(x.Until M g 10 limit).1.sv .new, .ints .u8 .new _, .i .i64 _]) _ (by simp (maxSteps := 4000000) only [push_cast, Int.reduceEq, Int.reduceBNe, Int.reduceBEq, Int.reduceAdd, Int.reduceSub, Int.reduceMul, Int.reduceNeg, Int.reduceLT, Int.reduceLE, Int.reduceToNat, Nat.reduceLT, Nat.reduceAdd, Nat.reduceSub, Nat.reduceMul, Nat.reduceEqDiff, Nat.reduceLeDiff, Nat.reduceBEq, reduceIte, reduceCtorEq, St.sv, St.cells]) ⟨rfl, rfl⟩
end Go.Proofs.Ytbhkpefjnomncaa
/- What is got off a stream over a Raw that feeds it: what is left, byte by byte. -/
namespace Go.Proofs.Ytbhkpefjnomncaa
open Go Go.Eng
set_option maxHeartbeats 4000000
set_option linter.unusedSimpArgs false
set_option linter.unusedVariables false

/-- Reads tell what is left, bit by bit. -/
structure Feeds (M : RawM) (rest : M.σ → List Int) : Prop where
  run : ∀ g n, M.ok g → 1 ≤ n → n ≤ 65536 → (someV M g n).2.2 = 0 ∧ (someV M g n).2.1 ++ rest (someV M g n).1 = rest g ∧ ((someV M g n).2.1 = [] → rest g = [])

/-- A stream that reads, nothing pushed back. -/
structure Reads (M : RawM) (rest : M.σ → List Int) (x : St) (g : M.σ) : Prop where
  may : x.May
  r : x.r = true
  cl : x.cl = false
  d : x.d ≠ 2
  k : x.k = []
  o : x.o = []
  en : x.en = true → rest g = []
  ok : M.ok g
/-- All that is left. -/
def left (M : RawM) (rest : M.σ → List Int) (x : St) (g : M.σ) : List Int := x.i ++ rest g

theorem Reads.bErr {M : RawM} {rest : M.σ → List Int} {x : St} {g : M.σ} (h : Reads M rest x g) : x.bErr = 0 := by
  unfold St.bErr; rw [if_pos h.may, if_neg (by simp [h.cl])]
theorem Reads.fits {M : RawM} {rest : M.σ → List Int} {x : St} {g : M.σ} (h : Reads M rest x g) : x.fits := by
  obtain ⟨b1, b2, b3, b4⟩ := May.bd h.may
  exact ⟨by omega, by omega, by omega⟩

theorem may_got {r w : Bool} {m s d : Int} {i k i' k' : List Int} {en bad cl en' bad' : Bool} (h : St.May ⟨r, w, m, s, [], i, k, d, en, bad, cl⟩) (hr : r = true) (hc : cl = false) (hi : i'.length ≤ 65536) (hk : k'.length ≤ 8) : St.May ⟨r, w, m, s, [], i', k', 1, en', bad', cl⟩ := by
  obtain ⟨h1, h2, h3, h4, h5, h6, h7⟩ := h
  exact ⟨h1, h2, h3, hi, hk, .inl hc, .inr (.inl ⟨rfl, hr, rfl⟩)⟩

/-- A byte more is got, or the end is told. -/
theorem get_feeds {M : RawM} (hR : M.Rd) {rest : M.σ → List Int} (hF : Feeds M rest) {x : St} {g : M.σ} (h : Reads M rest x g) :
    Reads M rest (x.Get M g).1 (x.Get M g).2.1 ∧
      (match left M rest x g with
      | [] => (x.Get M g).2.2 = (0, 111) ∧ left M rest (x.Get M g).1 (x.Get M g).2.1 = [] ∧ (x.Get M g).1.en = true ∧ (x.Get M g).1.bad = x.bad
      | c :: l => (x.Get M g).2.2 = (c, 0) ∧ left M rest (x.Get M g).1 (x.Get M g).2.1 = l ∧ (x.Get M g).1.bad = x.bad) := by
  have hb := h.bErr
  have hok := Get_ok M hR x g h.ok
  obtain ⟨r, w, m, s, o, i, k, d, en, bad, cl⟩ := x
  obtain ⟨h1, h2, h3, h4, h5, h6, h7, h8⟩ := h
  simp only at h2 h3 h4 h5 h6 h7
  subst h2 h3 h5 h6
  obtain ⟨b1, b2, b3, b4⟩ := May.bd h1
  simp only at b1 b3
  obtain ⟨a1, a2⟩ := ask_rng b1
  unfold St.Get at hok ⊢
  rw [if_neg (by rw [hb]; simp)] at hok ⊢
  cases i with
  | cons c l =>
    have hg : St.get M ⟨true, w, m, s, [], c :: l, [], d, en, bad, false⟩ g = (⟨true, w, m, s, [], l, [], 1, en, bad, false⟩, g, c, 0) := by
      simp [St.get, h4]
    rw [hg] at hok ⊢
    simp only [left, List.cons_append]
    exact ⟨⟨may_got h1 rfl rfl (by simp at b3 ⊢; omega) (by simp), rfl, rfl, by simp, rfl, rfl, h7, h8⟩, by simp⟩
  | nil =>
    by_cases hen : en = true
    · subst hen
      have hr := h7 rfl
      have hg : St.get M ⟨true, w, m, s, [], [], [], d, true, bad, false⟩ g = (⟨true, w, m, s, [], [], [], 1, true, bad, false⟩, g, 0, 111) := by
        simp [St.get, St.fill, h4]
      rw [hg] at hok ⊢
      simp only [left, List.nil_append, hr]
      exact ⟨⟨may_got h1 rfl rfl (by simp) (by simp), rfl, rfl, by simp, rfl, rfl, h7, h8⟩, by simp⟩
    · have hen : en = false := by simpa using hen
      subst hen
      obtain ⟨f1, f2, f3⟩ := hF.run g (askV m s) h8 a1 a2
      have hl : ((someV M g (askV m s)).2.1.length : Int) ≤ askV m s := someV_len M (askV m s) a1 8192 g
      obtain ⟨g', b, e, hq⟩ : ∃ g' b e, someV M g (askV m s) = (g', b, e) := ⟨_, _, _, rfl⟩
      rw [hq] at f1 f2 f3 hl
      simp only at f1 f2 f3 hl
      subst f1
      cases b with
      | nil =>
        have hr := f3 rfl
        have hr' : rest g' = [] := by rw [hr] at f2; simpa using f2
        have hg : St.get M ⟨true, w, m, s, [], [], [], d, false, bad, false⟩ g = (⟨true, w, m, s, [], [], [], 1, true, bad, false⟩, g', 0, 111) := by
          simp [St.get, St.fill, h4, hq]
        rw [hg] at hok ⊢
        simp only [left, List.nil_append, hr]
        exact ⟨⟨may_got h1 rfl rfl (by simp) (by simp), rfl, rfl, by simp, rfl, rfl, fun _ => hr', hok⟩, by simp [hr']⟩
      | cons c l =>
        have hg : St.get M ⟨true, w, m, s, [], [], [], d, false, bad, false⟩ g = (⟨true, w, m, s, [], l, [], 1, false, bad, false⟩, g', c, 0) := by
          simp [St.get, St.fill, St.noted, h4, hq]
        rw [hg] at hok ⊢
        simp only [left, List.nil_append]
        rw [← f2]
        simp only [List.cons_append]
        exact ⟨⟨may_got h1 rfl rfl (by simp at hl ⊢; omega) (by simp), rfl, rfl, by simp, rfl, rfl, fun he => by simp at he, hok⟩, by simp⟩

/-- Bytes up to one: what they are. -/
structure Line (d limit : Int) (all out rest : List Int) : Prop where
  app : out ++ rest = all
  len : (out.length : Int) ≤ limit
  inner : ∀ c, c ∈ out.dropLast → c ≠ d
  why : out.getLast? = some d ∨ (out.length : Int) = limit ∨ rest = []
theorem lineGo_feeds {M : RawM} (hR : M.Rd) {rest : M.σ → List Int} (hF : Feeds M rest) (d limit : Int) : ∀ (f : Nat) (x : St) (g : M.σ) (out : List Int), Reads M rest x g → (out.length : Int) ≤ limit → limit < f + out.length → (∀ c, c ∈ out → c ≠ d) →
    (let r := lineGo M (fun c => c == d) limit f x g out
     Reads M rest r.1 r.2.1 ∧ r.1.bad = x.bad ∧
       ((r.2.2.2 = 0 ∧ Line d limit (out ++ left M rest x g) r.2.2.1 (left M rest r.1 r.2.1) ∧ (r.2.2.1 ≠ [] ∨ limit = 0)) ∨
        (r.2.2.2 = 111 ∧ r.2.2.1 = [] ∧ out = [] ∧ left M rest x g = [] ∧ left M rest r.1 r.2.1 = [])))
  | 0, x, g, out, h, h1, h2, h3 => by omega
  | f + 1, x, g, out, h, h1, h2, h3 => by
    obtain ⟨k1, k2⟩ := get_feeds hR hF h
    dsimp only
    unfold lineGo
    by_cases hlt : (out.length : Int) < limit
    · rw [if_pos hlt]
      cases hl : left M rest x g with
      | nil =>
        rw [hl] at k2
        obtain ⟨e1, e2, e3, e4⟩ := k2
        rw [show (x.Get M g).2.2.2 = 111 by rw [e1]]
        rw [if_pos (by simp)]
        refine ⟨k1, e4, ?_⟩
        by_cases ho : 0 < out.length
        · refine .inl ⟨by simp [ho], ⟨by simp [e2], h1, fun c hc => h3 c (List.dropLast_subset _ hc), .inr (.inr e2)⟩, .inl (List.length_pos_iff.1 ho)⟩
        · have : out = [] := by
            have : out.length = 0 := by omega
            simpa using this
          subst this
          exact .inr ⟨by simp, rfl, rfl, rfl, e2⟩
      | cons c l =>
        rw [hl] at k2
        obtain ⟨e1, e2, e3⟩ := k2
        rw [show (x.Get M g).2.2.2 = 0 by rw [e1], show (x.Get M g).2.2.1 = c by rw [e1]]
        rw [if_neg (by simp)]
        by_cases hc : c = d
        · subst hc
          rw [if_pos (by simp)]
          exact ⟨k1, e3, .inl ⟨rfl, ⟨by simp [e2], by simp; omega, fun c' hc' => h3 c' (by simpa using hc'), .inl (by simp)⟩, .inl (by simp)⟩⟩
        · rw [if_neg (by simpa using hc)]
          have ih := lineGo_feeds hR hF d limit f (x.Get M g).1 (x.Get M g).2.1 (out ++ [c]) k1 (by simp; omega) (by simp; omega) (fun c' hc' => by
            rcases List.mem_append.1 hc' with h | h
            · exact h3 c' h
            · rw [List.mem_singleton] at h; rw [h]; exact hc)
          dsimp only at ih
          obtain ⟨i1, i2, i3⟩ := ih
          refine ⟨i1, i2.trans e3, ?_⟩
          rcases i3 with ⟨j1, j2, j3⟩ | ⟨j1, j2, j3, _⟩
          · refine .inl ⟨j1, ?_, j3⟩
            rw [e2] at j2
            simpa using j2
          · simp at j3
    · rw [if_neg hlt]
      refine ⟨h, rfl, .inl ⟨rfl, ⟨rfl, h1, fun c hc => h3 c (List.dropLast_subset _ hc), .inr (.inl (by dsimp only; omega))⟩, ?_⟩⟩
      by_cases ho : out = []
      · right; subst ho; simp at h1 hlt; omega
      · exact .inl ho

/-- A line, or the end. -/
theorem until_feeds {M : RawM} (hR : M.Rd) {rest : M.σ → List Int} (hF : Feeds M rest) (d limit : Int) (hl1 : 1 ≤ limit) (hl2 : limit ≤ 65536) {x : St} {g : M.σ} (h : Reads M rest x g) :
    (let r := x.Until M g d limit
     Reads M rest r.1 r.2.1 ∧ r.1.bad = x.bad ∧
       ((r.2.2.2 = 0 ∧ Line d limit (left M rest x g) r.2.2.1 (left M rest r.1 r.2.1) ∧ r.2.2.1 ≠ []) ∨
        (r.2.2.2 = 111 ∧ r.2.2.1 = [] ∧ left M rest x g = [] ∧ left M rest r.1 r.2.1 = []))) := by
  have e : x.Until M g d limit = lineV M (fun c => c == d) limit x g := by
    unfold St.Until
    rw [if_neg]
    rw [if_neg (by omega)]
    unfold St.aErr
    rw [if_pos h.may, if_neg (by simp [h.cl])]
    simp
  have key := lineGo_feeds hR hF d limit (limit.toNat + 1) x g [] h (by simp; omega) (by simp; omega) (by simp)
  rw [e]
  unfold lineV
  dsimp only at key ⊢
  obtain ⟨k1, k2, k3⟩ := key
  refine ⟨k1, k2, ?_⟩
  rcases k3 with ⟨j1, j2, j3⟩ | ⟨j1, j2, _, j3, j4⟩
  · refine .inl ⟨j1, by simpa using j2, ?_⟩
    rcases j3 with h | h
    · exact h
    · omega
  · exact .inr ⟨j1, j2, j3, j4⟩
end Go.Proofs.Ytbhkpefjnomncaa
/- Lines: the law's small functions. -/
namespace Go.Proofs.Ytbhkpefjnomncaa
open Go Go.Eng
set_option maxHeartbeats 4000000
set_option linter.unusedSimpArgs false
set_option linter.unusedVariables false
set_option maxRecDepth 100000

theorem sameBytes_c (l m : List Int) : Contract Try.prog 23 nilSS [.ints .u8 .old l, .ints .u8 .old m] (fun sv post => sv = .b (l == m) ∧ post = nilSS) := by
  refine contract_len 0 rfl fun hlen => ?_
  refine contract_ev Γok Try.func23 rfl rfl [] ?_
  simp (maxSteps := 4000000) only [push_cast, Int.reduceEq, Int.reduceBNe, Int.reduceBEq, Int.reduceAdd, Int.reduceSub, Int.reduceMul, Int.reduceNeg, Int.reduceLT, Int.reduceLE, Int.reduceToNat, Nat.reduceLT, Nat.reduceAdd, Nat.reduceSub, Nat.reduceMul, Nat.reduceEqDiff, Nat.reduceLeDiff, Nat.reduceBEq, reduceIte, reduceCtorEq, Try.f23]
  have no : ∀ (S : SS), S.k = 0 → l ≠ m → Fin (fun sv post => sv = .b (l == m) ∧ post = nilSS) (.b false) S := fun S hS h => Fin.nil hS (psv := .b false) rfl ⟨by rw [beq_eq_false_iff_ne.2 h], rfl⟩
  refine ⟨fun h1 => no _ rfl (by rintro rfl; exact h1 rfl), fun h1 => ?_⟩
  have hl : l.length = m.length := by omega
  refine loop_ok (ι := {i : Nat // i ≤ l.length ∧ l.take i = m.take i}) (fun i => ⟨[.ints .u8 .old l, .ints .u8 .old m, .any, .any, .any, .i .i64 i.1] ++ List.replicate 20 .any, [], [], [], 0, 0, []⟩) (fun i => l.length - i.1) ⟨0, by simp, by simp⟩ ?_ ?_
  · refine Sub.w [] ?_
    simp (maxSteps := 4000000) only [push_cast, Int.reduceEq, Int.reduceBNe, Int.reduceBEq, Int.reduceAdd, Int.reduceSub, Int.reduceMul, Int.reduceNeg, Int.reduceLT, Int.reduceLE, Int.reduceToNat, Nat.reduceLT, Nat.reduceAdd, Nat.reduceSub, Nat.reduceMul, Nat.reduceEqDiff, Nat.reduceLeDiff, Nat.reduceBEq, reduceIte, reduceCtorEq]
  · rintro ⟨i, hi, hp⟩
    refine evCode_sound Γok _ _ _ ?_
    simp (maxSteps := 4000000) only [push_cast, Int.reduceEq, Int.reduceBNe, Int.reduceBEq, Int.reduceAdd, Int.reduceSub, Int.reduceMul, Int.reduceNeg, Int.reduceLT, Int.reduceLE, Int.reduceToNat, Nat.reduceLT, Nat.reduceAdd, Nat.reduceSub, Nat.reduceMul, Nat.reduceEqDiff, Nat.reduceLeDiff, Nat.reduceBEq, reduceIte, reduceCtorEq]
    refine ⟨fun h2 => ?_, fun h2 => ?_⟩
    · have hi2 : i < l.length := by omega
      refine (region_plan rfl Γok mixed (.pure 0 (.pure 1 (.pure 2 (.pure 3 (.pure 4 (.pure 5 (.pure 6 (.pure 7 (.pure 8 .done))))))))) 26 rfl (by kernel_rfl) ?_)
      simp (maxSteps := 4000000) only [push_cast, Int.reduceEq, Int.reduceBNe, Int.reduceBEq, Int.reduceAdd, Int.reduceSub, Int.reduceMul, Int.reduceNeg, Int.reduceLT, Int.reduceLE, Int.reduceToNat, Nat.reduceLT, Nat.reduceAdd, Nat.reduceSub, Nat.reduceMul, Nat.reduceEqDiff, Nat.reduceLeDiff, Nat.reduceBEq, reduceIte, reduceCtorEq]
      have e1 : l.getD (i : Int).toNat 0 = l[i] := by simp [List.getD, hi2]
      have e2 : m.getD (i : Int).toNat 0 = m[i] := by simp [List.getD, hl ▸ hi2]
      rw [e1, e2]
      refine ⟨by omega, by omega, fun h3 => no _ rfl (by rintro rfl; exact h3 rfl), fun h3 => ⟨⟨i + 1, hi2, ?_⟩, ?_, Sub.w [] ?_⟩⟩
      · rw [List.take_succ_eq_append_getElem hi2, List.take_succ_eq_append_getElem (hl ▸ hi2), hp, h3]
      · simp only; omega
      · simp (maxSteps := 4000000) only [push_cast, Int.reduceEq, Int.reduceBNe, Int.reduceBEq, Int.reduceAdd, Int.reduceSub, Int.reduceMul, Int.reduceNeg, Int.reduceLT, Int.reduceLE, Int.reduceToNat, Nat.reduceLT, Nat.reduceAdd, Nat.reduceSub, Nat.reduceMul, Nat.reduceEqDiff, Nat.reduceLeDiff, Nat.reduceBEq, reduceIte, reduceCtorEq]
        rw [wrap64 (by omega) (by omega)]
    · have hi2 : i = l.length := by omega
      refine Fin.nil rfl (psv := .b true) rfl ⟨?_, rfl⟩
      subst hi2
      rw [List.take_length, hl, List.take_length] at hp
      simp [hp]

theorem num15_c (m : Int) : Contract Try.prog 30 nilSS [.i .i64 m] (fun sv post => sv = .i .i64 m ∧ post = nilSS) := by
  refine contract_ev Γok Try.func30 rfl rfl [] ?_
  simp (maxSteps := 4000000) only [push_cast, Int.reduceEq, Int.reduceBNe, Int.reduceBEq, Int.reduceAdd, Int.reduceSub, Int.reduceMul, Int.reduceNeg, Int.reduceLT, Int.reduceLE, Int.reduceToNat, Nat.reduceLT, Nat.reduceAdd, Nat.reduceSub, Nat.reduceMul, Nat.reduceEqDiff, Nat.reduceLeDiff, Nat.reduceBEq, reduceIte, reduceCtorEq, Try.f30]
  exact Fin.nil rfl (psv := .i .i64 _) ⟨rfl, rfl⟩ ⟨rfl, rfl⟩

theorem newSt_ok (r w : Bool) {m s : Int} (h : mayV m s = 0) : newSt r w m s = ⟨r, w, m, s, [], [], [], 0, false, false, false⟩ := if_pos h
theorem newSt_may (r w : Bool) {m s : Int} (h : mayV m s = 0) : (newSt r w m s).May := by
  obtain ⟨h1, h2, h3, h4⟩ := may_zero' h
  rw [newSt_ok r w h]
  exact ⟨h, by simp; omega, .inr rfl, by simp, by simp, .inl rfl, .inl ⟨rfl, rfl, rfl, rfl⟩⟩
theorem newSt_fits (r w : Bool) (m s : Int) : (newSt r w m s).fits := by
  unfold newSt
  split <;> exact ⟨by simp, by simp, by simp⟩

/-- A reader feeds a stream. -/
theorem reader_feeds (data : List Int) (b : Nat) : Feeds (readerM data b) (fun p => data.drop p.toNat) := by
  refine ⟨fun (p : Int) n ⟨h0, h0'⟩ h1 h2 => ?_⟩
  have hl := readV_len data p n h0 h0' (by omega)
  have e : someV (readerM data b) p n = (p + (readV data p n).length, readV data p n, 0) := by
    unfold someV
    refine (RawM.some.eq_2 (readerM data b) n p 8191).trans ?_
    rw [if_neg (by simp [readerM]), if_neg (by simp [readerM]), if_neg (by simp only [readerM]; omega)]
    rfl
  rw [e]
  refine ⟨rfl, ?_, fun h => ?_⟩
  · show readV data p n ++ data.drop (p + (readV data p n).length).toNat = data.drop p.toNat
    have : (p + (readV data p n).length).toNat = p.toNat + (readV data p n).length := by omega
    rw [this, ← List.drop_drop]
    unfold readV
    rw [List.length_take]
    by_cases hc : n.toNat ≤ (data.drop p.toNat).length
    · rw [Nat.min_eq_left hc]; exact List.take_append_drop _ _
    · rw [Nat.min_eq_right (by omega), List.take_of_length_le (by omega), List.drop_length, List.append_nil]
  · have h' : readV data p n = [] := h
    unfold readV at h'
    rw [List.take_eq_nil_iff] at h'
    rcases h' with h' | h'
    · omega
    · exact h'
theorem new_reads (data : List Int) (b : Nat) (w : Bool) {m s : Int} (h : mayV m s = 0) : Reads (readerM data b) (fun p => data.drop p.toNat) (newSt true w m s) (0 : Int) := by
  have e := newSt_ok true w h
  exact ⟨newSt_may true w h, by rw [e], by rw [e], by rw [e]; simp, by rw [e], by rw [e], by rw [e]; simp, ⟨by simp, by simp⟩⟩

/-- Where the examples lead. -/
def exSt (i : List Int) (en : Bool) : St := ⟨true, false, 3, 4, [], i, [], 1, en, false, false⟩
theorem ex1 (b : Nat) : (newSt true false 3 4).Until (readerM [97, 98, 10, 99, 100] b) (0 : Int) 10 9 = (exSt [99] false, (4 : Int), [97, 98, 10], 0) := by kernel_rfl
theorem ex2 (b : Nat) : (exSt [99] false).Until (readerM [97, 98, 10, 99, 100] b) (4 : Int) 10 1 = (exSt [] false, (4 : Int), [99], 0) := by kernel_rfl
theorem ex3 (b : Nat) : (exSt [] false).Until (readerM [97, 98, 10, 99, 100] b) (4 : Int) 10 9 = (exSt [] true, (5 : Int), [100], 0) := by kernel_rfl
theorem ex4 (b : Nat) : (exSt [] true).Until (readerM [97, 98, 10, 99, 100] b) (5 : Int) 10 9 = (exSt [] true, (5 : Int), [], 111) := by kernel_rfl
end Go.Proofs.Ytbhkpefjnomncaa
/- A Counter as a Raw: one that is written, one that is read. -/
namespace Go.Proofs.Ytbhkpefjnomncaa
open Go Go.Eng
set_option maxHeartbeats 4000000
set_option linter.unusedSimpArgs false
set_option linter.unusedVariables false
set_option maxRecDepth 100000

theorem nilOK_of {P : Program} {t : TypeId} {name : String} {f : FuncId} (h : methodB P t name f = true) (y : Value) : NilOK P name (.ifc t (.raw y)) := by
  intro E v hv
  simp only [Den] at hv
  obtain ⟨y', rfl, rfl⟩ := hv
  refine ⟨t, _, rfl, fun w => ?_⟩
  unfold methodB at h
  rw [Bool.and_eq_true] at h
  obtain ⟨h1, h2⟩ := h
  split at h1
  · rename_i i hi
    split at h1
    · rename_i m hm
      rw [Bool.and_eq_true] at h1
      obtain ⟨h3, h4⟩ := h1
      split at h4
      · rename_i g hg
        have hp : m.path.toList = [] := by simpa using h3
        rw [show P.types.size + Made.depth = (P.types.size + (Made.depth - 1)) + 1 by unfold Made.depth; omega]
        simp only [Go.nilAhead, Sem.run_bind]
        have h5 : (typeInfo t).run P w = .ok i w := by simp [typeInfo, hi]
        rw [h5]
        simp only [Result.andThen_ok, hm, Sem.run_bind, hp, Go.followBlind, Sem.run_pure, hg]
      · cases h4
    · cases h1
  · cases h1

/-- One that is written: what it has taken, in how many writes. -/
def counterS (B : List Int) (n : Int) : SS := ⟨[], [(0, 33, [.ints .u8 (.tok 1 false) B, .i .i64 0, .i .i64 0, .i .i64 n])], [1], [], 2, 1, []⟩

theorem counterWrite_c (B l : List Int) (n : Int) (h : B.length + l.length ≤ 140737488355328) : Contract Try.prog 113 (counterS B n) [.ptr 0 0, .ints .u8 .old l]
    (fun sv post => sv = .tup [.i .i64 l.length, .i .i64 0] ∧ post = counterS (B ++ l) (IntKind.i64.wrap (n + 1))) := by
  refine contract_ev Γok Try.func113 rfl rfl [] ?_
  simp (maxSteps := 4000000) only [push_cast, Int.reduceEq, Int.reduceBNe, Int.reduceBEq, Int.reduceAdd, Int.reduceSub, Int.reduceMul, Int.reduceNeg, Int.reduceLT, Int.reduceLE, Int.reduceToNat, Nat.reduceLT, Nat.reduceAdd, Nat.reduceSub, Nat.reduceMul, Nat.reduceEqDiff, Nat.reduceLeDiff, Nat.reduceBEq, reduceIte, reduceCtorEq, Try.f113, counterS]
  refine ⟨by omega, Fin.w [0, 2] (.tup [.i .i64 l.length, .i .i64 0]) _ (by simp (maxSteps := 4000000) only [push_cast, Int.reduceEq, Int.reduceBNe, Int.reduceBEq, Int.reduceAdd, Int.reduceSub, Int.reduceMul, Int.reduceNeg, Int.reduceLT, Int.reduceLE, Int.reduceToNat, Nat.reduceLT, Nat.reduceAdd, Nat.reduceSub, Nat.reduceMul, Nat.reduceEqDiff, Nat.reduceLeDiff, Nat.reduceBEq, reduceIte, reduceCtorEq, counterS]) ⟨rfl, rfl⟩⟩

theorem counterWriteM : MethodIs Try.prog 31 "Write" 113 := methodIs_of (by kernel_rfl)
def counterM (b : Nat) : RawM where
  σ := List Int × Int
  t := 31
  y := .pointer (some ⟨b, 0, none⟩)
  res s := (counterS s.1 s.2).res b
  ok _ := True
  rd s n := (s, [], 65)
  wr s l := ((s.1 ++ l, IntKind.i64.wrap (s.2 + 1)), l.length, 0)
  sk s o w := (s, 0, 66)
  rm s := 70368744177664 - s.1.length
theorem counterM_wr (b : Nat) : (counterM b).Wr := by
  refine ⟨?_, fun (s : List Int × Int) l _ h1 h2 h3 => ⟨trivial, ?_⟩, fun (s : List Int × Int) l _ h1 h2 h3 => ?_⟩
  · exact nilOK_of (f := 113) (by kernel_rfl) _
  · have e : ((counterM b).wr s l).2.2 = 0 ∧ ((counterM b).wr s l).2.1 ≤ l.length := ⟨rfl, Int.le_refl _⟩
    rw [if_pos e]
    simp only [counterM, List.length_append, Int.toNat_natCast]
    omega
  · have h1' := List.length_pos_iff.2 h1
    have h3' : l.length ≤ 70368744177664 - s.1.length := h3
    refine invC_of counterWriteM (contract_res b (by simp [counterS]) (by simp [counterS]) (counterWrite_c s.1 l s.2 (by omega)) (by simp [NNL, NN, NNT]) ?_)
    rintro sv post ⟨rfl, rfl⟩
    exact ⟨counterS (s.1 ++ l) (IntKind.i64.wrap (s.2 + 1)), [0, 1], _, by simp (maxSteps := 4000000) only [push_cast, Int.reduceEq, Int.reduceBNe, Int.reduceBEq, Int.reduceAdd, Int.reduceSub, Int.reduceMul, Int.reduceNeg, Int.reduceLT, Int.reduceLE, Int.reduceToNat, Nat.reduceLT, Nat.reduceAdd, Nat.reduceSub, Nat.reduceMul, Nat.reduceEqDiff, Nat.reduceLeDiff, Nat.reduceBEq, reduceIte, reduceCtorEq, counterS], rfl, (by simp (maxSteps := 4000000) only [push_cast, Int.reduceEq, Int.reduceBNe, Int.reduceBEq, Int.reduceAdd, Int.reduceSub, Int.reduceMul, Int.reduceNeg, Int.reduceLT, Int.reduceLE, Int.reduceToNat, Nat.reduceLT, Nat.reduceAdd, Nat.reduceSub, Nat.reduceMul, Nat.reduceEqDiff, Nat.reduceLeDiff, Nat.reduceBEq, reduceIte, reduceCtorEq] : W false (fun n => n) (.tup [.i .i64 l.length, .i .i64 0]) _), by simp [NN, NNL, NNT], rfl, rfl⟩

/-- One that is read: where it is, in how many reads. -/
def counterRS (data : List Int) (p n : Int) : SS := ⟨[], [(0, 33, [.ints .u8 .old data, .i .i64 p, .i .i64 n, .i .i64 0])], [], [], 1, 1, []⟩
theorem counterRead_c (data : List Int) (p n k : Int) (hp : 0 ≤ p) (hp2 : p ≤ data.length) (hd : data.length ≤ 140737488355328) (h1 : 0 ≤ n) (h2 : n ≤ 1048576) : Contract Try.prog 111 (counterRS data p k) [.ptr 0 0, .i .i64 n]
    (fun sv post => sv = .tup [.ints .u8 .old (readV data p n), .i .i64 0] ∧ post = counterRS data (p + (readV data p n).length) (IntKind.i64.wrap (k + 1))) := by
  refine contract_ev Γok Try.func111 rfl rfl [] ?_
  simp (maxSteps := 4000000) only [push_cast, Int.reduceEq, Int.reduceBNe, Int.reduceBEq, Int.reduceAdd, Int.reduceSub, Int.reduceMul, Int.reduceNeg, Int.reduceLT, Int.reduceLE, Int.reduceToNat, Nat.reduceLT, Nat.reduceAdd, Nat.reduceSub, Nat.reduceMul, Nat.reduceEqDiff, Nat.reduceLeDiff, Nat.reduceBEq, reduceIte, reduceCtorEq, Try.f111, counterRS]
  refine (region_plan rfl Γok mixed (.pure 0 (.pure 1 (.pure 2 (.pure 3 (.pure 4 (.pure 5 (.pure 6 (.pure 7 (.pure 8 (.pure 9 (.pure 10 (.pure 11 (.pure 12 .done))))))))))))) 50 rfl (by kernel_rfl) ?_)
  simp (maxSteps := 4000000) only [push_cast, Int.reduceEq, Int.reduceBNe, Int.reduceBEq, Int.reduceAdd, Int.reduceSub, Int.reduceMul, Int.reduceNeg, Int.reduceLT, Int.reduceLE, Int.reduceToNat, Nat.reduceLT, Nat.reduceAdd, Nat.reduceSub, Nat.reduceMul, Nat.reduceEqDiff, Nat.reduceLeDiff, Nat.reduceBEq, reduceIte, reduceCtorEq]
  refine (region_plan rfl Γok mixed (.pure 0 (.pure 1 (.pure 2 (.pure 3 (.pure 4 (.pure 5 (.pure 6 (.pure 7 (.pure 8 (.pure 9 (.pure 10 (.pure 11 (.pure 12 (.pure 13 (.pure 14 (.pure 15 (.pure 16 .done))))))))))))))))) 50 rfl (by kernel_rfl) ?_)
  simp (maxSteps := 4000000) only [push_cast, Int.reduceEq, Int.reduceBNe, Int.reduceBEq, Int.reduceAdd, Int.reduceSub, Int.reduceMul, Int.reduceNeg, Int.reduceLT, Int.reduceLE, Int.reduceToNat, Nat.reduceLT, Nat.reduceAdd, Nat.reduceSub, Nat.reduceMul, Nat.reduceEqDiff, Nat.reduceLeDiff, Nat.reduceBEq, reduceIte, reduceCtorEq]
  have e1 : IntKind.i64.wrap ((data.length : Int) - p) = data.length - p := wrap64 (by omega) (by omega)
  have e2 : minI n ((data.length : Int) - p) = ((readV data p n).length : Nat) := by
    unfold readV minI
    rw [List.length_take, List.length_drop]
    split <;> omega
  have e3 := readV_len data p n hp hp2 h1
  rw [e1, e2, wrap64 (n := p + _) (by omega) (by omega), wrap64 (n := p + _ - _) (by omega) (by omega), Int.add_sub_cancel]
  have e4 : (data.take (p + (readV data p n).length).toNat).drop p.toNat = readV data p n := by
    rw [List.drop_take, show (p + (readV data p n).length).toNat - p.toNat = (readV data p n).length by omega]
    unfold readV
    rw [List.length_take]
    by_cases hc : n.toNat ≤ (data.drop p.toNat).length
    · rw [Nat.min_eq_left hc]
    · rw [Nat.min_eq_right (by omega), List.take_length, List.take_of_length_le (by omega)]
  rw [e4]
  exact ⟨⟨by omega, by omega, by omega⟩, Fin.w [0] (.tup [.ints .u8 .old (readV data p n), .i .i64 0]) _ (by simp (maxSteps := 4000000) only [push_cast, Int.reduceEq, Int.reduceBNe, Int.reduceBEq, Int.reduceAdd, Int.reduceSub, Int.reduceMul, Int.reduceNeg, Int.reduceLT, Int.reduceLE, Int.reduceToNat, Nat.reduceLT, Nat.reduceAdd, Nat.reduceSub, Nat.reduceMul, Nat.reduceEqDiff, Nat.reduceLeDiff, Nat.reduceBEq, reduceIte, reduceCtorEq]) ⟨rfl, rfl⟩⟩

theorem counterReadM : MethodIs Try.prog 31 "Read" 111 := methodIs_of (by kernel_rfl)
def counterRM (data : List Int) (b : Nat) : RawM where
  σ := Int × Int
  t := 31
  y := .pointer (some ⟨b, 0, none⟩)
  res s := (counterRS data s.1 s.2).res b
  ok s := 0 ≤ s.1 ∧ s.1 ≤ data.length
  rd s n := ((s.1 + (readV data s.1 n).length, IntKind.i64.wrap (s.2 + 1)), readV data s.1 n, 0)
  wr s l := (s, 0, 65)
  sk s o w := (s, 0, 66)
theorem counterRM_rd (data : List Int) (b : Nat) (hd : data.length ≤ 140737488355328) : (counterRM data b).Rd := by
  refine ⟨fun (s : Int × Int) n ⟨h0, h0'⟩ h1 h2 => ?_, fun (s : Int × Int) n ⟨h0, h0'⟩ h1 h2 => ?_⟩
  · have := readV_len data s.1 n h0 h0' (by omega)
    simp only [counterRM]
    omega
  · refine invC_of counterReadM (contract_res b (by simp [counterRS]) (by simp [counterRS]) (counterRead_c data s.1 n s.2 h0 h0' hd (by omega) h2) (by simp [NNL, NN]) ?_)
    rintro sv post ⟨rfl, rfl⟩
    exact ⟨counterRS data (s.1 + (readV data s.1 n).length) (IntKind.i64.wrap (s.2 + 1)), [0], _, by simp (maxSteps := 4000000) only [push_cast, Int.reduceEq, Int.reduceBNe, Int.reduceBEq, Int.reduceAdd, Int.reduceSub, Int.reduceMul, Int.reduceNeg, Int.reduceLT, Int.reduceLE, Int.reduceToNat, Nat.reduceLT, Nat.reduceAdd, Nat.reduceSub, Nat.reduceMul, Nat.reduceEqDiff, Nat.reduceLeDiff, Nat.reduceBEq, reduceIte, reduceCtorEq, counterRS], rfl, (by simp (maxSteps := 4000000) only [push_cast, Int.reduceEq, Int.reduceBNe, Int.reduceBEq, Int.reduceAdd, Int.reduceSub, Int.reduceMul, Int.reduceNeg, Int.reduceLT, Int.reduceLE, Int.reduceToNat, Nat.reduceLT, Nat.reduceAdd, Nat.reduceSub, Nat.reduceMul, Nat.reduceEqDiff, Nat.reduceLeDiff, Nat.reduceBEq, reduceIte, reduceCtorEq] : W false (fun n => n) (.tup [.ints .u8 .old (readV data s.1 n), .i .i64 0]) _), by simp [NN, NNL, NNT], rfl, rfl⟩
end Go.Proofs.Ytbhkpefjnomncaa
/- Another mode and size. -/
namespace Go.Proofs.Ytbhkpefjnomncaa
open Go Go.Eng
set_option maxHeartbeats 4000000
set_option linter.unusedSimpArgs false
set_option linter.unusedVariables false
set_option maxRecDepth 100000

theorem clone1_c (l : List Int) (hl : l.length ≤ 140737488355328) : Contract Try.prog 69 nilSS [.ints .u8 .old l] (fun sv post => sv = .ints .u8 (.tok 0 true) l ∧ post = ⟨[], [], [0], [], 1, 0, []⟩) := by
  refine contract_ev Γok Try.func69 rfl rfl [] ?_
  simp (maxSteps := 4000000) only [push_cast, Int.reduceEq, Int.reduceBNe, Int.reduceBEq, Int.reduceAdd, Int.reduceSub, Int.reduceMul, Int.reduceNeg, Int.reduceLT, Int.reduceLE, Int.reduceToNat, Nat.reduceLT, Nat.reduceAdd, Nat.reduceSub, Nat.reduceMul, Nat.reduceEqDiff, Nat.reduceLeDiff, Nat.reduceBEq, reduceIte, reduceCtorEq, Try.f69]
  exact ⟨by omega, Fin.w [1] (.ints .u8 (.tok 0 true) l) _ (by simp (maxSteps := 4000000) only [push_cast, Int.reduceEq, Int.reduceBNe, Int.reduceBEq, Int.reduceAdd, Int.reduceSub, Int.reduceMul, Int.reduceNeg, Int.reduceLT, Int.reduceLE, Int.reduceToNat, Nat.reduceLT, Nat.reduceAdd, Nat.reduceSub, Nat.reduceMul, Nat.reduceEqDiff, Nat.reduceLeDiff, Nat.reduceBEq, reduceIte, reduceCtorEq]) ⟨rfl, rfl⟩⟩

def isC (x : St) (sv : SV) (post : SS) : Prop := sv = x.sv .new ∧ post = nilSS
set_option maxHeartbeats 2000000 in
theorem cloneB_c (x : St) (hx : x.fits) : Contract Try.prog 47 nilSS [x.sv .old] (isC x) := by
  have hx' := hx
  obtain ⟨ho, hi, hk⟩ := hx'
  refine contract_ev Γok Try.func47 rfl rfl [] ?_
  simp (maxSteps := 4000000) only [push_cast, Int.reduceEq, Int.reduceBNe, Int.reduceBEq, Int.reduceAdd, Int.reduceSub, Int.reduceMul, Int.reduceNeg, Int.reduceLT, Int.reduceLE, Int.reduceToNat, Nat.reduceLT, Nat.reduceAdd, Nat.reduceSub, Nat.reduceMul, Nat.reduceEqDiff, Nat.reduceLeDiff, Nat.reduceBEq, reduceIte, reduceCtorEq, Try.f47, rg11, St.sv, St.cells]
  refine (region_plan rfl Γok mixed (.pure 0 (.pure 1 (.pure 2 (.pure 4 (.pure 5 (.pure 6 (.pure 8 (.pure 9 (.pure 10 (.eff (.cons 3 [6, 10] (.pure 12 (.eff (.cons 7 [10] (.eff (.cons 11 [] (.eff (.cons 13 [] (.pure 14 (.eff (.cons 15 [] (.pure 16 (.eff (.cons 17 [] .done .nil))) .nil))) .nil)) .nil)) .nil))) .nil))))))))))) 20 rfl (by kernel_rfl) ?_)
  simp (maxSteps := 4000000) only [push_cast, Int.reduceEq, Int.reduceBNe, Int.reduceBEq, Int.reduceAdd, Int.reduceSub, Int.reduceMul, Int.reduceNeg, Int.reduceLT, Int.reduceLE, Int.reduceToNat, Nat.reduceLT, Nat.reduceAdd, Nat.reduceSub, Nat.reduceMul, Nat.reduceEqDiff, Nat.reduceLeDiff, Nat.reduceBEq, reduceIte, reduceCtorEq]
  refine call_w (clone1_c x.o ho) [] (by simp (maxSteps := 4000000) only [push_cast, Int.reduceEq, Int.reduceBNe, Int.reduceBEq, Int.reduceAdd, Int.reduceSub, Int.reduceMul, Int.reduceNeg, Int.reduceLT, Int.reduceLE, Int.reduceToNat, Nat.reduceLT, Nat.reduceAdd, Nat.reduceSub, Nat.reduceMul, Nat.reduceEqDiff, Nat.reduceLeDiff, Nat.reduceBEq, reduceIte, reduceCtorEq]) ?_
  rintro sv post ⟨rfl, rfl⟩
  simp (maxSteps := 4000000) only [push_cast, Int.reduceEq, Int.reduceBNe, Int.reduceBEq, Int.reduceAdd, Int.reduceSub, Int.reduceMul, Int.reduceNeg, Int.reduceLT, Int.reduceLE, Int.reduceToNat, Nat.reduceLT, Nat.reduceAdd, Nat.reduceSub, Nat.reduceMul, Nat.reduceEqDiff, Nat.reduceLeDiff, Nat.reduceBEq, reduceIte, reduceCtorEq]
  refine call_w (clone1_c x.i hi) [] (by simp (maxSteps := 4000000) only [push_cast, Int.reduceEq, Int.reduceBNe, Int.reduceBEq, Int.reduceAdd, Int.reduceSub, Int.reduceMul, Int.reduceNeg, Int.reduceLT, Int.reduceLE, Int.reduceToNat, Nat.reduceLT, Nat.reduceAdd, Nat.reduceSub, Nat.reduceMul, Nat.reduceEqDiff, Nat.reduceLeDiff, Nat.reduceBEq, reduceIte, reduceCtorEq]) ?_
  rintro sv post ⟨rfl, rfl⟩
  simp (maxSteps := 4000000) only [push_cast, Int.reduceEq, Int.reduceBNe, Int.reduceBEq, Int.reduceAdd, Int.reduceSub, Int.reduceMul, Int.reduceNeg, Int.reduceLT, Int.reduceLE, Int.reduceToNat, Nat.reduceLT, Nat.reduceAdd, Nat.reduceSub, Nat.reduceMul, Nat.reduceEqDiff, Nat.reduceLeDiff, Nat.reduceBEq, reduceIte, reduceCtorEq]
  refine call_w (clone1_c x.k hk) [] (by simp (maxSteps := 4000000) only [push_cast, Int.reduceEq, Int.reduceBNe, Int.reduceBEq, Int.reduceAdd, Int.reduceSub, Int.reduceMul, Int.reduceNeg, Int.reduceLT, Int.reduceLE, Int.reduceToNat, Nat.reduceLT, Nat.reduceAdd, Nat.reduceSub, Nat.reduceMul, Nat.reduceEqDiff, Nat.reduceLeDiff, Nat.reduceBEq, reduceIte, reduceCtorEq]) ?_
  rintro sv post ⟨rfl, rfl⟩
  simp (maxSteps := 4000000) only [push_cast, Int.reduceEq, Int.reduceBNe, Int.reduceBEq, Int.reduceAdd, Int.reduceSub, Int.reduceMul, Int.reduceNeg, Int.reduceLT, Int.reduceLE, Int.reduceToNat, Nat.reduceLT, Nat.reduceAdd, Nat.reduceSub, Nat.reduceMul, Nat.reduceEqDiff, Nat.reduceLeDiff, Nat.reduceBEq, reduceIte, reduceCtorEq, rg11]
  exact Fin.nil rfl (psv := x.sv .new) (by simp (maxSteps := 4000000) only [push_cast, Int.reduceEq, Int.reduceBNe, Int.reduceBEq, Int.reduceAdd, Int.reduceSub, Int.reduceMul, Int.reduceNeg, Int.reduceLT, Int.reduceLE, Int.reduceToNat, Nat.reduceLT, Nat.reduceAdd, Nat.reduceSub, Nat.reduceMul, Nat.reduceEqDiff, Nat.reduceLeDiff, Nat.reduceBEq, reduceIte, reduceCtorEq, St.sv, St.cells]) ⟨rfl, rfl⟩

/-- Another mode and size. -/
def St.SetB (M : RawM) (x : St) (g : M.σ) (m s : Int) : St × M.σ × Int :=
  if x.bErr ≠ 0 then (x, g, x.bErr)
  else if mayV m s ≠ 0 then (x, g, mayV m s)
  else if 0 < x.o.length then
    (if (x.Flush M g).2.2 ≠ 0 then x.Flush M g else ({ (x.Flush M g).1 with d := x.d, m := m, s := s }, (x.Flush M g).2.1, 0))
  else ({ x with m := m, s := s }, g, 0)

set_option maxHeartbeats 2000000 in
theorem SetB_c (M : RawM) (hW : M.Wr) (x : St) (g : M.σ) (hg : M.ok g) (hx : x.fits) (hr : x.o.length ≤ M.rm g) (m s : Int) : Contract Try.prog 14 (preR (M.res g)) [x.sv .old, M.v, .i .i64 m, .i .i64 s] (isS M (x.SetB M g m s)) := by
  refine contract_ev Γok Try.func14 rfl rfl [] ?_
  simp (maxSteps := 4000000) only [push_cast, Int.reduceEq, Int.reduceBNe, Int.reduceBEq, Int.reduceAdd, Int.reduceSub, Int.reduceMul, Int.reduceNeg, Int.reduceLT, Int.reduceLE, Int.reduceToNat, Nat.reduceLT, Nat.reduceAdd, Nat.reduceSub, Nat.reduceMul, Nat.reduceEqDiff, Nat.reduceLeDiff, Nat.reduceBEq, reduceIte, reduceCtorEq, Try.f14, RawM.v, St.sv, St.cells, rg11]
  refine call_w (checkR_c x hx) [] (by simp (maxSteps := 4000000) only [push_cast, Int.reduceEq, Int.reduceBNe, Int.reduceBEq, Int.reduceAdd, Int.reduceSub, Int.reduceMul, Int.reduceNeg, Int.reduceLT, Int.reduceLE, Int.reduceToNat, Nat.reduceLT, Nat.reduceAdd, Nat.reduceSub, Nat.reduceMul, Nat.reduceEqDiff, Nat.reduceLeDiff, Nat.reduceBEq, reduceIte, reduceCtorEq, St.sv, St.cells]) ?_
  rintro sv post ⟨rfl, rfl⟩
  simp (maxSteps := 4000000) only [push_cast, Int.reduceEq, Int.reduceBNe, Int.reduceBEq, Int.reduceAdd, Int.reduceSub, Int.reduceMul, Int.reduceNeg, Int.reduceLT, Int.reduceLE, Int.reduceToNat, Nat.reduceLT, Nat.reduceAdd, Nat.reduceSub, Nat.reduceMul, Nat.reduceEqDiff, Nat.reduceLeDiff, Nat.reduceBEq, reduceIte, reduceCtorEq]
  unfold St.SetB St.bErr
  refine ⟨fun h => ?_, fun h => ?_⟩
  · have hm : ¬ x.May := fun hm => h (by rw [if_pos hm])
    simp only [if_neg hm]
    refine call_w (cloneB_c x hx) [] (by simp (maxSteps := 4000000) only [push_cast, Int.reduceEq, Int.reduceBNe, Int.reduceBEq, Int.reduceAdd, Int.reduceSub, Int.reduceMul, Int.reduceNeg, Int.reduceLT, Int.reduceLE, Int.reduceToNat, Nat.reduceLT, Nat.reduceAdd, Nat.reduceSub, Nat.reduceMul, Nat.reduceEqDiff, Nat.reduceLeDiff, Nat.reduceBEq, reduceIte, reduceCtorEq, St.sv, St.cells]) ?_
    rintro sv post ⟨rfl, rfl⟩
    simp (maxSteps := 4000000) only [push_cast, Int.reduceEq, Int.reduceBNe, Int.reduceBEq, Int.reduceAdd, Int.reduceSub, Int.reduceMul, Int.reduceNeg, Int.reduceLT, Int.reduceLE, Int.reduceToNat, Nat.reduceLT, Nat.reduceAdd, Nat.reduceSub, Nat.reduceMul, Nat.reduceEqDiff, Nat.reduceLeDiff, Nat.reduceBEq, reduceIte, reduceCtorEq, St.sv, St.cells, rg11]
    exact Fin.w [0] (.tup [x.sv .new, .i .i64 51]) _ (by simp (maxSteps := 4000000) only [push_cast, Int.reduceEq, Int.reduceBNe, Int.reduceBEq, Int.reduceAdd, Int.reduceSub, Int.reduceMul, Int.reduceNeg, Int.reduceLT, Int.reduceLE, Int.reduceToNat, Nat.reduceLT, Nat.reduceAdd, Nat.reduceSub, Nat.reduceMul, Nat.reduceEqDiff, Nat.reduceLeDiff, Nat.reduceBEq, reduceIte, reduceCtorEq, St.sv, St.cells]) ⟨rfl, rfl⟩
  have hm : x.May := by
    by_cases hm : x.May
    · exact hm
    · rw [if_neg hm] at h; omega
  simp only [if_pos hm]
  refine ⟨fun h1 => ?_, fun h1 => ?_⟩
  · simp only [if_pos h1]
    refine call_w (cloneB_c x hx) [] (by simp (maxSteps := 4000000) only [push_cast, Int.reduceEq, Int.reduceBNe, Int.reduceBEq, Int.reduceAdd, Int.reduceSub, Int.reduceMul, Int.reduceNeg, Int.reduceLT, Int.reduceLE, Int.reduceToNat, Nat.reduceLT, Nat.reduceAdd, Nat.reduceSub, Nat.reduceMul, Nat.reduceEqDiff, Nat.reduceLeDiff, Nat.reduceBEq, reduceIte, reduceCtorEq, St.sv, St.cells]) ?_
    rintro sv post ⟨rfl, rfl⟩
    simp (maxSteps := 4000000) only [push_cast, Int.reduceEq, Int.reduceBNe, Int.reduceBEq, Int.reduceAdd, Int.reduceSub, Int.reduceMul, Int.reduceNeg, Int.reduceLT, Int.reduceLE, Int.reduceToNat, Nat.reduceLT, Nat.reduceAdd, Nat.reduceSub, Nat.reduceMul, Nat.reduceEqDiff, Nat.reduceLeDiff, Nat.reduceBEq, reduceIte, reduceCtorEq, St.sv, St.cells, rg11]
    exact Fin.w [0] (.tup [x.sv .new, .i .i64 113]) _ (by simp (maxSteps := 4000000) only [push_cast, Int.reduceEq, Int.reduceBNe, Int.reduceBEq, Int.reduceAdd, Int.reduceSub, Int.reduceMul, Int.reduceNeg, Int.reduceLT, Int.reduceLE, Int.reduceToNat, Nat.reduceLT, Nat.reduceAdd, Nat.reduceSub, Nat.reduceMul, Nat.reduceEqDiff, Nat.reduceLeDiff, Nat.reduceBEq, reduceIte, reduceCtorEq, St.sv, St.cells]) ⟨rfl, rfl⟩
  have hcl : ¬ x.cl = true := by simp [h1]
  simp only [if_neg hcl, ne_eq, not_true_eq_false, if_false]
  refine call_w (may_c m s) [] (by simp (maxSteps := 4000000) only [push_cast, Int.reduceEq, Int.reduceBNe, Int.reduceBEq, Int.reduceAdd, Int.reduceSub, Int.reduceMul, Int.reduceNeg, Int.reduceLT, Int.reduceLE, Int.reduceToNat, Nat.reduceLT, Nat.reduceAdd, Nat.reduceSub, Nat.reduceMul, Nat.reduceEqDiff, Nat.reduceLeDiff, Nat.reduceBEq, reduceIte, reduceCtorEq]) ?_
  rintro sv post ⟨rfl, rfl⟩
  simp (maxSteps := 4000000) only [push_cast, Int.reduceEq, Int.reduceBNe, Int.reduceBEq, Int.reduceAdd, Int.reduceSub, Int.reduceMul, Int.reduceNeg, Int.reduceLT, Int.reduceLE, Int.reduceToNat, Nat.reduceLT, Nat.reduceAdd, Nat.reduceSub, Nat.reduceMul, Nat.reduceEqDiff, Nat.reduceLeDiff, Nat.reduceBEq, reduceIte, reduceCtorEq]
  refine ⟨fun h2 => ?_, fun h2 => ?_⟩
  · simp only [if_pos h2]
    refine call_w (cloneB_c x hx) [] (by simp (maxSteps := 4000000) only [push_cast, Int.reduceEq, Int.reduceBNe, Int.reduceBEq, Int.reduceAdd, Int.reduceSub, Int.reduceMul, Int.reduceNeg, Int.reduceLT, Int.reduceLE, Int.reduceToNat, Nat.reduceLT, Nat.reduceAdd, Nat.reduceSub, Nat.reduceMul, Nat.reduceEqDiff, Nat.reduceLeDiff, Nat.reduceBEq, reduceIte, reduceCtorEq, St.sv, St.cells]) ?_
    rintro sv post ⟨rfl, rfl⟩
    simp (maxSteps := 4000000) only [push_cast, Int.reduceEq, Int.reduceBNe, Int.reduceBEq, Int.reduceAdd, Int.reduceSub, Int.reduceMul, Int.reduceNeg, Int.reduceLT, Int.reduceLE, Int.reduceToNat, Nat.reduceLT, Nat.reduceAdd, Nat.reduceSub, Nat.reduceMul, Nat.reduceEqDiff, Nat.reduceLeDiff, Nat.reduceBEq, reduceIte, reduceCtorEq, St.sv, St.cells, rg11]
    exact Fin.w [0] (.tup [x.sv .new, .i .i64 (mayV m s)]) _ (by simp (maxSteps := 4000000) only [push_cast, Int.reduceEq, Int.reduceBNe, Int.reduceBEq, Int.reduceAdd, Int.reduceSub, Int.reduceMul, Int.reduceNeg, Int.reduceLT, Int.reduceLE, Int.reduceToNat, Nat.reduceLT, Nat.reduceAdd, Nat.reduceSub, Nat.reduceMul, Nat.reduceEqDiff, Nat.reduceLeDiff, Nat.reduceBEq, reduceIte, reduceCtorEq, St.sv, St.cells]) ⟨rfl, rfl⟩
  rw [if_neg (by omega)]
  refine (region_plan rfl Γok mixed (.pure 0 (.pure 2 (.pure 3 (.eff (.cons 1 [3] (.eff (.cons 4 [0, 3] (.eff (.cons 5 [3] (.pure 6 .done) .nil)) .nil)) (.cons 4 [0, 3] (.eff (.cons 1 [3] (.eff (.cons 5 [3] (.pure 6 .done) .nil)) .nil)) .nil)))))) 65 rfl (by kernel_rfl) ?_)
  simp (maxSteps := 4000000) only [push_cast, Int.reduceEq, Int.reduceBNe, Int.reduceBEq, Int.reduceAdd, Int.reduceSub, Int.reduceMul, Int.reduceNeg, Int.reduceLT, Int.reduceLE, Int.reduceToNat, Nat.reduceLT, Nat.reduceAdd, Nat.reduceSub, Nat.reduceMul, Nat.reduceEqDiff, Nat.reduceLeDiff, Nat.reduceBEq, reduceIte, reduceCtorEq, rg11]
  refine ⟨?_, ?_⟩
  all_goals
    refine call_w (cloneB_c x hx) [] (by simp (maxSteps := 4000000) only [push_cast, Int.reduceEq, Int.reduceBNe, Int.reduceBEq, Int.reduceAdd, Int.reduceSub, Int.reduceMul, Int.reduceNeg, Int.reduceLT, Int.reduceLE, Int.reduceToNat, Nat.reduceLT, Nat.reduceAdd, Nat.reduceSub, Nat.reduceMul, Nat.reduceEqDiff, Nat.reduceLeDiff, Nat.reduceBEq, reduceIte, reduceCtorEq, St.sv, St.cells]) ?_
    rintro sv post ⟨rfl, rfl⟩
    simp (maxSteps := 4000000) only [push_cast, Int.reduceEq, Int.reduceBNe, Int.reduceBEq, Int.reduceAdd, Int.reduceSub, Int.reduceMul, Int.reduceNeg, Int.reduceLT, Int.reduceLE, Int.reduceToNat, Nat.reduceLT, Nat.reduceAdd, Nat.reduceSub, Nat.reduceMul, Nat.reduceEqDiff, Nat.reduceLeDiff, Nat.reduceBEq, reduceIte, reduceCtorEq, St.sv, St.cells, rg11]
    refine ⟨fun h3 => ?_, fun h3 => ?_⟩
    · rw [if_pos (by omega)]
      refine call_w (FlushR_c M hW x g hg hx hr) [0] (by simp (maxSteps := 4000000) only [push_cast, Int.reduceEq, Int.reduceBNe, Int.reduceBEq, Int.reduceAdd, Int.reduceSub, Int.reduceMul, Int.reduceNeg, Int.reduceLT, Int.reduceLE, Int.reduceToNat, Nat.reduceLT, Nat.reduceAdd, Nat.reduceSub, Nat.reduceMul, Nat.reduceEqDiff, Nat.reduceLeDiff, Nat.reduceBEq, reduceIte, reduceCtorEq, St.sv, St.cells, RawM.v]) ?_
      rintro sv post ⟨rfl, rfl⟩
      simp (maxSteps := 4000000) only [push_cast, Int.reduceEq, Int.reduceBNe, Int.reduceBEq, Int.reduceAdd, Int.reduceSub, Int.reduceMul, Int.reduceNeg, Int.reduceLT, Int.reduceLE, Int.reduceToNat, Nat.reduceLT, Nat.reduceAdd, Nat.reduceSub, Nat.reduceMul, Nat.reduceEqDiff, Nat.reduceLeDiff, Nat.reduceBEq, reduceIte, reduceCtorEq, St.sv, St.cells, rg11]
      refine ⟨fun h4 => ?_, fun h4 => ?_⟩
      · rw [if_pos h4]
        exact Fin.w [0] (.tup [(x.Flush M g).1.sv .new, .i .i64 _]) _ (by simp (maxSteps := 4000000) only [push_cast, Int.reduceEq, Int.reduceBNe, Int.reduceBEq, Int.reduceAdd, Int.reduceSub, Int.reduceMul, Int.reduceNeg, Int.reduceLT, Int.reduceLE, Int.reduceToNat, Nat.reduceLT, Nat.reduceAdd, Nat.reduceSub, Nat.reduceMul, Nat.reduceEqDiff, Nat.reduceLeDiff, Nat.reduceBEq, reduceIte, reduceCtorEq, St.sv, St.cells]) ⟨rfl, rfl⟩
      · rw [if_neg (by omega)]
        exact Fin.w [0] (.tup [({ (x.Flush M g).1 with d := x.d, m := m, s := s } : St).sv .new, .i .i64 0]) _ (by simp (maxSteps := 4000000) only [push_cast, Int.reduceEq, Int.reduceBNe, Int.reduceBEq, Int.reduceAdd, Int.reduceSub, Int.reduceMul, Int.reduceNeg, Int.reduceLT, Int.reduceLE, Int.reduceToNat, Nat.reduceLT, Nat.reduceAdd, Nat.reduceSub, Nat.reduceMul, Nat.reduceEqDiff, Nat.reduceLeDiff, Nat.reduceBEq, reduceIte, reduceCtorEq, St.sv, St.cells]) ⟨rfl, rfl⟩
    · rw [if_neg (by omega)]
      exact Fin.w [0] (.tup [({ x with m := m, s := s } : St).sv .new, .i .i64 0]) _ (by simp (maxSteps := 4000000) only [push_cast, Int.reduceEq, Int.reduceBNe, Int.reduceBEq, Int.reduceAdd, Int.reduceSub, Int.reduceMul, Int.reduceNeg, Int.reduceLT, Int.reduceLE, Int.reduceToNat, Nat.reduceLT, Nat.reduceAdd, Nat.reduceSub, Nat.reduceMul, Nat.reduceEqDiff, Nat.reduceLeDiff, Nat.reduceBEq, reduceIte, reduceCtorEq, St.sv, St.cells]) ⟨rfl, rfl⟩
end Go.Proofs.Ytbhkpefjnomncaa
/- What is put onto a stream over a Counter: it is there, or held. -/
namespace Go.Proofs.Ytbhkpefjnomncaa
open Go Go.Eng
set_option maxHeartbeats 4000000
set_option linter.unusedSimpArgs false
set_option linter.unusedVariables false

/-- A stream that writes onto a counter: what has been put is there, or held. -/
structure Holds (x : St) (g : List Int × Int) (all : List Int) : Prop where
  may : x.May
  w : x.w = true
  cl : x.cl = false
  d : x.d ≠ 1
  i : x.i = []
  k : x.k = []
  eq : g.1 ++ x.o = all

theorem counter_putV (b : Nat) (g : List Int × Int) (l : List Int) : putV (counterM b) g l = ((g.1 ++ l, if l = [] then g.2 else IntKind.i64.wrap (g.2 + 1)), [], 0) := by
  unfold putV
  obtain ⟨F, hF⟩ : ∃ F, 8193 * (l.length + 1) = F + 1 + 1 := ⟨8193 * l.length + 8191, by omega⟩
  rw [hF]
  simp only [RawM.putGo]
  by_cases h : l = []
  · rw [if_pos h, if_pos h, h, List.append_nil]
    rfl
  · have hp := List.length_pos_iff.2 h
    have e : (counterM b).wr g l = ((g.1 ++ l, IntKind.i64.wrap (g.2 + 1)), (l.length : Int), 0) := rfl
    rw [if_neg h, if_neg h, e]
    dsimp only
    rw [if_neg (by omega), if_neg (by simp), if_neg (by omega), Int.toNat_natCast, List.drop_length, if_pos rfl, if_neg h]
    rfl

theorem Holds.bErr {x : St} {g : List Int × Int} {all : List Int} (h : Holds x g all) : x.bErr = 0 := by
  unfold St.bErr; rw [if_pos h.may, if_neg (by simp [h.cl])]
theorem Holds.fits {x : St} {g : List Int × Int} {all : List Int} (h : Holds x g all) : x.fits := by
  obtain ⟨b1, b2, b3, b4⟩ := May.bd h.may
  exact ⟨by omega, by omega, by omega⟩
theorem Holds.rm {x : St} {g : List Int × Int} {all : List Int} (b : Nat) (h : Holds x g all) (hl : all.length ≤ 1048576) : x.o.length + 1 ≤ (counterM b).rm g := by
  have e := congrArg List.length h.eq
  simp only [List.length_append] at e
  show x.o.length + 1 ≤ 70368744177664 - g.1.length
  omega

theorem hold_put (b : Nat) {x : St} {g : List Int × Int} {all : List Int} (h : Holds x g all) (c : Int) :
    ∃ x' g', x.Put (counterM b) g c = (x', g', 0) ∧ Holds x' g' (all ++ [c]) ∧ x'.m = x.m ∧ x'.s = x.s := by
  have hb := h.bErr
  obtain ⟨r, w, m, s, o, i, k, d, en, bad, cl⟩ := x
  obtain ⟨h1, h2, h3, h4, h5, h6, h7⟩ := h
  simp only at h2 h3 h4 h5 h6 h7
  subst h2 h3 h5 h6
  obtain ⟨m1, m2, m3, m4, m5, m6, m7⟩ := h1
  simp only at m1 m2 m3
  obtain ⟨a1, a2, a3, a4⟩ := may_zero' m1
  have mk : ∀ (o' : List Int), o'.length ≤ s → (¬ m = 1 ∨ o'.length = 0) → St.May ⟨r, true, m, s, o', [], [], 2, en, bad, false⟩ := fun o' q1 q2 =>
    ⟨m1, q1, q2, by simp, by simp, .inl rfl, .inr (.inr ⟨rfl, rfl, rfl, rfl⟩)⟩
  have hwe : St.wErr ⟨r, true, m, s, o, [], [], d, en, bad, false⟩ = 0 := by simp [St.wErr, h4]
  have hnote : ∀ (y : St), y.noted 0 = y := fun y => by simp [St.noted]
  have del : ∀ (o' : List Int) (g' : List Int × Int), St.deliver (counterM b) ⟨r, true, m, s, o', [], [], 2, en, bad, false⟩ g' = (⟨r, true, m, s, [], [], [], 2, en, bad, false⟩, (g'.1 ++ o', if o' = [] then g'.2 else IntKind.i64.wrap (g'.2 + 1)), 0) := fun o' g' => by
    unfold St.deliver
    dsimp only
    rw [counter_putV, hnote]
    rfl
  have put1 : ∀ (o' : List Int) (g' : List Int × Int), o'.length ≤ s → ¬ m = 1 → g'.1 ++ o' = all ++ [c] →
      ∃ x' g'', St.put1 (counterM b) ⟨r, true, m, s, o', [], [], 2, en, bad, false⟩ g' c = (x', g'', 0) ∧ Holds x' g'' (all ++ [c]) ∧ x'.m = m ∧ x'.s = s := fun o' g' q1 q2 q3 => by
    unfold St.put1
    dsimp only
    split
    · rw [del]
      exact ⟨_, _, rfl, ⟨mk [] (by simp; omega) (.inr rfl), rfl, rfl, by simp, rfl, rfl, by rw [← q3]; simp⟩, rfl, rfl⟩
    · exact ⟨_, _, rfl, ⟨mk o' q1 (.inl q2), rfl, rfl, by simp, rfl, rfl, q3⟩, rfl, rfl⟩
  unfold St.Put St.put
  rw [if_neg (by rw [hb]; simp), if_neg (by rw [hwe]; simp)]
  dsimp only
  split
  · rename_i hm
    have ho : o = [] := by
      have : o.length = 0 := by omega
      simpa using this
    subst ho
    rw [counter_putV, hnote]
    refine ⟨_, _, rfl, ⟨mk [] (by simp; omega) (.inr rfl), rfl, rfl, by simp, rfl, rfl, ?_⟩, rfl, rfl⟩
    rw [← h7]; simp
  · rename_i hm
    split
    · rw [del]
      dsimp only
      obtain ⟨x', g'', e1, e2⟩ := put1 ([] ++ [c]) (g.1 ++ o, if o = [] then g.2 else IntKind.i64.wrap (g.2 + 1)) (by simp; omega) hm (by rw [← h7]; simp)
      exact ⟨x', g'', (if_neg (fun h => h rfl)).trans e1, e2⟩
    · rename_i hs
      exact put1 (o ++ [c]) g (by simp; omega) hm (by rw [← h7]; simp)

theorem hold_set (b : Nat) {x : St} {g : List Int × Int} {all : List Int} (h : Holds x g all) (m s : Int) (hm : mayV m s = 0) :
    ∃ x' g', x.SetB (counterM b) g m s = (x', g', 0) ∧ Holds x' g' all ∧ x'.m = m ∧ x'.s = s ∧ x'.o = [] := by
  have hb := h.bErr
  obtain ⟨r, w, m0, s0, o, i, k, d, en, bad, cl⟩ := x
  obtain ⟨h1, h2, h3, h4, h5, h6, h7⟩ := h
  simp only at h2 h3 h4 h5 h6 h7
  subst h2 h3 h5 h6
  obtain ⟨m1, m2, m3, m4, m5, m6, m7⟩ := h1
  simp only at m1 m2 m3 m7
  obtain ⟨a1, a2, a3, a4⟩ := may_zero' hm
  have hnote : ∀ (y : St), y.noted 0 = y := fun y => by simp [St.noted]
  have hd : d = 0 ∨ d = 2 := by omega
  have mk : St.May ⟨r, true, m, s, [], [], [], d, en, bad, false⟩ := by
    refine ⟨hm, by simp; omega, .inr rfl, by simp, by simp, .inl rfl, ?_⟩
    rcases hd with rfl | rfl
    · exact .inl ⟨rfl, rfl, rfl, rfl⟩
    · exact .inr (.inr ⟨rfl, rfl, rfl, rfl⟩)
  unfold St.SetB
  rw [if_neg (by rw [hb]; simp), if_neg (by rw [hm]; simp)]
  dsimp only
  by_cases ho : 0 < o.length
  · rw [if_pos ho]
    have hd2 : d = 2 := by omega
    subst hd2
    have e : St.Flush (counterM b) ⟨r, true, m0, s0, o, [], [], 2, en, bad, false⟩ g = (⟨r, true, m0, s0, [], [], [], 0, en, bad, false⟩, (g.1 ++ o, if o = [] then g.2 else IntKind.i64.wrap (g.2 + 1)), 0) := by
      unfold St.Flush St.deliver
      rw [if_neg (by rw [hb]; simp)]
      dsimp only
      rw [counter_putV, hnote]
      rfl
    rw [e]
    dsimp only
    exact ⟨_, _, if_neg (fun h => h rfl), ⟨mk, rfl, rfl, by simp, rfl, rfl, by rw [← h7]; simp⟩, rfl, rfl, rfl⟩
  · rw [if_neg ho]
    have ho' : o = [] := by
      have : o.length = 0 := by omega
      simpa using this
    subst ho'
    exact ⟨_, _, rfl, ⟨mk, rfl, rfl, h4, rfl, rfl, h7⟩, rfl, rfl, rfl⟩

theorem hold_close (b : Nat) {x : St} {g : List Int × Int} {all : List Int} (h : Holds x g all) :
    ∃ x' n, x.Close (counterM b) g = (x', (all, n), 0) := by
  have hb := h.bErr
  unfold St.Close St.deliver
  rw [if_neg (by rw [hb]; simp)]
  dsimp only
  rw [counter_putV, h.eq]
  exact ⟨_, _, rfl⟩

theorem new_holds {m s : Int} (h : mayV m s = 0) : Holds (newSt false true m s) ([], 0) [] := by
  have e := newSt_ok false true h
  exact ⟨newSt_may false true h, by rw [e], by rw [e], by rw [e]; simp, by rw [e], by rw [e], by rw [e]; rfl⟩
end Go.Proofs.Ytbhkpefjnomncaa
/- The writes that a text makes. -/
namespace Go.Proofs.Ytbhkpefjnomncaa
open Go Go.Eng
set_option maxHeartbeats 4000000
set_option linter.unusedSimpArgs false
set_option linter.unusedVariables false
set_option maxRecDepth 100000

/-- The writes of a text, n bytes being held. -/
def wr (m s : Int) : List Int → Int → List Int
  | [], n => if 0 < n then [n] else []
  | c :: r, n => if m = 1 ∨ n + 1 = s ∨ (m = 2 ∧ c = 10) then (n + 1) :: wr m s r 0 else wr m s r (n + 1)

def writesV (m s : Int) (t : List Int) : List Int := if mayV m s = 0 ∧ t.length ≤ 1048576 then wr m s t 0 else []
def writesE (m s : Int) (t : List Int) : Int := if mayV m s = 0 then (if t.length ≤ 1048576 then 0 else 5) else mayV m s

theorem wr_drop (m s : Int) (t : List Int) (i : Nat) (h : i < t.length) (n : Int) :
    wr m s (t.drop i) n = if m = 1 ∨ n + 1 = s ∨ (m = 2 ∧ t.getD i 0 = 10) then (n + 1) :: wr m s (t.drop (i + 1)) 0 else wr m s (t.drop (i + 1)) (n + 1) := by
  rw [List.drop_eq_getElem_cons h, wr]
  have : t.getD i 0 = t[i] := by simp [List.getD, h]
  rw [this]


end Go.Proofs.Ytbhkpefjnomncaa
/- bufmode.Writes: a range over the cuts. -/
namespace Go.Proofs.Ytbhkpefjnomncaa
open Go Go.Eng
set_option maxHeartbeats 4000000
set_option linter.unusedSimpArgs false
set_option linter.unusedVariables false
set_option maxRecDepth 100000

theorem cuts_c (m s : Int) (t : List Int) : Contract Try.prog 50 nilSS [.i .i64 m, .i .i64 s, .ints .u8 .old t]
    (fun sv post => sv = .fn (.func 70) [] [.ptr 2 0, .ptr 0 0, .ptr 1 0] ∧ post = ⟨[], [(2, 22, [.ints .u8 .old t]), (1, 3, [.i .i64 s]), (0, 3, [.i .i64 m])], [], [], 3, 0, []⟩) := by
  refine contract_ev Γok Try.func50 rfl rfl [] ?_
  simp (maxSteps := 4000000) only [slAppend, evAppendX, evCopy, rowApp, appRow, rowCopy, evAlts_cons, mixN_eq, evC_skip, evC_label, evC_ret, evC_exit, evC_goto, evC_region, evC_seq, evC_cond, evC_block, evC_loop, evC_scope, evC_rangeFunc, seqK.eq_1, seqK.eq_2, seqK.eq_3, seqK.eq_4, callK_eq, nilK_eq, skipV, evOps.eq_1, evOps.eq_2, evStill.eq_1, evStill.eq_2, evGuard, evalP, evEff, evCall, evAppend, evPick, evNil, evField, evIndexAddr, evLoad, evUn, evConv, evFieldV, evIndex, evSlice, cut, cutTag, slTag, cutL, evBuiltin, evBuild, evParts, placeOf, fieldOf, nth, leaves, spl, opd, ovc, ovcL, core, vcg, SS.eval, SS.put, SS.enter, SS.addBlk, SS.addTok, SS.setBlk, SS.back, lentOf, lentHp, lentTk, lentRs, lget, lset, hfind, hset, hpRen, hpDel, tkRen, tkDelL, rsRen, rsDel, memB, fmap, ren, renL, renT, tkMem, tkDel, bin, binI, binS, binE, isC, isT, isF, isNilS, evSliceNil, appd, intsOf, slTag, ofV, ofLeaf, one, allOne, thenK.eq_1, thenK.eq_2, thenK.eq_3, thenK.eq_4, blockK.eq_1, blockK.eq_2, blockK.eq_3, blockK.eq_4, retK.eq_1, retK.eq_2, retK.eq_3, retK.eq_4, evRes, single, TD.agg, allT, tdT, nilSS, noTI, rowsOf, elOf, pickL, eqB, leafEq, loopN.eq_1, loopN.eq_2, scopeK.eq_1, scopeK.eq_2, scopeK.eq_3, scopeK.eq_4, SubW, CallW, FinW, retS, retF, markK, rsCut, rsSet, rsFind, iterK.eq_1, iterK.eq_2, iterK.eq_3, iterEnd, pendK.eq_1, pendK.eq_2, pendK.eq_3, pendK.eq_4, roundK.eq_1, roundK.eq_2, roundK.eq_3, roundK.eq_4, roundEnd, assignK.eq_1, assignK.eq_2, YOK_eq, setPs, SS.iter, memId, hpSub, tkSub, rsSub, W, WL, TW, distincts, allLt, idTo, SS.lt, hpLt, rsLt, Nat.le_refl, List.toList_toArray, List.size_toArray, List.map, List.cons_append, List.nil_append, List.append_nil, List.length_cons, List.length_nil, List.replicate, List.take_succ_cons, List.take_zero, List.drop_succ_cons, List.drop_zero, Option.map_some, Option.map_none, Option.toList, Option.isSome, Option.isNone_none, Option.isNone_some, Int.reduceBNe, Int.reduceBEq, Int.reduceAdd, Int.reduceSub, Int.reduceMul, Int.reduceNeg, Int.reduceLT, Int.reduceLE, Bool.not_true, Bool.not_false, Nat.reduceLT, decide_true, decide_false, bne_self_eq_false, Nat.reduceAdd, Nat.reduceSub, Nat.reduceMul, Nat.reduceEqDiff, Nat.reduceLeDiff, Nat.reduceBEq, reduceIte, reduceCtorEq, Nat.add_zero, Nat.zero_add, Bool.or_false, Bool.false_or, Bool.or_true, Bool.true_or, Bool.and_true, Bool.true_and, List.mem_cons, forall_eq_or_imp, forall_eq, List.not_mem_nil, ne_eq, not_false_eq_true, not_true_eq_false, true_and, and_true, and_self, true_or, or_true, forall_const, Bool.false_eq_true, beq_self_eq_true, Bool.not_eq_true, Bool.not_eq_false, imp_self, implies_true, false_imp_iff, g1, g2, g3, g4, g5, g6, g7, g8, g9, g10, g11, g12, g13, g14, g15, g16, g17, g18, g19, g20, g21, g22, g23, g24, g25, g26, g27, g28, g30, g31, g32, g33, g34, g35, g37, g38, g39, g40, g41, g42, g43, g44, g45, g46, g47, g48, g49, g50, g51, g52, g54, g55, g57, g58, g60, g61, g62, g64, g65, g66, g67, g68, g69, g71, g72, g74, g75, g76, g77, g79, g80, g81, g82, g83, g84, g85, g86, g87, g88, g89, g90, g92, g93, g94, g95, g96, g98, g99, g100, g101, g102, g103, g104, g105, g106, g107, g108, g109, g110, g111, g113, g114, g115, g116, g117, g118, g119, g120, g121, g122, g124, g125, g126, g127, g128, g129, g130, g132, g133, g134, g135, g137, g138, g139, g141, g142, g143, g144, g145, g146, g147, g148, g149, g150, g151, g152, g153, g154, g155, g156, g157, g158, g159, g160, g161, g162, Try.f50]
  exact Fin.w [0, 1, 2] _ _ (by simp (maxSteps := 4000000) only [slAppend, evAppendX, evCopy, rowApp, appRow, rowCopy, evAlts_cons, mixN_eq, evC_skip, evC_label, evC_ret, evC_exit, evC_goto, evC_region, evC_seq, evC_cond, evC_block, evC_loop, evC_scope, evC_rangeFunc, seqK.eq_1, seqK.eq_2, seqK.eq_3, seqK.eq_4, callK_eq, nilK_eq, skipV, evOps.eq_1, evOps.eq_2, evStill.eq_1, evStill.eq_2, evGuard, evalP, evEff, evCall, evAppend, evPick, evNil, evField, evIndexAddr, evLoad, evUn, evConv, evFieldV, evIndex, evSlice, cut, cutTag, slTag, cutL, evBuiltin, evBuild, evParts, placeOf, fieldOf, nth, leaves, spl, opd, ovc, ovcL, core, vcg, SS.eval, SS.put, SS.enter, SS.addBlk, SS.addTok, SS.setBlk, SS.back, lentOf, lentHp, lentTk, lentRs, lget, lset, hfind, hset, hpRen, hpDel, tkRen, tkDelL, rsRen, rsDel, memB, fmap, ren, renL, renT, tkMem, tkDel, bin, binI, binS, binE, isC, isT, isF, isNilS, evSliceNil, appd, intsOf, slTag, ofV, ofLeaf, one, allOne, thenK.eq_1, thenK.eq_2, thenK.eq_3, thenK.eq_4, blockK.eq_1, blockK.eq_2, blockK.eq_3, blockK.eq_4, retK.eq_1, retK.eq_2, retK.eq_3, retK.eq_4, evRes, single, TD.agg, allT, tdT, nilSS, noTI, rowsOf, elOf, pickL, eqB, leafEq, loopN.eq_1, loopN.eq_2, scopeK.eq_1, scopeK.eq_2, scopeK.eq_3, scopeK.eq_4, SubW, CallW, FinW, retS, retF, markK, rsCut, rsSet, rsFind, iterK.eq_1, iterK.eq_2, iterK.eq_3, iterEnd, pendK.eq_1, pendK.eq_2, pendK.eq_3, pendK.eq_4, roundK.eq_1, roundK.eq_2, roundK.eq_3, roundK.eq_4, roundEnd, assignK.eq_1, assignK.eq_2, YOK_eq, setPs, SS.iter, memId, hpSub, tkSub, rsSub, W, WL, TW, distincts, allLt, idTo, SS.lt, hpLt, rsLt, Nat.le_refl, List.toList_toArray, List.size_toArray, List.map, List.cons_append, List.nil_append, List.append_nil, List.length_cons, List.length_nil, List.replicate, List.take_succ_cons, List.take_zero, List.drop_succ_cons, List.drop_zero, Option.map_some, Option.map_none, Option.toList, Option.isSome, Option.isNone_none, Option.isNone_some, Int.reduceBNe, Int.reduceBEq, Int.reduceAdd, Int.reduceSub, Int.reduceMul, Int.reduceNeg, Int.reduceLT, Int.reduceLE, Bool.not_true, Bool.not_false, Nat.reduceLT, decide_true, decide_false, bne_self_eq_false, Nat.reduceAdd, Nat.reduceSub, Nat.reduceMul, Nat.reduceEqDiff, Nat.reduceLeDiff, Nat.reduceBEq, reduceIte, reduceCtorEq, Nat.add_zero, Nat.zero_add, Bool.or_false, Bool.false_or, Bool.or_true, Bool.true_or, Bool.and_true, Bool.true_and, List.mem_cons, forall_eq_or_imp, forall_eq, List.not_mem_nil, ne_eq, not_false_eq_true, not_true_eq_false, true_and, and_true, and_self, true_or, or_true, forall_const, Bool.false_eq_true, beq_self_eq_true, Bool.not_eq_true, Bool.not_eq_false, imp_self, implies_true, false_imp_iff, g1, g2, g3, g4, g5, g6, g7, g8, g9, g10, g11, g12, g13, g14, g15, g16, g17, g18, g19, g20, g21, g22, g23, g24, g25, g26, g27, g28, g30, g31, g32, g33, g34, g35, g37, g38, g39, g40, g41, g42, g43, g44, g45, g46, g47, g48, g49, g50, g51, g52, g54, g55, g57, g58, g60, g61, g62, g64, g65, g66, g67, g68, g69, g71, g72, g74, g75, g76, g77, g79, g80, g81, g82, g83, g84, g85, g86, g87, g88, g89, g90, g92, g93, g94, g95, g96, g98, g99, g100, g101, g102, g103, g104, g105, g106, g107, g108, g109, g110, g111, g113, g114, g115, g116, g117, g118, g119, g120, g121, g122, g124, g125, g126, g127, g128, g129, g130, g132, g133, g134, g135, g137, g138, g139, g141, g142, g143, g144, g145, g146, g147, g148, g149, g150, g151, g152, g153, g154, g155, g156, g157, g158, g159, g160, g161, g162]) ⟨rfl, rfl⟩

theorem writes_c (m s : Int) (t : List Int) : Contract Try.prog 16 nilSS [.i .i64 m, .i .i64 s, .ints .u8 .old t]
    (fun sv post => sv = .tup [.ints .i64 .new (writesV m s t), .i .i64 (writesE m s t)] ∧ post = nilSS) := by
  refine contract_ev Γok Try.func16 rfl rfl [] ?_
  simp (maxSteps := 4000000) only [slAppend, evAppendX, evCopy, rowApp, appRow, rowCopy, evAlts_cons, mixN_eq, evC_skip, evC_label, evC_ret, evC_exit, evC_goto, evC_region, evC_seq, evC_cond, evC_block, evC_loop, evC_scope, evC_rangeFunc, seqK.eq_1, seqK.eq_2, seqK.eq_3, seqK.eq_4, callK_eq, nilK_eq, skipV, evOps.eq_1, evOps.eq_2, evStill.eq_1, evStill.eq_2, evGuard, evalP, evEff, evCall, evAppend, evPick, evNil, evField, evIndexAddr, evLoad, evUn, evConv, evFieldV, evIndex, evSlice, cut, cutTag, slTag, cutL, evBuiltin, evBuild, evParts, placeOf, fieldOf, nth, leaves, spl, opd, ovc, ovcL, core, vcg, SS.eval, SS.put, SS.enter, SS.addBlk, SS.addTok, SS.setBlk, SS.back, lentOf, lentHp, lentTk, lentRs, lget, lset, hfind, hset, hpRen, hpDel, tkRen, tkDelL, rsRen, rsDel, memB, fmap, ren, renL, renT, tkMem, tkDel, bin, binI, binS, binE, isC, isT, isF, isNilS, evSliceNil, appd, intsOf, slTag, ofV, ofLeaf, one, allOne, thenK.eq_1, thenK.eq_2, thenK.eq_3, thenK.eq_4, blockK.eq_1, blockK.eq_2, blockK.eq_3, blockK.eq_4, retK.eq_1, retK.eq_2, retK.eq_3, retK.eq_4, evRes, single, TD.agg, allT, tdT, nilSS, noTI, rowsOf, elOf, pickL, eqB, leafEq, loopN.eq_1, loopN.eq_2, scopeK.eq_1, scopeK.eq_2, scopeK.eq_3, scopeK.eq_4, SubW, CallW, FinW, retS, retF, markK, rsCut, rsSet, rsFind, iterK.eq_1, iterK.eq_2, iterK.eq_3, iterEnd, pendK.eq_1, pendK.eq_2, pendK.eq_3, pendK.eq_4, roundK.eq_1, roundK.eq_2, roundK.eq_3, roundK.eq_4, roundEnd, assignK.eq_1, assignK.eq_2, YOK_eq, setPs, SS.iter, memId, hpSub, tkSub, rsSub, W, WL, TW, distincts, allLt, idTo, SS.lt, hpLt, rsLt, Nat.le_refl, List.toList_toArray, List.size_toArray, List.map, List.cons_append, List.nil_append, List.append_nil, List.length_cons, List.length_nil, List.replicate, List.take_succ_cons, List.take_zero, List.drop_succ_cons, List.drop_zero, Option.map_some, Option.map_none, Option.toList, Option.isSome, Option.isNone_none, Option.isNone_some, Int.reduceBNe, Int.reduceBEq, Int.reduceAdd, Int.reduceSub, Int.reduceMul, Int.reduceNeg, Int.reduceLT, Int.reduceLE, Bool.not_true, Bool.not_false, Nat.reduceLT, decide_true, decide_false, bne_self_eq_false, Nat.reduceAdd, Nat.reduceSub, Nat.reduceMul, Nat.reduceEqDiff, Nat.reduceLeDiff, Nat.reduceBEq, reduceIte, reduceCtorEq, Nat.add_zero, Nat.zero_add, Bool.or_false, Bool.false_or, Bool.or_true, Bool.true_or, Bool.and_true, Bool.true_and, List.mem_cons, forall_eq_or_imp, forall_eq, List.not_mem_nil, ne_eq, not_false_eq_true, not_true_eq_false, true_and, and_true, and_self, true_or, or_true, forall_const, Bool.false_eq_true, beq_self_eq_true, Bool.not_eq_true, Bool.not_eq_false, imp_self, implies_true, false_imp_iff, g1, g2, g3, g4, g5, g6, g7, g8, g9, g10, g11, g12, g13, g14, g15, g16, g17, g18, g19, g20, g21, g22, g23, g24, g25, g26, g27, g28, g30, g31, g32, g33, g34, g35, g37, g38, g39, g40, g41, g42, g43, g44, g45, g46, g47, g48, g49, g50, g51, g52, g54, g55, g57, g58, g60, g61, g62, g64, g65, g66, g67, g68, g69, g71, g72, g74, g75, g76, g77, g79, g80, g81, g82, g83, g84, g85, g86, g87, g88, g89, g90, g92, g93, g94, g95, g96, g98, g99, g100, g101, g102, g103, g104, g105, g106, g107, g108, g109, g110, g111, g113, g114, g115, g116, g117, g118, g119, g120, g121, g122, g124, g125, g126, g127, g128, g129, g130, g132, g133, g134, g135, g137, g138, g139, g141, g142, g143, g144, g145, g146, g147, g148, g149, g150, g151, g152, g153, g154, g155, g156, g157, g158, g159, g160, g161, g162, Try.f16]
  refine call_w (may_c m s) [] (by simp (maxSteps := 4000000) only [slAppend, evAppendX, evCopy, rowApp, appRow, rowCopy, evAlts_cons, mixN_eq, evC_skip, evC_label, evC_ret, evC_exit, evC_goto, evC_region, evC_seq, evC_cond, evC_block, evC_loop, evC_scope, evC_rangeFunc, seqK.eq_1, seqK.eq_2, seqK.eq_3, seqK.eq_4, callK_eq, nilK_eq, skipV, evOps.eq_1, evOps.eq_2, evStill.eq_1, evStill.eq_2, evGuard, evalP, evEff, evCall, evAppend, evPick, evNil, evField, evIndexAddr, evLoad, evUn, evConv, evFieldV, evIndex, evSlice, cut, cutTag, slTag, cutL, evBuiltin, evBuild, evParts, placeOf, fieldOf, nth, leaves, spl, opd, ovc, ovcL, core, vcg, SS.eval, SS.put, SS.enter, SS.addBlk, SS.addTok, SS.setBlk, SS.back, lentOf, lentHp, lentTk, lentRs, lget, lset, hfind, hset, hpRen, hpDel, tkRen, tkDelL, rsRen, rsDel, memB, fmap, ren, renL, renT, tkMem, tkDel, bin, binI, binS, binE, isC, isT, isF, isNilS, evSliceNil, appd, intsOf, slTag, ofV, ofLeaf, one, allOne, thenK.eq_1, thenK.eq_2, thenK.eq_3, thenK.eq_4, blockK.eq_1, blockK.eq_2, blockK.eq_3, blockK.eq_4, retK.eq_1, retK.eq_2, retK.eq_3, retK.eq_4, evRes, single, TD.agg, allT, tdT, nilSS, noTI, rowsOf, elOf, pickL, eqB, leafEq, loopN.eq_1, loopN.eq_2, scopeK.eq_1, scopeK.eq_2, scopeK.eq_3, scopeK.eq_4, SubW, CallW, FinW, retS, retF, markK, rsCut, rsSet, rsFind, iterK.eq_1, iterK.eq_2, iterK.eq_3, iterEnd, pendK.eq_1, pendK.eq_2, pendK.eq_3, pendK.eq_4, roundK.eq_1, roundK.eq_2, roundK.eq_3, roundK.eq_4, roundEnd, assignK.eq_1, assignK.eq_2, YOK_eq, setPs, SS.iter, memId, hpSub, tkSub, rsSub, W, WL, TW, distincts, allLt, idTo, SS.lt, hpLt, rsLt, Nat.le_refl, List.toList_toArray, List.size_toArray, List.map, List.cons_append, List.nil_append, List.append_nil, List.length_cons, List.length_nil, List.replicate, List.take_succ_cons, List.take_zero, List.drop_succ_cons, List.drop_zero, Option.map_some, Option.map_none, Option.toList, Option.isSome, Option.isNone_none, Option.isNone_some, Int.reduceBNe, Int.reduceBEq, Int.reduceAdd, Int.reduceSub, Int.reduceMul, Int.reduceNeg, Int.reduceLT, Int.reduceLE, Bool.not_true, Bool.not_false, Nat.reduceLT, decide_true, decide_false, bne_self_eq_false, Nat.reduceAdd, Nat.reduceSub, Nat.reduceMul, Nat.reduceEqDiff, Nat.reduceLeDiff, Nat.reduceBEq, reduceIte, reduceCtorEq, Nat.add_zero, Nat.zero_add, Bool.or_false, Bool.false_or, Bool.or_true, Bool.true_or, Bool.and_true, Bool.true_and, List.mem_cons, forall_eq_or_imp, forall_eq, List.not_mem_nil, ne_eq, not_false_eq_true, not_true_eq_false, true_and, and_true, and_self, true_or, or_true, forall_const, Bool.false_eq_true, beq_self_eq_true, Bool.not_eq_true, Bool.not_eq_false, imp_self, implies_true, false_imp_iff, g1, g2, g3, g4, g5, g6, g7, g8, g9, g10, g11, g12, g13, g14, g15, g16, g17, g18, g19, g20, g21, g22, g23, g24, g25, g26, g27, g28, g30, g31, g32, g33, g34, g35, g37, g38, g39, g40, g41, g42, g43, g44, g45, g46, g47, g48, g49, g50, g51, g52, g54, g55, g57, g58, g60, g61, g62, g64, g65, g66, g67, g68, g69, g71, g72, g74, g75, g76, g77, g79, g80, g81, g82, g83, g84, g85, g86, g87, g88, g89, g90, g92, g93, g94, g95, g96, g98, g99, g100, g101, g102, g103, g104, g105, g106, g107, g108, g109, g110, g111, g113, g114, g115, g116, g117, g118, g119, g120, g121, g122, g124, g125, g126, g127, g128, g129, g130, g132, g133, g134, g135, g137, g138, g139, g141, g142, g143, g144, g145, g146, g147, g148, g149, g150, g151, g152, g153, g154, g155, g156, g157, g158, g159, g160, g161, g162]) ?_
  rintro sv post ⟨rfl, rfl⟩
  simp (maxSteps := 4000000) only [slAppend, evAppendX, evCopy, rowApp, appRow, rowCopy, evAlts_cons, mixN_eq, evC_skip, evC_label, evC_ret, evC_exit, evC_goto, evC_region, evC_seq, evC_cond, evC_block, evC_loop, evC_scope, evC_rangeFunc, seqK.eq_1, seqK.eq_2, seqK.eq_3, seqK.eq_4, callK_eq, nilK_eq, skipV, evOps.eq_1, evOps.eq_2, evStill.eq_1, evStill.eq_2, evGuard, evalP, evEff, evCall, evAppend, evPick, evNil, evField, evIndexAddr, evLoad, evUn, evConv, evFieldV, evIndex, evSlice, cut, cutTag, slTag, cutL, evBuiltin, evBuild, evParts, placeOf, fieldOf, nth, leaves, spl, opd, ovc, ovcL, core, vcg, SS.eval, SS.put, SS.enter, SS.addBlk, SS.addTok, SS.setBlk, SS.back, lentOf, lentHp, lentTk, lentRs, lget, lset, hfind, hset, hpRen, hpDel, tkRen, tkDelL, rsRen, rsDel, memB, fmap, ren, renL, renT, tkMem, tkDel, bin, binI, binS, binE, isC, isT, isF, isNilS, evSliceNil, appd, intsOf, slTag, ofV, ofLeaf, one, allOne, thenK.eq_1, thenK.eq_2, thenK.eq_3, thenK.eq_4, blockK.eq_1, blockK.eq_2, blockK.eq_3, blockK.eq_4, retK.eq_1, retK.eq_2, retK.eq_3, retK.eq_4, evRes, single, TD.agg, allT, tdT, nilSS, noTI, rowsOf, elOf, pickL, eqB, leafEq, loopN.eq_1, loopN.eq_2, scopeK.eq_1, scopeK.eq_2, scopeK.eq_3, scopeK.eq_4, SubW, CallW, FinW, retS, retF, markK, rsCut, rsSet, rsFind, iterK.eq_1, iterK.eq_2, iterK.eq_3, iterEnd, pendK.eq_1, pendK.eq_2, pendK.eq_3, pendK.eq_4, roundK.eq_1, roundK.eq_2, roundK.eq_3, roundK.eq_4, roundEnd, assignK.eq_1, assignK.eq_2, YOK_eq, setPs, SS.iter, memId, hpSub, tkSub, rsSub, W, WL, TW, distincts, allLt, idTo, SS.lt, hpLt, rsLt, Nat.le_refl, List.toList_toArray, List.size_toArray, List.map, List.cons_append, List.nil_append, List.append_nil, List.length_cons, List.length_nil, List.replicate, List.take_succ_cons, List.take_zero, List.drop_succ_cons, List.drop_zero, Option.map_some, Option.map_none, Option.toList, Option.isSome, Option.isNone_none, Option.isNone_some, Int.reduceBNe, Int.reduceBEq, Int.reduceAdd, Int.reduceSub, Int.reduceMul, Int.reduceNeg, Int.reduceLT, Int.reduceLE, Bool.not_true, Bool.not_false, Nat.reduceLT, decide_true, decide_false, bne_self_eq_false, Nat.reduceAdd, Nat.reduceSub, Nat.reduceMul, Nat.reduceEqDiff, Nat.reduceLeDiff, Nat.reduceBEq, reduceIte, reduceCtorEq, Nat.add_zero, Nat.zero_add, Bool.or_false, Bool.false_or, Bool.or_true, Bool.true_or, Bool.and_true, Bool.true_and, List.mem_cons, forall_eq_or_imp, forall_eq, List.not_mem_nil, ne_eq, not_false_eq_true, not_true_eq_false, true_and, and_true, and_self, true_or, or_true, forall_const, Bool.false_eq_true, beq_self_eq_true, Bool.not_eq_true, Bool.not_eq_false, imp_self, implies_true, false_imp_iff, g1, g2, g3, g4, g5, g6, g7, g8, g9, g10, g11, g12, g13, g14, g15, g16, g17, g18, g19, g20, g21, g22, g23, g24, g25, g26, g27, g28, g30, g31, g32, g33, g34, g35, g37, g38, g39, g40, g41, g42, g43, g44, g45, g46, g47, g48, g49, g50, g51, g52, g54, g55, g57, g58, g60, g61, g62, g64, g65, g66, g67, g68, g69, g71, g72, g74, g75, g76, g77, g79, g80, g81, g82, g83, g84, g85, g86, g87, g88, g89, g90, g92, g93, g94, g95, g96, g98, g99, g100, g101, g102, g103, g104, g105, g106, g107, g108, g109, g110, g111, g113, g114, g115, g116, g117, g118, g119, g120, g121, g122, g124, g125, g126, g127, g128, g129, g130, g132, g133, g134, g135, g137, g138, g139, g141, g142, g143, g144, g145, g146, g147, g148, g149, g150, g151, g152, g153, g154, g155, g156, g157, g158, g159, g160, g161, g162]
  refine ⟨fun h1 => ?_, fun h1 => ⟨fun h2 => ?_, fun h2 => ?_⟩⟩
  · refine Fin.nil rfl (psv := .tup [.ints .i64 .new [], .i .i64 (mayV m s)]) (by simp (maxSteps := 4000000) only [slAppend, evAppendX, evCopy, rowApp, appRow, rowCopy, evAlts_cons, mixN_eq, evC_skip, evC_label, evC_ret, evC_exit, evC_goto, evC_region, evC_seq, evC_cond, evC_block, evC_loop, evC_scope, evC_rangeFunc, seqK.eq_1, seqK.eq_2, seqK.eq_3, seqK.eq_4, callK_eq, nilK_eq, skipV, evOps.eq_1, evOps.eq_2, evStill.eq_1, evStill.eq_2, evGuard, evalP, evEff, evCall, evAppend, evPick, evNil, evField, evIndexAddr, evLoad, evUn, evConv, evFieldV, evIndex, evSlice, cut, cutTag, slTag, cutL, evBuiltin, evBuild, evParts, placeOf, fieldOf, nth, leaves, spl, opd, ovc, ovcL, core, vcg, SS.eval, SS.put, SS.enter, SS.addBlk, SS.addTok, SS.setBlk, SS.back, lentOf, lentHp, lentTk, lentRs, lget, lset, hfind, hset, hpRen, hpDel, tkRen, tkDelL, rsRen, rsDel, memB, fmap, ren, renL, renT, tkMem, tkDel, bin, binI, binS, binE, isC, isT, isF, isNilS, evSliceNil, appd, intsOf, slTag, ofV, ofLeaf, one, allOne, thenK.eq_1, thenK.eq_2, thenK.eq_3, thenK.eq_4, blockK.eq_1, blockK.eq_2, blockK.eq_3, blockK.eq_4, retK.eq_1, retK.eq_2, retK.eq_3, retK.eq_4, evRes, single, TD.agg, allT, tdT, nilSS, noTI, rowsOf, elOf, pickL, eqB, leafEq, loopN.eq_1, loopN.eq_2, scopeK.eq_1, scopeK.eq_2, scopeK.eq_3, scopeK.eq_4, SubW, CallW, FinW, retS, retF, markK, rsCut, rsSet, rsFind, iterK.eq_1, iterK.eq_2, iterK.eq_3, iterEnd, pendK.eq_1, pendK.eq_2, pendK.eq_3, pendK.eq_4, roundK.eq_1, roundK.eq_2, roundK.eq_3, roundK.eq_4, roundEnd, assignK.eq_1, assignK.eq_2, YOK_eq, setPs, SS.iter, memId, hpSub, tkSub, rsSub, W, WL, TW, distincts, allLt, idTo, SS.lt, hpLt, rsLt, Nat.le_refl, List.toList_toArray, List.size_toArray, List.map, List.cons_append, List.nil_append, List.append_nil, List.length_cons, List.length_nil, List.replicate, List.take_succ_cons, List.take_zero, List.drop_succ_cons, List.drop_zero, Option.map_some, Option.map_none, Option.toList, Option.isSome, Option.isNone_none, Option.isNone_some, Int.reduceBNe, Int.reduceBEq, Int.reduceAdd, Int.reduceSub, Int.reduceMul, Int.reduceNeg, Int.reduceLT, Int.reduceLE, Bool.not_true, Bool.not_false, Nat.reduceLT, decide_true, decide_false, bne_self_eq_false, Nat.reduceAdd, Nat.reduceSub, Nat.reduceMul, Nat.reduceEqDiff, Nat.reduceLeDiff, Nat.reduceBEq, reduceIte, reduceCtorEq, Nat.add_zero, Nat.zero_add, Bool.or_false, Bool.false_or, Bool.or_true, Bool.true_or, Bool.and_true, Bool.true_and, List.mem_cons, forall_eq_or_imp, forall_eq, List.not_mem_nil, ne_eq, not_false_eq_true, not_true_eq_false, true_and, and_true, and_self, true_or, or_true, forall_const, Bool.false_eq_true, beq_self_eq_true, Bool.not_eq_true, Bool.not_eq_false, imp_self, implies_true, false_imp_iff, g1, g2, g3, g4, g5, g6, g7, g8, g9, g10, g11, g12, g13, g14, g15, g16, g17, g18, g19, g20, g21, g22, g23, g24, g25, g26, g27, g28, g30, g31, g32, g33, g34, g35, g37, g38, g39, g40, g41, g42, g43, g44, g45, g46, g47, g48, g49, g50, g51, g52, g54, g55, g57, g58, g60, g61, g62, g64, g65, g66, g67, g68, g69, g71, g72, g74, g75, g76, g77, g79, g80, g81, g82, g83, g84, g85, g86, g87, g88, g89, g90, g92, g93, g94, g95, g96, g98, g99, g100, g101, g102, g103, g104, g105, g106, g107, g108, g109, g110, g111, g113, g114, g115, g116, g117, g118, g119, g120, g121, g122, g124, g125, g126, g127, g128, g129, g130, g132, g133, g134, g135, g137, g138, g139, g141, g142, g143, g144, g145, g146, g147, g148, g149, g150, g151, g152, g153, g154, g155, g156, g157, g158, g159, g160, g161, g162]) ⟨?_, rfl⟩
    simp at h1
    simp [writesV, writesE, h1]
  · refine Fin.nil rfl (psv := .tup [.ints .i64 .new [], .i .i64 5]) (by simp (maxSteps := 4000000) only [slAppend, evAppendX, evCopy, rowApp, appRow, rowCopy, evAlts_cons, mixN_eq, evC_skip, evC_label, evC_ret, evC_exit, evC_goto, evC_region, evC_seq, evC_cond, evC_block, evC_loop, evC_scope, evC_rangeFunc, seqK.eq_1, seqK.eq_2, seqK.eq_3, seqK.eq_4, callK_eq, nilK_eq, skipV, evOps.eq_1, evOps.eq_2, evStill.eq_1, evStill.eq_2, evGuard, evalP, evEff, evCall, evAppend, evPick, evNil, evField, evIndexAddr, evLoad, evUn, evConv, evFieldV, evIndex, evSlice, cut, cutTag, slTag, cutL, evBuiltin, evBuild, evParts, placeOf, fieldOf, nth, leaves, spl, opd, ovc, ovcL, core, vcg, SS.eval, SS.put, SS.enter, SS.addBlk, SS.addTok, SS.setBlk, SS.back, lentOf, lentHp, lentTk, lentRs, lget, lset, hfind, hset, hpRen, hpDel, tkRen, tkDelL, rsRen, rsDel, memB, fmap, ren, renL, renT, tkMem, tkDel, bin, binI, binS, binE, isC, isT, isF, isNilS, evSliceNil, appd, intsOf, slTag, ofV, ofLeaf, one, allOne, thenK.eq_1, thenK.eq_2, thenK.eq_3, thenK.eq_4, blockK.eq_1, blockK.eq_2, blockK.eq_3, blockK.eq_4, retK.eq_1, retK.eq_2, retK.eq_3, retK.eq_4, evRes, single, TD.agg, allT, tdT, nilSS, noTI, rowsOf, elOf, pickL, eqB, leafEq, loopN.eq_1, loopN.eq_2, scopeK.eq_1, scopeK.eq_2, scopeK.eq_3, scopeK.eq_4, SubW, CallW, FinW, retS, retF, markK, rsCut, rsSet, rsFind, iterK.eq_1, iterK.eq_2, iterK.eq_3, iterEnd, pendK.eq_1, pendK.eq_2, pendK.eq_3, pendK.eq_4, roundK.eq_1, roundK.eq_2, roundK.eq_3, roundK.eq_4, roundEnd, assignK.eq_1, assignK.eq_2, YOK_eq, setPs, SS.iter, memId, hpSub, tkSub, rsSub, W, WL, TW, distincts, allLt, idTo, SS.lt, hpLt, rsLt, Nat.le_refl, List.toList_toArray, List.size_toArray, List.map, List.cons_append, List.nil_append, List.append_nil, List.length_cons, List.length_nil, List.replicate, List.take_succ_cons, List.take_zero, List.drop_succ_cons, List.drop_zero, Option.map_some, Option.map_none, Option.toList, Option.isSome, Option.isNone_none, Option.isNone_some, Int.reduceBNe, Int.reduceBEq, Int.reduceAdd, Int.reduceSub, Int.reduceMul, Int.reduceNeg, Int.reduceLT, Int.reduceLE, Bool.not_true, Bool.not_false, Nat.reduceLT, decide_true, decide_false, bne_self_eq_false, Nat.reduceAdd, Nat.reduceSub, Nat.reduceMul, Nat.reduceEqDiff, Nat.reduceLeDiff, Nat.reduceBEq, reduceIte, reduceCtorEq, Nat.add_zero, Nat.zero_add, Bool.or_false, Bool.false_or, Bool.or_true, Bool.true_or, Bool.and_true, Bool.true_and, List.mem_cons, forall_eq_or_imp, forall_eq, List.not_mem_nil, ne_eq, not_false_eq_true, not_true_eq_false, true_and, and_true, and_self, true_or, or_true, forall_const, Bool.false_eq_true, beq_self_eq_true, Bool.not_eq_true, Bool.not_eq_false, imp_self, implies_true, false_imp_iff, g1, g2, g3, g4, g5, g6, g7, g8, g9, g10, g11, g12, g13, g14, g15, g16, g17, g18, g19, g20, g21, g22, g23, g24, g25, g26, g27, g28, g30, g31, g32, g33, g34, g35, g37, g38, g39, g40, g41, g42, g43, g44, g45, g46, g47, g48, g49, g50, g51, g52, g54, g55, g57, g58, g60, g61, g62, g64, g65, g66, g67, g68, g69, g71, g72, g74, g75, g76, g77, g79, g80, g81, g82, g83, g84, g85, g86, g87, g88, g89, g90, g92, g93, g94, g95, g96, g98, g99, g100, g101, g102, g103, g104, g105, g106, g107, g108, g109, g110, g111, g113, g114, g115, g116, g117, g118, g119, g120, g121, g122, g124, g125, g126, g127, g128, g129, g130, g132, g133, g134, g135, g137, g138, g139, g141, g142, g143, g144, g145, g146, g147, g148, g149, g150, g151, g152, g153, g154, g155, g156, g157, g158, g159, g160, g161, g162]) ⟨?_, rfl⟩
    simp at h1 h2
    simp [writesV, writesE, h1]
    omega
  simp at h1 h2
  have hv : writesV m s t = wr m s t 0 := by simp [writesV, h1]; omega
  have he : writesE m s t = 0 := by simp [writesE, h1]; omega
  rw [hv, he]
  refine call_w (cuts_c m s t) [] (by simp (maxSteps := 4000000) only [slAppend, evAppendX, evCopy, rowApp, appRow, rowCopy, evAlts_cons, mixN_eq, evC_skip, evC_label, evC_ret, evC_exit, evC_goto, evC_region, evC_seq, evC_cond, evC_block, evC_loop, evC_scope, evC_rangeFunc, seqK.eq_1, seqK.eq_2, seqK.eq_3, seqK.eq_4, callK_eq, nilK_eq, skipV, evOps.eq_1, evOps.eq_2, evStill.eq_1, evStill.eq_2, evGuard, evalP, evEff, evCall, evAppend, evPick, evNil, evField, evIndexAddr, evLoad, evUn, evConv, evFieldV, evIndex, evSlice, cut, cutTag, slTag, cutL, evBuiltin, evBuild, evParts, placeOf, fieldOf, nth, leaves, spl, opd, ovc, ovcL, core, vcg, SS.eval, SS.put, SS.enter, SS.addBlk, SS.addTok, SS.setBlk, SS.back, lentOf, lentHp, lentTk, lentRs, lget, lset, hfind, hset, hpRen, hpDel, tkRen, tkDelL, rsRen, rsDel, memB, fmap, ren, renL, renT, tkMem, tkDel, bin, binI, binS, binE, isC, isT, isF, isNilS, evSliceNil, appd, intsOf, slTag, ofV, ofLeaf, one, allOne, thenK.eq_1, thenK.eq_2, thenK.eq_3, thenK.eq_4, blockK.eq_1, blockK.eq_2, blockK.eq_3, blockK.eq_4, retK.eq_1, retK.eq_2, retK.eq_3, retK.eq_4, evRes, single, TD.agg, allT, tdT, nilSS, noTI, rowsOf, elOf, pickL, eqB, leafEq, loopN.eq_1, loopN.eq_2, scopeK.eq_1, scopeK.eq_2, scopeK.eq_3, scopeK.eq_4, SubW, CallW, FinW, retS, retF, markK, rsCut, rsSet, rsFind, iterK.eq_1, iterK.eq_2, iterK.eq_3, iterEnd, pendK.eq_1, pendK.eq_2, pendK.eq_3, pendK.eq_4, roundK.eq_1, roundK.eq_2, roundK.eq_3, roundK.eq_4, roundEnd, assignK.eq_1, assignK.eq_2, YOK_eq, setPs, SS.iter, memId, hpSub, tkSub, rsSub, W, WL, TW, distincts, allLt, idTo, SS.lt, hpLt, rsLt, Nat.le_refl, List.toList_toArray, List.size_toArray, List.map, List.cons_append, List.nil_append, List.append_nil, List.length_cons, List.length_nil, List.replicate, List.take_succ_cons, List.take_zero, List.drop_succ_cons, List.drop_zero, Option.map_some, Option.map_none, Option.toList, Option.isSome, Option.isNone_none, Option.isNone_some, Int.reduceBNe, Int.reduceBEq, Int.reduceAdd, Int.reduceSub, Int.reduceMul, Int.reduceNeg, Int.reduceLT, Int.reduceLE, Bool.not_true, Bool.not_false, Nat.reduceLT, decide_true, decide_false, bne_self_eq_false, Nat.reduceAdd, Nat.reduceSub, Nat.reduceMul, Nat.reduceEqDiff, Nat.reduceLeDiff, Nat.reduceBEq, reduceIte, reduceCtorEq, Nat.add_zero, Nat.zero_add, Bool.or_false, Bool.false_or, Bool.or_true, Bool.true_or, Bool.and_true, Bool.true_and, List.mem_cons, forall_eq_or_imp, forall_eq, List.not_mem_nil, ne_eq, not_false_eq_true, not_true_eq_false, true_and, and_true, and_self, true_or, or_true, forall_const, Bool.false_eq_true, beq_self_eq_true, Bool.not_eq_true, Bool.not_eq_false, imp_self, implies_true, false_imp_iff, g1, g2, g3, g4, g5, g6, g7, g8, g9, g10, g11, g12, g13, g14, g15, g16, g17, g18, g19, g20, g21, g22, g23, g24, g25, g26, g27, g28, g30, g31, g32, g33, g34, g35, g37, g38, g39, g40, g41, g42, g43, g44, g45, g46, g47, g48, g49, g50, g51, g52, g54, g55, g57, g58, g60, g61, g62, g64, g65, g66, g67, g68, g69, g71, g72, g74, g75, g76, g77, g79, g80, g81, g82, g83, g84, g85, g86, g87, g88, g89, g90, g92, g93, g94, g95, g96, g98, g99, g100, g101, g102, g103, g104, g105, g106, g107, g108, g109, g110, g111, g113, g114, g115, g116, g117, g118, g119, g120, g121, g122, g124, g125, g126, g127, g128, g129, g130, g132, g133, g134, g135, g137, g138, g139, g141, g142, g143, g144, g145, g146, g147, g148, g149, g150, g151, g152, g153, g154, g155, g156, g157, g158, g159, g160, g161, g162]) ?_
  rintro sv post ⟨rfl, rfl⟩
  simp (maxSteps := 4000000) only [slAppend, evAppendX, evCopy, rowApp, appRow, rowCopy, evAlts_cons, mixN_eq, evC_skip, evC_label, evC_ret, evC_exit, evC_goto, evC_region, evC_seq, evC_cond, evC_block, evC_loop, evC_scope, evC_rangeFunc, seqK.eq_1, seqK.eq_2, seqK.eq_3, seqK.eq_4, callK_eq, nilK_eq, skipV, evOps.eq_1, evOps.eq_2, evStill.eq_1, evStill.eq_2, evGuard, evalP, evEff, evCall, evAppend, evPick, evNil, evField, evIndexAddr, evLoad, evUn, evConv, evFieldV, evIndex, evSlice, cut, cutTag, slTag, cutL, evBuiltin, evBuild, evParts, placeOf, fieldOf, nth, leaves, spl, opd, ovc, ovcL, core, vcg, SS.eval, SS.put, SS.enter, SS.addBlk, SS.addTok, SS.setBlk, SS.back, lentOf, lentHp, lentTk, lentRs, lget, lset, hfind, hset, hpRen, hpDel, tkRen, tkDelL, rsRen, rsDel, memB, fmap, ren, renL, renT, tkMem, tkDel, bin, binI, binS, binE, isC, isT, isF, isNilS, evSliceNil, appd, intsOf, slTag, ofV, ofLeaf, one, allOne, thenK.eq_1, thenK.eq_2, thenK.eq_3, thenK.eq_4, blockK.eq_1, blockK.eq_2, blockK.eq_3, blockK.eq_4, retK.eq_1, retK.eq_2, retK.eq_3, retK.eq_4, evRes, single, TD.agg, allT, tdT, nilSS, noTI, rowsOf, elOf, pickL, eqB, leafEq, loopN.eq_1, loopN.eq_2, scopeK.eq_1, scopeK.eq_2, scopeK.eq_3, scopeK.eq_4, SubW, CallW, FinW, retS, retF, markK, rsCut, rsSet, rsFind, iterK.eq_1, iterK.eq_2, iterK.eq_3, iterEnd, pendK.eq_1, pendK.eq_2, pendK.eq_3, pendK.eq_4, roundK.eq_1, roundK.eq_2, roundK.eq_3, roundK.eq_4, roundEnd, assignK.eq_1, assignK.eq_2, YOK_eq, setPs, SS.iter, memId, hpSub, tkSub, rsSub, W, WL, TW, distincts, allLt, idTo, SS.lt, hpLt, rsLt, Nat.le_refl, List.toList_toArray, List.size_toArray, List.map, List.cons_append, List.nil_append, List.append_nil, List.length_cons, List.length_nil, List.replicate, List.take_succ_cons, List.take_zero, List.drop_succ_cons, List.drop_zero, Option.map_some, Option.map_none, Option.toList, Option.isSome, Option.isNone_none, Option.isNone_some, Int.reduceBNe, Int.reduceBEq, Int.reduceAdd, Int.reduceSub, Int.reduceMul, Int.reduceNeg, Int.reduceLT, Int.reduceLE, Bool.not_true, Bool.not_false, Nat.reduceLT, decide_true, decide_false, bne_self_eq_false, Nat.reduceAdd, Nat.reduceSub, Nat.reduceMul, Nat.reduceEqDiff, Nat.reduceLeDiff, Nat.reduceBEq, reduceIte, reduceCtorEq, Nat.add_zero, Nat.zero_add, Bool.or_false, Bool.false_or, Bool.or_true, Bool.true_or, Bool.and_true, Bool.true_and, List.mem_cons, forall_eq_or_imp, forall_eq, List.not_mem_nil, ne_eq, not_false_eq_true, not_true_eq_false, true_and, and_true, and_self, true_or, or_true, forall_const, Bool.false_eq_true, beq_self_eq_true, Bool.not_eq_true, Bool.not_eq_false, imp_self, implies_true, false_imp_iff, g1, g2, g3, g4, g5, g6, g7, g8, g9, g10, g11, g12, g13, g14, g15, g16, g17, g18, g19, g20, g21, g22, g23, g24, g25, g26, g27, g28, g30, g31, g32, g33, g34, g35, g37, g38, g39, g40, g41, g42, g43, g44, g45, g46, g47, g48, g49, g50, g51, g52, g54, g55, g57, g58, g60, g61, g62, g64, g65, g66, g67, g68, g69, g71, g72, g74, g75, g76, g77, g79, g80, g81, g82, g83, g84, g85, g86, g87, g88, g89, g90, g92, g93, g94, g95, g96, g98, g99, g100, g101, g102, g103, g104, g105, g106, g107, g108, g109, g110, g111, g113, g114, g115, g116, g117, g118, g119, g120, g121, g122, g124, g125, g126, g127, g128, g129, g130, g132, g133, g134, g135, g137, g138, g139, g141, g142, g143, g144, g145, g146, g147, g148, g149, g150, g151, g152, g153, g154, g155, g156, g157, g158, g159, g160, g161, g162]
  refine rf_ok Γok rfl [6, 10] (by simp (maxSteps := 4000000) only [slAppend, evAppendX, evCopy, rowApp, appRow, rowCopy, evAlts_cons, mixN_eq, evC_skip, evC_label, evC_ret, evC_exit, evC_goto, evC_region, evC_seq, evC_cond, evC_block, evC_loop, evC_scope, evC_rangeFunc, seqK.eq_1, seqK.eq_2, seqK.eq_3, seqK.eq_4, callK_eq, nilK_eq, skipV, evOps.eq_1, evOps.eq_2, evStill.eq_1, evStill.eq_2, evGuard, evalP, evEff, evCall, evAppend, evPick, evNil, evField, evIndexAddr, evLoad, evUn, evConv, evFieldV, evIndex, evSlice, cut, cutTag, slTag, cutL, evBuiltin, evBuild, evParts, placeOf, fieldOf, nth, leaves, spl, opd, ovc, ovcL, core, vcg, SS.eval, SS.put, SS.enter, SS.addBlk, SS.addTok, SS.setBlk, SS.back, lentOf, lentHp, lentTk, lentRs, lget, lset, hfind, hset, hpRen, hpDel, tkRen, tkDelL, rsRen, rsDel, memB, fmap, ren, renL, renT, tkMem, tkDel, bin, binI, binS, binE, isC, isT, isF, isNilS, evSliceNil, appd, intsOf, slTag, ofV, ofLeaf, one, allOne, thenK.eq_1, thenK.eq_2, thenK.eq_3, thenK.eq_4, blockK.eq_1, blockK.eq_2, blockK.eq_3, blockK.eq_4, retK.eq_1, retK.eq_2, retK.eq_3, retK.eq_4, evRes, single, TD.agg, allT, tdT, nilSS, noTI, rowsOf, elOf, pickL, eqB, leafEq, loopN.eq_1, loopN.eq_2, scopeK.eq_1, scopeK.eq_2, scopeK.eq_3, scopeK.eq_4, SubW, CallW, FinW, retS, retF, markK, rsCut, rsSet, rsFind, iterK.eq_1, iterK.eq_2, iterK.eq_3, iterEnd, pendK.eq_1, pendK.eq_2, pendK.eq_3, pendK.eq_4, roundK.eq_1, roundK.eq_2, roundK.eq_3, roundK.eq_4, roundEnd, assignK.eq_1, assignK.eq_2, YOK_eq, setPs, SS.iter, memId, hpSub, tkSub, rsSub, W, WL, TW, distincts, allLt, idTo, SS.lt, hpLt, rsLt, Nat.le_refl, List.toList_toArray, List.size_toArray, List.map, List.cons_append, List.nil_append, List.append_nil, List.length_cons, List.length_nil, List.replicate, List.take_succ_cons, List.take_zero, List.drop_succ_cons, List.drop_zero, Option.map_some, Option.map_none, Option.toList, Option.isSome, Option.isNone_none, Option.isNone_some, Int.reduceBNe, Int.reduceBEq, Int.reduceAdd, Int.reduceSub, Int.reduceMul, Int.reduceNeg, Int.reduceLT, Int.reduceLE, Bool.not_true, Bool.not_false, Nat.reduceLT, decide_true, decide_false, bne_self_eq_false, Nat.reduceAdd, Nat.reduceSub, Nat.reduceMul, Nat.reduceEqDiff, Nat.reduceLeDiff, Nat.reduceBEq, reduceIte, reduceCtorEq, Nat.add_zero, Nat.zero_add, Bool.or_false, Bool.false_or, Bool.or_true, Bool.true_or, Bool.and_true, Bool.true_and, List.mem_cons, forall_eq_or_imp, forall_eq, List.not_mem_nil, ne_eq, not_false_eq_true, not_true_eq_false, true_and, and_true, and_self, true_or, or_true, forall_const, Bool.false_eq_true, beq_self_eq_true, Bool.not_eq_true, Bool.not_eq_false, imp_self, implies_true, false_imp_iff, g1, g2, g3, g4, g5, g6, g7, g8, g9, g10, g11, g12, g13, g14, g15, g16, g17, g18, g19, g20, g21, g22, g23, g24, g25, g26, g27, g28, g30, g31, g32, g33, g34, g35, g37, g38, g39, g40, g41, g42, g43, g44, g45, g46, g47, g48, g49, g50, g51, g52, g54, g55, g57, g58, g60, g61, g62, g64, g65, g66, g67, g68, g69, g71, g72, g74, g75, g76, g77, g79, g80, g81, g82, g83, g84, g85, g86, g87, g88, g89, g90, g92, g93, g94, g95, g96, g98, g99, g100, g101, g102, g103, g104, g105, g106, g107, g108, g109, g110, g111, g113, g114, g115, g116, g117, g118, g119, g120, g121, g122, g124, g125, g126, g127, g128, g129, g130, g132, g133, g134, g135, g137, g138, g139, g141, g142, g143, g144, g145, g146, g147, g148, g149, g150, g151, g152, g153, g154, g155, g156, g157, g158, g159, g160, g161, g162]; rfl) (by simp (maxSteps := 4000000) only [slAppend, evAppendX, evCopy, rowApp, appRow, rowCopy, evAlts_cons, mixN_eq, evC_skip, evC_label, evC_ret, evC_exit, evC_goto, evC_region, evC_seq, evC_cond, evC_block, evC_loop, evC_scope, evC_rangeFunc, seqK.eq_1, seqK.eq_2, seqK.eq_3, seqK.eq_4, callK_eq, nilK_eq, skipV, evOps.eq_1, evOps.eq_2, evStill.eq_1, evStill.eq_2, evGuard, evalP, evEff, evCall, evAppend, evPick, evNil, evField, evIndexAddr, evLoad, evUn, evConv, evFieldV, evIndex, evSlice, cut, cutTag, slTag, cutL, evBuiltin, evBuild, evParts, placeOf, fieldOf, nth, leaves, spl, opd, ovc, ovcL, core, vcg, SS.eval, SS.put, SS.enter, SS.addBlk, SS.addTok, SS.setBlk, SS.back, lentOf, lentHp, lentTk, lentRs, lget, lset, hfind, hset, hpRen, hpDel, tkRen, tkDelL, rsRen, rsDel, memB, fmap, ren, renL, renT, tkMem, tkDel, bin, binI, binS, binE, isC, isT, isF, isNilS, evSliceNil, appd, intsOf, slTag, ofV, ofLeaf, one, allOne, thenK.eq_1, thenK.eq_2, thenK.eq_3, thenK.eq_4, blockK.eq_1, blockK.eq_2, blockK.eq_3, blockK.eq_4, retK.eq_1, retK.eq_2, retK.eq_3, retK.eq_4, evRes, single, TD.agg, allT, tdT, nilSS, noTI, rowsOf, elOf, pickL, eqB, leafEq, loopN.eq_1, loopN.eq_2, scopeK.eq_1, scopeK.eq_2, scopeK.eq_3, scopeK.eq_4, SubW, CallW, FinW, retS, retF, markK, rsCut, rsSet, rsFind, iterK.eq_1, iterK.eq_2, iterK.eq_3, iterEnd, pendK.eq_1, pendK.eq_2, pendK.eq_3, pendK.eq_4, roundK.eq_1, roundK.eq_2, roundK.eq_3, roundK.eq_4, roundEnd, assignK.eq_1, assignK.eq_2, YOK_eq, setPs, SS.iter, memId, hpSub, tkSub, rsSub, W, WL, TW, distincts, allLt, idTo, SS.lt, hpLt, rsLt, Nat.le_refl, List.toList_toArray, List.size_toArray, List.map, List.cons_append, List.nil_append, List.append_nil, List.length_cons, List.length_nil, List.replicate, List.take_succ_cons, List.take_zero, List.drop_succ_cons, List.drop_zero, Option.map_some, Option.map_none, Option.toList, Option.isSome, Option.isNone_none, Option.isNone_some, Int.reduceBNe, Int.reduceBEq, Int.reduceAdd, Int.reduceSub, Int.reduceMul, Int.reduceNeg, Int.reduceLT, Int.reduceLE, Bool.not_true, Bool.not_false, Nat.reduceLT, decide_true, decide_false, bne_self_eq_false, Nat.reduceAdd, Nat.reduceSub, Nat.reduceMul, Nat.reduceEqDiff, Nat.reduceLeDiff, Nat.reduceBEq, reduceIte, reduceCtorEq, Nat.add_zero, Nat.zero_add, Bool.or_false, Bool.false_or, Bool.or_true, Bool.true_or, Bool.and_true, Bool.true_and, List.mem_cons, forall_eq_or_imp, forall_eq, List.not_mem_nil, ne_eq, not_false_eq_true, not_true_eq_false, true_and, and_true, and_self, true_or, or_true, forall_const, Bool.false_eq_true, beq_self_eq_true, Bool.not_eq_true, Bool.not_eq_false, imp_self, implies_true, false_imp_iff, g1, g2, g3, g4, g5, g6, g7, g8, g9, g10, g11, g12, g13, g14, g15, g16, g17, g18, g19, g20, g21, g22, g23, g24, g25, g26, g27, g28, g30, g31, g32, g33, g34, g35, g37, g38, g39, g40, g41, g42, g43, g44, g45, g46, g47, g48, g49, g50, g51, g52, g54, g55, g57, g58, g60, g61, g62, g64, g65, g66, g67, g68, g69, g71, g72, g74, g75, g76, g77, g79, g80, g81, g82, g83, g84, g85, g86, g87, g88, g89, g90, g92, g93, g94, g95, g96, g98, g99, g100, g101, g102, g103, g104, g105, g106, g107, g108, g109, g110, g111, g113, g114, g115, g116, g117, g118, g119, g120, g121, g122, g124, g125, g126, g127, g128, g129, g130, g132, g133, g134, g135, g137, g138, g139, g141, g142, g143, g144, g145, g146, g147, g148, g149, g150, g151, g152, g153, g154, g155, g156, g157, g158, g159, g160, g161, g162]) Try.func70 rfl rfl rfl ?_
  intro E1 x l hk bρ bθ hden hps has hbo
  refine evCode_sound Γok _ _ _ ?_
  simp (maxSteps := 4000000) only [slAppend, evAppendX, evCopy, rowApp, appRow, rowCopy, evAlts_cons, mixN_eq, evC_skip, evC_label, evC_ret, evC_exit, evC_goto, evC_region, evC_seq, evC_cond, evC_block, evC_loop, evC_scope, evC_rangeFunc, seqK.eq_1, seqK.eq_2, seqK.eq_3, seqK.eq_4, callK_eq, nilK_eq, skipV, evOps.eq_1, evOps.eq_2, evStill.eq_1, evStill.eq_2, evGuard, evalP, evEff, evCall, evAppend, evPick, evNil, evField, evIndexAddr, evLoad, evUn, evConv, evFieldV, evIndex, evSlice, cut, cutTag, slTag, cutL, evBuiltin, evBuild, evParts, placeOf, fieldOf, nth, leaves, spl, opd, ovc, ovcL, core, vcg, SS.eval, SS.put, SS.enter, SS.addBlk, SS.addTok, SS.setBlk, SS.back, lentOf, lentHp, lentTk, lentRs, lget, lset, hfind, hset, hpRen, hpDel, tkRen, tkDelL, rsRen, rsDel, memB, fmap, ren, renL, renT, tkMem, tkDel, bin, binI, binS, binE, isC, isT, isF, isNilS, evSliceNil, appd, intsOf, slTag, ofV, ofLeaf, one, allOne, thenK.eq_1, thenK.eq_2, thenK.eq_3, thenK.eq_4, blockK.eq_1, blockK.eq_2, blockK.eq_3, blockK.eq_4, retK.eq_1, retK.eq_2, retK.eq_3, retK.eq_4, evRes, single, TD.agg, allT, tdT, nilSS, noTI, rowsOf, elOf, pickL, eqB, leafEq, loopN.eq_1, loopN.eq_2, scopeK.eq_1, scopeK.eq_2, scopeK.eq_3, scopeK.eq_4, SubW, CallW, FinW, retS, retF, markK, rsCut, rsSet, rsFind, iterK.eq_1, iterK.eq_2, iterK.eq_3, iterEnd, pendK.eq_1, pendK.eq_2, pendK.eq_3, pendK.eq_4, roundK.eq_1, roundK.eq_2, roundK.eq_3, roundK.eq_4, roundEnd, assignK.eq_1, assignK.eq_2, YOK_eq, setPs, SS.iter, memId, hpSub, tkSub, rsSub, W, WL, TW, distincts, allLt, idTo, SS.lt, hpLt, rsLt, Nat.le_refl, List.toList_toArray, List.size_toArray, List.map, List.cons_append, List.nil_append, List.append_nil, List.length_cons, List.length_nil, List.replicate, List.take_succ_cons, List.take_zero, List.drop_succ_cons, List.drop_zero, Option.map_some, Option.map_none, Option.toList, Option.isSome, Option.isNone_none, Option.isNone_some, Int.reduceBNe, Int.reduceBEq, Int.reduceAdd, Int.reduceSub, Int.reduceMul, Int.reduceNeg, Int.reduceLT, Int.reduceLE, Bool.not_true, Bool.not_false, Nat.reduceLT, decide_true, decide_false, bne_self_eq_false, Nat.reduceAdd, Nat.reduceSub, Nat.reduceMul, Nat.reduceEqDiff, Nat.reduceLeDiff, Nat.reduceBEq, reduceIte, reduceCtorEq, Nat.add_zero, Nat.zero_add, Bool.or_false, Bool.false_or, Bool.or_true, Bool.true_or, Bool.and_true, Bool.true_and, List.mem_cons, forall_eq_or_imp, forall_eq, List.not_mem_nil, ne_eq, not_false_eq_true, not_true_eq_false, true_and, and_true, and_self, true_or, or_true, forall_const, Bool.false_eq_true, beq_self_eq_true, Bool.not_eq_true, Bool.not_eq_false, imp_self, implies_true, false_imp_iff, g1, g2, g3, g4, g5, g6, g7, g8, g9, g10, g11, g12, g13, g14, g15, g16, g17, g18, g19, g20, g21, g22, g23, g24, g25, g26, g27, g28, g30, g31, g32, g33, g34, g35, g37, g38, g39, g40, g41, g42, g43, g44, g45, g46, g47, g48, g49, g50, g51, g52, g54, g55, g57, g58, g60, g61, g62, g64, g65, g66, g67, g68, g69, g71, g72, g74, g75, g76, g77, g79, g80, g81, g82, g83, g84, g85, g86, g87, g88, g89, g90, g92, g93, g94, g95, g96, g98, g99, g100, g101, g102, g103, g104, g105, g106, g107, g108, g109, g110, g111, g113, g114, g115, g116, g117, g118, g119, g120, g121, g122, g124, g125, g126, g127, g128, g129, g130, g132, g133, g134, g135, g137, g138, g139, g141, g142, g143, g144, g145, g146, g147, g148, g149, g150, g151, g152, g153, g154, g155, g156, g157, g158, g159, g160, g161, g162, Try.f70]
  refine loop_ok (ι := {x : Nat × List Int × Int // x.1 ≤ t.length ∧ x.2.1 ++ wr m s (t.drop x.1) x.2.2 = wr m s t 0 ∧ 0 ≤ x.2.2 ∧ x.2.2 ≤ x.1 ∧ x.2.1.length ≤ x.1})
    (fun y => ⟨[.raw (.func (.yield l) #[] #[]), .ptr 3 0, .ptr 1 0, .ptr 2 0, .any, .i .i64 y.1.2.2, .any, .any, .ints .u8 .old t, .i .i64 t.length, .i .i64 y.1.1] ++ List.replicate 30 .any,
      [(3, 22, [.ints .u8 .old t]), (2, 3, [.i .i64 s]), (1, 3, [.i .i64 m]), (0, 35, [.ints .i64 (.tok 6 true) y.1.2.1])], [6],
      [(5, x.res l .ready none), (4, RObj x.D (.deferred (some [])))], 7, 6, []⟩) (fun x => t.length - x.1.1) ⟨(0, [], 0), by simp, by simp, by simp, by simp, by simp⟩ ?_ ?_
  · refine Sub.trans (Sub.tokHp 0 0 rfl rfl) (Sub.w [0, 1, 2, 3, 4, 5, 6] ?_)
    simp (maxSteps := 4000000) only [slAppend, evAppendX, evCopy, rowApp, appRow, rowCopy, evAlts_cons, mixN_eq, evC_skip, evC_label, evC_ret, evC_exit, evC_goto, evC_region, evC_seq, evC_cond, evC_block, evC_loop, evC_scope, evC_rangeFunc, seqK.eq_1, seqK.eq_2, seqK.eq_3, seqK.eq_4, callK_eq, nilK_eq, skipV, evOps.eq_1, evOps.eq_2, evStill.eq_1, evStill.eq_2, evGuard, evalP, evEff, evCall, evAppend, evPick, evNil, evField, evIndexAddr, evLoad, evUn, evConv, evFieldV, evIndex, evSlice, cut, cutTag, slTag, cutL, evBuiltin, evBuild, evParts, placeOf, fieldOf, nth, leaves, spl, opd, ovc, ovcL, core, vcg, SS.eval, SS.put, SS.enter, SS.addBlk, SS.addTok, SS.setBlk, SS.back, lentOf, lentHp, lentTk, lentRs, lget, lset, hfind, hset, hpRen, hpDel, tkRen, tkDelL, rsRen, rsDel, memB, fmap, ren, renL, renT, tkMem, tkDel, bin, binI, binS, binE, isC, isT, isF, isNilS, evSliceNil, appd, intsOf, slTag, ofV, ofLeaf, one, allOne, thenK.eq_1, thenK.eq_2, thenK.eq_3, thenK.eq_4, blockK.eq_1, blockK.eq_2, blockK.eq_3, blockK.eq_4, retK.eq_1, retK.eq_2, retK.eq_3, retK.eq_4, evRes, single, TD.agg, allT, tdT, nilSS, noTI, rowsOf, elOf, pickL, eqB, leafEq, loopN.eq_1, loopN.eq_2, scopeK.eq_1, scopeK.eq_2, scopeK.eq_3, scopeK.eq_4, SubW, CallW, FinW, retS, retF, markK, rsCut, rsSet, rsFind, iterK.eq_1, iterK.eq_2, iterK.eq_3, iterEnd, pendK.eq_1, pendK.eq_2, pendK.eq_3, pendK.eq_4, roundK.eq_1, roundK.eq_2, roundK.eq_3, roundK.eq_4, roundEnd, assignK.eq_1, assignK.eq_2, YOK_eq, setPs, SS.iter, memId, hpSub, tkSub, rsSub, W, WL, TW, distincts, allLt, idTo, SS.lt, hpLt, rsLt, Nat.le_refl, List.toList_toArray, List.size_toArray, List.map, List.cons_append, List.nil_append, List.append_nil, List.length_cons, List.length_nil, List.replicate, List.take_succ_cons, List.take_zero, List.drop_succ_cons, List.drop_zero, Option.map_some, Option.map_none, Option.toList, Option.isSome, Option.isNone_none, Option.isNone_some, Int.reduceBNe, Int.reduceBEq, Int.reduceAdd, Int.reduceSub, Int.reduceMul, Int.reduceNeg, Int.reduceLT, Int.reduceLE, Bool.not_true, Bool.not_false, Nat.reduceLT, decide_true, decide_false, bne_self_eq_false, Nat.reduceAdd, Nat.reduceSub, Nat.reduceMul, Nat.reduceEqDiff, Nat.reduceLeDiff, Nat.reduceBEq, reduceIte, reduceCtorEq, Nat.add_zero, Nat.zero_add, Bool.or_false, Bool.false_or, Bool.or_true, Bool.true_or, Bool.and_true, Bool.true_and, List.mem_cons, forall_eq_or_imp, forall_eq, List.not_mem_nil, ne_eq, not_false_eq_true, not_true_eq_false, true_and, and_true, and_self, true_or, or_true, forall_const, Bool.false_eq_true, beq_self_eq_true, Bool.not_eq_true, Bool.not_eq_false, imp_self, implies_true, false_imp_iff, g1, g2, g3, g4, g5, g6, g7, g8, g9, g10, g11, g12, g13, g14, g15, g16, g17, g18, g19, g20, g21, g22, g23, g24, g25, g26, g27, g28, g30, g31, g32, g33, g34, g35, g37, g38, g39, g40, g41, g42, g43, g44, g45, g46, g47, g48, g49, g50, g51, g52, g54, g55, g57, g58, g60, g61, g62, g64, g65, g66, g67, g68, g69, g71, g72, g74, g75, g76, g77, g79, g80, g81, g82, g83, g84, g85, g86, g87, g88, g89, g90, g92, g93, g94, g95, g96, g98, g99, g100, g101, g102, g103, g104, g105, g106, g107, g108, g109, g110, g111, g113, g114, g115, g116, g117, g118, g119, g120, g121, g122, g124, g125, g126, g127, g128, g129, g130, g132, g133, g134, g135, g137, g138, g139, g141, g142, g143, g144, g145, g146, g147, g148, g149, g150, g151, g152, g153, g154, g155, g156, g157, g158, g159, g160, g161, g162]
    rfl
  · rintro ⟨⟨i, acc, n⟩, hi, hacc, hn0, hni, hal⟩
    refine evCode_sound Γok _ _ _ ?_
    simp (maxSteps := 4000000) only [slAppend, evAppendX, evCopy, rowApp, appRow, rowCopy, evAlts_cons, mixN_eq, evC_skip, evC_label, evC_ret, evC_exit, evC_goto, evC_region, evC_seq, evC_cond, evC_block, evC_loop, evC_scope, evC_rangeFunc, seqK.eq_1, seqK.eq_2, seqK.eq_3, seqK.eq_4, callK_eq, nilK_eq, skipV, evOps.eq_1, evOps.eq_2, evStill.eq_1, evStill.eq_2, evGuard, evalP, evEff, evCall, evAppend, evPick, evNil, evField, evIndexAddr, evLoad, evUn, evConv, evFieldV, evIndex, evSlice, cut, cutTag, slTag, cutL, evBuiltin, evBuild, evParts, placeOf, fieldOf, nth, leaves, spl, opd, ovc, ovcL, core, vcg, SS.eval, SS.put, SS.enter, SS.addBlk, SS.addTok, SS.setBlk, SS.back, lentOf, lentHp, lentTk, lentRs, lget, lset, hfind, hset, hpRen, hpDel, tkRen, tkDelL, rsRen, rsDel, memB, fmap, ren, renL, renT, tkMem, tkDel, bin, binI, binS, binE, isC, isT, isF, isNilS, evSliceNil, appd, intsOf, slTag, ofV, ofLeaf, one, allOne, thenK.eq_1, thenK.eq_2, thenK.eq_3, thenK.eq_4, blockK.eq_1, blockK.eq_2, blockK.eq_3, blockK.eq_4, retK.eq_1, retK.eq_2, retK.eq_3, retK.eq_4, evRes, single, TD.agg, allT, tdT, nilSS, noTI, rowsOf, elOf, pickL, eqB, leafEq, loopN.eq_1, loopN.eq_2, scopeK.eq_1, scopeK.eq_2, scopeK.eq_3, scopeK.eq_4, SubW, CallW, FinW, retS, retF, markK, rsCut, rsSet, rsFind, iterK.eq_1, iterK.eq_2, iterK.eq_3, iterEnd, pendK.eq_1, pendK.eq_2, pendK.eq_3, pendK.eq_4, roundK.eq_1, roundK.eq_2, roundK.eq_3, roundK.eq_4, roundEnd, assignK.eq_1, assignK.eq_2, YOK_eq, setPs, SS.iter, memId, hpSub, tkSub, rsSub, W, WL, TW, distincts, allLt, idTo, SS.lt, hpLt, rsLt, Nat.le_refl, List.toList_toArray, List.size_toArray, List.map, List.cons_append, List.nil_append, List.append_nil, List.length_cons, List.length_nil, List.replicate, List.take_succ_cons, List.take_zero, List.drop_succ_cons, List.drop_zero, Option.map_some, Option.map_none, Option.toList, Option.isSome, Option.isNone_none, Option.isNone_some, Int.reduceBNe, Int.reduceBEq, Int.reduceAdd, Int.reduceSub, Int.reduceMul, Int.reduceNeg, Int.reduceLT, Int.reduceLE, Bool.not_true, Bool.not_false, Nat.reduceLT, decide_true, decide_false, bne_self_eq_false, Nat.reduceAdd, Nat.reduceSub, Nat.reduceMul, Nat.reduceEqDiff, Nat.reduceLeDiff, Nat.reduceBEq, reduceIte, reduceCtorEq, Nat.add_zero, Nat.zero_add, Bool.or_false, Bool.false_or, Bool.or_true, Bool.true_or, Bool.and_true, Bool.true_and, List.mem_cons, forall_eq_or_imp, forall_eq, List.not_mem_nil, ne_eq, not_false_eq_true, not_true_eq_false, true_and, and_true, and_self, true_or, or_true, forall_const, Bool.false_eq_true, beq_self_eq_true, Bool.not_eq_true, Bool.not_eq_false, imp_self, implies_true, false_imp_iff, g1, g2, g3, g4, g5, g6, g7, g8, g9, g10, g11, g12, g13, g14, g15, g16, g17, g18, g19, g20, g21, g22, g23, g24, g25, g26, g27, g28, g30, g31, g32, g33, g34, g35, g37, g38, g39, g40, g41, g42, g43, g44, g45, g46, g47, g48, g49, g50, g51, g52, g54, g55, g57, g58, g60, g61, g62, g64, g65, g66, g67, g68, g69, g71, g72, g74, g75, g76, g77, g79, g80, g81, g82, g83, g84, g85, g86, g87, g88, g89, g90, g92, g93, g94, g95, g96, g98, g99, g100, g101, g102, g103, g104, g105, g106, g107, g108, g109, g110, g111, g113, g114, g115, g116, g117, g118, g119, g120, g121, g122, g124, g125, g126, g127, g128, g129, g130, g132, g133, g134, g135, g137, g138, g139, g141, g142, g143, g144, g145, g146, g147, g148, g149, g150, g151, g152, g153, g154, g155, g156, g157, g158, g159, g160, g161, g162]
    simp only at hi hacc hn0 hni hal
    have w1 : IntKind.i64.wrap (n + 1) = n + 1 := wrap64 (by omega) (by omega)
    rw [w1]
    clear hk
    refine ⟨fun h3 => ?_, fun h3 => ⟨fun h4 => ?_, fun h4 => ?_⟩⟩
    · have hi2 : i < t.length := by simpa using h3
      have hd := wr_drop m s t i hi2 n
      rw [hd] at hacc
      simp only [Int.toNat_natCast]
      have w2 : IntKind.i64.wrap ((i : Int) + 1) = i + 1 := wrap64 (by omega) (by omega)
      refine ⟨by omega, by simp, ?_, by simp, fun h5 => ?_, fun h5 => ?_⟩
      · intro h5 h6
        simp at h5 h6 ⊢
        simp [h5, h6]
      · refine yield_ok Γok (l := l) bρ bθ hden 5 [] 2 rfl ?_
        clear hden
        simp (maxSteps := 4000000) only [slAppend, evAppendX, evCopy, rowApp, appRow, rowCopy, evAlts_cons, mixN_eq, evC_skip, evC_label, evC_ret, evC_exit, evC_goto, evC_region, evC_seq, evC_cond, evC_block, evC_loop, evC_scope, evC_rangeFunc, seqK.eq_1, seqK.eq_2, seqK.eq_3, seqK.eq_4, callK_eq, nilK_eq, skipV, evOps.eq_1, evOps.eq_2, evStill.eq_1, evStill.eq_2, evGuard, evalP, evEff, evCall, evAppend, evPick, evNil, evField, evIndexAddr, evLoad, evUn, evConv, evFieldV, evIndex, evSlice, cut, cutTag, slTag, cutL, evBuiltin, evBuild, evParts, placeOf, fieldOf, nth, leaves, spl, opd, ovc, ovcL, core, vcg, SS.eval, SS.put, SS.enter, SS.addBlk, SS.addTok, SS.setBlk, SS.back, lentOf, lentHp, lentTk, lentRs, lget, lset, hfind, hset, hpRen, hpDel, tkRen, tkDelL, rsRen, rsDel, memB, fmap, ren, renL, renT, tkMem, tkDel, bin, binI, binS, binE, isC, isT, isF, isNilS, evSliceNil, appd, intsOf, slTag, ofV, ofLeaf, one, allOne, thenK.eq_1, thenK.eq_2, thenK.eq_3, thenK.eq_4, blockK.eq_1, blockK.eq_2, blockK.eq_3, blockK.eq_4, retK.eq_1, retK.eq_2, retK.eq_3, retK.eq_4, evRes, single, TD.agg, allT, tdT, nilSS, noTI, rowsOf, elOf, pickL, eqB, leafEq, loopN.eq_1, loopN.eq_2, scopeK.eq_1, scopeK.eq_2, scopeK.eq_3, scopeK.eq_4, SubW, CallW, FinW, retS, retF, markK, rsCut, rsSet, rsFind, iterK.eq_1, iterK.eq_2, iterK.eq_3, iterEnd, pendK.eq_1, pendK.eq_2, pendK.eq_3, pendK.eq_4, roundK.eq_1, roundK.eq_2, roundK.eq_3, roundK.eq_4, roundEnd, assignK.eq_1, assignK.eq_2, YOK_eq, setPs, SS.iter, memId, hpSub, tkSub, rsSub, W, WL, TW, distincts, allLt, idTo, SS.lt, hpLt, rsLt, Nat.le_refl, List.toList_toArray, List.size_toArray, List.map, List.cons_append, List.nil_append, List.append_nil, List.length_cons, List.length_nil, List.replicate, List.take_succ_cons, List.take_zero, List.drop_succ_cons, List.drop_zero, Option.map_some, Option.map_none, Option.toList, Option.isSome, Option.isNone_none, Option.isNone_some, Int.reduceBNe, Int.reduceBEq, Int.reduceAdd, Int.reduceSub, Int.reduceMul, Int.reduceNeg, Int.reduceLT, Int.reduceLE, Bool.not_true, Bool.not_false, Nat.reduceLT, decide_true, decide_false, bne_self_eq_false, Nat.reduceAdd, Nat.reduceSub, Nat.reduceMul, Nat.reduceEqDiff, Nat.reduceLeDiff, Nat.reduceBEq, reduceIte, reduceCtorEq, Nat.add_zero, Nat.zero_add, Bool.or_false, Bool.false_or, Bool.or_true, Bool.true_or, Bool.and_true, Bool.true_and, List.mem_cons, forall_eq_or_imp, forall_eq, List.not_mem_nil, ne_eq, not_false_eq_true, not_true_eq_false, true_and, and_true, and_self, true_or, or_true, forall_const, Bool.false_eq_true, beq_self_eq_true, Bool.not_eq_true, Bool.not_eq_false, imp_self, implies_true, false_imp_iff, g1, g2, g3, g4, g5, g6, g7, g8, g9, g10, g11, g12, g13, g14, g15, g16, g17, g18, g19, g20, g21, g22, g23, g24, g25, g26, g27, g28, g30, g31, g32, g33, g34, g35, g37, g38, g39, g40, g41, g42, g43, g44, g45, g46, g47, g48, g49, g50, g51, g52, g54, g55, g57, g58, g60, g61, g62, g64, g65, g66, g67, g68, g69, g71, g72, g74, g75, g76, g77, g79, g80, g81, g82, g83, g84, g85, g86, g87, g88, g89, g90, g92, g93, g94, g95, g96, g98, g99, g100, g101, g102, g103, g104, g105, g106, g107, g108, g109, g110, g111, g113, g114, g115, g116, g117, g118, g119, g120, g121, g122, g124, g125, g126, g127, g128, g129, g130, g132, g133, g134, g135, g137, g138, g139, g141, g142, g143, g144, g145, g146, g147, g148, g149, g150, g151, g152, g153, g154, g155, g156, g157, g158, g159, g160, g161, g162, hps, has]
        refine evCode_sound Γok _ _ _ ?_
        simp (maxSteps := 4000000) only [slAppend, evAppendX, evCopy, rowApp, appRow, rowCopy, evAlts_cons, mixN_eq, evC_skip, evC_label, evC_ret, evC_exit, evC_goto, evC_region, evC_seq, evC_cond, evC_block, evC_loop, evC_scope, evC_rangeFunc, seqK.eq_1, seqK.eq_2, seqK.eq_3, seqK.eq_4, callK_eq, nilK_eq, skipV, evOps.eq_1, evOps.eq_2, evStill.eq_1, evStill.eq_2, evGuard, evalP, evEff, evCall, evAppend, evPick, evNil, evField, evIndexAddr, evLoad, evUn, evConv, evFieldV, evIndex, evSlice, cut, cutTag, slTag, cutL, evBuiltin, evBuild, evParts, placeOf, fieldOf, nth, leaves, spl, opd, ovc, ovcL, core, vcg, SS.eval, SS.put, SS.enter, SS.addBlk, SS.addTok, SS.setBlk, SS.back, lentOf, lentHp, lentTk, lentRs, lget, lset, hfind, hset, hpRen, hpDel, tkRen, tkDelL, rsRen, rsDel, memB, fmap, ren, renL, renT, tkMem, tkDel, bin, binI, binS, binE, isC, isT, isF, isNilS, evSliceNil, appd, intsOf, slTag, ofV, ofLeaf, one, allOne, thenK.eq_1, thenK.eq_2, thenK.eq_3, thenK.eq_4, blockK.eq_1, blockK.eq_2, blockK.eq_3, blockK.eq_4, retK.eq_1, retK.eq_2, retK.eq_3, retK.eq_4, evRes, single, TD.agg, allT, tdT, nilSS, noTI, rowsOf, elOf, pickL, eqB, leafEq, loopN.eq_1, loopN.eq_2, scopeK.eq_1, scopeK.eq_2, scopeK.eq_3, scopeK.eq_4, SubW, CallW, FinW, retS, retF, markK, rsCut, rsSet, rsFind, iterK.eq_1, iterK.eq_2, iterK.eq_3, iterEnd, pendK.eq_1, pendK.eq_2, pendK.eq_3, pendK.eq_4, roundK.eq_1, roundK.eq_2, roundK.eq_3, roundK.eq_4, roundEnd, assignK.eq_1, assignK.eq_2, YOK_eq, setPs, SS.iter, memId, hpSub, tkSub, rsSub, W, WL, TW, distincts, allLt, idTo, SS.lt, hpLt, rsLt, Nat.le_refl, List.toList_toArray, List.size_toArray, List.map, List.cons_append, List.nil_append, List.append_nil, List.length_cons, List.length_nil, List.replicate, List.take_succ_cons, List.take_zero, List.drop_succ_cons, List.drop_zero, Option.map_some, Option.map_none, Option.toList, Option.isSome, Option.isNone_none, Option.isNone_some, Int.reduceBNe, Int.reduceBEq, Int.reduceAdd, Int.reduceSub, Int.reduceMul, Int.reduceNeg, Int.reduceLT, Int.reduceLE, Bool.not_true, Bool.not_false, Nat.reduceLT, decide_true, decide_false, bne_self_eq_false, Nat.reduceAdd, Nat.reduceSub, Nat.reduceMul, Nat.reduceEqDiff, Nat.reduceLeDiff, Nat.reduceBEq, reduceIte, reduceCtorEq, Nat.add_zero, Nat.zero_add, Bool.or_false, Bool.false_or, Bool.or_true, Bool.true_or, Bool.and_true, Bool.true_and, List.mem_cons, forall_eq_or_imp, forall_eq, List.not_mem_nil, ne_eq, not_false_eq_true, not_true_eq_false, true_and, and_true, and_self, true_or, or_true, forall_const, Bool.false_eq_true, beq_self_eq_true, Bool.not_eq_true, Bool.not_eq_false, imp_self, implies_true, false_imp_iff, g1, g2, g3, g4, g5, g6, g7, g8, g9, g10, g11, g12, g13, g14, g15, g16, g17, g18, g19, g20, g21, g22, g23, g24, g25, g26, g27, g28, g30, g31, g32, g33, g34, g35, g37, g38, g39, g40, g41, g42, g43, g44, g45, g46, g47, g48, g49, g50, g51, g52, g54, g55, g57, g58, g60, g61, g62, g64, g65, g66, g67, g68, g69, g71, g72, g74, g75, g76, g77, g79, g80, g81, g82, g83, g84, g85, g86, g87, g88, g89, g90, g92, g93, g94, g95, g96, g98, g99, g100, g101, g102, g103, g104, g105, g106, g107, g108, g109, g110, g111, g113, g114, g115, g116, g117, g118, g119, g120, g121, g122, g124, g125, g126, g127, g128, g129, g130, g132, g133, g134, g135, g137, g138, g139, g141, g142, g143, g144, g145, g146, g147, g148, g149, g150, g151, g152, g153, g154, g155, g156, g157, g158, g159, g160, g161, g162, hbo]
        refine evCode_sound Γok _ _ _ ?_
        simp (maxSteps := 4000000) only [slAppend, evAppendX, evCopy, rowApp, appRow, rowCopy, evAlts_cons, mixN_eq, evC_skip, evC_label, evC_ret, evC_exit, evC_goto, evC_region, evC_seq, evC_cond, evC_block, evC_loop, evC_scope, evC_rangeFunc, seqK.eq_1, seqK.eq_2, seqK.eq_3, seqK.eq_4, callK_eq, nilK_eq, skipV, evOps.eq_1, evOps.eq_2, evStill.eq_1, evStill.eq_2, evGuard, evalP, evEff, evCall, evAppend, evPick, evNil, evField, evIndexAddr, evLoad, evUn, evConv, evFieldV, evIndex, evSlice, cut, cutTag, slTag, cutL, evBuiltin, evBuild, evParts, placeOf, fieldOf, nth, leaves, spl, opd, ovc, ovcL, core, vcg, SS.eval, SS.put, SS.enter, SS.addBlk, SS.addTok, SS.setBlk, SS.back, lentOf, lentHp, lentTk, lentRs, lget, lset, hfind, hset, hpRen, hpDel, tkRen, tkDelL, rsRen, rsDel, memB, fmap, ren, renL, renT, tkMem, tkDel, bin, binI, binS, binE, isC, isT, isF, isNilS, evSliceNil, appd, intsOf, slTag, ofV, ofLeaf, one, allOne, thenK.eq_1, thenK.eq_2, thenK.eq_3, thenK.eq_4, blockK.eq_1, blockK.eq_2, blockK.eq_3, blockK.eq_4, retK.eq_1, retK.eq_2, retK.eq_3, retK.eq_4, evRes, single, TD.agg, allT, tdT, nilSS, noTI, rowsOf, elOf, pickL, eqB, leafEq, loopN.eq_1, loopN.eq_2, scopeK.eq_1, scopeK.eq_2, scopeK.eq_3, scopeK.eq_4, SubW, CallW, FinW, retS, retF, markK, rsCut, rsSet, rsFind, iterK.eq_1, iterK.eq_2, iterK.eq_3, iterEnd, pendK.eq_1, pendK.eq_2, pendK.eq_3, pendK.eq_4, roundK.eq_1, roundK.eq_2, roundK.eq_3, roundK.eq_4, roundEnd, assignK.eq_1, assignK.eq_2, YOK_eq, setPs, SS.iter, memId, hpSub, tkSub, rsSub, W, WL, TW, distincts, allLt, idTo, SS.lt, hpLt, rsLt, Nat.le_refl, List.toList_toArray, List.size_toArray, List.map, List.cons_append, List.nil_append, List.append_nil, List.length_cons, List.length_nil, List.replicate, List.take_succ_cons, List.take_zero, List.drop_succ_cons, List.drop_zero, Option.map_some, Option.map_none, Option.toList, Option.isSome, Option.isNone_none, Option.isNone_some, Int.reduceBNe, Int.reduceBEq, Int.reduceAdd, Int.reduceSub, Int.reduceMul, Int.reduceNeg, Int.reduceLT, Int.reduceLE, Bool.not_true, Bool.not_false, Nat.reduceLT, decide_true, decide_false, bne_self_eq_false, Nat.reduceAdd, Nat.reduceSub, Nat.reduceMul, Nat.reduceEqDiff, Nat.reduceLeDiff, Nat.reduceBEq, reduceIte, reduceCtorEq, Nat.add_zero, Nat.zero_add, Bool.or_false, Bool.false_or, Bool.or_true, Bool.true_or, Bool.and_true, Bool.true_and, List.mem_cons, forall_eq_or_imp, forall_eq, List.not_mem_nil, ne_eq, not_false_eq_true, not_true_eq_false, true_and, and_true, and_self, true_or, or_true, forall_const, Bool.false_eq_true, beq_self_eq_true, Bool.not_eq_true, Bool.not_eq_false, imp_self, implies_true, false_imp_iff, g1, g2, g3, g4, g5, g6, g7, g8, g9, g10, g11, g12, g13, g14, g15, g16, g17, g18, g19, g20, g21, g22, g23, g24, g25, g26, g27, g28, g30, g31, g32, g33, g34, g35, g37, g38, g39, g40, g41, g42, g43, g44, g45, g46, g47, g48, g49, g50, g51, g52, g54, g55, g57, g58, g60, g61, g62, g64, g65, g66, g67, g68, g69, g71, g72, g74, g75, g76, g77, g79, g80, g81, g82, g83, g84, g85, g86, g87, g88, g89, g90, g92, g93, g94, g95, g96, g98, g99, g100, g101, g102, g103, g104, g105, g106, g107, g108, g109, g110, g111, g113, g114, g115, g116, g117, g118, g119, g120, g121, g122, g124, g125, g126, g127, g128, g129, g130, g132, g133, g134, g135, g137, g138, g139, g141, g142, g143, g144, g145, g146, g147, g148, g149, g150, g151, g152, g153, g154, g155, g156, g157, g158, g159, g160, g161, g162]
        rw [w2]
        refine ⟨by omega, ⟨(i + 1, acc ++ [n + 1], 0), hi2, ?_, by simp, by simp; omega, by simp; omega⟩, by simp only; omega, Sub.w [0, 1, 2, 3, 4, 5, 8] ?_⟩
        · have hc : m = 1 ∨ n + 1 = s ∨ (m = 2 ∧ t.getD i 0 = 10) := by simp at h5 ⊢; omega
          rw [if_pos hc] at hacc
          simp only [List.append_assoc, List.cons_append, List.nil_append]
          exact hacc
        · simp (maxSteps := 4000000) only [slAppend, evAppendX, evCopy, rowApp, appRow, rowCopy, evAlts_cons, mixN_eq, evC_skip, evC_label, evC_ret, evC_exit, evC_goto, evC_region, evC_seq, evC_cond, evC_block, evC_loop, evC_scope, evC_rangeFunc, seqK.eq_1, seqK.eq_2, seqK.eq_3, seqK.eq_4, callK_eq, nilK_eq, skipV, evOps.eq_1, evOps.eq_2, evStill.eq_1, evStill.eq_2, evGuard, evalP, evEff, evCall, evAppend, evPick, evNil, evField, evIndexAddr, evLoad, evUn, evConv, evFieldV, evIndex, evSlice, cut, cutTag, slTag, cutL, evBuiltin, evBuild, evParts, placeOf, fieldOf, nth, leaves, spl, opd, ovc, ovcL, core, vcg, SS.eval, SS.put, SS.enter, SS.addBlk, SS.addTok, SS.setBlk, SS.back, lentOf, lentHp, lentTk, lentRs, lget, lset, hfind, hset, hpRen, hpDel, tkRen, tkDelL, rsRen, rsDel, memB, fmap, ren, renL, renT, tkMem, tkDel, bin, binI, binS, binE, isC, isT, isF, isNilS, evSliceNil, appd, intsOf, slTag, ofV, ofLeaf, one, allOne, thenK.eq_1, thenK.eq_2, thenK.eq_3, thenK.eq_4, blockK.eq_1, blockK.eq_2, blockK.eq_3, blockK.eq_4, retK.eq_1, retK.eq_2, retK.eq_3, retK.eq_4, evRes, single, TD.agg, allT, tdT, nilSS, noTI, rowsOf, elOf, pickL, eqB, leafEq, loopN.eq_1, loopN.eq_2, scopeK.eq_1, scopeK.eq_2, scopeK.eq_3, scopeK.eq_4, SubW, CallW, FinW, retS, retF, markK, rsCut, rsSet, rsFind, iterK.eq_1, iterK.eq_2, iterK.eq_3, iterEnd, pendK.eq_1, pendK.eq_2, pendK.eq_3, pendK.eq_4, roundK.eq_1, roundK.eq_2, roundK.eq_3, roundK.eq_4, roundEnd, assignK.eq_1, assignK.eq_2, YOK_eq, setPs, SS.iter, memId, hpSub, tkSub, rsSub, W, WL, TW, distincts, allLt, idTo, SS.lt, hpLt, rsLt, Nat.le_refl, List.toList_toArray, List.size_toArray, List.map, List.cons_append, List.nil_append, List.append_nil, List.length_cons, List.length_nil, List.replicate, List.take_succ_cons, List.take_zero, List.drop_succ_cons, List.drop_zero, Option.map_some, Option.map_none, Option.toList, Option.isSome, Option.isNone_none, Option.isNone_some, Int.reduceBNe, Int.reduceBEq, Int.reduceAdd, Int.reduceSub, Int.reduceMul, Int.reduceNeg, Int.reduceLT, Int.reduceLE, Bool.not_true, Bool.not_false, Nat.reduceLT, decide_true, decide_false, bne_self_eq_false, Nat.reduceAdd, Nat.reduceSub, Nat.reduceMul, Nat.reduceEqDiff, Nat.reduceLeDiff, Nat.reduceBEq, reduceIte, reduceCtorEq, Nat.add_zero, Nat.zero_add, Bool.or_false, Bool.false_or, Bool.or_true, Bool.true_or, Bool.and_true, Bool.true_and, List.mem_cons, forall_eq_or_imp, forall_eq, List.not_mem_nil, ne_eq, not_false_eq_true, not_true_eq_false, true_and, and_true, and_self, true_or, or_true, forall_const, Bool.false_eq_true, beq_self_eq_true, Bool.not_eq_true, Bool.not_eq_false, imp_self, implies_true, false_imp_iff, g1, g2, g3, g4, g5, g6, g7, g8, g9, g10, g11, g12, g13, g14, g15, g16, g17, g18, g19, g20, g21, g22, g23, g24, g25, g26, g27, g28, g30, g31, g32, g33, g34, g35, g37, g38, g39, g40, g41, g42, g43, g44, g45, g46, g47, g48, g49, g50, g51, g52, g54, g55, g57, g58, g60, g61, g62, g64, g65, g66, g67, g68, g69, g71, g72, g74, g75, g76, g77, g79, g80, g81, g82, g83, g84, g85, g86, g87, g88, g89, g90, g92, g93, g94, g95, g96, g98, g99, g100, g101, g102, g103, g104, g105, g106, g107, g108, g109, g110, g111, g113, g114, g115, g116, g117, g118, g119, g120, g121, g122, g124, g125, g126, g127, g128, g129, g130, g132, g133, g134, g135, g137, g138, g139, g141, g142, g143, g144, g145, g146, g147, g148, g149, g150, g151, g152, g153, g154, g155, g156, g157, g158, g159, g160, g161, g162]
          simp
      · rw [w2]
        refine ⟨⟨(i + 1, acc, n + 1), hi2, ?_, by simp only; omega, by simp only; omega, by simp only; omega⟩, by simp only; omega, Sub.w [0, 1, 2, 3, 4, 5, 6] ?_⟩
        · have hc : ¬ (m = 1 ∨ n + 1 = s ∨ (m = 2 ∧ t.getD i 0 = 10)) := by simp at h5 ⊢; omega
          rw [if_neg hc] at hacc
          exact hacc
        · simp (maxSteps := 4000000) only [slAppend, evAppendX, evCopy, rowApp, appRow, rowCopy, evAlts_cons, mixN_eq, evC_skip, evC_label, evC_ret, evC_exit, evC_goto, evC_region, evC_seq, evC_cond, evC_block, evC_loop, evC_scope, evC_rangeFunc, seqK.eq_1, seqK.eq_2, seqK.eq_3, seqK.eq_4, callK_eq, nilK_eq, skipV, evOps.eq_1, evOps.eq_2, evStill.eq_1, evStill.eq_2, evGuard, evalP, evEff, evCall, evAppend, evPick, evNil, evField, evIndexAddr, evLoad, evUn, evConv, evFieldV, evIndex, evSlice, cut, cutTag, slTag, cutL, evBuiltin, evBuild, evParts, placeOf, fieldOf, nth, leaves, spl, opd, ovc, ovcL, core, vcg, SS.eval, SS.put, SS.enter, SS.addBlk, SS.addTok, SS.setBlk, SS.back, lentOf, lentHp, lentTk, lentRs, lget, lset, hfind, hset, hpRen, hpDel, tkRen, tkDelL, rsRen, rsDel, memB, fmap, ren, renL, renT, tkMem, tkDel, bin, binI, binS, binE, isC, isT, isF, isNilS, evSliceNil, appd, intsOf, slTag, ofV, ofLeaf, one, allOne, thenK.eq_1, thenK.eq_2, thenK.eq_3, thenK.eq_4, blockK.eq_1, blockK.eq_2, blockK.eq_3, blockK.eq_4, retK.eq_1, retK.eq_2, retK.eq_3, retK.eq_4, evRes, single, TD.agg, allT, tdT, nilSS, noTI, rowsOf, elOf, pickL, eqB, leafEq, loopN.eq_1, loopN.eq_2, scopeK.eq_1, scopeK.eq_2, scopeK.eq_3, scopeK.eq_4, SubW, CallW, FinW, retS, retF, markK, rsCut, rsSet, rsFind, iterK.eq_1, iterK.eq_2, iterK.eq_3, iterEnd, pendK.eq_1, pendK.eq_2, pendK.eq_3, pendK.eq_4, roundK.eq_1, roundK.eq_2, roundK.eq_3, roundK.eq_4, roundEnd, assignK.eq_1, assignK.eq_2, YOK_eq, setPs, SS.iter, memId, hpSub, tkSub, rsSub, W, WL, TW, distincts, allLt, idTo, SS.lt, hpLt, rsLt, Nat.le_refl, List.toList_toArray, List.size_toArray, List.map, List.cons_append, List.nil_append, List.append_nil, List.length_cons, List.length_nil, List.replicate, List.take_succ_cons, List.take_zero, List.drop_succ_cons, List.drop_zero, Option.map_some, Option.map_none, Option.toList, Option.isSome, Option.isNone_none, Option.isNone_some, Int.reduceBNe, Int.reduceBEq, Int.reduceAdd, Int.reduceSub, Int.reduceMul, Int.reduceNeg, Int.reduceLT, Int.reduceLE, Bool.not_true, Bool.not_false, Nat.reduceLT, decide_true, decide_false, bne_self_eq_false, Nat.reduceAdd, Nat.reduceSub, Nat.reduceMul, Nat.reduceEqDiff, Nat.reduceLeDiff, Nat.reduceBEq, reduceIte, reduceCtorEq, Nat.add_zero, Nat.zero_add, Bool.or_false, Bool.false_or, Bool.or_true, Bool.true_or, Bool.and_true, Bool.true_and, List.mem_cons, forall_eq_or_imp, forall_eq, List.not_mem_nil, ne_eq, not_false_eq_true, not_true_eq_false, true_and, and_true, and_self, true_or, or_true, forall_const, Bool.false_eq_true, beq_self_eq_true, Bool.not_eq_true, Bool.not_eq_false, imp_self, implies_true, false_imp_iff, g1, g2, g3, g4, g5, g6, g7, g8, g9, g10, g11, g12, g13, g14, g15, g16, g17, g18, g19, g20, g21, g22, g23, g24, g25, g26, g27, g28, g30, g31, g32, g33, g34, g35, g37, g38, g39, g40, g41, g42, g43, g44, g45, g46, g47, g48, g49, g50, g51, g52, g54, g55, g57, g58, g60, g61, g62, g64, g65, g66, g67, g68, g69, g71, g72, g74, g75, g76, g77, g79, g80, g81, g82, g83, g84, g85, g86, g87, g88, g89, g90, g92, g93, g94, g95, g96, g98, g99, g100, g101, g102, g103, g104, g105, g106, g107, g108, g109, g110, g111, g113, g114, g115, g116, g117, g118, g119, g120, g121, g122, g124, g125, g126, g127, g128, g129, g130, g132, g133, g134, g135, g137, g138, g139, g141, g142, g143, g144, g145, g146, g147, g148, g149, g150, g151, g152, g153, g154, g155, g156, g157, g158, g159, g160, g161, g162]
          simp
    · refine yield_ok Γok (l := l) bρ bθ hden 5 [] 2 rfl ?_
      clear hden
      simp (maxSteps := 4000000) only [slAppend, evAppendX, evCopy, rowApp, appRow, rowCopy, evAlts_cons, mixN_eq, evC_skip, evC_label, evC_ret, evC_exit, evC_goto, evC_region, evC_seq, evC_cond, evC_block, evC_loop, evC_scope, evC_rangeFunc, seqK.eq_1, seqK.eq_2, seqK.eq_3, seqK.eq_4, callK_eq, nilK_eq, skipV, evOps.eq_1, evOps.eq_2, evStill.eq_1, evStill.eq_2, evGuard, evalP, evEff, evCall, evAppend, evPick, evNil, evField, evIndexAddr, evLoad, evUn, evConv, evFieldV, evIndex, evSlice, cut, cutTag, slTag, cutL, evBuiltin, evBuild, evParts, placeOf, fieldOf, nth, leaves, spl, opd, ovc, ovcL, core, vcg, SS.eval, SS.put, SS.enter, SS.addBlk, SS.addTok, SS.setBlk, SS.back, lentOf, lentHp, lentTk, lentRs, lget, lset, hfind, hset, hpRen, hpDel, tkRen, tkDelL, rsRen, rsDel, memB, fmap, ren, renL, renT, tkMem, tkDel, bin, binI, binS, binE, isC, isT, isF, isNilS, evSliceNil, appd, intsOf, slTag, ofV, ofLeaf, one, allOne, thenK.eq_1, thenK.eq_2, thenK.eq_3, thenK.eq_4, blockK.eq_1, blockK.eq_2, blockK.eq_3, blockK.eq_4, retK.eq_1, retK.eq_2, retK.eq_3, retK.eq_4, evRes, single, TD.agg, allT, tdT, nilSS, noTI, rowsOf, elOf, pickL, eqB, leafEq, loopN.eq_1, loopN.eq_2, scopeK.eq_1, scopeK.eq_2, scopeK.eq_3, scopeK.eq_4, SubW, CallW, FinW, retS, retF, markK, rsCut, rsSet, rsFind, iterK.eq_1, iterK.eq_2, iterK.eq_3, iterEnd, pendK.eq_1, pendK.eq_2, pendK.eq_3, pendK.eq_4, roundK.eq_1, roundK.eq_2, roundK.eq_3, roundK.eq_4, roundEnd, assignK.eq_1, assignK.eq_2, YOK_eq, setPs, SS.iter, memId, hpSub, tkSub, rsSub, W, WL, TW, distincts, allLt, idTo, SS.lt, hpLt, rsLt, Nat.le_refl, List.toList_toArray, List.size_toArray, List.map, List.cons_append, List.nil_append, List.append_nil, List.length_cons, List.length_nil, List.replicate, List.take_succ_cons, List.take_zero, List.drop_succ_cons, List.drop_zero, Option.map_some, Option.map_none, Option.toList, Option.isSome, Option.isNone_none, Option.isNone_some, Int.reduceBNe, Int.reduceBEq, Int.reduceAdd, Int.reduceSub, Int.reduceMul, Int.reduceNeg, Int.reduceLT, Int.reduceLE, Bool.not_true, Bool.not_false, Nat.reduceLT, decide_true, decide_false, bne_self_eq_false, Nat.reduceAdd, Nat.reduceSub, Nat.reduceMul, Nat.reduceEqDiff, Nat.reduceLeDiff, Nat.reduceBEq, reduceIte, reduceCtorEq, Nat.add_zero, Nat.zero_add, Bool.or_false, Bool.false_or, Bool.or_true, Bool.true_or, Bool.and_true, Bool.true_and, List.mem_cons, forall_eq_or_imp, forall_eq, List.not_mem_nil, ne_eq, not_false_eq_true, not_true_eq_false, true_and, and_true, and_self, true_or, or_true, forall_const, Bool.false_eq_true, beq_self_eq_true, Bool.not_eq_true, Bool.not_eq_false, imp_self, implies_true, false_imp_iff, g1, g2, g3, g4, g5, g6, g7, g8, g9, g10, g11, g12, g13, g14, g15, g16, g17, g18, g19, g20, g21, g22, g23, g24, g25, g26, g27, g28, g30, g31, g32, g33, g34, g35, g37, g38, g39, g40, g41, g42, g43, g44, g45, g46, g47, g48, g49, g50, g51, g52, g54, g55, g57, g58, g60, g61, g62, g64, g65, g66, g67, g68, g69, g71, g72, g74, g75, g76, g77, g79, g80, g81, g82, g83, g84, g85, g86, g87, g88, g89, g90, g92, g93, g94, g95, g96, g98, g99, g100, g101, g102, g103, g104, g105, g106, g107, g108, g109, g110, g111, g113, g114, g115, g116, g117, g118, g119, g120, g121, g122, g124, g125, g126, g127, g128, g129, g130, g132, g133, g134, g135, g137, g138, g139, g141, g142, g143, g144, g145, g146, g147, g148, g149, g150, g151, g152, g153, g154, g155, g156, g157, g158, g159, g160, g161, g162, hps, has]
      refine evCode_sound Γok _ _ _ ?_
      simp (maxSteps := 4000000) only [slAppend, evAppendX, evCopy, rowApp, appRow, rowCopy, evAlts_cons, mixN_eq, evC_skip, evC_label, evC_ret, evC_exit, evC_goto, evC_region, evC_seq, evC_cond, evC_block, evC_loop, evC_scope, evC_rangeFunc, seqK.eq_1, seqK.eq_2, seqK.eq_3, seqK.eq_4, callK_eq, nilK_eq, skipV, evOps.eq_1, evOps.eq_2, evStill.eq_1, evStill.eq_2, evGuard, evalP, evEff, evCall, evAppend, evPick, evNil, evField, evIndexAddr, evLoad, evUn, evConv, evFieldV, evIndex, evSlice, cut, cutTag, slTag, cutL, evBuiltin, evBuild, evParts, placeOf, fieldOf, nth, leaves, spl, opd, ovc, ovcL, core, vcg, SS.eval, SS.put, SS.enter, SS.addBlk, SS.addTok, SS.setBlk, SS.back, lentOf, lentHp, lentTk, lentRs, lget, lset, hfind, hset, hpRen, hpDel, tkRen, tkDelL, rsRen, rsDel, memB, fmap, ren, renL, renT, tkMem, tkDel, bin, binI, binS, binE, isC, isT, isF, isNilS, evSliceNil, appd, intsOf, slTag, ofV, ofLeaf, one, allOne, thenK.eq_1, thenK.eq_2, thenK.eq_3, thenK.eq_4, blockK.eq_1, blockK.eq_2, blockK.eq_3, blockK.eq_4, retK.eq_1, retK.eq_2, retK.eq_3, retK.eq_4, evRes, single, TD.agg, allT, tdT, nilSS, noTI, rowsOf, elOf, pickL, eqB, leafEq, loopN.eq_1, loopN.eq_2, scopeK.eq_1, scopeK.eq_2, scopeK.eq_3, scopeK.eq_4, SubW, CallW, FinW, retS, retF, markK, rsCut, rsSet, rsFind, iterK.eq_1, iterK.eq_2, iterK.eq_3, iterEnd, pendK.eq_1, pendK.eq_2, pendK.eq_3, pendK.eq_4, roundK.eq_1, roundK.eq_2, roundK.eq_3, roundK.eq_4, roundEnd, assignK.eq_1, assignK.eq_2, YOK_eq, setPs, SS.iter, memId, hpSub, tkSub, rsSub, W, WL, TW, distincts, allLt, idTo, SS.lt, hpLt, rsLt, Nat.le_refl, List.toList_toArray, List.size_toArray, List.map, List.cons_append, List.nil_append, List.append_nil, List.length_cons, List.length_nil, List.replicate, List.take_succ_cons, List.take_zero, List.drop_succ_cons, List.drop_zero, Option.map_some, Option.map_none, Option.toList, Option.isSome, Option.isNone_none, Option.isNone_some, Int.reduceBNe, Int.reduceBEq, Int.reduceAdd, Int.reduceSub, Int.reduceMul, Int.reduceNeg, Int.reduceLT, Int.reduceLE, Bool.not_true, Bool.not_false, Nat.reduceLT, decide_true, decide_false, bne_self_eq_false, Nat.reduceAdd, Nat.reduceSub, Nat.reduceMul, Nat.reduceEqDiff, Nat.reduceLeDiff, Nat.reduceBEq, reduceIte, reduceCtorEq, Nat.add_zero, Nat.zero_add, Bool.or_false, Bool.false_or, Bool.or_true, Bool.true_or, Bool.and_true, Bool.true_and, List.mem_cons, forall_eq_or_imp, forall_eq, List.not_mem_nil, ne_eq, not_false_eq_true, not_true_eq_false, true_and, and_true, and_self, true_or, or_true, forall_const, Bool.false_eq_true, beq_self_eq_true, Bool.not_eq_true, Bool.not_eq_false, imp_self, implies_true, false_imp_iff, g1, g2, g3, g4, g5, g6, g7, g8, g9, g10, g11, g12, g13, g14, g15, g16, g17, g18, g19, g20, g21, g22, g23, g24, g25, g26, g27, g28, g30, g31, g32, g33, g34, g35, g37, g38, g39, g40, g41, g42, g43, g44, g45, g46, g47, g48, g49, g50, g51, g52, g54, g55, g57, g58, g60, g61, g62, g64, g65, g66, g67, g68, g69, g71, g72, g74, g75, g76, g77, g79, g80, g81, g82, g83, g84, g85, g86, g87, g88, g89, g90, g92, g93, g94, g95, g96, g98, g99, g100, g101, g102, g103, g104, g105, g106, g107, g108, g109, g110, g111, g113, g114, g115, g116, g117, g118, g119, g120, g121, g122, g124, g125, g126, g127, g128, g129, g130, g132, g133, g134, g135, g137, g138, g139, g141, g142, g143, g144, g145, g146, g147, g148, g149, g150, g151, g152, g153, g154, g155, g156, g157, g158, g159, g160, g161, g162, hbo]
      refine evCode_sound Γok _ _ _ ?_
      simp (maxSteps := 4000000) only [slAppend, evAppendX, evCopy, rowApp, appRow, rowCopy, evAlts_cons, mixN_eq, evC_skip, evC_label, evC_ret, evC_exit, evC_goto, evC_region, evC_seq, evC_cond, evC_block, evC_loop, evC_scope, evC_rangeFunc, seqK.eq_1, seqK.eq_2, seqK.eq_3, seqK.eq_4, callK_eq, nilK_eq, skipV, evOps.eq_1, evOps.eq_2, evStill.eq_1, evStill.eq_2, evGuard, evalP, evEff, evCall, evAppend, evPick, evNil, evField, evIndexAddr, evLoad, evUn, evConv, evFieldV, evIndex, evSlice, cut, cutTag, slTag, cutL, evBuiltin, evBuild, evParts, placeOf, fieldOf, nth, leaves, spl, opd, ovc, ovcL, core, vcg, SS.eval, SS.put, SS.enter, SS.addBlk, SS.addTok, SS.setBlk, SS.back, lentOf, lentHp, lentTk, lentRs, lget, lset, hfind, hset, hpRen, hpDel, tkRen, tkDelL, rsRen, rsDel, memB, fmap, ren, renL, renT, tkMem, tkDel, bin, binI, binS, binE, isC, isT, isF, isNilS, evSliceNil, appd, intsOf, slTag, ofV, ofLeaf, one, allOne, thenK.eq_1, thenK.eq_2, thenK.eq_3, thenK.eq_4, blockK.eq_1, blockK.eq_2, blockK.eq_3, blockK.eq_4, retK.eq_1, retK.eq_2, retK.eq_3, retK.eq_4, evRes, single, TD.agg, allT, tdT, nilSS, noTI, rowsOf, elOf, pickL, eqB, leafEq, loopN.eq_1, loopN.eq_2, scopeK.eq_1, scopeK.eq_2, scopeK.eq_3, scopeK.eq_4, SubW, CallW, FinW, retS, retF, markK, rsCut, rsSet, rsFind, iterK.eq_1, iterK.eq_2, iterK.eq_3, iterEnd, pendK.eq_1, pendK.eq_2, pendK.eq_3, pendK.eq_4, roundK.eq_1, roundK.eq_2, roundK.eq_3, roundK.eq_4, roundEnd, assignK.eq_1, assignK.eq_2, YOK_eq, setPs, SS.iter, memId, hpSub, tkSub, rsSub, W, WL, TW, distincts, allLt, idTo, SS.lt, hpLt, rsLt, Nat.le_refl, List.toList_toArray, List.size_toArray, List.map, List.cons_append, List.nil_append, List.append_nil, List.length_cons, List.length_nil, List.replicate, List.take_succ_cons, List.take_zero, List.drop_succ_cons, List.drop_zero, Option.map_some, Option.map_none, Option.toList, Option.isSome, Option.isNone_none, Option.isNone_some, Int.reduceBNe, Int.reduceBEq, Int.reduceAdd, Int.reduceSub, Int.reduceMul, Int.reduceNeg, Int.reduceLT, Int.reduceLE, Bool.not_true, Bool.not_false, Nat.reduceLT, decide_true, decide_false, bne_self_eq_false, Nat.reduceAdd, Nat.reduceSub, Nat.reduceMul, Nat.reduceEqDiff, Nat.reduceLeDiff, Nat.reduceBEq, reduceIte, reduceCtorEq, Nat.add_zero, Nat.zero_add, Bool.or_false, Bool.false_or, Bool.or_true, Bool.true_or, Bool.and_true, Bool.true_and, List.mem_cons, forall_eq_or_imp, forall_eq, List.not_mem_nil, ne_eq, not_false_eq_true, not_true_eq_false, true_and, and_true, and_self, true_or, or_true, forall_const, Bool.false_eq_true, beq_self_eq_true, Bool.not_eq_true, Bool.not_eq_false, imp_self, implies_true, false_imp_iff, g1, g2, g3, g4, g5, g6, g7, g8, g9, g10, g11, g12, g13, g14, g15, g16, g17, g18, g19, g20, g21, g22, g23, g24, g25, g26, g27, g28, g30, g31, g32, g33, g34, g35, g37, g38, g39, g40, g41, g42, g43, g44, g45, g46, g47, g48, g49, g50, g51, g52, g54, g55, g57, g58, g60, g61, g62, g64, g65, g66, g67, g68, g69, g71, g72, g74, g75, g76, g77, g79, g80, g81, g82, g83, g84, g85, g86, g87, g88, g89, g90, g92, g93, g94, g95, g96, g98, g99, g100, g101, g102, g103, g104, g105, g106, g107, g108, g109, g110, g111, g113, g114, g115, g116, g117, g118, g119, g120, g121, g122, g124, g125, g126, g127, g128, g129, g130, g132, g133, g134, g135, g137, g138, g139, g141, g142, g143, g144, g145, g146, g147, g148, g149, g150, g151, g152, g153, g154, g155, g156, g157, g158, g159, g160, g161, g162]
      refine ⟨by omega, .ready, none, by simp, .inl rfl, ?_⟩
      simp (maxSteps := 4000000) only [slAppend, evAppendX, evCopy, rowApp, appRow, rowCopy, evAlts_cons, mixN_eq, evC_skip, evC_label, evC_ret, evC_exit, evC_goto, evC_region, evC_seq, evC_cond, evC_block, evC_loop, evC_scope, evC_rangeFunc, seqK.eq_1, seqK.eq_2, seqK.eq_3, seqK.eq_4, callK_eq, nilK_eq, skipV, evOps.eq_1, evOps.eq_2, evStill.eq_1, evStill.eq_2, evGuard, evalP, evEff, evCall, evAppend, evPick, evNil, evField, evIndexAddr, evLoad, evUn, evConv, evFieldV, evIndex, evSlice, cut, cutTag, slTag, cutL, evBuiltin, evBuild, evParts, placeOf, fieldOf, nth, leaves, spl, opd, ovc, ovcL, core, vcg, SS.eval, SS.put, SS.enter, SS.addBlk, SS.addTok, SS.setBlk, SS.back, lentOf, lentHp, lentTk, lentRs, lget, lset, hfind, hset, hpRen, hpDel, tkRen, tkDelL, rsRen, rsDel, memB, fmap, ren, renL, renT, tkMem, tkDel, bin, binI, binS, binE, isC, isT, isF, isNilS, evSliceNil, appd, intsOf, slTag, ofV, ofLeaf, one, allOne, thenK.eq_1, thenK.eq_2, thenK.eq_3, thenK.eq_4, blockK.eq_1, blockK.eq_2, blockK.eq_3, blockK.eq_4, retK.eq_1, retK.eq_2, retK.eq_3, retK.eq_4, evRes, single, TD.agg, allT, tdT, nilSS, noTI, rowsOf, elOf, pickL, eqB, leafEq, loopN.eq_1, loopN.eq_2, scopeK.eq_1, scopeK.eq_2, scopeK.eq_3, scopeK.eq_4, SubW, CallW, FinW, retS, retF, markK, rsCut, rsSet, rsFind, iterK.eq_1, iterK.eq_2, iterK.eq_3, iterEnd, pendK.eq_1, pendK.eq_2, pendK.eq_3, pendK.eq_4, roundK.eq_1, roundK.eq_2, roundK.eq_3, roundK.eq_4, roundEnd, assignK.eq_1, assignK.eq_2, YOK_eq, setPs, SS.iter, memId, hpSub, tkSub, rsSub, W, WL, TW, distincts, allLt, idTo, SS.lt, hpLt, rsLt, Nat.le_refl, List.toList_toArray, List.size_toArray, List.map, List.cons_append, List.nil_append, List.append_nil, List.length_cons, List.length_nil, List.replicate, List.take_succ_cons, List.take_zero, List.drop_succ_cons, List.drop_zero, Option.map_some, Option.map_none, Option.toList, Option.isSome, Option.isNone_none, Option.isNone_some, Int.reduceBNe, Int.reduceBEq, Int.reduceAdd, Int.reduceSub, Int.reduceMul, Int.reduceNeg, Int.reduceLT, Int.reduceLE, Bool.not_true, Bool.not_false, Nat.reduceLT, decide_true, decide_false, bne_self_eq_false, Nat.reduceAdd, Nat.reduceSub, Nat.reduceMul, Nat.reduceEqDiff, Nat.reduceLeDiff, Nat.reduceBEq, reduceIte, reduceCtorEq, Nat.add_zero, Nat.zero_add, Bool.or_false, Bool.false_or, Bool.or_true, Bool.true_or, Bool.and_true, Bool.true_and, List.mem_cons, forall_eq_or_imp, forall_eq, List.not_mem_nil, ne_eq, not_false_eq_true, not_true_eq_false, true_and, and_true, and_self, true_or, or_true, forall_const, Bool.false_eq_true, beq_self_eq_true, Bool.not_eq_true, Bool.not_eq_false, imp_self, implies_true, false_imp_iff, g1, g2, g3, g4, g5, g6, g7, g8, g9, g10, g11, g12, g13, g14, g15, g16, g17, g18, g19, g20, g21, g22, g23, g24, g25, g26, g27, g28, g30, g31, g32, g33, g34, g35, g37, g38, g39, g40, g41, g42, g43, g44, g45, g46, g47, g48, g49, g50, g51, g52, g54, g55, g57, g58, g60, g61, g62, g64, g65, g66, g67, g68, g69, g71, g72, g74, g75, g76, g77, g79, g80, g81, g82, g83, g84, g85, g86, g87, g88, g89, g90, g92, g93, g94, g95, g96, g98, g99, g100, g101, g102, g103, g104, g105, g106, g107, g108, g109, g110, g111, g113, g114, g115, g116, g117, g118, g119, g120, g121, g122, g124, g125, g126, g127, g128, g129, g130, g132, g133, g134, g135, g137, g138, g139, g141, g142, g143, g144, g145, g146, g147, g148, g149, g150, g151, g152, g153, g154, g155, g156, g157, g158, g159, g160, g161, g162]
      refine ⟨4, .inl rfl, ?_⟩
      simp (maxSteps := 4000000) only [slAppend, evAppendX, evCopy, rowApp, appRow, rowCopy, evAlts_cons, mixN_eq, evC_skip, evC_label, evC_ret, evC_exit, evC_goto, evC_region, evC_seq, evC_cond, evC_block, evC_loop, evC_scope, evC_rangeFunc, seqK.eq_1, seqK.eq_2, seqK.eq_3, seqK.eq_4, callK_eq, nilK_eq, skipV, evOps.eq_1, evOps.eq_2, evStill.eq_1, evStill.eq_2, evGuard, evalP, evEff, evCall, evAppend, evPick, evNil, evField, evIndexAddr, evLoad, evUn, evConv, evFieldV, evIndex, evSlice, cut, cutTag, slTag, cutL, evBuiltin, evBuild, evParts, placeOf, fieldOf, nth, leaves, spl, opd, ovc, ovcL, core, vcg, SS.eval, SS.put, SS.enter, SS.addBlk, SS.addTok, SS.setBlk, SS.back, lentOf, lentHp, lentTk, lentRs, lget, lset, hfind, hset, hpRen, hpDel, tkRen, tkDelL, rsRen, rsDel, memB, fmap, ren, renL, renT, tkMem, tkDel, bin, binI, binS, binE, isC, isT, isF, isNilS, evSliceNil, appd, intsOf, slTag, ofV, ofLeaf, one, allOne, thenK.eq_1, thenK.eq_2, thenK.eq_3, thenK.eq_4, blockK.eq_1, blockK.eq_2, blockK.eq_3, blockK.eq_4, retK.eq_1, retK.eq_2, retK.eq_3, retK.eq_4, evRes, single, TD.agg, allT, tdT, nilSS, noTI, rowsOf, elOf, pickL, eqB, leafEq, loopN.eq_1, loopN.eq_2, scopeK.eq_1, scopeK.eq_2, scopeK.eq_3, scopeK.eq_4, SubW, CallW, FinW, retS, retF, markK, rsCut, rsSet, rsFind, iterK.eq_1, iterK.eq_2, iterK.eq_3, iterEnd, pendK.eq_1, pendK.eq_2, pendK.eq_3, pendK.eq_4, roundK.eq_1, roundK.eq_2, roundK.eq_3, roundK.eq_4, roundEnd, assignK.eq_1, assignK.eq_2, YOK_eq, setPs, SS.iter, memId, hpSub, tkSub, rsSub, W, WL, TW, distincts, allLt, idTo, SS.lt, hpLt, rsLt, Nat.le_refl, List.toList_toArray, List.size_toArray, List.map, List.cons_append, List.nil_append, List.append_nil, List.length_cons, List.length_nil, List.replicate, List.take_succ_cons, List.take_zero, List.drop_succ_cons, List.drop_zero, Option.map_some, Option.map_none, Option.toList, Option.isSome, Option.isNone_none, Option.isNone_some, Int.reduceBNe, Int.reduceBEq, Int.reduceAdd, Int.reduceSub, Int.reduceMul, Int.reduceNeg, Int.reduceLT, Int.reduceLE, Bool.not_true, Bool.not_false, Nat.reduceLT, decide_true, decide_false, bne_self_eq_false, Nat.reduceAdd, Nat.reduceSub, Nat.reduceMul, Nat.reduceEqDiff, Nat.reduceLeDiff, Nat.reduceBEq, reduceIte, reduceCtorEq, Nat.add_zero, Nat.zero_add, Bool.or_false, Bool.false_or, Bool.or_true, Bool.true_or, Bool.and_true, Bool.true_and, List.mem_cons, forall_eq_or_imp, forall_eq, List.not_mem_nil, ne_eq, not_false_eq_true, not_true_eq_false, true_and, and_true, and_self, true_or, or_true, forall_const, Bool.false_eq_true, beq_self_eq_true, Bool.not_eq_true, Bool.not_eq_false, imp_self, implies_true, false_imp_iff, g1, g2, g3, g4, g5, g6, g7, g8, g9, g10, g11, g12, g13, g14, g15, g16, g17, g18, g19, g20, g21, g22, g23, g24, g25, g26, g27, g28, g30, g31, g32, g33, g34, g35, g37, g38, g39, g40, g41, g42, g43, g44, g45, g46, g47, g48, g49, g50, g51, g52, g54, g55, g57, g58, g60, g61, g62, g64, g65, g66, g67, g68, g69, g71, g72, g74, g75, g76, g77, g79, g80, g81, g82, g83, g84, g85, g86, g87, g88, g89, g90, g92, g93, g94, g95, g96, g98, g99, g100, g101, g102, g103, g104, g105, g106, g107, g108, g109, g110, g111, g113, g114, g115, g116, g117, g118, g119, g120, g121, g122, g124, g125, g126, g127, g128, g129, g130, g132, g133, g134, g135, g137, g138, g139, g141, g142, g143, g144, g145, g146, g147, g148, g149, g150, g151, g152, g153, g154, g155, g156, g157, g158, g159, g160, g161, g162]
      refine Fin.nil rfl (psv := .tup [.ints .i64 .new (acc ++ [n]), .i .i64 0]) (by simp (maxSteps := 4000000) only [slAppend, evAppendX, evCopy, rowApp, appRow, rowCopy, evAlts_cons, mixN_eq, evC_skip, evC_label, evC_ret, evC_exit, evC_goto, evC_region, evC_seq, evC_cond, evC_block, evC_loop, evC_scope, evC_rangeFunc, seqK.eq_1, seqK.eq_2, seqK.eq_3, seqK.eq_4, callK_eq, nilK_eq, skipV, evOps.eq_1, evOps.eq_2, evStill.eq_1, evStill.eq_2, evGuard, evalP, evEff, evCall, evAppend, evPick, evNil, evField, evIndexAddr, evLoad, evUn, evConv, evFieldV, evIndex, evSlice, cut, cutTag, slTag, cutL, evBuiltin, evBuild, evParts, placeOf, fieldOf, nth, leaves, spl, opd, ovc, ovcL, core, vcg, SS.eval, SS.put, SS.enter, SS.addBlk, SS.addTok, SS.setBlk, SS.back, lentOf, lentHp, lentTk, lentRs, lget, lset, hfind, hset, hpRen, hpDel, tkRen, tkDelL, rsRen, rsDel, memB, fmap, ren, renL, renT, tkMem, tkDel, bin, binI, binS, binE, isC, isT, isF, isNilS, evSliceNil, appd, intsOf, slTag, ofV, ofLeaf, one, allOne, thenK.eq_1, thenK.eq_2, thenK.eq_3, thenK.eq_4, blockK.eq_1, blockK.eq_2, blockK.eq_3, blockK.eq_4, retK.eq_1, retK.eq_2, retK.eq_3, retK.eq_4, evRes, single, TD.agg, allT, tdT, nilSS, noTI, rowsOf, elOf, pickL, eqB, leafEq, loopN.eq_1, loopN.eq_2, scopeK.eq_1, scopeK.eq_2, scopeK.eq_3, scopeK.eq_4, SubW, CallW, FinW, retS, retF, markK, rsCut, rsSet, rsFind, iterK.eq_1, iterK.eq_2, iterK.eq_3, iterEnd, pendK.eq_1, pendK.eq_2, pendK.eq_3, pendK.eq_4, roundK.eq_1, roundK.eq_2, roundK.eq_3, roundK.eq_4, roundEnd, assignK.eq_1, assignK.eq_2, YOK_eq, setPs, SS.iter, memId, hpSub, tkSub, rsSub, W, WL, TW, distincts, allLt, idTo, SS.lt, hpLt, rsLt, Nat.le_refl, List.toList_toArray, List.size_toArray, List.map, List.cons_append, List.nil_append, List.append_nil, List.length_cons, List.length_nil, List.replicate, List.take_succ_cons, List.take_zero, List.drop_succ_cons, List.drop_zero, Option.map_some, Option.map_none, Option.toList, Option.isSome, Option.isNone_none, Option.isNone_some, Int.reduceBNe, Int.reduceBEq, Int.reduceAdd, Int.reduceSub, Int.reduceMul, Int.reduceNeg, Int.reduceLT, Int.reduceLE, Bool.not_true, Bool.not_false, Nat.reduceLT, decide_true, decide_false, bne_self_eq_false, Nat.reduceAdd, Nat.reduceSub, Nat.reduceMul, Nat.reduceEqDiff, Nat.reduceLeDiff, Nat.reduceBEq, reduceIte, reduceCtorEq, Nat.add_zero, Nat.zero_add, Bool.or_false, Bool.false_or, Bool.or_true, Bool.true_or, Bool.and_true, Bool.true_and, List.mem_cons, forall_eq_or_imp, forall_eq, List.not_mem_nil, ne_eq, not_false_eq_true, not_true_eq_false, true_and, and_true, and_self, true_or, or_true, forall_const, Bool.false_eq_true, beq_self_eq_true, Bool.not_eq_true, Bool.not_eq_false, imp_self, implies_true, false_imp_iff, g1, g2, g3, g4, g5, g6, g7, g8, g9, g10, g11, g12, g13, g14, g15, g16, g17, g18, g19, g20, g21, g22, g23, g24, g25, g26, g27, g28, g30, g31, g32, g33, g34, g35, g37, g38, g39, g40, g41, g42, g43, g44, g45, g46, g47, g48, g49, g50, g51, g52, g54, g55, g57, g58, g60, g61, g62, g64, g65, g66, g67, g68, g69, g71, g72, g74, g75, g76, g77, g79, g80, g81, g82, g83, g84, g85, g86, g87, g88, g89, g90, g92, g93, g94, g95, g96, g98, g99, g100, g101, g102, g103, g104, g105, g106, g107, g108, g109, g110, g111, g113, g114, g115, g116, g117, g118, g119, g120, g121, g122, g124, g125, g126, g127, g128, g129, g130, g132, g133, g134, g135, g137, g138, g139, g141, g142, g143, g144, g145, g146, g147, g148, g149, g150, g151, g152, g153, g154, g155, g156, g157, g158, g159, g160, g161, g162]) ⟨?_, rfl⟩
      have hi2 : i = t.length := by simp at h3; omega
      simp at h4
      rw [hi2, List.drop_length, wr, if_pos h4] at hacc
      rw [hacc]
    · refine ⟨.ready, none, by simp, .inl rfl, ?_⟩
      simp (maxSteps := 4000000) only [slAppend, evAppendX, evCopy, rowApp, appRow, rowCopy, evAlts_cons, mixN_eq, evC_skip, evC_label, evC_ret, evC_exit, evC_goto, evC_region, evC_seq, evC_cond, evC_block, evC_loop, evC_scope, evC_rangeFunc, seqK.eq_1, seqK.eq_2, seqK.eq_3, seqK.eq_4, callK_eq, nilK_eq, skipV, evOps.eq_1, evOps.eq_2, evStill.eq_1, evStill.eq_2, evGuard, evalP, evEff, evCall, evAppend, evPick, evNil, evField, evIndexAddr, evLoad, evUn, evConv, evFieldV, evIndex, evSlice, cut, cutTag, slTag, cutL, evBuiltin, evBuild, evParts, placeOf, fieldOf, nth, leaves, spl, opd, ovc, ovcL, core, vcg, SS.eval, SS.put, SS.enter, SS.addBlk, SS.addTok, SS.setBlk, SS.back, lentOf, lentHp, lentTk, lentRs, lget, lset, hfind, hset, hpRen, hpDel, tkRen, tkDelL, rsRen, rsDel, memB, fmap, ren, renL, renT, tkMem, tkDel, bin, binI, binS, binE, isC, isT, isF, isNilS, evSliceNil, appd, intsOf, slTag, ofV, ofLeaf, one, allOne, thenK.eq_1, thenK.eq_2, thenK.eq_3, thenK.eq_4, blockK.eq_1, blockK.eq_2, blockK.eq_3, blockK.eq_4, retK.eq_1, retK.eq_2, retK.eq_3, retK.eq_4, evRes, single, TD.agg, allT, tdT, nilSS, noTI, rowsOf, elOf, pickL, eqB, leafEq, loopN.eq_1, loopN.eq_2, scopeK.eq_1, scopeK.eq_2, scopeK.eq_3, scopeK.eq_4, SubW, CallW, FinW, retS, retF, markK, rsCut, rsSet, rsFind, iterK.eq_1, iterK.eq_2, iterK.eq_3, iterEnd, pendK.eq_1, pendK.eq_2, pendK.eq_3, pendK.eq_4, roundK.eq_1, roundK.eq_2, roundK.eq_3, roundK.eq_4, roundEnd, assignK.eq_1, assignK.eq_2, YOK_eq, setPs, SS.iter, memId, hpSub, tkSub, rsSub, W, WL, TW, distincts, allLt, idTo, SS.lt, hpLt, rsLt, Nat.le_refl, List.toList_toArray, List.size_toArray, List.map, List.cons_append, List.nil_append, List.append_nil, List.length_cons, List.length_nil, List.replicate, List.take_succ_cons, List.take_zero, List.drop_succ_cons, List.drop_zero, Option.map_some, Option.map_none, Option.toList, Option.isSome, Option.isNone_none, Option.isNone_some, Int.reduceBNe, Int.reduceBEq, Int.reduceAdd, Int.reduceSub, Int.reduceMul, Int.reduceNeg, Int.reduceLT, Int.reduceLE, Bool.not_true, Bool.not_false, Nat.reduceLT, decide_true, decide_false, bne_self_eq_false, Nat.reduceAdd, Nat.reduceSub, Nat.reduceMul, Nat.reduceEqDiff, Nat.reduceLeDiff, Nat.reduceBEq, reduceIte, reduceCtorEq, Nat.add_zero, Nat.zero_add, Bool.or_false, Bool.false_or, Bool.or_true, Bool.true_or, Bool.and_true, Bool.true_and, List.mem_cons, forall_eq_or_imp, forall_eq, List.not_mem_nil, ne_eq, not_false_eq_true, not_true_eq_false, true_and, and_true, and_self, true_or, or_true, forall_const, Bool.false_eq_true, beq_self_eq_true, Bool.not_eq_true, Bool.not_eq_false, imp_self, implies_true, false_imp_iff, g1, g2, g3, g4, g5, g6, g7, g8, g9, g10, g11, g12, g13, g14, g15, g16, g17, g18, g19, g20, g21, g22, g23, g24, g25, g26, g27, g28, g30, g31, g32, g33, g34, g35, g37, g38, g39, g40, g41, g42, g43, g44, g45, g46, g47, g48, g49, g50, g51, g52, g54, g55, g57, g58, g60, g61, g62, g64, g65, g66, g67, g68, g69, g71, g72, g74, g75, g76, g77, g79, g80, g81, g82, g83, g84, g85, g86, g87, g88, g89, g90, g92, g93, g94, g95, g96, g98, g99, g100, g101, g102, g103, g104, g105, g106, g107, g108, g109, g110, g111, g113, g114, g115, g116, g117, g118, g119, g120, g121, g122, g124, g125, g126, g127, g128, g129, g130, g132, g133, g134, g135, g137, g138, g139, g141, g142, g143, g144, g145, g146, g147, g148, g149, g150, g151, g152, g153, g154, g155, g156, g157, g158, g159, g160, g161, g162]
      refine ⟨4, .inl rfl, ?_⟩
      simp (maxSteps := 4000000) only [slAppend, evAppendX, evCopy, rowApp, appRow, rowCopy, evAlts_cons, mixN_eq, evC_skip, evC_label, evC_ret, evC_exit, evC_goto, evC_region, evC_seq, evC_cond, evC_block, evC_loop, evC_scope, evC_rangeFunc, seqK.eq_1, seqK.eq_2, seqK.eq_3, seqK.eq_4, callK_eq, nilK_eq, skipV, evOps.eq_1, evOps.eq_2, evStill.eq_1, evStill.eq_2, evGuard, evalP, evEff, evCall, evAppend, evPick, evNil, evField, evIndexAddr, evLoad, evUn, evConv, evFieldV, evIndex, evSlice, cut, cutTag, slTag, cutL, evBuiltin, evBuild, evParts, placeOf, fieldOf, nth, leaves, spl, opd, ovc, ovcL, core, vcg, SS.eval, SS.put, SS.enter, SS.addBlk, SS.addTok, SS.setBlk, SS.back, lentOf, lentHp, lentTk, lentRs, lget, lset, hfind, hset, hpRen, hpDel, tkRen, tkDelL, rsRen, rsDel, memB, fmap, ren, renL, renT, tkMem, tkDel, bin, binI, binS, binE, isC, isT, isF, isNilS, evSliceNil, appd, intsOf, slTag, ofV, ofLeaf, one, allOne, thenK.eq_1, thenK.eq_2, thenK.eq_3, thenK.eq_4, blockK.eq_1, blockK.eq_2, blockK.eq_3, blockK.eq_4, retK.eq_1, retK.eq_2, retK.eq_3, retK.eq_4, evRes, single, TD.agg, allT, tdT, nilSS, noTI, rowsOf, elOf, pickL, eqB, leafEq, loopN.eq_1, loopN.eq_2, scopeK.eq_1, scopeK.eq_2, scopeK.eq_3, scopeK.eq_4, SubW, CallW, FinW, retS, retF, markK, rsCut, rsSet, rsFind, iterK.eq_1, iterK.eq_2, iterK.eq_3, iterEnd, pendK.eq_1, pendK.eq_2, pendK.eq_3, pendK.eq_4, roundK.eq_1, roundK.eq_2, roundK.eq_3, roundK.eq_4, roundEnd, assignK.eq_1, assignK.eq_2, YOK_eq, setPs, SS.iter, memId, hpSub, tkSub, rsSub, W, WL, TW, distincts, allLt, idTo, SS.lt, hpLt, rsLt, Nat.le_refl, List.toList_toArray, List.size_toArray, List.map, List.cons_append, List.nil_append, List.append_nil, List.length_cons, List.length_nil, List.replicate, List.take_succ_cons, List.take_zero, List.drop_succ_cons, List.drop_zero, Option.map_some, Option.map_none, Option.toList, Option.isSome, Option.isNone_none, Option.isNone_some, Int.reduceBNe, Int.reduceBEq, Int.reduceAdd, Int.reduceSub, Int.reduceMul, Int.reduceNeg, Int.reduceLT, Int.reduceLE, Bool.not_true, Bool.not_false, Nat.reduceLT, decide_true, decide_false, bne_self_eq_false, Nat.reduceAdd, Nat.reduceSub, Nat.reduceMul, Nat.reduceEqDiff, Nat.reduceLeDiff, Nat.reduceBEq, reduceIte, reduceCtorEq, Nat.add_zero, Nat.zero_add, Bool.or_false, Bool.false_or, Bool.or_true, Bool.true_or, Bool.and_true, Bool.true_and, List.mem_cons, forall_eq_or_imp, forall_eq, List.not_mem_nil, ne_eq, not_false_eq_true, not_true_eq_false, true_and, and_true, and_self, true_or, or_true, forall_const, Bool.false_eq_true, beq_self_eq_true, Bool.not_eq_true, Bool.not_eq_false, imp_self, implies_true, false_imp_iff, g1, g2, g3, g4, g5, g6, g7, g8, g9, g10, g11, g12, g13, g14, g15, g16, g17, g18, g19, g20, g21, g22, g23, g24, g25, g26, g27, g28, g30, g31, g32, g33, g34, g35, g37, g38, g39, g40, g41, g42, g43, g44, g45, g46, g47, g48, g49, g50, g51, g52, g54, g55, g57, g58, g60, g61, g62, g64, g65, g66, g67, g68, g69, g71, g72, g74, g75, g76, g77, g79, g80, g81, g82, g83, g84, g85, g86, g87, g88, g89, g90, g92, g93, g94, g95, g96, g98, g99, g100, g101, g102, g103, g104, g105, g106, g107, g108, g109, g110, g111, g113, g114, g115, g116, g117, g118, g119, g120, g121, g122, g124, g125, g126, g127, g128, g129, g130, g132, g133, g134, g135, g137, g138, g139, g141, g142, g143, g144, g145, g146, g147, g148, g149, g150, g151, g152, g153, g154, g155, g156, g157, g158, g159, g160, g161, g162]
      refine Fin.nil rfl (psv := .tup [.ints .i64 .new acc, .i .i64 0]) (by simp (maxSteps := 4000000) only [slAppend, evAppendX, evCopy, rowApp, appRow, rowCopy, evAlts_cons, mixN_eq, evC_skip, evC_label, evC_ret, evC_exit, evC_goto, evC_region, evC_seq, evC_cond, evC_block, evC_loop, evC_scope, evC_rangeFunc, seqK.eq_1, seqK.eq_2, seqK.eq_3, seqK.eq_4, callK_eq, nilK_eq, skipV, evOps.eq_1, evOps.eq_2, evStill.eq_1, evStill.eq_2, evGuard, evalP, evEff, evCall, evAppend, evPick, evNil, evField, evIndexAddr, evLoad, evUn, evConv, evFieldV, evIndex, evSlice, cut, cutTag, slTag, cutL, evBuiltin, evBuild, evParts, placeOf, fieldOf, nth, leaves, spl, opd, ovc, ovcL, core, vcg, SS.eval, SS.put, SS.enter, SS.addBlk, SS.addTok, SS.setBlk, SS.back, lentOf, lentHp, lentTk, lentRs, lget, lset, hfind, hset, hpRen, hpDel, tkRen, tkDelL, rsRen, rsDel, memB, fmap, ren, renL, renT, tkMem, tkDel, bin, binI, binS, binE, isC, isT, isF, isNilS, evSliceNil, appd, intsOf, slTag, ofV, ofLeaf, one, allOne, thenK.eq_1, thenK.eq_2, thenK.eq_3, thenK.eq_4, blockK.eq_1, blockK.eq_2, blockK.eq_3, blockK.eq_4, retK.eq_1, retK.eq_2, retK.eq_3, retK.eq_4, evRes, single, TD.agg, allT, tdT, nilSS, noTI, rowsOf, elOf, pickL, eqB, leafEq, loopN.eq_1, loopN.eq_2, scopeK.eq_1, scopeK.eq_2, scopeK.eq_3, scopeK.eq_4, SubW, CallW, FinW, retS, retF, markK, rsCut, rsSet, rsFind, iterK.eq_1, iterK.eq_2, iterK.eq_3, iterEnd, pendK.eq_1, pendK.eq_2, pendK.eq_3, pendK.eq_4, roundK.eq_1, roundK.eq_2, roundK.eq_3, roundK.eq_4, roundEnd, assignK.eq_1, assignK.eq_2, YOK_eq, setPs, SS.iter, memId, hpSub, tkSub, rsSub, W, WL, TW, distincts, allLt, idTo, SS.lt, hpLt, rsLt, Nat.le_refl, List.toList_toArray, List.size_toArray, List.map, List.cons_append, List.nil_append, List.append_nil, List.length_cons, List.length_nil, List.replicate, List.take_succ_cons, List.take_zero, List.drop_succ_cons, List.drop_zero, Option.map_some, Option.map_none, Option.toList, Option.isSome, Option.isNone_none, Option.isNone_some, Int.reduceBNe, Int.reduceBEq, Int.reduceAdd, Int.reduceSub, Int.reduceMul, Int.reduceNeg, Int.reduceLT, Int.reduceLE, Bool.not_true, Bool.not_false, Nat.reduceLT, decide_true, decide_false, bne_self_eq_false, Nat.reduceAdd, Nat.reduceSub, Nat.reduceMul, Nat.reduceEqDiff, Nat.reduceLeDiff, Nat.reduceBEq, reduceIte, reduceCtorEq, Nat.add_zero, Nat.zero_add, Bool.or_false, Bool.false_or, Bool.or_true, Bool.true_or, Bool.and_true, Bool.true_and, List.mem_cons, forall_eq_or_imp, forall_eq, List.not_mem_nil, ne_eq, not_false_eq_true, not_true_eq_false, true_and, and_true, and_self, true_or, or_true, forall_const, Bool.false_eq_true, beq_self_eq_true, Bool.not_eq_true, Bool.not_eq_false, imp_self, implies_true, false_imp_iff, g1, g2, g3, g4, g5, g6, g7, g8, g9, g10, g11, g12, g13, g14, g15, g16, g17, g18, g19, g20, g21, g22, g23, g24, g25, g26, g27, g28, g30, g31, g32, g33, g34, g35, g37, g38, g39, g40, g41, g42, g43, g44, g45, g46, g47, g48, g49, g50, g51, g52, g54, g55, g57, g58, g60, g61, g62, g64, g65, g66, g67, g68, g69, g71, g72, g74, g75, g76, g77, g79, g80, g81, g82, g83, g84, g85, g86, g87, g88, g89, g90, g92, g93, g94, g95, g96, g98, g99, g100, g101, g102, g103, g104, g105, g106, g107, g108, g109, g110, g111, g113, g114, g115, g116, g117, g118, g119, g120, g121, g122, g124, g125, g126, g127, g128, g129, g130, g132, g133, g134, g135, g137, g138, g139, g141, g142, g143, g144, g145, g146, g147, g148, g149, g150, g151, g152, g153, g154, g155, g156, g157, g158, g159, g160, g161, g162]) ⟨?_, rfl⟩
      have hi2 : i = t.length := by simp at h3; omega
      simp at h4
      rw [hi2, List.drop_length, wr, if_neg (by omega), List.append_nil] at hacc
      rw [hacc]
end Go.Proofs.Ytbhkpefjnomncaa
