/- Blocks: elements in. -/
import Derived.Test.YtdbhgnjpjpmioaaMa
namespace Go.Proofs.Ytdbhgnjpjpmioaa
open Go Go.Eng
set_option linter.unusedSimpArgs false
set_option linter.unusedVariables false
set_option maxRecDepth 100000

/-- So many bytes, till one is not got. -/
def readGo (M : RawM) : Nat → St → M.σ → List Int → St × M.σ × List Int × Int
  | 0, x, g, out => (x, g, out, 0)
  | f + 1, x, g, out =>
    if (x.Get M g).2.2.2 ≠ 0 then ((x.Get M g).1, (x.Get M g).2.1, out, (x.Get M g).2.2.2)
    else readGo M f (x.Get M g).1 (x.Get M g).2.1 (out ++ [(x.Get M g).2.2.1])
def St.Read (M : RawM) (x : St) (g : M.σ) (size count : Int) : St × M.σ × List Int × Int × Int :=
  if (x.asks size count).2 ≠ 0 ∨ (x.asks size count).1 = 0 then (x, g, [], 0, (x.asks size count).2)
  else ((readGo M (x.asks size count).1.toNat x g []).1, (readGo M (x.asks size count).1.toNat x g []).2.1, (readGo M (x.asks size count).1.toNat x g []).2.2.1, ((readGo M (x.asks size count).1.toNat x g []).2.2.1.length : Int).tdiv size, (readGo M (x.asks size count).1.toNat x g []).2.2.2)
def isRB (M : RawM) (r : St × M.σ × List Int × Int × Int) (sv : SV) (post : SS) : Prop := sv = .tup [r.1.sv .new, .ints .u8 .new r.2.2.1, .i .i64 r.2.2.2.1, .i .i64 r.2.2.2.2] ∧ post = preR (M.res r.2.1)

theorem asks_rng {x : St} {size count : Int} (h : (x.asks size count).2 = 0) : x.May ∧ x.cl = false ∧ 0 ≤ size ∧ 0 ≤ count ∧ size * count ≤ 1048576 ∧ (x.asks size count).1 = size * count := by
  unfold St.asks bytesV at *
  by_cases hm : x.May
  · simp only [if_pos hm] at h ⊢
    cases hc : x.cl <;> simp only [hc, if_true, Bool.false_eq_true, if_false] at h ⊢
    · by_cases hq : size < 0 ∨ count < 0 ∨ 1048576 < size * count
      · rw [if_pos hq] at h; simp at h
      · rw [if_neg hq]; exact ⟨hm, trivial, by omega, by omega, by omega, rfl⟩
    · simp at h
  · rw [if_neg hm] at h; simp at h

theorem quo64 (n : Nat) (s : Int) (h : (n : Int) ≤ 9223372036854775807) (hs : 0 ≤ s) : IntKind.i64.wrap ((n : Int).tdiv s) = (n : Int).tdiv s := by
  have h1 : 0 ≤ (n : Int).tdiv s := Int.tdiv_nonneg (by omega) hs
  have h2 : (n : Int).tdiv s ≤ n := by
    rw [Int.tdiv_eq_ediv_of_nonneg (by omega)]
    exact Int.ediv_le_self s (by omega)
  exact wrap64 (by omega) (by omega)

set_option maxHeartbeats 2000000 in
theorem ReadB_c (M : RawM) (hR : M.Rd) (x : St) (hx : x.fits) (g : M.σ) (hg : M.ok g) (size count : Int) (hs : size ≤ 9223372036854775807) (hc : count ≤ 9223372036854775807) : Contract Try.prog 34 (preR (M.res g))
    [x.sv .old, M.v, .i .i64 size, .i .i64 count] (isRB M (x.Read M g size count)) := by
  refine contract_ev Γok Try.func34 rfl rfl [] ?_
  simp (maxSteps := 4000000) only [push_cast, Int.reduceEq, Int.reduceBNe, Int.reduceBEq, Int.reduceAdd, Int.reduceSub, Int.reduceMul, Int.reduceNeg, Int.reduceLT, Int.reduceLE, Nat.reduceLT, Nat.reduceAdd, Nat.reduceSub, Nat.reduceMul, Nat.reduceEqDiff, Nat.reduceLeDiff, Nat.reduceBEq, reduceIte, reduceCtorEq, Try.f34, St.sv, St.cells, RawM.v, rg11]
  refine call_w (askedB_c x hx M.t M.y size count hs hc) [] (by simp (maxSteps := 4000000) only [push_cast, Int.reduceEq, Int.reduceBNe, Int.reduceBEq, Int.reduceAdd, Int.reduceSub, Int.reduceMul, Int.reduceNeg, Int.reduceLT, Int.reduceLE, Nat.reduceLT, Nat.reduceAdd, Nat.reduceSub, Nat.reduceMul, Nat.reduceEqDiff, Nat.reduceLeDiff, Nat.reduceBEq, reduceIte, reduceCtorEq, St.sv, St.cells]) ?_
  rintro sv post ⟨rfl, rfl⟩
  simp (maxSteps := 4000000) only [push_cast, Int.reduceEq, Int.reduceBNe, Int.reduceBEq, Int.reduceAdd, Int.reduceSub, Int.reduceMul, Int.reduceNeg, Int.reduceLT, Int.reduceLE, Nat.reduceLT, Nat.reduceAdd, Nat.reduceSub, Nat.reduceMul, Nat.reduceEqDiff, Nat.reduceLeDiff, Nat.reduceBEq, reduceIte, reduceCtorEq, St.sv, St.cells, rg11]
  refine ⟨fun h => ?_, fun h => ?_⟩
  · have e : x.Read M g size count = (x, g, [], 0, (x.asks size count).2) := if_pos h
    rw [e]
    exact Fin.w [0] (.tup [x.sv .new, .ints .u8 .new [], .i .i64 0, .i .i64 (x.asks size count).2]) _ (by simp (maxSteps := 4000000) only [push_cast, Int.reduceEq, Int.reduceBNe, Int.reduceBEq, Int.reduceAdd, Int.reduceSub, Int.reduceMul, Int.reduceNeg, Int.reduceLT, Int.reduceLE, Nat.reduceLT, Nat.reduceAdd, Nat.reduceSub, Nat.reduceMul, Nat.reduceEqDiff, Nat.reduceLeDiff, Nat.reduceBEq, reduceIte, reduceCtorEq, St.sv, St.cells]) ⟨rfl, rfl⟩
  · have e : x.Read M g size count = ((readGo M (x.asks size count).1.toNat x g []).1, (readGo M (x.asks size count).1.toNat x g []).2.1, (readGo M (x.asks size count).1.toNat x g []).2.2.1, ((readGo M (x.asks size count).1.toNat x g []).2.2.1.length : Int).tdiv size, (readGo M (x.asks size count).1.toNat x g []).2.2.2) := if_neg (by omega)
    obtain ⟨hm, hcl, hs0, hc0, hn, hq⟩ := asks_rng h.1
    obtain ⟨n, hnn⟩ : ∃ n : Nat, (x.asks size count).1 = n := ⟨(x.asks size count).1.toNat, by have := Int.mul_nonneg hs0 hc0; omega⟩
    have hs1 : size ≠ 0 := by rintro rfl; rw [hq] at h; simp at h
    rw [e]
    have hk := h.1
    rw [hk]
    rw [hnn] at h hq ⊢
    simp only [Int.toNat_natCast]
    generalize hr : readGo M n x g [] = r
    refine CodeOK.sub (Sub.tokFr 15 rfl) ?_
    simp (maxSteps := 4000000) only [push_cast, Int.reduceEq, Int.reduceBNe, Int.reduceBEq, Int.reduceAdd, Int.reduceSub, Int.reduceMul, Int.reduceNeg, Int.reduceLT, Int.reduceLE, Nat.reduceLT, Nat.reduceAdd, Nat.reduceSub, Nat.reduceMul, Nat.reduceEqDiff, Nat.reduceLeDiff, Nat.reduceBEq, reduceIte, reduceCtorEq]
    refine loop_ok (ι := {q : Nat × St × M.σ × List Int // q.2.1.fits ∧ M.ok q.2.2.1 ∧ q.2.2.2.length + q.1 = n ∧ readGo M q.1 q.2.1 q.2.2.1 q.2.2.2 = r})
      (fun q => ⟨[.any, M.v, .i .i64 size, .any, .any, .any, .any, .any, .ptr 2 0, .any, .any, .any, .ptr 3 0, .any, .i .i64 0, .ints .u8 (.tok 4 true) q.1.2.2.2] ++ List.replicate 18 .any ++ [.i .i64 n, .i .i64 q.1.2.2.2.length] ++ List.replicate 22 .any, [(3, 42, q.1.2.1.cells .new .new .new), (2, 42, List.replicate 11 .any)], [4], [(0, M.res q.1.2.2.1)], 5, 1, []⟩)
      (fun q => q.1.1) ⟨(n, x, g, []), hx, hg, by simp, hr⟩ ?_ ?_
    · refine Sub.w [0, 1, 2, 3, 4] ?_
      simp (maxSteps := 4000000) only [push_cast, Int.reduceEq, Int.reduceBNe, Int.reduceBEq, Int.reduceAdd, Int.reduceSub, Int.reduceMul, Int.reduceNeg, Int.reduceLT, Int.reduceLE, Nat.reduceLT, Nat.reduceAdd, Nat.reduceSub, Nat.reduceMul, Nat.reduceEqDiff, Nat.reduceLeDiff, Nat.reduceBEq, reduceIte, reduceCtorEq, RawM.v, St.cells]
    · rintro ⟨⟨f, x', g', out⟩, hx', hg', hl, he⟩
      simp only at hx' hg' hl he
      have hkeep := Get_ok M hR x' g' hg'
      have hfit := Get_fits M x' g' hx'
      refine evCode_sound Γok _ _ _ ?_
      simp (maxSteps := 4000000) only [push_cast, Int.reduceEq, Int.reduceBNe, Int.reduceBEq, Int.reduceAdd, Int.reduceSub, Int.reduceMul, Int.reduceNeg, Int.reduceLT, Int.reduceLE, Nat.reduceLT, Nat.reduceAdd, Nat.reduceSub, Nat.reduceMul, Nat.reduceEqDiff, Nat.reduceLeDiff, Nat.reduceBEq, reduceIte, reduceCtorEq, RawM.v, St.cells, rg11]
      refine ⟨fun h1 => ?_, fun h1 => ?_⟩
      · obtain ⟨f, rfl⟩ : ∃ f', f = f' + 1 := ⟨f - 1, by omega⟩
        simp only [readGo] at he
        refine call_w (GetR_c M hR x' g' hg' hx') [0] (by simp (maxSteps := 4000000) only [push_cast, Int.reduceEq, Int.reduceBNe, Int.reduceBEq, Int.reduceAdd, Int.reduceSub, Int.reduceMul, Int.reduceNeg, Int.reduceLT, Int.reduceLE, Nat.reduceLT, Nat.reduceAdd, Nat.reduceSub, Nat.reduceMul, Nat.reduceEqDiff, Nat.reduceLeDiff, Nat.reduceBEq, reduceIte, reduceCtorEq, St.sv, St.cells, RawM.v]) ?_
        rintro sv post ⟨rfl, rfl⟩
        simp (maxSteps := 4000000) only [push_cast, Int.reduceEq, Int.reduceBNe, Int.reduceBEq, Int.reduceAdd, Int.reduceSub, Int.reduceMul, Int.reduceNeg, Int.reduceLT, Int.reduceLE, Nat.reduceLT, Nat.reduceAdd, Nat.reduceSub, Nat.reduceMul, Nat.reduceEqDiff, Nat.reduceLeDiff, Nat.reduceBEq, reduceIte, reduceCtorEq, St.sv, St.cells, rg11]
        refine ⟨fun h2 => ?_, fun h2 => ?_⟩
        · rw [if_pos h2] at he
          rw [← he]
          refine (region_plan rfl Γok mixed (.pure 0 (.pure 1 (.pure 2 (.pure 3 (.pure 4 (.pure 5 (.pure 6 (.eff (.cons 7 [] (.pure 8 (.pure 9 (.pure 10 .done))) .nil))))))))) 58 rfl (by kernel_rfl) ?_)
          simp (maxSteps := 4000000) only [push_cast, Int.reduceEq, Int.reduceBNe, Int.reduceBEq, Int.reduceAdd, Int.reduceSub, Int.reduceMul, Int.reduceNeg, Int.reduceLT, Int.reduceLE, Nat.reduceLT, Nat.reduceAdd, Nat.reduceSub, Nat.reduceMul, Nat.reduceEqDiff, Nat.reduceLeDiff, Nat.reduceBEq, reduceIte, reduceCtorEq, rg11]
          rw [quo64 out.length size (by omega) hs0]
          exact ⟨hs1, Fin.w [0] (.tup [(x'.Get M g').1.sv .new, .ints .u8 .new out, .i .i64 _, .i .i64 _]) _ (by simp (maxSteps := 4000000) only [push_cast, Int.reduceEq, Int.reduceBNe, Int.reduceBEq, Int.reduceAdd, Int.reduceSub, Int.reduceMul, Int.reduceNeg, Int.reduceLT, Int.reduceLE, Nat.reduceLT, Nat.reduceAdd, Nat.reduceSub, Nat.reduceMul, Nat.reduceEqDiff, Nat.reduceLeDiff, Nat.reduceBEq, reduceIte, reduceCtorEq, St.sv, St.cells]) ⟨rfl, rfl⟩⟩
        · rw [if_neg (by omega)] at he
          refine ⟨by omega, ⟨(f, (x'.Get M g').1, (x'.Get M g').2.1, out ++ [(x'.Get M g').2.2.1]), hfit, hkeep, by simp; omega, he⟩, by simp only; omega, Sub.w [0, 1, 2, 3, 6] ?_⟩
          simp (maxSteps := 4000000) only [push_cast, Int.reduceEq, Int.reduceBNe, Int.reduceBEq, Int.reduceAdd, Int.reduceSub, Int.reduceMul, Int.reduceNeg, Int.reduceLT, Int.reduceLE, Nat.reduceLT, Nat.reduceAdd, Nat.reduceSub, Nat.reduceMul, Nat.reduceEqDiff, Nat.reduceLeDiff, Nat.reduceBEq, reduceIte, reduceCtorEq, RawM.v, St.cells]
          exact ⟨by omega, by rw [wrap64 (by omega) (by omega)]; simp⟩
      · obtain rfl : f = 0 := by omega
        simp only [readGo] at he
        rw [← he]
        refine (region_plan rfl Γok mixed (.pure 0 (.pure 1 (.pure 2 (.pure 3 (.pure 4 (.pure 5 (.pure 6 (.eff (.cons 7 [] (.pure 8 (.pure 9 (.pure 10 .done))) .nil))))))))) 58 rfl (by kernel_rfl) ?_)
        simp (maxSteps := 4000000) only [push_cast, Int.reduceEq, Int.reduceBNe, Int.reduceBEq, Int.reduceAdd, Int.reduceSub, Int.reduceMul, Int.reduceNeg, Int.reduceLT, Int.reduceLE, Nat.reduceLT, Nat.reduceAdd, Nat.reduceSub, Nat.reduceMul, Nat.reduceEqDiff, Nat.reduceLeDiff, Nat.reduceBEq, reduceIte, reduceCtorEq, rg11]
        rw [quo64 out.length size (by omega) hs0]
        exact ⟨hs1, Fin.w [0] (.tup [x'.sv .new, .ints .u8 .new out, .i .i64 _, .i .i64 _]) _ (by simp (maxSteps := 4000000) only [push_cast, Int.reduceEq, Int.reduceBNe, Int.reduceBEq, Int.reduceAdd, Int.reduceSub, Int.reduceMul, Int.reduceNeg, Int.reduceLT, Int.reduceLE, Nat.reduceLT, Nat.reduceAdd, Nat.reduceSub, Nat.reduceMul, Nat.reduceEqDiff, Nat.reduceLeDiff, Nat.reduceBEq, reduceIte, reduceCtorEq, St.sv, St.cells]) ⟨rfl, rfl⟩⟩
end Go.Proofs.Ytdbhgnjpjpmioaa
