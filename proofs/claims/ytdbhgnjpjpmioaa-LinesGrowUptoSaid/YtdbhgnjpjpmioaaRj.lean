/- Lines: bytes till one stops them. -/
import Derived.Test.YtdbhgnjpjpmioaaRi
namespace Go.Proofs.Ytdbhgnjpjpmioaa
open Go Go.Eng
set_option linter.unusedSimpArgs false
set_option linter.unusedVariables false
set_option maxRecDepth 100000

/-- Bytes till one, or so many. -/
def lineGo (M : RawM) (stop : Int → Bool) (limit : Int) : Nat → St → M.σ → List Int → St × M.σ × List Int × Int
  | 0, x, g, out => (x, g, out, 0)
  | f + 1, x, g, out =>
    if (out.length : Int) < limit then
      (if (x.Get M g).2.2.2 ≠ 0 then ((x.Get M g).1, (x.Get M g).2.1, out, if (x.Get M g).2.2.2 = 111 ∧ 0 < out.length then 0 else (x.Get M g).2.2.2)
       else if stop (x.Get M g).2.2.1 then ((x.Get M g).1, (x.Get M g).2.1, out ++ [(x.Get M g).2.2.1], 0)
       else lineGo M stop limit f (x.Get M g).1 (x.Get M g).2.1 (out ++ [(x.Get M g).2.2.1]))
    else (x, g, out, 0)
def lineV (M : RawM) (stop : Int → Bool) (limit : Int) (x : St) (g : M.σ) : St × M.σ × List Int × Int := lineGo M stop limit (limit.toNat + 1) x g []

theorem fill_len (M : RawM) (x : St) (g : M.σ) (h : 1 ≤ askV x.m x.s) : (x.fill M g).1.o = x.o ∧ (x.fill M g).1.k = x.k ∧ ((x.fill M g).1.i.length : Int) ≤ x.i.length + askV x.m x.s := by
  have hl := someV_len M (askV x.m x.s) h 8192 g
  have hl' : ((someV M g (askV x.m x.s)).2.1.length : Int) ≤ askV x.m x.s := hl
  unfold St.fill
  split
  · exact ⟨rfl, rfl, by dsimp only; omega⟩
  · split
    · exact ⟨rfl, rfl, by dsimp only; omega⟩
    · exact ⟨rfl, rfl, by simp only [St.noted, List.length_append]; omega⟩
theorem get_len (M : RawM) (x : St) (g : M.σ) (h : 1 ≤ askV x.m x.s) : (x.get M g).1.o = x.o ∧ (x.get M g).1.k.length ≤ x.k.length ∧ ((x.get M g).1.i.length : Int) ≤ x.i.length + askV x.m x.s := by
  obtain ⟨h1, h2, h3⟩ := fill_len M { x with d := 1 } g h
  unfold St.get
  split
  · exact ⟨rfl, Nat.le_refl _, by dsimp only; omega⟩
  · split
    · exact ⟨rfl, Nat.le_refl _, by dsimp only; omega⟩
    · split
      · exact ⟨rfl, by simp, by dsimp only; omega⟩
      · split
        · exact ⟨rfl, Nat.le_refl _, by simp only [List.length_drop]; omega⟩
        · dsimp only
          split
          · exact ⟨h1, by rw [h2]; exact Nat.le_refl _, h3⟩
          · exact ⟨h1, by rw [h2]; exact Nat.le_refl _, by simp only [List.length_drop]; simp only at h3; omega⟩
theorem Get_fits (M : RawM) (x : St) (g : M.σ) (hx : x.fits) : (x.Get M g).1.fits := by
  unfold St.Get
  split
  · exact hx
  · rename_i h
    obtain ⟨hm, hc⟩ := bErr_zero (by omega : x.bErr = 0)
    obtain ⟨b1, b2, b3, b4⟩ := May.bd hm
    obtain ⟨a1, a2⟩ := ask_rng b1
    obtain ⟨h1, h2, h3⟩ := get_len M x g a1
    exact ⟨by rw [h1]; exact hx.o, by omega, by omega⟩
theorem fill_ok (M : RawM) (hR : M.Rd) (x : St) (g : M.σ) (hg : M.ok g) (h : mayV x.m x.s = 0) : M.ok (x.fill M g).2.1 := by
  obtain ⟨a1, a2⟩ := ask_rng h
  have := M.some_ok hR (askV x.m x.s) a1 (by omega) 8192 g hg
  unfold St.fill
  split
  · exact hg
  · split <;> exact this
theorem get_ok (M : RawM) (hR : M.Rd) (x : St) (g : M.σ) (hg : M.ok g) (h : mayV x.m x.s = 0) : M.ok (x.get M g).2.1 := by
  have := fill_ok M hR { x with d := 1 } g hg h
  unfold St.get
  split
  · exact hg
  · split
    · exact hg
    · split
      · exact hg
      · split
        · exact hg
        · dsimp only
          split <;> exact this
theorem Get_ok (M : RawM) (hR : M.Rd) (x : St) (g : M.σ) (hg : M.ok g) : M.ok (x.Get M g).2.1 := by
  unfold St.Get
  split
  · exact hg
  · rename_i h
    obtain ⟨hm, hc⟩ := bErr_zero (by omega : x.bErr = 0)
    exact get_ok M hR x g hg (May.bd hm).1

theorem until1_c (c d : Int) : Contract Try.prog 46 ⟨[], [(0, 5, [.i .u8 d])], [], [], 1, 1, []⟩ [.i .u8 c, .ptr 0 0] (fun sv post => sv = .b (c == d) ∧ post = ⟨[], [(0, 5, [.i .u8 d])], [], [], 1, 1, []⟩) := by
  refine contract_ev Γok Try.func46 rfl rfl [] ?_
  simp (maxSteps := 4000000) only [push_cast, Int.reduceEq, Int.reduceBNe, Int.reduceBEq, Int.reduceAdd, Int.reduceSub, Int.reduceMul, Int.reduceNeg, Int.reduceLT, Int.reduceLE, Nat.reduceLT, Nat.reduceAdd, Nat.reduceSub, Nat.reduceMul, Nat.reduceEqDiff, Nat.reduceLeDiff, Nat.reduceBEq, reduceIte, reduceCtorEq, Try.f46]
  exact Fin.w [0] (.b (c == d)) _ (by simp (maxSteps := 4000000) only [push_cast, Int.reduceEq, Int.reduceBNe, Int.reduceBEq, Int.reduceAdd, Int.reduceSub, Int.reduceMul, Int.reduceNeg, Int.reduceLT, Int.reduceLE, Nat.reduceLT, Nat.reduceAdd, Nat.reduceSub, Nat.reduceMul, Nat.reduceEqDiff, Nat.reduceLeDiff, Nat.reduceBEq, reduceIte, reduceCtorEq]) ⟨rfl, rfl⟩

/-- How bytes up to one end; block 0: what the closure holds. -/
def isL (M : RawM) (d : Int) (r : St × M.σ × List Int × Int) (sv : SV) (post : SS) : Prop :=
  sv = .tup [r.1.sv .new, .ints .u8 .new r.2.2.1, .i .i64 r.2.2.2] ∧ post = ⟨[], [(0, 5, [.i .u8 d])], [], [(1, M.res r.2.1)], 2, 2, []⟩

theorem getsU_c (M : RawM) (hR : M.Rd) (x : St) (hx : x.fits) (g : M.σ) (hg : M.ok g) (limit d : Int) (hl : 0 ≤ limit) (hl2 : limit ≤ 1048576) : Contract Try.prog 45 ⟨[], [(0, 5, [.i .u8 d])], [], [(1, M.res g)], 2, 2, []⟩
    [x.sv .new, M.v, .i .i64 limit, .fn (.func 46) [] [.ptr 0 0]] (isL M d (lineV M (fun c => c == d) limit x g)) := by
  refine contract_ev Γok Try.func45 rfl rfl [] ?_
  simp (maxSteps := 4000000) only [push_cast, Int.reduceEq, Int.reduceBNe, Int.reduceBEq, Int.reduceAdd, Int.reduceSub, Int.reduceMul, Int.reduceNeg, Int.reduceLT, Int.reduceLE, Nat.reduceLT, Nat.reduceAdd, Nat.reduceSub, Nat.reduceMul, Nat.reduceEqDiff, Nat.reduceLeDiff, Nat.reduceBEq, reduceIte, reduceCtorEq, Try.f45, St.sv, St.cells, RawM.v, rg11]
  refine CodeOK.sub (Sub.tokFr 11 rfl) ?_
  simp (maxSteps := 4000000) only [push_cast, Int.reduceEq, Int.reduceBNe, Int.reduceBEq, Int.reduceAdd, Int.reduceSub, Int.reduceMul, Int.reduceNeg, Int.reduceLT, Int.reduceLE, Nat.reduceLT, Nat.reduceAdd, Nat.reduceSub, Nat.reduceMul, Nat.reduceEqDiff, Nat.reduceLeDiff, Nat.reduceBEq, reduceIte, reduceCtorEq]
  refine loop_ok (ι := {q : Nat × St × M.σ × List Int // q.2.1.fits ∧ M.ok q.2.2.1 ∧ (q.2.2.2.length : Int) ≤ limit ∧ limit < q.1 + q.2.2.2.length ∧ lineGo M (fun c => c == d) limit q.1 q.2.1 q.2.2.1 q.2.2.2 = lineV M (fun c => c == d) limit x g})
    (fun q => ⟨[.any, M.v, .i .i64 limit, .fn (.func 46) [] [.ptr 0 0], .ptr 2 0, .any, .any, .any, .ptr 3 0, .any, .any, .ints .u8 (.tok 4 true) q.1.2.2.2] ++ List.replicate 34 .any, [(3, 42, List.replicate 11 .any), (2, 42, q.1.2.1.cells .new .new .new), (0, 5, [.i .u8 d])], [4], [(1, M.res q.1.2.2.1)], 5, 2, []⟩)
    (fun q => q.1.1) ⟨(limit.toNat + 1, x, g, []), hx, hg, by simp only [List.length_nil]; omega, by simp only [List.length_nil]; omega, rfl⟩ ?_ ?_
  · refine Sub.w [0, 1, 2, 3, 4] ?_
    simp (maxSteps := 4000000) only [push_cast, Int.reduceEq, Int.reduceBNe, Int.reduceBEq, Int.reduceAdd, Int.reduceSub, Int.reduceMul, Int.reduceNeg, Int.reduceLT, Int.reduceLE, Nat.reduceLT, Nat.reduceAdd, Nat.reduceSub, Nat.reduceMul, Nat.reduceEqDiff, Nat.reduceLeDiff, Nat.reduceBEq, reduceIte, reduceCtorEq, RawM.v, St.cells]
  · rintro ⟨⟨f, x', g', out⟩, hx', hg', ho, hf, he⟩
    simp only at hx' hg' ho hf he
    have hkeep := Get_ok M hR x' g' hg'
    have hfit := Get_fits M x' g' hx'
    refine evCode_sound Γok _ _ _ ?_
    simp (maxSteps := 4000000) only [push_cast, Int.reduceEq, Int.reduceBNe, Int.reduceBEq, Int.reduceAdd, Int.reduceSub, Int.reduceMul, Int.reduceNeg, Int.reduceLT, Int.reduceLE, Nat.reduceLT, Nat.reduceAdd, Nat.reduceSub, Nat.reduceMul, Nat.reduceEqDiff, Nat.reduceLeDiff, Nat.reduceBEq, reduceIte, reduceCtorEq, RawM.v, St.cells, rg11]
    obtain ⟨f, rfl⟩ : ∃ f', f = f' + 1 := ⟨f - 1, by omega⟩
    simp only [lineGo, beq_iff_eq] at he
    refine ⟨fun h1 => ?_, fun h1 => ?_⟩
    · rw [if_pos h1] at he
      refine call_w (GetR_c M hR x' g' hg' hx') [1] (by simp (maxSteps := 4000000) only [push_cast, Int.reduceEq, Int.reduceBNe, Int.reduceBEq, Int.reduceAdd, Int.reduceSub, Int.reduceMul, Int.reduceNeg, Int.reduceLT, Int.reduceLE, Nat.reduceLT, Nat.reduceAdd, Nat.reduceSub, Nat.reduceMul, Nat.reduceEqDiff, Nat.reduceLeDiff, Nat.reduceBEq, reduceIte, reduceCtorEq, St.sv, St.cells, RawM.v]) ?_
      rintro sv post ⟨rfl, rfl⟩
      simp (maxSteps := 4000000) only [push_cast, Int.reduceEq, Int.reduceBNe, Int.reduceBEq, Int.reduceAdd, Int.reduceSub, Int.reduceMul, Int.reduceNeg, Int.reduceLT, Int.reduceLE, Nat.reduceLT, Nat.reduceAdd, Nat.reduceSub, Nat.reduceMul, Nat.reduceEqDiff, Nat.reduceLeDiff, Nat.reduceBEq, reduceIte, reduceCtorEq, St.sv, St.cells, rg11]
      refine ⟨fun h2 => ?_, fun h2 => ?_⟩
      · rw [if_pos h2] at he
        rw [← he]
        refine ⟨fun h3 => ?_, fun h3 => ?_⟩
        · rw [if_pos ⟨h3.1, by omega⟩]
          exact Fin.w [0, 1] (.tup [(x'.Get M g').1.sv .new, .ints .u8 .new out, .i .i64 0]) _ (by simp (maxSteps := 4000000) only [push_cast, Int.reduceEq, Int.reduceBNe, Int.reduceBEq, Int.reduceAdd, Int.reduceSub, Int.reduceMul, Int.reduceNeg, Int.reduceLT, Int.reduceLE, Nat.reduceLT, Nat.reduceAdd, Nat.reduceSub, Nat.reduceMul, Nat.reduceEqDiff, Nat.reduceLeDiff, Nat.reduceBEq, reduceIte, reduceCtorEq, St.sv, St.cells]) ⟨rfl, rfl⟩
        · rw [if_neg (by omega)]
          exact Fin.w [0, 1] (.tup [(x'.Get M g').1.sv .new, .ints .u8 .new out, .i .i64 _]) _ (by simp (maxSteps := 4000000) only [push_cast, Int.reduceEq, Int.reduceBNe, Int.reduceBEq, Int.reduceAdd, Int.reduceSub, Int.reduceMul, Int.reduceNeg, Int.reduceLT, Int.reduceLE, Nat.reduceLT, Nat.reduceAdd, Nat.reduceSub, Nat.reduceMul, Nat.reduceEqDiff, Nat.reduceLeDiff, Nat.reduceBEq, reduceIte, reduceCtorEq, St.sv, St.cells]) ⟨rfl, rfl⟩
      · rw [if_neg (by omega)] at he
        refine ⟨by omega, ?_⟩
        refine call_w (until1_c (x'.Get M g').2.2.1 d) [0] (by simp (maxSteps := 4000000) only [push_cast, Int.reduceEq, Int.reduceBNe, Int.reduceBEq, Int.reduceAdd, Int.reduceSub, Int.reduceMul, Int.reduceNeg, Int.reduceLT, Int.reduceLE, Nat.reduceLT, Nat.reduceAdd, Nat.reduceSub, Nat.reduceMul, Nat.reduceEqDiff, Nat.reduceLeDiff, Nat.reduceBEq, reduceIte, reduceCtorEq]) ?_
        rintro sv post ⟨rfl, rfl⟩
        simp (maxSteps := 4000000) only [push_cast, Int.reduceEq, Int.reduceBNe, Int.reduceBEq, Int.reduceAdd, Int.reduceSub, Int.reduceMul, Int.reduceNeg, Int.reduceLT, Int.reduceLE, Nat.reduceLT, Nat.reduceAdd, Nat.reduceSub, Nat.reduceMul, Nat.reduceEqDiff, Nat.reduceLeDiff, Nat.reduceBEq, reduceIte, reduceCtorEq, rg11]
        refine ⟨fun h3 => ?_, fun h3 => ?_⟩
        · rw [if_pos h3] at he
          rw [← he]
          exact Fin.w [0, 1] (.tup [(x'.Get M g').1.sv .new, .ints .u8 .new _, .i .i64 0]) _ (by simp (maxSteps := 4000000) only [push_cast, Int.reduceEq, Int.reduceBNe, Int.reduceBEq, Int.reduceAdd, Int.reduceSub, Int.reduceMul, Int.reduceNeg, Int.reduceLT, Int.reduceLE, Nat.reduceLT, Nat.reduceAdd, Nat.reduceSub, Nat.reduceMul, Nat.reduceEqDiff, Nat.reduceLeDiff, Nat.reduceBEq, reduceIte, reduceCtorEq, St.sv, St.cells]) ⟨rfl, rfl⟩
        · rw [if_neg h3] at he
          refine ⟨⟨(f, (x'.Get M g').1, (x'.Get M g').2.1, out ++ [(x'.Get M g').2.2.1]), hfit, hkeep, by simp; omega, by simp; omega, he⟩, by simp only; omega, Sub.w [0, 1, 2, 3, 6] ?_⟩
          simp (maxSteps := 4000000) only [push_cast, Int.reduceEq, Int.reduceBNe, Int.reduceBEq, Int.reduceAdd, Int.reduceSub, Int.reduceMul, Int.reduceNeg, Int.reduceLT, Int.reduceLE, Nat.reduceLT, Nat.reduceAdd, Nat.reduceSub, Nat.reduceMul, Nat.reduceEqDiff, Nat.reduceLeDiff, Nat.reduceBEq, reduceIte, reduceCtorEq, RawM.v, St.cells]
    · rw [if_neg (by omega)] at he
      rw [← he]
      exact Fin.w [0, 1] (.tup [x'.sv .new, .ints .u8 .new out, .i .i64 0]) _ (by simp (maxSteps := 4000000) only [push_cast, Int.reduceEq, Int.reduceBNe, Int.reduceBEq, Int.reduceAdd, Int.reduceSub, Int.reduceMul, Int.reduceNeg, Int.reduceLT, Int.reduceLE, Nat.reduceLT, Nat.reduceAdd, Nat.reduceSub, Nat.reduceMul, Nat.reduceEqDiff, Nat.reduceLeDiff, Nat.reduceBEq, reduceIte, reduceCtorEq, St.sv, St.cells]) ⟨rfl, rfl⟩
end Go.Proofs.Ytdbhgnjpjpmioaa
