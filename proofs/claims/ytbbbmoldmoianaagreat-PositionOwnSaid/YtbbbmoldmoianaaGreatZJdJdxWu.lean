/- Texts joined, in order: Jd. -/
import Derived.Test.YtbbbmoldmoianaaGreatZJcJc
import Derived.Test.YtbbbmoldmoianaaGreatZPaPb
/- PositionOwn: the state that follows shares nothing. -/
namespace Go.Proofs.YtbbbmoldmoianaaGreat
open Go Go.Eng
set_option maxHeartbeats 4000000
set_option linter.unusedSimpArgs false
set_option linter.unusedVariables false
set_option maxRecDepth 100000

theorem noted_fits (y : St) (e : Int) (hy : y.fits) : (y.noted e).fits := ⟨hy.o, hy.i, hy.k⟩
theorem Flush_fits (M : RawM) (x : St) (g : M.σ) (hx : x.fits) : (x.Flush M g).1.fits := by
  have d : (x.deliver M g).1.fits := noted_fits _ _ ⟨Nat.le_trans (putGo_len M (8193 * (x.o.length + 1)) g x.o 0) hx.o, hx.i, hx.k⟩
  unfold St.Flush
  split
  · exact hx
  · split
    · split
      · exact ⟨d.o, d.i, d.k⟩
      · exact d
    · exact hx
theorem settled_fits (M : RawM) (x : St) (g : M.σ) (bad : Bool) (hx : x.fits) : (x.settled M g bad).1.fits := by
  have d := Flush_fits M x g hx
  unfold St.settled
  split
  · exact hx
  · split
    · exact hx
    · split
      · exact hx
      · exact ⟨d.o, d.i, d.k⟩
theorem settled_no {M : RawM} {x : St} (hm : ¬ x.May) (g : M.σ) (bad : Bool) : x.settled M g bad = (x, g, 51) := by
  unfold St.settled St.bErr
  simp [hm]
theorem settledM_ok (M : RawM) (hW : M.Wr) (x : St) (g : M.σ) (hg : M.ok g) (hr : x.o.length ≤ M.rm g) (bad : Bool) : M.ok (x.settled M g bad).2.1 := by
  by_cases hm : x.May
  · exact settled_ok M hW x g hg (by have := (May.bd hm).2.1; omega) hr bad
  · rw [settled_no hm]; exact hg
theorem Tell_fits (M : RawM) (x : St) (g : M.σ) (hx : x.fits) : (x.Tell M g).1.fits := by
  have d := settled_fits M x g false hx
  unfold St.Tell
  split
  · exact d
  · split
    · exact d
    · split <;> exact d
theorem Tell_ok (M : RawM) (hW : M.Wr) (hS : M.Sk) (x : St) (g : M.σ) (hg : M.ok g) (hr : x.o.length ≤ M.rm g) : M.ok (x.Tell M g).2.1 := by
  have d := settledM_ok M hW x g hg hr false
  have e := here_ok M hS (x.settled M g false).1 _ d
  unfold St.Tell
  split
  · exact d
  · split
    · exact e
    · split <;> exact e
theorem sought_fits (M : RawM) (x : St) (q : M.σ × Int × Int) (hx : x.fits) : (x.sought M q).1.fits := by
  unfold St.sought
  split
  · exact hx
  · exact ⟨by simp, by simp, by simp⟩
theorem Seek_fits (M : RawM) (x : St) (g : M.σ) (off w : Int) (hx : x.fits) : (x.Seek M g off w).1.fits := by
  have d := settled_fits M x g (decide (w < 0) || decide (2 < w)) hx
  unfold St.Seek
  split
  · exact d
  · split
    · unfold St.Seek1
      split
      · exact d
      · split
        · exact d
        · exact sought_fits M _ _ d
    · exact sought_fits M _ _ d
theorem TellM_c (M : RawM) (hW : M.Wr) (hS : M.Sk) (x : St) (hx : x.fits) (g : M.σ) (hg : M.ok g) (hr : x.o.length ≤ M.rm g) : Contract Tryz.prog 24 (preR (M.res g)) [x.sv .old, M.v] (isT M (x.Tell M g)) := by
  by_cases hm : x.May
  · exact Tell_c M hW hS x hx (by have := (May.bd hm).2.1; omega) g hg hr
  refine contract_ev Γok Tryz.func24 rfl rfl [] ?_
  simp (maxSteps := 4000000) only [push_cast, Int.reduceEq, Int.reduceBNe, Int.reduceBEq, Int.reduceAdd, Int.reduceSub, Int.reduceMul, Int.reduceNeg, Int.reduceLT, Int.reduceLE, Int.reduceToNat, Nat.reduceLT, Nat.reduceAdd, Nat.reduceSub, Nat.reduceMul, Nat.reduceEqDiff, Nat.reduceLeDiff, Nat.reduceBEq, reduceIte, reduceCtorEq, Tryz.f24, rg11, St.sv, St.cells, RawM.v]
  refine call_w (settled_c M hW x hx g hg hr false) [0] (by simp (maxSteps := 4000000) only [push_cast, Int.reduceEq, Int.reduceBNe, Int.reduceBEq, Int.reduceAdd, Int.reduceSub, Int.reduceMul, Int.reduceNeg, Int.reduceLT, Int.reduceLE, Int.reduceToNat, Nat.reduceLT, Nat.reduceAdd, Nat.reduceSub, Nat.reduceMul, Nat.reduceEqDiff, Nat.reduceLeDiff, Nat.reduceBEq, reduceIte, reduceCtorEq, St.sv, St.cells, RawM.v]) ?_
  rintro sv post ⟨rfl, rfl⟩
  unfold St.Tell
  rw [settled_no hm]
  simp (maxSteps := 4000000) only [push_cast, Int.reduceEq, Int.reduceBNe, Int.reduceBEq, Int.reduceAdd, Int.reduceSub, Int.reduceMul, Int.reduceNeg, Int.reduceLT, Int.reduceLE, Int.reduceToNat, Nat.reduceLT, Nat.reduceAdd, Nat.reduceSub, Nat.reduceMul, Nat.reduceEqDiff, Nat.reduceLeDiff, Nat.reduceBEq, reduceIte, reduceCtorEq, St.sv, St.cells, rg11]
  exact Fin.w [0] (.tup [x.sv .new, .i .i64 0, .i .i64 51]) _ (by simp (maxSteps := 4000000) only [push_cast, Int.reduceEq, Int.reduceBNe, Int.reduceBEq, Int.reduceAdd, Int.reduceSub, Int.reduceMul, Int.reduceNeg, Int.reduceLT, Int.reduceLE, Int.reduceToNat, Nat.reduceLT, Nat.reduceAdd, Nat.reduceSub, Nat.reduceMul, Nat.reduceEqDiff, Nat.reduceLeDiff, Nat.reduceBEq, reduceIte, reduceCtorEq, St.sv, St.cells]) ⟨rfl, rfl⟩
theorem SeekM_c (M : RawM) (hW : M.Wr) (hS : M.Sk) (x : St) (hx : x.fits) (g : M.σ) (hg : M.ok g) (hr : x.o.length ≤ M.rm g) (off w : Int) : Contract Tryz.prog 25 (preR (M.res g)) [x.sv .old, M.v, .i .i64 off, .i .i64 w] (isT M (x.Seek M g off w)) := by
  by_cases hm : x.May
  · exact Seek_c M hW hS x hx (by have := (May.bd hm).2.1; omega) g hg hr off w
  refine contract_ev Γok Tryz.func25 rfl rfl [] ?_
  simp (maxSteps := 4000000) only [push_cast, Int.reduceEq, Int.reduceBNe, Int.reduceBEq, Int.reduceAdd, Int.reduceSub, Int.reduceMul, Int.reduceNeg, Int.reduceLT, Int.reduceLE, Int.reduceToNat, Nat.reduceLT, Nat.reduceAdd, Nat.reduceSub, Nat.reduceMul, Nat.reduceEqDiff, Nat.reduceLeDiff, Nat.reduceBEq, reduceIte, reduceCtorEq, Tryz.f25, rg11, St.sv, St.cells, RawM.v]
  refine call_w (settled_c M hW x hx g hg hr (decide (w < 0) || decide (2 < w))) [0] (by simp (maxSteps := 4000000) only [push_cast, Int.reduceEq, Int.reduceBNe, Int.reduceBEq, Int.reduceAdd, Int.reduceSub, Int.reduceMul, Int.reduceNeg, Int.reduceLT, Int.reduceLE, Int.reduceToNat, Nat.reduceLT, Nat.reduceAdd, Nat.reduceSub, Nat.reduceMul, Nat.reduceEqDiff, Nat.reduceLeDiff, Nat.reduceBEq, reduceIte, reduceCtorEq, St.sv, St.cells, RawM.v]) ?_
  rintro sv post ⟨rfl, rfl⟩
  unfold St.Seek
  rw [settled_no hm]
  simp (maxSteps := 4000000) only [push_cast, Int.reduceEq, Int.reduceBNe, Int.reduceBEq, Int.reduceAdd, Int.reduceSub, Int.reduceMul, Int.reduceNeg, Int.reduceLT, Int.reduceLE, Int.reduceToNat, Nat.reduceLT, Nat.reduceAdd, Nat.reduceSub, Nat.reduceMul, Nat.reduceEqDiff, Nat.reduceLeDiff, Nat.reduceBEq, reduceIte, reduceCtorEq, St.sv, St.cells, rg11]
  exact Fin.w [0] (.tup [x.sv .new, .i .i64 0, .i .i64 51]) _ (by simp (maxSteps := 4000000) only [push_cast, Int.reduceEq, Int.reduceBNe, Int.reduceBEq, Int.reduceAdd, Int.reduceSub, Int.reduceMul, Int.reduceNeg, Int.reduceLT, Int.reduceLE, Int.reduceToNat, Nat.reduceLT, Nat.reduceAdd, Nat.reduceSub, Nat.reduceMul, Nat.reduceEqDiff, Nat.reduceLeDiff, Nat.reduceBEq, reduceIte, reduceCtorEq, St.sv, St.cells]) ⟨rfl, rfl⟩

theorem positionOwn_c (x : St) (hx : x.fits) (off whence : Int) : Contract Tryz.prog 5 nilSS [x.sv .old, .i .i64 off, .i .i64 whence] (fun sv post => sv = .b true ∧ post = nilSS) := by
  refine contract_base Γok Tryz.func5 rfl rfl [] (fun E Z hZ vs h => base_args x [.i .i64 off, .i .i64 whence] E Z hZ vs rfl h) ?_
  intro E0 lo vs hB hvs
  refine ⟨_, hvs, ?_⟩
  simp only [Tryz.f5]
  refine CodeOK.seq (evCode_sound Γok _ _ _ ?_)
  simp (maxSteps := 4000000) only [push_cast, Int.reduceEq, Int.reduceBNe, Int.reduceBEq, Int.reduceAdd, Int.reduceSub, Int.reduceMul, Int.reduceNeg, Int.reduceLT, Int.reduceLE, Int.reduceToNat, Nat.reduceLT, Nat.reduceAdd, Nat.reduceSub, Nat.reduceMul, Nat.reduceEqDiff, Nat.reduceLeDiff, Nat.reduceBEq, reduceIte, reduceCtorEq, seqC, St.sv, St.cells]
  refine CodeOK.seq (evCode_sound Γok _ _ _ ?_)
  simp (maxSteps := 4000000) only [push_cast, Int.reduceEq, Int.reduceBNe, Int.reduceBEq, Int.reduceAdd, Int.reduceSub, Int.reduceMul, Int.reduceNeg, Int.reduceLT, Int.reduceLE, Int.reduceToNat, Nat.reduceLT, Nat.reduceAdd, Nat.reduceSub, Nat.reduceMul, Nat.reduceEqDiff, Nat.reduceLeDiff, Nat.reduceBEq, reduceIte, reduceCtorEq, seqC]
  refine call_w alive14_c [] (by simp (maxSteps := 4000000) only [push_cast, Int.reduceEq, Int.reduceBNe, Int.reduceBEq, Int.reduceAdd, Int.reduceSub, Int.reduceMul, Int.reduceNeg, Int.reduceLT, Int.reduceLE, Int.reduceToNat, Nat.reduceLT, Nat.reduceAdd, Nat.reduceSub, Nat.reduceMul, Nat.reduceEqDiff, Nat.reduceLeDiff, Nat.reduceBEq, reduceIte, reduceCtorEq]) ?_
  rintro sv post ⟨rfl, rfl⟩
  simp (maxSteps := 4000000) only [push_cast, Int.reduceEq, Int.reduceBNe, Int.reduceBEq, Int.reduceAdd, Int.reduceSub, Int.reduceMul, Int.reduceNeg, Int.reduceLT, Int.reduceLE, Int.reduceToNat, Nat.reduceLT, Nat.reduceAdd, Nat.reduceSub, Nat.reduceMul, Nat.reduceEqDiff, Nat.reduceLeDiff, Nat.reduceBEq, reduceIte, reduceCtorEq, seqC]
  refine CodeOK.seq (evCode_sound Γok _ _ _ ?_)
  simp (maxSteps := 4000000) only [push_cast, Int.reduceEq, Int.reduceBNe, Int.reduceBEq, Int.reduceAdd, Int.reduceSub, Int.reduceMul, Int.reduceNeg, Int.reduceLT, Int.reduceLE, Int.reduceToNat, Nat.reduceLT, Nat.reduceAdd, Nat.reduceSub, Nat.reduceMul, Nat.reduceEqDiff, Nat.reduceLeDiff, Nat.reduceBEq, reduceIte, reduceCtorEq, seqC]
  obtain ⟨l60, hl60, he60⟩ : ∃ l : List Int, l.length ≤ 1048576 ∧ l = List.replicate 60 (0 : Int) := ⟨_, by decide, rfl⟩
  refine call_w (make_c l60 hl60) [] (by simp (maxSteps := 4000000) only [push_cast, Int.reduceEq, Int.reduceBNe, Int.reduceBEq, Int.reduceAdd, Int.reduceSub, Int.reduceMul, Int.reduceNeg, Int.reduceLT, Int.reduceLE, Int.reduceToNat, Nat.reduceLT, Nat.reduceAdd, Nat.reduceSub, Nat.reduceMul, Nat.reduceEqDiff, Nat.reduceLeDiff, Nat.reduceBEq, reduceIte, reduceCtorEq, he60]) ?_
  rintro sv post ⟨b, rfl, rfl⟩
  simp (maxSteps := 4000000) only [push_cast, Int.reduceEq, Int.reduceBNe, Int.reduceBEq, Int.reduceAdd, Int.reduceSub, Int.reduceMul, Int.reduceNeg, Int.reduceLT, Int.reduceLE, Int.reduceToNat, Nat.reduceLT, Nat.reduceAdd, Nat.reduceSub, Nat.reduceMul, Nat.reduceEqDiff, Nat.reduceLeDiff, Nat.reduceBEq, reduceIte, reduceCtorEq, seqC, growM_v, growR_res]
  refine CodeOK.seq (evCode_sound Γok _ _ _ ?_)
  simp (maxSteps := 4000000) only [push_cast, Int.reduceEq, Int.reduceBNe, Int.reduceBEq, Int.reduceAdd, Int.reduceSub, Int.reduceMul, Int.reduceNeg, Int.reduceLT, Int.reduceLE, Int.reduceToNat, Nat.reduceLT, Nat.reduceAdd, Nat.reduceSub, Nat.reduceMul, Nat.reduceEqDiff, Nat.reduceLeDiff, Nat.reduceBEq, reduceIte, reduceCtorEq, seqC]
  refine CodeOK.seq (evCode_sound Γok _ _ _ ?_)
  simp (maxSteps := 4000000) only [push_cast, Int.reduceEq, Int.reduceBNe, Int.reduceBEq, Int.reduceAdd, Int.reduceSub, Int.reduceMul, Int.reduceNeg, Int.reduceLT, Int.reduceLE, Int.reduceToNat, Nat.reduceLT, Nat.reduceAdd, Nat.reduceSub, Nat.reduceMul, Nat.reduceEqDiff, Nat.reduceLeDiff, Nat.reduceBEq, reduceIte, reduceCtorEq, seqC]
  refine call_w (given_c x hx) [] (by simp (maxSteps := 4000000) only [push_cast, Int.reduceEq, Int.reduceBNe, Int.reduceBEq, Int.reduceAdd, Int.reduceSub, Int.reduceMul, Int.reduceNeg, Int.reduceLT, Int.reduceLE, Int.reduceToNat, Nat.reduceLT, Nat.reduceAdd, Nat.reduceSub, Nat.reduceMul, Nat.reduceEqDiff, Nat.reduceLeDiff, Nat.reduceBEq, reduceIte, reduceCtorEq, St.sv, St.cells]) ?_
  rintro sv post ⟨rfl, rfl⟩
  simp (maxSteps := 4000000) only [push_cast, Int.reduceEq, Int.reduceBNe, Int.reduceBEq, Int.reduceAdd, Int.reduceSub, Int.reduceMul, Int.reduceNeg, Int.reduceLT, Int.reduceLE, Int.reduceToNat, Nat.reduceLT, Nat.reduceAdd, Nat.reduceSub, Nat.reduceMul, Nat.reduceEqDiff, Nat.reduceLeDiff, Nat.reduceBEq, reduceIte, reduceCtorEq, seqC, St.cells]
  refine sleep_ok hB 7 4 rfl rfl rfl fun po co => ?_
  simp (maxSteps := 4000000) only [push_cast, Int.reduceEq, Int.reduceBNe, Int.reduceBEq, Int.reduceAdd, Int.reduceSub, Int.reduceMul, Int.reduceNeg, Int.reduceLT, Int.reduceLE, Int.reduceToNat, Nat.reduceLT, Nat.reduceAdd, Nat.reduceSub, Nat.reduceMul, Nat.reduceEqDiff, Nat.reduceLeDiff, Nat.reduceBEq, reduceIte, reduceCtorEq]
  refine sleep_ok hB 7 5 rfl rfl rfl fun pi ci => ?_
  simp (maxSteps := 4000000) only [push_cast, Int.reduceEq, Int.reduceBNe, Int.reduceBEq, Int.reduceAdd, Int.reduceSub, Int.reduceMul, Int.reduceNeg, Int.reduceLT, Int.reduceLE, Int.reduceToNat, Nat.reduceLT, Nat.reduceAdd, Nat.reduceSub, Nat.reduceMul, Nat.reduceEqDiff, Nat.reduceLeDiff, Nat.reduceBEq, reduceIte, reduceCtorEq]
  refine sleep_ok hB 7 6 rfl rfl rfl fun pk ck => ?_
  simp (maxSteps := 4000000) only [push_cast, Int.reduceEq, Int.reduceBNe, Int.reduceBEq, Int.reduceAdd, Int.reduceSub, Int.reduceMul, Int.reduceNeg, Int.reduceLT, Int.reduceLE, Int.reduceToNat, Nat.reduceLT, Nat.reduceAdd, Nat.reduceSub, Nat.reduceMul, Nat.reduceEqDiff, Nat.reduceLeDiff, Nat.reduceBEq, reduceIte, reduceCtorEq]
  refine rezone_ok hB [8, 9, 10] fun E1 hB1 => ?_
  simp (maxSteps := 4000000) only [push_cast, Int.reduceEq, Int.reduceBNe, Int.reduceBEq, Int.reduceAdd, Int.reduceSub, Int.reduceMul, Int.reduceNeg, Int.reduceLT, Int.reduceLE, Int.reduceToNat, Nat.reduceLT, Nat.reduceAdd, Nat.reduceSub, Nat.reduceMul, Nat.reduceEqDiff, Nat.reduceLeDiff, Nat.reduceBEq, reduceIte, reduceCtorEq, agL, ag, agH, lts]
  clear he60
  obtain ⟨y, g1, n1, e1, hG⟩ : ∃ y g1 n1 e1, x.Tell (growM b) ((l60, 0) : List Int × Int) = (y, g1, n1, e1) := ⟨_, _, _, _, rfl⟩
  have hok0 : (growM b).ok ((l60, 0) : List Int × Int) := ⟨Int.le_refl 0, (by decide : (0 : Int) ≤ 1048576), hl60⟩
  have hrm : ∀ g, x.o.length ≤ (growM b).rm g := fun g => by have := hx.o; show x.o.length ≤ 1125899906842624; omega
  have hCG := TellM_c (growM b) (growM_wr b) (growM_sk b) x hx ((l60, 0) : List Int × Int) hok0 (hrm _)
  have hok1 := Tell_ok (growM b) (growM_wr b) (growM_sk b) x ((l60, 0) : List Int × Int) hok0 (hrm _)
  have hfy := Tell_fits (growM b) x ((l60, 0) : List Int × Int) hx
  rw [hG] at hCG hok1 hfy
  dsimp only at hok1 hfy
  obtain ⟨z, g2, n2, e2, hP⟩ : ∃ z g2 n2 e2, x.Seek (growM b) g1 off whence = (z, g2, n2, e2) := ⟨_, _, _, _, rfl⟩
  have hCP := SeekM_c (growM b) (growM_wr b) (growM_sk b) x hx g1 hok1 (hrm _) off whence
  have hfz := Seek_fits (growM b) x g1 off whence hx
  rw [hP] at hCP hfz
  dsimp only at hfz
  refine code_cut ⟨[.any, .i .i64 off, .i .i64 whence, .any, .any, .any, .any, .ptr 0 0, .any, .ptr 1 0, .ptr 2 0] ++ List.replicate 62 .any, [(0, 56, [(growM b).v, .any, .nilp, .raw (.pointer (some ⟨b, 0, none⟩)), .nilp, .nilp, .nilp]), (1, 43, [.b x.r, .b x.w, .i .i64 x.m, .i .i64 x.s, .raw (.slice po x.o.length co), .raw (.slice pi x.i.length ci), .raw (.slice pk x.k.length ck), .i .i64 x.d, .b x.en, .b x.bad, .b x.cl]), (2, 43, y.cells .new .new .new)], [], [(3, AndLt E1.w0.heap.size (SleepR lo .u8 po co x.o)), (4, AndLt E1.w0.heap.size (SleepR lo .u8 pi ci x.i)), (5, AndLt E1.w0.heap.size (SleepR lo .u8 pk ck x.k)), (6, (growM b).res g1)], 7, 0, []⟩ ?_ ?_
  · refine (region_plan rfl Γok mixed (.pure 0 (.pure 1 (.pure 2 (.pure 3 (.pure 4 (.eff (.cons 5 [] (.pure 6 (.pure 7 (.pure 8 (.pure 9 (.eff (.cons 10 [0, 4] (.eff (.cons 11 [] (.pure 12 (.pure 13 .done)) .nil)) .nil)))))) (.cons 10 [0, 4] (.eff (.cons 5 [] (.pure 6 (.pure 7 (.pure 8 (.pure 9 (.eff (.cons 11 [] (.pure 12 (.pure 13 .done)) .nil)))))) .nil)) .nil)))))))) 73 rfl (by kernel_rfl) ?_)
    simp (maxSteps := 4000000) only [push_cast, Int.reduceEq, Int.reduceBNe, Int.reduceBEq, Int.reduceAdd, Int.reduceSub, Int.reduceMul, Int.reduceNeg, Int.reduceLT, Int.reduceLE, Int.reduceToNat, Nat.reduceLT, Nat.reduceAdd, Nat.reduceSub, Nat.reduceMul, Nat.reduceEqDiff, Nat.reduceLeDiff, Nat.reduceBEq, reduceIte, reduceCtorEq, seqC]
    and_intros
    all_goals
      refine call_c (args' := x.sv .old :: [(growM b).v]) hCG [3] (own_args (lo := lo) (N := E1.w0.heap.size) 8 9 10 (by simp) (by simp) (by simp) _) (by simp (maxSteps := 4000000) only [push_cast, Int.reduceEq, Int.reduceBNe, Int.reduceBEq, Int.reduceAdd, Int.reduceSub, Int.reduceMul, Int.reduceNeg, Int.reduceLT, Int.reduceLE, Int.reduceToNat, Nat.reduceLT, Nat.reduceAdd, Nat.reduceSub, Nat.reduceMul, Nat.reduceEqDiff, Nat.reduceLeDiff, Nat.reduceBEq, reduceIte, reduceCtorEq, St.sv, St.cells, growM_v]) ?_
      rintro sv post ⟨rfl, rfl⟩
      simp (maxSteps := 4000000) only [push_cast, Int.reduceEq, Int.reduceBNe, Int.reduceBEq, Int.reduceAdd, Int.reduceSub, Int.reduceMul, Int.reduceNeg, Int.reduceLT, Int.reduceLE, Int.reduceToNat, Nat.reduceLT, Nat.reduceAdd, Nat.reduceSub, Nat.reduceMul, Nat.reduceEqDiff, Nat.reduceLeDiff, Nat.reduceBEq, reduceIte, reduceCtorEq, seqC, St.sv, St.cells, cutK]
      refine Sub.w [2, 7, 11, 8, 9, 10, 3] ?_
      simp (maxSteps := 4000000) only [push_cast, Int.reduceEq, Int.reduceBNe, Int.reduceBEq, Int.reduceAdd, Int.reduceSub, Int.reduceMul, Int.reduceNeg, Int.reduceLT, Int.reduceLE, Int.reduceToNat, Nat.reduceLT, Nat.reduceAdd, Nat.reduceSub, Nat.reduceMul, Nat.reduceEqDiff, Nat.reduceLeDiff, Nat.reduceBEq, reduceIte, reduceCtorEq, St.cells, growM_v]
  simp (maxSteps := 4000000) only [push_cast, Int.reduceEq, Int.reduceBNe, Int.reduceBEq, Int.reduceAdd, Int.reduceSub, Int.reduceMul, Int.reduceNeg, Int.reduceLT, Int.reduceLE, Int.reduceToNat, Nat.reduceLT, Nat.reduceAdd, Nat.reduceSub, Nat.reduceMul, Nat.reduceEqDiff, Nat.reduceLeDiff, Nat.reduceBEq, reduceIte, reduceCtorEq, St.cells, growM_v]
  refine code_cut ⟨List.replicate 9 .any ++ [.ptr 0 0, .ptr 1 0, .any, .any, .ptr 2 0] ++ List.replicate 59 .any, [(0, 43, [.b x.r, .b x.w, .i .i64 x.m, .i .i64 x.s, .raw (.slice po x.o.length co), .raw (.slice pi x.i.length ci), .raw (.slice pk x.k.length ck), .i .i64 x.d, .b x.en, .b x.bad, .b x.cl]), (1, 43, y.cells .new .new .new), (2, 43, z.cells .new .new .new)], [], [(3, AndLt E1.w0.heap.size (SleepR lo .u8 po co x.o)), (4, AndLt E1.w0.heap.size (SleepR lo .u8 pi ci x.i)), (5, AndLt E1.w0.heap.size (SleepR lo .u8 pk ck x.k))], 6, 0, []⟩ ?_ ?_
  · refine (region_plan rfl Γok mixed (.pure 0 (.pure 1 (.pure 2 (.pure 3 (.pure 4 (.pure 5 (.pure 6 (.eff (.cons 7 [] (.pure 8 (.pure 9 (.pure 10 (.pure 11 (.eff (.cons 12 [0, 4] (.eff (.cons 13 [] (.pure 14 (.pure 15 .done)) .nil)) .nil)))))) (.cons 12 [0, 4] (.eff (.cons 7 [] (.pure 8 (.pure 9 (.pure 10 (.pure 11 (.eff (.cons 13 [] (.pure 14 (.pure 15 .done)) .nil)))))) .nil)) .nil)))))))))) 73 rfl (by kernel_rfl) ?_)
    simp (maxSteps := 4000000) only [push_cast, Int.reduceEq, Int.reduceBNe, Int.reduceBEq, Int.reduceAdd, Int.reduceSub, Int.reduceMul, Int.reduceNeg, Int.reduceLT, Int.reduceLE, Int.reduceToNat, Nat.reduceLT, Nat.reduceAdd, Nat.reduceSub, Nat.reduceMul, Nat.reduceEqDiff, Nat.reduceLeDiff, Nat.reduceBEq, reduceIte, reduceCtorEq, seqC]
    and_intros
    all_goals
      refine call_c (args' := x.sv .old :: [(growM b).v, .i .i64 off, .i .i64 whence]) hCP [6] (own_args (lo := lo) (N := E1.w0.heap.size) 3 4 5 (by simp) (by simp) (by simp) _) (by simp (maxSteps := 4000000) only [push_cast, Int.reduceEq, Int.reduceBNe, Int.reduceBEq, Int.reduceAdd, Int.reduceSub, Int.reduceMul, Int.reduceNeg, Int.reduceLT, Int.reduceLE, Int.reduceToNat, Nat.reduceLT, Nat.reduceAdd, Nat.reduceSub, Nat.reduceMul, Nat.reduceEqDiff, Nat.reduceLeDiff, Nat.reduceBEq, reduceIte, reduceCtorEq, St.sv, St.cells, growM_v]) ?_
      rintro sv post ⟨rfl, rfl⟩
      simp (maxSteps := 4000000) only [push_cast, Int.reduceEq, Int.reduceBNe, Int.reduceBEq, Int.reduceAdd, Int.reduceSub, Int.reduceMul, Int.reduceNeg, Int.reduceLT, Int.reduceLE, Int.reduceToNat, Nat.reduceLT, Nat.reduceAdd, Nat.reduceSub, Nat.reduceMul, Nat.reduceEqDiff, Nat.reduceLeDiff, Nat.reduceBEq, reduceIte, reduceCtorEq, seqC, St.sv, St.cells, cutK]
      refine Sub.w [1, 2, 7, 3, 4, 5] ?_
      simp (maxSteps := 4000000) only [push_cast, Int.reduceEq, Int.reduceBNe, Int.reduceBEq, Int.reduceAdd, Int.reduceSub, Int.reduceMul, Int.reduceNeg, Int.reduceLT, Int.reduceLE, Int.reduceToNat, Nat.reduceLT, Nat.reduceAdd, Nat.reduceSub, Nat.reduceMul, Nat.reduceEqDiff, Nat.reduceLeDiff, Nat.reduceBEq, reduceIte, reduceCtorEq, St.cells, growM_v]
  simp (maxSteps := 4000000) only [push_cast, Int.reduceEq, Int.reduceBNe, Int.reduceBEq, Int.reduceAdd, Int.reduceSub, Int.reduceMul, Int.reduceNeg, Int.reduceLT, Int.reduceLE, Int.reduceToNat, Nat.reduceLT, Nat.reduceAdd, Nat.reduceSub, Nat.reduceMul, Nat.reduceEqDiff, Nat.reduceLeDiff, Nat.reduceBEq, reduceIte, reduceCtorEq, St.cells]
  refine code_cut ⟨List.replicate 9 .any ++ [.ptr 0 0, .ptr 1 0, .any, .any, .ptr 2 0, .any, .any, .ptr 3 0, .ptr 4 0] ++ List.replicate 55 .any, [(0, 43, [.b x.r, .b x.w, .i .i64 x.m, .i .i64 x.s, .raw (.slice po x.o.length co), .raw (.slice pi x.i.length ci), .raw (.slice pk x.k.length ck), .i .i64 x.d, .b x.en, .b x.bad, .b x.cl]), (1, 43, y.cells .new .new .new), (2, 43, z.cells .new .new .new), (3, 43, y.cells .new .new .new), (4, 43, z.cells .new .new .new)], [], [(5, AndLt E1.w0.heap.size (SleepR lo .u8 po co x.o)), (6, AndLt E1.w0.heap.size (SleepR lo .u8 pi ci x.i)), (7, AndLt E1.w0.heap.size (SleepR lo .u8 pk ck x.k))], 8, 0, []⟩ ?_ ?_
  · refine (region_plan rfl Γok mixed (.pure 0 (.pure 2 (.eff (.cons 1 [2] (.eff (.cons 3 [] (.eff (.cons 4 [0, 2] (.eff (.cons 5 [0, 2] (.eff (.cons 6 [] (.eff (.cons 7 [] .done .nil)) .nil)) .nil)) (.cons 5 [0, 2] (.eff (.cons 4 [0, 2] (.eff (.cons 6 [] (.eff (.cons 7 [] .done .nil)) .nil)) .nil)) .nil))) (.cons 4 [0, 2] (.eff (.cons 3 [] (.eff (.cons 5 [0, 2] (.eff (.cons 6 [] (.eff (.cons 7 [] .done .nil)) .nil)) .nil)) (.cons 5 [0, 2] (.eff (.cons 3 [] (.eff (.cons 6 [] (.eff (.cons 7 [] .done .nil)) .nil)) .nil)) .nil))) (.cons 5 [0, 2] (.eff (.cons 3 [] (.eff (.cons 4 [0, 2] (.eff (.cons 6 [] (.eff (.cons 7 [] .done .nil)) .nil)) .nil)) (.cons 4 [0, 2] (.eff (.cons 3 [] (.eff (.cons 6 [] (.eff (.cons 7 [] .done .nil)) .nil)) .nil)) .nil))) .nil)))) (.cons 4 [0, 2] (.eff (.cons 1 [2] (.eff (.cons 3 [] (.eff (.cons 5 [0, 2] (.eff (.cons 6 [] (.eff (.cons 7 [] .done .nil)) .nil)) .nil)) (.cons 5 [0, 2] (.eff (.cons 3 [] (.eff (.cons 6 [] (.eff (.cons 7 [] .done .nil)) .nil)) .nil)) .nil))) (.cons 5 [0, 2] (.eff (.cons 1 [2] (.eff (.cons 3 [] (.eff (.cons 6 [] (.eff (.cons 7 [] .done .nil)) .nil)) .nil)) .nil)) .nil))) (.cons 5 [0, 2] (.eff (.cons 1 [2] (.eff (.cons 3 [] (.eff (.cons 4 [0, 2] (.eff (.cons 6 [] (.eff (.cons 7 [] .done .nil)) .nil)) .nil)) (.cons 4 [0, 2] (.eff (.cons 3 [] (.eff (.cons 6 [] (.eff (.cons 7 [] .done .nil)) .nil)) .nil)) .nil))) (.cons 4 [0, 2] (.eff (.cons 1 [2] (.eff (.cons 3 [] (.eff (.cons 6 [] (.eff (.cons 7 [] .done .nil)) .nil)) .nil)) .nil)) .nil))) .nil)))))) 73 rfl (by kernel_rfl) ?_)
    simp (maxSteps := 4000000) only [push_cast, Int.reduceEq, Int.reduceBNe, Int.reduceBEq, Int.reduceAdd, Int.reduceSub, Int.reduceMul, Int.reduceNeg, Int.reduceLT, Int.reduceLE, Int.reduceToNat, Nat.reduceLT, Nat.reduceAdd, Nat.reduceSub, Nat.reduceMul, Nat.reduceEqDiff, Nat.reduceLeDiff, Nat.reduceBEq, reduceIte, reduceCtorEq, seqC]
    and_intros
    all_goals
      refine call_w (given_c y hfy) [] (by simp (maxSteps := 4000000) only [push_cast, Int.reduceEq, Int.reduceBNe, Int.reduceBEq, Int.reduceAdd, Int.reduceSub, Int.reduceMul, Int.reduceNeg, Int.reduceLT, Int.reduceLE, Int.reduceToNat, Nat.reduceLT, Nat.reduceAdd, Nat.reduceSub, Nat.reduceMul, Nat.reduceEqDiff, Nat.reduceLeDiff, Nat.reduceBEq, reduceIte, reduceCtorEq, St.sv, St.cells]) ?_
      rintro sv post ⟨rfl, rfl⟩
      simp (maxSteps := 4000000) only [push_cast, Int.reduceEq, Int.reduceBNe, Int.reduceBEq, Int.reduceAdd, Int.reduceSub, Int.reduceMul, Int.reduceNeg, Int.reduceLT, Int.reduceLE, Int.reduceToNat, Nat.reduceLT, Nat.reduceAdd, Nat.reduceSub, Nat.reduceMul, Nat.reduceEqDiff, Nat.reduceLeDiff, Nat.reduceBEq, reduceIte, reduceCtorEq, seqC, St.sv, St.cells, cutK]
      and_intros
      all_goals
        refine call_w (given_c z hfz) [] (by simp (maxSteps := 4000000) only [push_cast, Int.reduceEq, Int.reduceBNe, Int.reduceBEq, Int.reduceAdd, Int.reduceSub, Int.reduceMul, Int.reduceNeg, Int.reduceLT, Int.reduceLE, Int.reduceToNat, Nat.reduceLT, Nat.reduceAdd, Nat.reduceSub, Nat.reduceMul, Nat.reduceEqDiff, Nat.reduceLeDiff, Nat.reduceBEq, reduceIte, reduceCtorEq, St.sv, St.cells]) ?_
        rintro sv post ⟨rfl, rfl⟩
        simp (maxSteps := 4000000) only [push_cast, Int.reduceEq, Int.reduceBNe, Int.reduceBEq, Int.reduceAdd, Int.reduceSub, Int.reduceMul, Int.reduceNeg, Int.reduceLT, Int.reduceLE, Int.reduceToNat, Nat.reduceLT, Nat.reduceAdd, Nat.reduceSub, Nat.reduceMul, Nat.reduceEqDiff, Nat.reduceLeDiff, Nat.reduceBEq, reduceIte, reduceCtorEq, seqC, St.sv, St.cells, cutK]
        try and_intros
        all_goals first
          | (refine Sub.w [0, 1, 2, 6, 7, 3, 4, 5] ?_; simp (maxSteps := 4000000) only [push_cast, Int.reduceEq, Int.reduceBNe, Int.reduceBEq, Int.reduceAdd, Int.reduceSub, Int.reduceMul, Int.reduceNeg, Int.reduceLT, Int.reduceLE, Int.reduceToNat, Nat.reduceLT, Nat.reduceAdd, Nat.reduceSub, Nat.reduceMul, Nat.reduceEqDiff, Nat.reduceLeDiff, Nat.reduceBEq, reduceIte, reduceCtorEq, St.cells]; done)
          | (refine Sub.w [0, 1, 2, 7, 6, 3, 4, 5] ?_; simp (maxSteps := 4000000) only [push_cast, Int.reduceEq, Int.reduceBNe, Int.reduceBEq, Int.reduceAdd, Int.reduceSub, Int.reduceMul, Int.reduceNeg, Int.reduceLT, Int.reduceLE, Int.reduceToNat, Nat.reduceLT, Nat.reduceAdd, Nat.reduceSub, Nat.reduceMul, Nat.reduceEqDiff, Nat.reduceLeDiff, Nat.reduceBEq, reduceIte, reduceCtorEq, St.cells]; done)
          | (refine Sub.w [0, 1, 2, 6, 10, 3, 4, 5] ?_; simp (maxSteps := 4000000) only [push_cast, Int.reduceEq, Int.reduceBNe, Int.reduceBEq, Int.reduceAdd, Int.reduceSub, Int.reduceMul, Int.reduceNeg, Int.reduceLT, Int.reduceLE, Int.reduceToNat, Nat.reduceLT, Nat.reduceAdd, Nat.reduceSub, Nat.reduceMul, Nat.reduceEqDiff, Nat.reduceLeDiff, Nat.reduceBEq, reduceIte, reduceCtorEq, St.cells]; done)
          | (refine Sub.w [0, 1, 2, 6, 13, 3, 4, 5] ?_; simp (maxSteps := 4000000) only [push_cast, Int.reduceEq, Int.reduceBNe, Int.reduceBEq, Int.reduceAdd, Int.reduceSub, Int.reduceMul, Int.reduceNeg, Int.reduceLT, Int.reduceLE, Int.reduceToNat, Nat.reduceLT, Nat.reduceAdd, Nat.reduceSub, Nat.reduceMul, Nat.reduceEqDiff, Nat.reduceLeDiff, Nat.reduceBEq, reduceIte, reduceCtorEq, St.cells]; done)
          | (refine Sub.w [0, 1, 2, 10, 6, 3, 4, 5] ?_; simp (maxSteps := 4000000) only [push_cast, Int.reduceEq, Int.reduceBNe, Int.reduceBEq, Int.reduceAdd, Int.reduceSub, Int.reduceMul, Int.reduceNeg, Int.reduceLT, Int.reduceLE, Int.reduceToNat, Nat.reduceLT, Nat.reduceAdd, Nat.reduceSub, Nat.reduceMul, Nat.reduceEqDiff, Nat.reduceLeDiff, Nat.reduceBEq, reduceIte, reduceCtorEq, St.cells]; done)
          | (refine Sub.w [0, 1, 2, 9, 10, 3, 4, 5] ?_; simp (maxSteps := 4000000) only [push_cast, Int.reduceEq, Int.reduceBNe, Int.reduceBEq, Int.reduceAdd, Int.reduceSub, Int.reduceMul, Int.reduceNeg, Int.reduceLT, Int.reduceLE, Int.reduceToNat, Nat.reduceLT, Nat.reduceAdd, Nat.reduceSub, Nat.reduceMul, Nat.reduceEqDiff, Nat.reduceLeDiff, Nat.reduceBEq, reduceIte, reduceCtorEq, St.cells]; done)
          | (refine Sub.w [0, 1, 2, 10, 9, 3, 4, 5] ?_; simp (maxSteps := 4000000) only [push_cast, Int.reduceEq, Int.reduceBNe, Int.reduceBEq, Int.reduceAdd, Int.reduceSub, Int.reduceMul, Int.reduceNeg, Int.reduceLT, Int.reduceLE, Int.reduceToNat, Nat.reduceLT, Nat.reduceAdd, Nat.reduceSub, Nat.reduceMul, Nat.reduceEqDiff, Nat.reduceLeDiff, Nat.reduceBEq, reduceIte, reduceCtorEq, St.cells]; done)
          | (refine Sub.w [0, 1, 2, 9, 13, 3, 4, 5] ?_; simp (maxSteps := 4000000) only [push_cast, Int.reduceEq, Int.reduceBNe, Int.reduceBEq, Int.reduceAdd, Int.reduceSub, Int.reduceMul, Int.reduceNeg, Int.reduceLT, Int.reduceLE, Int.reduceToNat, Nat.reduceLT, Nat.reduceAdd, Nat.reduceSub, Nat.reduceMul, Nat.reduceEqDiff, Nat.reduceLeDiff, Nat.reduceBEq, reduceIte, reduceCtorEq, St.cells]; done)
          | (refine Sub.w [0, 1, 2, 13, 6, 3, 4, 5] ?_; simp (maxSteps := 4000000) only [push_cast, Int.reduceEq, Int.reduceBNe, Int.reduceBEq, Int.reduceAdd, Int.reduceSub, Int.reduceMul, Int.reduceNeg, Int.reduceLT, Int.reduceLE, Int.reduceToNat, Nat.reduceLT, Nat.reduceAdd, Nat.reduceSub, Nat.reduceMul, Nat.reduceEqDiff, Nat.reduceLeDiff, Nat.reduceBEq, reduceIte, reduceCtorEq, St.cells]; done)
          | (refine Sub.w [0, 1, 2, 13, 9, 3, 4, 5] ?_; simp (maxSteps := 4000000) only [push_cast, Int.reduceEq, Int.reduceBNe, Int.reduceBEq, Int.reduceAdd, Int.reduceSub, Int.reduceMul, Int.reduceNeg, Int.reduceLT, Int.reduceLE, Int.reduceToNat, Nat.reduceLT, Nat.reduceAdd, Nat.reduceSub, Nat.reduceMul, Nat.reduceEqDiff, Nat.reduceLeDiff, Nat.reduceBEq, reduceIte, reduceCtorEq, St.cells]; done)
          | (refine Sub.w [0, 1, 2, 12, 13, 3, 4, 5] ?_; simp (maxSteps := 4000000) only [push_cast, Int.reduceEq, Int.reduceBNe, Int.reduceBEq, Int.reduceAdd, Int.reduceSub, Int.reduceMul, Int.reduceNeg, Int.reduceLT, Int.reduceLE, Int.reduceToNat, Nat.reduceLT, Nat.reduceAdd, Nat.reduceSub, Nat.reduceMul, Nat.reduceEqDiff, Nat.reduceLeDiff, Nat.reduceBEq, reduceIte, reduceCtorEq, St.cells]; done)
          | (refine Sub.w [0, 1, 2, 13, 12, 3, 4, 5] ?_; simp (maxSteps := 4000000) only [push_cast, Int.reduceEq, Int.reduceBNe, Int.reduceBEq, Int.reduceAdd, Int.reduceSub, Int.reduceMul, Int.reduceNeg, Int.reduceLT, Int.reduceLE, Int.reduceToNat, Nat.reduceLT, Nat.reduceAdd, Nat.reduceSub, Nat.reduceMul, Nat.reduceEqDiff, Nat.reduceLeDiff, Nat.reduceBEq, reduceIte, reduceCtorEq, St.cells]; done)
  simp (maxSteps := 4000000) only [push_cast, Int.reduceEq, Int.reduceBNe, Int.reduceBEq, Int.reduceAdd, Int.reduceSub, Int.reduceMul, Int.reduceNeg, Int.reduceLT, Int.reduceLE, Int.reduceToNat, Nat.reduceLT, Nat.reduceAdd, Nat.reduceSub, Nat.reduceMul, Nat.reduceEqDiff, Nat.reduceLeDiff, Nat.reduceBEq, reduceIte, reduceCtorEq, St.cells]
  refine thaw_ok hB1 5 (k := .u8) (p := po) (n := co) (l := x.o) (by simp) (fun m R h hne => by
    simp only [List.mem_cons, Prod.mk.injEq, List.not_mem_nil, or_false] at h
    rcases h with ⟨rfl, rfl⟩ | ⟨rfl, rfl⟩ | ⟨rfl, rfl⟩
    all_goals first
      | exact absurd rfl hne
      | exact AndLt.loc (SleepR.loc _ _ _ _ _)
      | exact RowR.loc _ _ _ _ _) ?_
  simp (maxSteps := 4000000) only [push_cast, Int.reduceEq, Int.reduceBNe, Int.reduceBEq, Int.reduceAdd, Int.reduceSub, Int.reduceMul, Int.reduceNeg, Int.reduceLT, Int.reduceLE, Int.reduceToNat, Nat.reduceLT, Nat.reduceAdd, Nat.reduceSub, Nat.reduceMul, Nat.reduceEqDiff, Nat.reduceLeDiff, Nat.reduceBEq, reduceIte, reduceCtorEq, znL, zn, znH]
  refine thaw_ok hB1 6 (k := .u8) (p := pi) (n := ci) (l := x.i) (by simp) (fun m R h hne => by
    simp only [List.mem_cons, Prod.mk.injEq, List.not_mem_nil, or_false] at h
    rcases h with ⟨rfl, rfl⟩ | ⟨rfl, rfl⟩ | ⟨rfl, rfl⟩
    all_goals first
      | exact absurd rfl hne
      | exact AndLt.loc (SleepR.loc _ _ _ _ _)
      | exact RowR.loc _ _ _ _ _) ?_
  simp (maxSteps := 4000000) only [push_cast, Int.reduceEq, Int.reduceBNe, Int.reduceBEq, Int.reduceAdd, Int.reduceSub, Int.reduceMul, Int.reduceNeg, Int.reduceLT, Int.reduceLE, Int.reduceToNat, Nat.reduceLT, Nat.reduceAdd, Nat.reduceSub, Nat.reduceMul, Nat.reduceEqDiff, Nat.reduceLeDiff, Nat.reduceBEq, reduceIte, reduceCtorEq, znL, zn, znH]
  refine thaw_ok hB1 7 (k := .u8) (p := pk) (n := ck) (l := x.k) (by simp) (fun m R h hne => by
    simp only [List.mem_cons, Prod.mk.injEq, List.not_mem_nil, or_false] at h
    rcases h with ⟨rfl, rfl⟩ | ⟨rfl, rfl⟩ | ⟨rfl, rfl⟩
    all_goals first
      | exact absurd rfl hne
      | exact AndLt.loc (SleepR.loc _ _ _ _ _)
      | exact RowR.loc _ _ _ _ _) ?_
  simp (maxSteps := 4000000) only [push_cast, Int.reduceEq, Int.reduceBNe, Int.reduceBEq, Int.reduceAdd, Int.reduceSub, Int.reduceMul, Int.reduceNeg, Int.reduceLT, Int.reduceLE, Int.reduceToNat, Nat.reduceLT, Nat.reduceAdd, Nat.reduceSub, Nat.reduceMul, Nat.reduceEqDiff, Nat.reduceLeDiff, Nat.reduceBEq, reduceIte, reduceCtorEq, znL, zn, znH]
  refine CodeOK.seq (evCode_sound Γok _ _ _ ?_)
  simp (maxSteps := 4000000) only [push_cast, Int.reduceEq, Int.reduceBNe, Int.reduceBEq, Int.reduceAdd, Int.reduceSub, Int.reduceMul, Int.reduceNeg, Int.reduceLT, Int.reduceLE, Int.reduceToNat, Nat.reduceLT, Nat.reduceAdd, Nat.reduceSub, Nat.reduceMul, Nat.reduceEqDiff, Nat.reduceLeDiff, Nat.reduceBEq, reduceIte, reduceCtorEq, seqC]
  refine call_w (spoil_c po co x.o) [5] (by simp (maxSteps := 4000000) only [push_cast, Int.reduceEq, Int.reduceBNe, Int.reduceBEq, Int.reduceAdd, Int.reduceSub, Int.reduceMul, Int.reduceNeg, Int.reduceLT, Int.reduceLE, Int.reduceToNat, Nat.reduceLT, Nat.reduceAdd, Nat.reduceSub, Nat.reduceMul, Nat.reduceEqDiff, Nat.reduceLeDiff, Nat.reduceBEq, reduceIte, reduceCtorEq, preR]) ?_
  rintro sv post ⟨rfl, mo, hmo, rfl⟩
  simp (maxSteps := 4000000) only [push_cast, Int.reduceEq, Int.reduceBNe, Int.reduceBEq, Int.reduceAdd, Int.reduceSub, Int.reduceMul, Int.reduceNeg, Int.reduceLT, Int.reduceLE, Int.reduceToNat, Nat.reduceLT, Nat.reduceAdd, Nat.reduceSub, Nat.reduceMul, Nat.reduceEqDiff, Nat.reduceLeDiff, Nat.reduceBEq, reduceIte, reduceCtorEq, seqC]
  refine CodeOK.seq (evCode_sound Γok _ _ _ ?_)
  simp (maxSteps := 4000000) only [push_cast, Int.reduceEq, Int.reduceBNe, Int.reduceBEq, Int.reduceAdd, Int.reduceSub, Int.reduceMul, Int.reduceNeg, Int.reduceLT, Int.reduceLE, Int.reduceToNat, Nat.reduceLT, Nat.reduceAdd, Nat.reduceSub, Nat.reduceMul, Nat.reduceEqDiff, Nat.reduceLeDiff, Nat.reduceBEq, reduceIte, reduceCtorEq, seqC]
  refine call_w (spoil_c pi ci x.i) [6] (by simp (maxSteps := 4000000) only [push_cast, Int.reduceEq, Int.reduceBNe, Int.reduceBEq, Int.reduceAdd, Int.reduceSub, Int.reduceMul, Int.reduceNeg, Int.reduceLT, Int.reduceLE, Int.reduceToNat, Nat.reduceLT, Nat.reduceAdd, Nat.reduceSub, Nat.reduceMul, Nat.reduceEqDiff, Nat.reduceLeDiff, Nat.reduceBEq, reduceIte, reduceCtorEq, preR]) ?_
  rintro sv post ⟨rfl, mi, hmi, rfl⟩
  simp (maxSteps := 4000000) only [push_cast, Int.reduceEq, Int.reduceBNe, Int.reduceBEq, Int.reduceAdd, Int.reduceSub, Int.reduceMul, Int.reduceNeg, Int.reduceLT, Int.reduceLE, Int.reduceToNat, Nat.reduceLT, Nat.reduceAdd, Nat.reduceSub, Nat.reduceMul, Nat.reduceEqDiff, Nat.reduceLeDiff, Nat.reduceBEq, reduceIte, reduceCtorEq, seqC]
  refine CodeOK.seq (evCode_sound Γok _ _ _ ?_)
  simp (maxSteps := 4000000) only [push_cast, Int.reduceEq, Int.reduceBNe, Int.reduceBEq, Int.reduceAdd, Int.reduceSub, Int.reduceMul, Int.reduceNeg, Int.reduceLT, Int.reduceLE, Int.reduceToNat, Nat.reduceLT, Nat.reduceAdd, Nat.reduceSub, Nat.reduceMul, Nat.reduceEqDiff, Nat.reduceLeDiff, Nat.reduceBEq, reduceIte, reduceCtorEq, seqC]
  refine call_w (spoil_c pk ck x.k) [7] (by simp (maxSteps := 4000000) only [push_cast, Int.reduceEq, Int.reduceBNe, Int.reduceBEq, Int.reduceAdd, Int.reduceSub, Int.reduceMul, Int.reduceNeg, Int.reduceLT, Int.reduceLE, Int.reduceToNat, Nat.reduceLT, Nat.reduceAdd, Nat.reduceSub, Nat.reduceMul, Nat.reduceEqDiff, Nat.reduceLeDiff, Nat.reduceBEq, reduceIte, reduceCtorEq, preR]) ?_
  rintro sv post ⟨rfl, mk, hmk, rfl⟩
  simp (maxSteps := 4000000) only [push_cast, Int.reduceEq, Int.reduceBNe, Int.reduceBEq, Int.reduceAdd, Int.reduceSub, Int.reduceMul, Int.reduceNeg, Int.reduceLT, Int.reduceLE, Int.reduceToNat, Nat.reduceLT, Nat.reduceAdd, Nat.reduceSub, Nat.reduceMul, Nat.reduceEqDiff, Nat.reduceLeDiff, Nat.reduceBEq, reduceIte, reduceCtorEq, seqC]
  refine evCode_sound Γok _ _ _ ?_
  simp (maxSteps := 4000000) only [push_cast, Int.reduceEq, Int.reduceBNe, Int.reduceBEq, Int.reduceAdd, Int.reduceSub, Int.reduceMul, Int.reduceNeg, Int.reduceLT, Int.reduceLE, Int.reduceToNat, Nat.reduceLT, Nat.reduceAdd, Nat.reduceSub, Nat.reduceMul, Nat.reduceEqDiff, Nat.reduceLeDiff, Nat.reduceBEq, reduceIte, reduceCtorEq, seqC]
  refine call_w (same_c y) [] (by simp (maxSteps := 4000000) only [push_cast, Int.reduceEq, Int.reduceBNe, Int.reduceBEq, Int.reduceAdd, Int.reduceSub, Int.reduceMul, Int.reduceNeg, Int.reduceLT, Int.reduceLE, Int.reduceToNat, Nat.reduceLT, Nat.reduceAdd, Nat.reduceSub, Nat.reduceMul, Nat.reduceEqDiff, Nat.reduceLeDiff, Nat.reduceBEq, reduceIte, reduceCtorEq, St.sv, St.cells]) ?_
  rintro sv post ⟨rfl, rfl⟩
  simp (maxSteps := 4000000) only [push_cast, Int.reduceEq, Int.reduceBNe, Int.reduceBEq, Int.reduceAdd, Int.reduceSub, Int.reduceMul, Int.reduceNeg, Int.reduceLT, Int.reduceLE, Int.reduceToNat, Nat.reduceLT, Nat.reduceAdd, Nat.reduceSub, Nat.reduceMul, Nat.reduceEqDiff, Nat.reduceLeDiff, Nat.reduceBEq, reduceIte, reduceCtorEq]
  refine call_w (same_c z) [] (by simp (maxSteps := 4000000) only [push_cast, Int.reduceEq, Int.reduceBNe, Int.reduceBEq, Int.reduceAdd, Int.reduceSub, Int.reduceMul, Int.reduceNeg, Int.reduceLT, Int.reduceLE, Int.reduceToNat, Nat.reduceLT, Nat.reduceAdd, Nat.reduceSub, Nat.reduceMul, Nat.reduceEqDiff, Nat.reduceLeDiff, Nat.reduceBEq, reduceIte, reduceCtorEq, St.sv, St.cells]) ?_
  rintro sv post ⟨rfl, rfl⟩
  simp (maxSteps := 4000000) only [push_cast, Int.reduceEq, Int.reduceBNe, Int.reduceBEq, Int.reduceAdd, Int.reduceSub, Int.reduceMul, Int.reduceNeg, Int.reduceLT, Int.reduceLE, Int.reduceToNat, Nat.reduceLT, Nat.reduceAdd, Nat.reduceSub, Nat.reduceMul, Nat.reduceEqDiff, Nat.reduceLeDiff, Nat.reduceBEq, reduceIte, reduceCtorEq]
  exact Fin.nil rfl (psv := .b true) (by simp (maxSteps := 4000000) only [push_cast, Int.reduceEq, Int.reduceBNe, Int.reduceBEq, Int.reduceAdd, Int.reduceSub, Int.reduceMul, Int.reduceNeg, Int.reduceLT, Int.reduceLE, Int.reduceToNat, Nat.reduceLT, Nat.reduceAdd, Nat.reduceSub, Nat.reduceMul, Nat.reduceEqDiff, Nat.reduceLeDiff, Nat.reduceBEq, reduceIte, reduceCtorEq]) ⟨rfl, rfl⟩
end Go.Proofs.YtbbbmoldmoianaaGreat
