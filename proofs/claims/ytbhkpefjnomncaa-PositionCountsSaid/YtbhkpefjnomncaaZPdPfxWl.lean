/- Texts joined, in order: Pd, Pe, Pf. -/
import Derived.Test.YtbhkpefjnomncaaZLaKa
import Derived.Test.YtbhkpefjnomncaaZKbPc
/- PositionTells: Tell behind a Seek tells its place; what is got there is what the Raw has there. -/
namespace Go.Proofs.Ytbhkpefjnomncaa
open Go Go.Eng
set_option maxHeartbeats 4000000
set_option linter.unusedSimpArgs false
set_option linter.unusedVariables false
set_option maxRecDepth 100000

def mod40 (n : Int) : Int := ((n.tmod 40) + 40).tmod 40
theorem mod40_rng (n : Int) : 0 ≤ mod40 n ∧ mod40 n < 40 ∧ IntKind.i64.wrap (n.tmod 40 + 40) = n.tmod 40 + 40 := by
  have h1 := Int.tmod_lt_of_pos n (show (0 : Int) < 40 by omega)
  have h2 := Int.lt_tmod_of_pos n (show (0 : Int) < 40 by omega)
  unfold mod40
  refine ⟨Int.tmod_nonneg _ (by omega), Int.tmod_lt_of_pos _ (by omega), wrap64 (by omega) (by omega)⟩

theorem positionTells_c (text : List Int) (m s gets off w : Int) : Contract Try.prog 8 nilSS [.ints .u8 .old text, .i .i64 m, .i .i64 s, .i .i64 gets, .i .i64 off, .i .i64 w] (fun sv post => sv = .b true ∧ post = nilSS) := by
  have hv : ∀ b, (growM b).v = .ifc 62 (.raw (.pointer (some ⟨b, 0, none⟩))) := fun b => rfl
  have hr : ∀ b (s : List Int × Int), (growM b).res s = growR b s.1 s.2 := fun b s => rfl
  refine contract_ev Γok Try.func8 rfl rfl [] ?_
  simp (maxSteps := 4000000) only [push_cast, Int.reduceEq, Int.reduceBNe, Int.reduceBEq, Int.reduceAdd, Int.reduceSub, Int.reduceMul, Int.reduceNeg, Int.reduceLT, Int.reduceLE, Int.reduceToNat, Nat.reduceLT, Nat.reduceAdd, Nat.reduceSub, Nat.reduceMul, Nat.reduceEqDiff, Nat.reduceLeDiff, Nat.reduceBEq, reduceIte, reduceCtorEq, Try.f8]
  refine call_w alive14_c [] (by simp (maxSteps := 4000000) only [push_cast, Int.reduceEq, Int.reduceBNe, Int.reduceBEq, Int.reduceAdd, Int.reduceSub, Int.reduceMul, Int.reduceNeg, Int.reduceLT, Int.reduceLE, Int.reduceToNat, Nat.reduceLT, Nat.reduceAdd, Nat.reduceSub, Nat.reduceMul, Nat.reduceEqDiff, Nat.reduceLeDiff, Nat.reduceBEq, reduceIte, reduceCtorEq]) ?_
  rintro sv post ⟨rfl, rfl⟩
  simp (maxSteps := 4000000) only [push_cast, Int.reduceEq, Int.reduceBNe, Int.reduceBEq, Int.reduceAdd, Int.reduceSub, Int.reduceMul, Int.reduceNeg, Int.reduceLT, Int.reduceLE, Int.reduceToNat, Nat.reduceLT, Nat.reduceAdd, Nat.reduceSub, Nat.reduceMul, Nat.reduceEqDiff, Nat.reduceLeDiff, Nat.reduceBEq, reduceIte, reduceCtorEq]
  by_cases hlen : text.length ≤ 1048576
  case neg =>
    refine call_w (newGrowLong_c text (by omega)) [] (by simp (maxSteps := 4000000) only [push_cast, Int.reduceEq, Int.reduceBNe, Int.reduceBEq, Int.reduceAdd, Int.reduceSub, Int.reduceMul, Int.reduceNeg, Int.reduceLT, Int.reduceLE, Int.reduceToNat, Nat.reduceLT, Nat.reduceAdd, Nat.reduceSub, Nat.reduceMul, Nat.reduceEqDiff, Nat.reduceLeDiff, Nat.reduceBEq, reduceIte, reduceCtorEq]) ?_
    rintro sv post ⟨rfl, rfl⟩
    simp (maxSteps := 4000000) only [push_cast, Int.reduceEq, Int.reduceBNe, Int.reduceBEq, Int.reduceAdd, Int.reduceSub, Int.reduceMul, Int.reduceNeg, Int.reduceLT, Int.reduceLE, Int.reduceToNat, Nat.reduceLT, Nat.reduceAdd, Nat.reduceSub, Nat.reduceMul, Nat.reduceEqDiff, Nat.reduceLeDiff, Nat.reduceBEq, reduceIte, reduceCtorEq]
    refine call_w (newS_c _ _ _ _ _ _ _ _ openR_c m s) [] (by simp (maxSteps := 4000000) only [push_cast, Int.reduceEq, Int.reduceBNe, Int.reduceBEq, Int.reduceAdd, Int.reduceSub, Int.reduceMul, Int.reduceNeg, Int.reduceLT, Int.reduceLE, Int.reduceToNat, Nat.reduceLT, Nat.reduceAdd, Nat.reduceSub, Nat.reduceMul, Nat.reduceEqDiff, Nat.reduceLeDiff, Nat.reduceBEq, reduceIte, reduceCtorEq, modeV]) ?_
    rintro sv post ⟨rfl, rfl⟩
    simp (maxSteps := 4000000) only [push_cast, Int.reduceEq, Int.reduceBNe, Int.reduceBEq, Int.reduceAdd, Int.reduceSub, Int.reduceMul, Int.reduceNeg, Int.reduceLT, Int.reduceLE, Int.reduceToNat, Nat.reduceLT, Nat.reduceAdd, Nat.reduceSub, Nat.reduceMul, Nat.reduceEqDiff, Nat.reduceLeDiff, Nat.reduceBEq, reduceIte, reduceCtorEq, St.sv, St.cells]
    refine call_w (num14_c 5) [] (by simp (maxSteps := 4000000) only [push_cast, Int.reduceEq, Int.reduceBNe, Int.reduceBEq, Int.reduceAdd, Int.reduceSub, Int.reduceMul, Int.reduceNeg, Int.reduceLT, Int.reduceLE, Int.reduceToNat, Nat.reduceLT, Nat.reduceAdd, Nat.reduceSub, Nat.reduceMul, Nat.reduceEqDiff, Nat.reduceLeDiff, Nat.reduceBEq, reduceIte, reduceCtorEq]) ?_
    rintro sv post ⟨rfl, rfl⟩
    simp (maxSteps := 4000000) only [push_cast, Int.reduceEq, Int.reduceBNe, Int.reduceBEq, Int.reduceAdd, Int.reduceSub, Int.reduceMul, Int.reduceNeg, Int.reduceLT, Int.reduceLE, Int.reduceToNat, Nat.reduceLT, Nat.reduceAdd, Nat.reduceSub, Nat.reduceMul, Nat.reduceEqDiff, Nat.reduceLeDiff, Nat.reduceBEq, reduceIte, reduceCtorEq]
    exact Fin.nil rfl (psv := .b true) (by simp (maxSteps := 4000000) only [push_cast, Int.reduceEq, Int.reduceBNe, Int.reduceBEq, Int.reduceAdd, Int.reduceSub, Int.reduceMul, Int.reduceNeg, Int.reduceLT, Int.reduceLE, Int.reduceToNat, Nat.reduceLT, Nat.reduceAdd, Nat.reduceSub, Nat.reduceMul, Nat.reduceEqDiff, Nat.reduceLeDiff, Nat.reduceBEq, reduceIte, reduceCtorEq]) ⟨rfl, rfl⟩
  refine call_w (newGrow_c text hlen) [] (by simp (maxSteps := 4000000) only [push_cast, Int.reduceEq, Int.reduceBNe, Int.reduceBEq, Int.reduceAdd, Int.reduceSub, Int.reduceMul, Int.reduceNeg, Int.reduceLT, Int.reduceLE, Int.reduceToNat, Nat.reduceLT, Nat.reduceAdd, Nat.reduceSub, Nat.reduceMul, Nat.reduceEqDiff, Nat.reduceLeDiff, Nat.reduceBEq, reduceIte, reduceCtorEq]) ?_
  rintro sv post ⟨b, rfl, rfl⟩
  simp (maxSteps := 4000000) only [push_cast, Int.reduceEq, Int.reduceBNe, Int.reduceBEq, Int.reduceAdd, Int.reduceSub, Int.reduceMul, Int.reduceNeg, Int.reduceLT, Int.reduceLE, Int.reduceToNat, Nat.reduceLT, Nat.reduceAdd, Nat.reduceSub, Nat.reduceMul, Nat.reduceEqDiff, Nat.reduceLeDiff, Nat.reduceBEq, reduceIte, reduceCtorEq]
  refine call_w (newS_c _ _ _ _ _ _ _ _ openR_c m s) [] (by simp (maxSteps := 4000000) only [push_cast, Int.reduceEq, Int.reduceBNe, Int.reduceBEq, Int.reduceAdd, Int.reduceSub, Int.reduceMul, Int.reduceNeg, Int.reduceLT, Int.reduceLE, Int.reduceToNat, Nat.reduceLT, Nat.reduceAdd, Nat.reduceSub, Nat.reduceMul, Nat.reduceEqDiff, Nat.reduceLeDiff, Nat.reduceBEq, reduceIte, reduceCtorEq, modeV]) ?_
  rintro sv post ⟨rfl, rfl⟩
  simp (maxSteps := 4000000) only [push_cast, Int.reduceEq, Int.reduceBNe, Int.reduceBEq, Int.reduceAdd, Int.reduceSub, Int.reduceMul, Int.reduceNeg, Int.reduceLT, Int.reduceLE, Int.reduceToNat, Nat.reduceLT, Nat.reduceAdd, Nat.reduceSub, Nat.reduceMul, Nat.reduceEqDiff, Nat.reduceLeDiff, Nat.reduceBEq, reduceIte, reduceCtorEq, St.sv, St.cells]
  refine call_w (num14_c 0) [] (by simp (maxSteps := 4000000) only [push_cast, Int.reduceEq, Int.reduceBNe, Int.reduceBEq, Int.reduceAdd, Int.reduceSub, Int.reduceMul, Int.reduceNeg, Int.reduceLT, Int.reduceLE, Int.reduceToNat, Nat.reduceLT, Nat.reduceAdd, Nat.reduceSub, Nat.reduceMul, Nat.reduceEqDiff, Nat.reduceLeDiff, Nat.reduceBEq, reduceIte, reduceCtorEq]) ?_
  rintro sv post ⟨rfl, rfl⟩
  simp (maxSteps := 4000000) only [push_cast, Int.reduceEq, Int.reduceBNe, Int.reduceBEq, Int.reduceAdd, Int.reduceSub, Int.reduceMul, Int.reduceNeg, Int.reduceLT, Int.reduceLE, Int.reduceToNat, Nat.reduceLT, Nat.reduceAdd, Nat.reduceSub, Nat.reduceMul, Nat.reduceEqDiff, Nat.reduceLeDiff, Nat.reduceBEq, reduceIte, reduceCtorEq]
  refine call_w (num14_c (mayV m s)) [] (by simp (maxSteps := 4000000) only [push_cast, Int.reduceEq, Int.reduceBNe, Int.reduceBEq, Int.reduceAdd, Int.reduceSub, Int.reduceMul, Int.reduceNeg, Int.reduceLT, Int.reduceLE, Int.reduceToNat, Nat.reduceLT, Nat.reduceAdd, Nat.reduceSub, Nat.reduceMul, Nat.reduceEqDiff, Nat.reduceLeDiff, Nat.reduceBEq, reduceIte, reduceCtorEq]) ?_
  rintro sv post ⟨rfl, rfl⟩
  by_cases hm : mayV m s = 0
  case neg =>
    simp (maxSteps := 4000000) only [push_cast, Int.reduceEq, Int.reduceBNe, Int.reduceBEq, Int.reduceAdd, Int.reduceSub, Int.reduceMul, Int.reduceNeg, Int.reduceLT, Int.reduceLE, Int.reduceToNat, Nat.reduceLT, Nat.reduceAdd, Nat.reduceSub, Nat.reduceMul, Nat.reduceEqDiff, Nat.reduceLeDiff, Nat.reduceBEq, reduceIte, reduceCtorEq, hm]
    exact Fin.nil rfl (psv := .b true) (by simp (maxSteps := 4000000) only [push_cast, Int.reduceEq, Int.reduceBNe, Int.reduceBEq, Int.reduceAdd, Int.reduceSub, Int.reduceMul, Int.reduceNeg, Int.reduceLT, Int.reduceLE, Int.reduceToNat, Nat.reduceLT, Nat.reduceAdd, Nat.reduceSub, Nat.reduceMul, Nat.reduceEqDiff, Nat.reduceLeDiff, Nat.reduceBEq, reduceIte, reduceCtorEq]) ⟨rfl, rfl⟩
  have e1 := newSt_ok true false hm
  rw [hm]
  simp (maxSteps := 4000000) only [push_cast, Int.reduceEq, Int.reduceBNe, Int.reduceBEq, Int.reduceAdd, Int.reduceSub, Int.reduceMul, Int.reduceNeg, Int.reduceLT, Int.reduceLE, Int.reduceToNat, Nat.reduceLT, Nat.reduceAdd, Nat.reduceSub, Nat.reduceMul, Nat.reduceEqDiff, Nat.reduceLeDiff, Nat.reduceBEq, reduceIte, reduceCtorEq]
  obtain ⟨d1, d2, d3⟩ := mod40_rng gets
  rw [d3, show (gets.tmod 40 + 40).tmod 40 = mod40 gets from rfl]
  refine loop_ok (ι := {q : Nat × St × (List Int × Int) // (q.1 : Int) ≤ mod40 gets ∧ PL q.2.1 q.2.2 text (min q.1 text.length)})
    (fun q => ⟨[.ints .u8 .old text, .i .i64 m, .i .i64 s, .i .i64 (mod40 gets), .i .i64 off, .i .i64 w, .any, .any, .any, .any, .any, .any, .any, .raw (.pointer (some ⟨b, 0, none⟩)), .any, .ptr 0 0, .any, .i .i64 q.1.1] ++ List.replicate 135 .any, [(0, 26, q.1.2.1.cells .old .old .old)], [], [(1, growR b q.1.2.2.1 q.1.2.2.2)], 2, 0, []⟩)
    (fun q => (mod40 gets).toNat - q.1.1) ⟨(0, newSt true false m s, (text, 0)), d1, by rw [Nat.zero_min]; exact new_pl text false hm⟩ ?_ ?_
  · refine Sub.w [3, 2] ?_
    skip
    simp (maxSteps := 4000000) only [push_cast, Int.reduceEq, Int.reduceBNe, Int.reduceBEq, Int.reduceAdd, Int.reduceSub, Int.reduceMul, Int.reduceNeg, Int.reduceLT, Int.reduceLE, Int.reduceToNat, Nat.reduceLT, Nat.reduceAdd, Nat.reduceSub, Nat.reduceMul, Nat.reduceEqDiff, Nat.reduceLeDiff, Nat.reduceBEq, reduceIte, reduceCtorEq, e1, St.cells, hr]
  · rintro ⟨⟨i, x, g⟩, hi, hx⟩
    simp only at hi hx
    have hok := hx.ok (b := b) hlen
    refine evCode_sound Γok _ _ _ ?_
    simp (maxSteps := 4000000) only [push_cast, Int.reduceEq, Int.reduceBNe, Int.reduceBEq, Int.reduceAdd, Int.reduceSub, Int.reduceMul, Int.reduceNeg, Int.reduceLT, Int.reduceLE, Int.reduceToNat, Nat.reduceLT, Nat.reduceAdd, Nat.reduceSub, Nat.reduceMul, Nat.reduceEqDiff, Nat.reduceLeDiff, Nat.reduceBEq, reduceIte, reduceCtorEq, St.cells, rg11]
    refine ⟨fun h1 => ?_, fun h1 => ?_⟩
    · obtain ⟨x', g', c, e, q1, q2, q3, q4, q5⟩ := pl_get b hx hlen
      refine call_w (GetR_c (growM b) (growM_rd b) x g hok hx.fits) [1] (by simp (maxSteps := 4000000) only [push_cast, Int.reduceEq, Int.reduceBNe, Int.reduceBEq, Int.reduceAdd, Int.reduceSub, Int.reduceMul, Int.reduceNeg, Int.reduceLT, Int.reduceLE, Int.reduceToNat, Nat.reduceLT, Nat.reduceAdd, Nat.reduceSub, Nat.reduceMul, Nat.reduceEqDiff, Nat.reduceLeDiff, Nat.reduceBEq, reduceIte, reduceCtorEq, hv, hr, St.sv, St.cells]) ?_
      rintro sv post ⟨rfl, rfl⟩
      rw [q1]
      simp (maxSteps := 4000000) only [push_cast, Int.reduceEq, Int.reduceBNe, Int.reduceBEq, Int.reduceAdd, Int.reduceSub, Int.reduceMul, Int.reduceNeg, Int.reduceLT, Int.reduceLE, Int.reduceToNat, Nat.reduceLT, Nat.reduceAdd, Nat.reduceSub, Nat.reduceMul, Nat.reduceEqDiff, Nat.reduceLeDiff, Nat.reduceBEq, reduceIte, reduceCtorEq, hr, St.sv, St.cells, rg11]
      refine ⟨⟨(i + 1, x', g'), by simp only; omega, ?_⟩, by simp only; omega, Sub.w [0, 1] ?_⟩
      · simp only
        rcases Nat.lt_or_ge i text.length with h | h
        · rw [Nat.min_eq_left (by omega)] at q4 ⊢
          exact (q4 h).2.2
        · rw [Nat.min_eq_right (by omega)] at q5 ⊢
          exact (q5 (Nat.le_refl _)).2
      · simp (maxSteps := 4000000) only [push_cast, Int.reduceEq, Int.reduceBNe, Int.reduceBEq, Int.reduceAdd, Int.reduceSub, Int.reduceMul, Int.reduceNeg, Int.reduceLT, Int.reduceLE, Int.reduceToNat, Nat.reduceLT, Nat.reduceAdd, Nat.reduceSub, Nat.reduceMul, Nat.reduceEqDiff, Nat.reduceLeDiff, Nat.reduceBEq, reduceIte, reduceCtorEq, St.cells, hr]
        exact ⟨(wrap64 (n := (i : Int) + 1) (by omega) (by omega)).symm, rfl⟩
    · have hie : (i : Int) = mod40 gets := by omega
      have hp : ((min i text.length : Nat) : Int) = minI (mod40 gets) text.length := by unfold minI; split <;> omega
      generalize min i text.length = p at hx hp
      have hor : x.o.length ≤ (growM b).rm g := by rw [hx.o]; exact Nat.zero_le _
      refine call_w (Seek_c (growM b) (growM_wr b) (growM_sk b) x hx.fits (by rw [hx.o]; simp) g hok hor off w) [1] (by simp (maxSteps := 4000000) only [push_cast, Int.reduceEq, Int.reduceBNe, Int.reduceBEq, Int.reduceAdd, Int.reduceSub, Int.reduceMul, Int.reduceNeg, Int.reduceLT, Int.reduceLE, Int.reduceToNat, Nat.reduceLT, Nat.reduceAdd, Nat.reduceSub, Nat.reduceMul, Nat.reduceEqDiff, Nat.reduceLeDiff, Nat.reduceBEq, reduceIte, reduceCtorEq, hv, hr, St.sv, St.cells]) ?_
      rintro sv post ⟨rfl, rfl⟩
      rcases pl_seek b hx hlen off w with ⟨e, he, hs⟩ | ⟨x', at_, a0, a1, hs, hx', hm', hs'⟩
      · rw [hs]
        simp (maxSteps := 4000000) only [push_cast, Int.reduceEq, Int.reduceBNe, Int.reduceBEq, Int.reduceAdd, Int.reduceSub, Int.reduceMul, Int.reduceNeg, Int.reduceLT, Int.reduceLE, Int.reduceToNat, Nat.reduceLT, Nat.reduceAdd, Nat.reduceSub, Nat.reduceMul, Nat.reduceEqDiff, Nat.reduceLeDiff, Nat.reduceBEq, reduceIte, reduceCtorEq, hr, St.sv, St.cells, rg11]
        refine call_w (num14_c e) [] (by simp (maxSteps := 4000000) only [push_cast, Int.reduceEq, Int.reduceBNe, Int.reduceBEq, Int.reduceAdd, Int.reduceSub, Int.reduceMul, Int.reduceNeg, Int.reduceLT, Int.reduceLE, Int.reduceToNat, Nat.reduceLT, Nat.reduceAdd, Nat.reduceSub, Nat.reduceMul, Nat.reduceEqDiff, Nat.reduceLeDiff, Nat.reduceBEq, reduceIte, reduceCtorEq]) ?_
        rintro sv post ⟨rfl, rfl⟩
        simp (maxSteps := 4000000) only [push_cast, Int.reduceEq, Int.reduceBNe, Int.reduceBEq, Int.reduceAdd, Int.reduceSub, Int.reduceMul, Int.reduceNeg, Int.reduceLT, Int.reduceLE, Int.reduceToNat, Nat.reduceLT, Nat.reduceAdd, Nat.reduceSub, Nat.reduceMul, Nat.reduceEqDiff, Nat.reduceLeDiff, Nat.reduceBEq, reduceIte, reduceCtorEq, he, rg11]
        refine call_w (Tell_c (growM b) (growM_wr b) (growM_sk b) x hx.fits (by rw [hx.o]; simp) g hok hor) [1] (by simp (maxSteps := 4000000) only [push_cast, Int.reduceEq, Int.reduceBNe, Int.reduceBEq, Int.reduceAdd, Int.reduceSub, Int.reduceMul, Int.reduceNeg, Int.reduceLT, Int.reduceLE, Int.reduceToNat, Nat.reduceLT, Nat.reduceAdd, Nat.reduceSub, Nat.reduceMul, Nat.reduceEqDiff, Nat.reduceLeDiff, Nat.reduceBEq, reduceIte, reduceCtorEq, hv, hr, St.sv, St.cells]) ?_
        rintro sv post ⟨rfl, rfl⟩
        rw [pl_tell b hx hlen]
        simp (maxSteps := 4000000) only [push_cast, Int.reduceEq, Int.reduceBNe, Int.reduceBEq, Int.reduceAdd, Int.reduceSub, Int.reduceMul, Int.reduceNeg, Int.reduceLT, Int.reduceLE, Int.reduceToNat, Nat.reduceLT, Nat.reduceAdd, Nat.reduceSub, Nat.reduceMul, Nat.reduceEqDiff, Nat.reduceLeDiff, Nat.reduceBEq, reduceIte, reduceCtorEq, hr, St.sv, St.cells, rg11]
        refine call_w (num14_c 0) [] (by simp (maxSteps := 4000000) only [push_cast, Int.reduceEq, Int.reduceBNe, Int.reduceBEq, Int.reduceAdd, Int.reduceSub, Int.reduceMul, Int.reduceNeg, Int.reduceLT, Int.reduceLE, Int.reduceToNat, Nat.reduceLT, Nat.reduceAdd, Nat.reduceSub, Nat.reduceMul, Nat.reduceEqDiff, Nat.reduceLeDiff, Nat.reduceBEq, reduceIte, reduceCtorEq]) ?_
        rintro sv post ⟨rfl, rfl⟩
        rw [hp]
        simp (maxSteps := 4000000) only [push_cast, Int.reduceEq, Int.reduceBNe, Int.reduceBEq, Int.reduceAdd, Int.reduceSub, Int.reduceMul, Int.reduceNeg, Int.reduceLT, Int.reduceLE, Int.reduceToNat, Nat.reduceLT, Nat.reduceAdd, Nat.reduceSub, Nat.reduceMul, Nat.reduceEqDiff, Nat.reduceLeDiff, Nat.reduceBEq, reduceIte, reduceCtorEq]
        exact Fin.nil rfl (psv := .b true) (by simp (maxSteps := 4000000) only [push_cast, Int.reduceEq, Int.reduceBNe, Int.reduceBEq, Int.reduceAdd, Int.reduceSub, Int.reduceMul, Int.reduceNeg, Int.reduceLT, Int.reduceLE, Int.reduceToNat, Nat.reduceLT, Nat.reduceAdd, Nat.reduceSub, Nat.reduceMul, Nat.reduceEqDiff, Nat.reduceLeDiff, Nat.reduceBEq, reduceIte, reduceCtorEq]) ⟨rfl, rfl⟩
      · rw [hs]
        simp (maxSteps := 4000000) only [push_cast, Int.reduceEq, Int.reduceBNe, Int.reduceBEq, Int.reduceAdd, Int.reduceSub, Int.reduceMul, Int.reduceNeg, Int.reduceLT, Int.reduceLE, Int.reduceToNat, Nat.reduceLT, Nat.reduceAdd, Nat.reduceSub, Nat.reduceMul, Nat.reduceEqDiff, Nat.reduceLeDiff, Nat.reduceBEq, reduceIte, reduceCtorEq, hr, St.sv, St.cells, rg11]
        refine call_w (num14_c 0) [] (by simp (maxSteps := 4000000) only [push_cast, Int.reduceEq, Int.reduceBNe, Int.reduceBEq, Int.reduceAdd, Int.reduceSub, Int.reduceMul, Int.reduceNeg, Int.reduceLT, Int.reduceLE, Int.reduceToNat, Nat.reduceLT, Nat.reduceAdd, Nat.reduceSub, Nat.reduceMul, Nat.reduceEqDiff, Nat.reduceLeDiff, Nat.reduceBEq, reduceIte, reduceCtorEq]) ?_
        rintro sv post ⟨rfl, rfl⟩
        simp (maxSteps := 4000000) only [push_cast, Int.reduceEq, Int.reduceBNe, Int.reduceBEq, Int.reduceAdd, Int.reduceSub, Int.reduceMul, Int.reduceNeg, Int.reduceLT, Int.reduceLE, Int.reduceToNat, Nat.reduceLT, Nat.reduceAdd, Nat.reduceSub, Nat.reduceMul, Nat.reduceEqDiff, Nat.reduceLeDiff, Nat.reduceBEq, reduceIte, reduceCtorEq, rg11]
        have hok' := hx'.ok (b := b) hlen
        have hor' : x'.o.length ≤ (growM b).rm (text, at_) := by rw [hx'.o]; exact Nat.zero_le _
        refine call_w (Tell_c (growM b) (growM_wr b) (growM_sk b) x' hx'.fits (by rw [hx'.o]; simp) (text, at_) hok' hor') [1] (by simp (maxSteps := 4000000) only [push_cast, Int.reduceEq, Int.reduceBNe, Int.reduceBEq, Int.reduceAdd, Int.reduceSub, Int.reduceMul, Int.reduceNeg, Int.reduceLT, Int.reduceLE, Int.reduceToNat, Nat.reduceLT, Nat.reduceAdd, Nat.reduceSub, Nat.reduceMul, Nat.reduceEqDiff, Nat.reduceLeDiff, Nat.reduceBEq, reduceIte, reduceCtorEq, hv, hr, St.sv, St.cells]) ?_
        rintro sv post ⟨rfl, rfl⟩
        rw [pl_tell b hx' hlen, Int.toNat_of_nonneg a0]
        simp (maxSteps := 4000000) only [push_cast, Int.reduceEq, Int.reduceBNe, Int.reduceBEq, Int.reduceAdd, Int.reduceSub, Int.reduceMul, Int.reduceNeg, Int.reduceLT, Int.reduceLE, Int.reduceToNat, Nat.reduceLT, Nat.reduceAdd, Nat.reduceSub, Nat.reduceMul, Nat.reduceEqDiff, Nat.reduceLeDiff, Nat.reduceBEq, reduceIte, reduceCtorEq, hr, St.sv, St.cells, rg11]
        refine call_w (num14_c 0) [] (by simp (maxSteps := 4000000) only [push_cast, Int.reduceEq, Int.reduceBNe, Int.reduceBEq, Int.reduceAdd, Int.reduceSub, Int.reduceMul, Int.reduceNeg, Int.reduceLT, Int.reduceLE, Int.reduceToNat, Nat.reduceLT, Nat.reduceAdd, Nat.reduceSub, Nat.reduceMul, Nat.reduceEqDiff, Nat.reduceLeDiff, Nat.reduceBEq, reduceIte, reduceCtorEq]) ?_
        rintro sv post ⟨rfl, rfl⟩
        simp (maxSteps := 4000000) only [push_cast, Int.reduceEq, Int.reduceBNe, Int.reduceBEq, Int.reduceAdd, Int.reduceSub, Int.reduceMul, Int.reduceNeg, Int.reduceLT, Int.reduceLE, Int.reduceToNat, Nat.reduceLT, Nat.reduceAdd, Nat.reduceSub, Nat.reduceMul, Nat.reduceEqDiff, Nat.reduceLeDiff, Nat.reduceBEq, reduceIte, reduceCtorEq, rg11]
        refine ⟨fun h => absurd h (by omega), fun _ => ?_⟩
        obtain ⟨x2, g2, c, e, q1, q2, q3, q4, q5⟩ := pl_get b hx' hlen
        refine call_w (GetR_c (growM b) (growM_rd b) x' (text, at_) hok' hx'.fits) [1] (by simp (maxSteps := 4000000) only [push_cast, Int.reduceEq, Int.reduceBNe, Int.reduceBEq, Int.reduceAdd, Int.reduceSub, Int.reduceMul, Int.reduceNeg, Int.reduceLT, Int.reduceLE, Int.reduceToNat, Nat.reduceLT, Nat.reduceAdd, Nat.reduceSub, Nat.reduceMul, Nat.reduceEqDiff, Nat.reduceLeDiff, Nat.reduceBEq, reduceIte, reduceCtorEq, hv, hr, St.sv, St.cells]) ?_
        rintro sv post ⟨rfl, rfl⟩
        rw [q1]
        simp (maxSteps := 4000000) only [push_cast, Int.reduceEq, Int.reduceBNe, Int.reduceBEq, Int.reduceAdd, Int.reduceSub, Int.reduceMul, Int.reduceNeg, Int.reduceLT, Int.reduceLE, Int.reduceToNat, Nat.reduceLT, Nat.reduceAdd, Nat.reduceSub, Nat.reduceMul, Nat.reduceEqDiff, Nat.reduceLeDiff, Nat.reduceBEq, reduceIte, reduceCtorEq, hr, St.sv, St.cells, rg11]
        refine ⟨fun h => ?_, fun h => ?_⟩
        · obtain ⟨rfl, -⟩ := q5 (by omega)
          refine call_w (num14_c 111) [] (by simp (maxSteps := 4000000) only [push_cast, Int.reduceEq, Int.reduceBNe, Int.reduceBEq, Int.reduceAdd, Int.reduceSub, Int.reduceMul, Int.reduceNeg, Int.reduceLT, Int.reduceLE, Int.reduceToNat, Nat.reduceLT, Nat.reduceAdd, Nat.reduceSub, Nat.reduceMul, Nat.reduceEqDiff, Nat.reduceLeDiff, Nat.reduceBEq, reduceIte, reduceCtorEq]) ?_
          rintro sv post ⟨rfl, rfl⟩
          simp (maxSteps := 4000000) only [push_cast, Int.reduceEq, Int.reduceBNe, Int.reduceBEq, Int.reduceAdd, Int.reduceSub, Int.reduceMul, Int.reduceNeg, Int.reduceLT, Int.reduceLE, Int.reduceToNat, Nat.reduceLT, Nat.reduceAdd, Nat.reduceSub, Nat.reduceMul, Nat.reduceEqDiff, Nat.reduceLeDiff, Nat.reduceBEq, reduceIte, reduceCtorEq]
          exact Fin.nil rfl (psv := .b true) (by simp (maxSteps := 4000000) only [push_cast, Int.reduceEq, Int.reduceBNe, Int.reduceBEq, Int.reduceAdd, Int.reduceSub, Int.reduceMul, Int.reduceNeg, Int.reduceLT, Int.reduceLE, Int.reduceToNat, Nat.reduceLT, Nat.reduceAdd, Nat.reduceSub, Nat.reduceMul, Nat.reduceEqDiff, Nat.reduceLeDiff, Nat.reduceBEq, reduceIte, reduceCtorEq]) ⟨rfl, rfl⟩
        · obtain ⟨rfl, rfl, -⟩ := q4 (by omega)
          refine call_w (num14_c 0) [] (by simp (maxSteps := 4000000) only [push_cast, Int.reduceEq, Int.reduceBNe, Int.reduceBEq, Int.reduceAdd, Int.reduceSub, Int.reduceMul, Int.reduceNeg, Int.reduceLT, Int.reduceLE, Int.reduceToNat, Nat.reduceLT, Nat.reduceAdd, Nat.reduceSub, Nat.reduceMul, Nat.reduceEqDiff, Nat.reduceLeDiff, Nat.reduceBEq, reduceIte, reduceCtorEq]) ?_
          rintro sv post ⟨rfl, rfl⟩
          simp (maxSteps := 4000000) only [push_cast, Int.reduceEq, Int.reduceBNe, Int.reduceBEq, Int.reduceAdd, Int.reduceSub, Int.reduceMul, Int.reduceNeg, Int.reduceLT, Int.reduceLE, Int.reduceToNat, Nat.reduceLT, Nat.reduceAdd, Nat.reduceSub, Nat.reduceMul, Nat.reduceEqDiff, Nat.reduceLeDiff, Nat.reduceBEq, reduceIte, reduceCtorEq, rg11]
          exact ⟨⟨a0, h⟩, Fin.nil rfl (psv := .b true) (by simp (maxSteps := 4000000) only [push_cast, Int.reduceEq, Int.reduceBNe, Int.reduceBEq, Int.reduceAdd, Int.reduceSub, Int.reduceMul, Int.reduceNeg, Int.reduceLT, Int.reduceLE, Int.reduceToNat, Nat.reduceLT, Nat.reduceAdd, Nat.reduceSub, Nat.reduceMul, Nat.reduceEqDiff, Nat.reduceLeDiff, Nat.reduceBEq, reduceIte, reduceCtorEq]) ⟨rfl, rfl⟩⟩
end Go.Proofs.Ytbhkpefjnomncaa
/- PositionCounts: a place goes up by one with each byte that is got or put. -/
namespace Go.Proofs.Ytbhkpefjnomncaa
open Go Go.Eng
set_option maxHeartbeats 4000000
set_option linter.unusedSimpArgs false
set_option linter.unusedVariables false
set_option maxRecDepth 100000

theorem grow_putV (b : Nat) (g : List Int × Int) (l : List Int) (h0 : 0 ≤ g.2) (h1 : g.2 + l.length ≤ 1048576) : putV (growM b) g l = ((if l = [] then g else (wrote g.1 g.2.toNat l, g.2 + l.length)), [], 0) := by
  unfold putV
  obtain ⟨F, hF⟩ : ∃ F, 8193 * (l.length + 1) = F + 1 + 1 := ⟨8193 * l.length + 8191, by omega⟩
  rw [hF]
  simp only [RawM.putGo]
  by_cases h : l = []
  · rw [if_pos h, if_pos h]
    rfl
  · have hp := List.length_pos_iff.2 h
    have e : (growM b).wr g l = ((wrote g.1 g.2.toNat l, g.2 + l.length), (l.length : Int), 0) := by
      show gW 1048576 g.1 g.2 l = _
      unfold gW
      rw [if_neg (by omega), List.take_of_length_le (by omega)]
    rw [if_neg h, if_neg h, e]
    dsimp only
    rw [if_neg (by omega), if_neg (by simp), if_neg (by omega), Int.toNat_natCast, List.drop_length, if_pos rfl, if_neg h]; rfl

/-- A stream that writes memory, all of it delivered. -/
structure PW (x : St) (g : List Int × Int) (text puts : List Int) (i : Nat) : Prop where
  may : x.May
  r : x.r = true
  w : x.w = true
  cl : x.cl = false
  d : x.d ≠ 1
  iz : x.i = []
  kz : x.k = []
  o : x.o = []
  g1 : g.1 = puts.take i ++ text.drop i
  g2 : g.2 = i

theorem PW.bErr {x : St} {g : List Int × Int} {text puts : List Int} {i : Nat} (h : PW x g text puts i) : x.bErr = 0 := by
  unfold St.bErr; rw [if_pos h.may, if_neg (by simp [h.cl])]
theorem PW.fits {x : St} {g : List Int × Int} {text puts : List Int} {i : Nat} (h : PW x g text puts i) : x.fits := by
  obtain ⟨b1, b2, b3, b4⟩ := May.bd h.may
  exact ⟨by omega, by omega, by omega⟩
theorem PW.ok {b : Nat} {x : St} {g : List Int × Int} {text puts : List Int} {i : Nat} (h : PW x g text puts i) (h1 : text.length ≤ 1048576) (h2 : puts.length ≤ 200) (hi : i ≤ puts.length) : (growM b).ok g := by
  refine ⟨by rw [h.g2]; omega, by rw [h.g2]; omega, ?_⟩
  rw [h.g1, List.length_append, List.length_take, List.length_drop]
  omega

theorem new_pw (text puts : List Int) {m s : Int} (h : mayV m s = 0) : PW (newSt true true m s) (text, 0) text puts 0 := by
  have e := newSt_ok true true h
  exact ⟨newSt_may true true h, by rw [e], by rw [e], by rw [e], by rw [e]; simp, by rw [e], by rw [e], by rw [e], by simp, rfl⟩

theorem wrote_one (text puts : List Int) (i : Nat) (hi : i < puts.length) : wrote (puts.take i ++ text.drop i) i [puts.getD i 0] = puts.take (i + 1) ++ text.drop (i + 1) := by
  unfold wrote
  have h1 : (puts.take i).length = i := by simp; omega
  have h2 : (puts.take i ++ text.drop i ++ List.replicate (i + [puts.getD i 0].length - (puts.take i ++ text.drop i).length) 0).take i = puts.take i := by
    rw [List.append_assoc, List.take_append_of_le_length (by omega), List.take_of_length_le (by omega)]
  have h3 : (puts.take i ++ text.drop i).drop (i + [puts.getD i 0].length) = text.drop (i + 1) := by
    rw [List.drop_append, List.drop_of_length_le (by simp; omega), List.nil_append, List.drop_drop]
    congr 1
    simp; omega
  rw [h2, h3, List.take_succ_eq_append_getElem hi]
  simp [List.getD, hi]

theorem idle_settled (b : Nat) (x : St) (g : List Int × Int) (hb : x.bErr = 0) (ho : x.o = []) : x.settled (growM b) g false = (x, g, 0) := by
  unfold St.settled
  rw [if_neg (by rw [hb]; simp), if_neg (by simp), if_pos (by rw [ho]; rfl)]
  rfl
theorem idle_tell (b : Nat) (x : St) (D : List Int) (q : Int) (hb : x.bErr = 0) (ho : x.o = []) (hi : x.i = []) (hk : x.k = []) (q0 : 0 ≤ q) (q1 : q ≤ 1048576) : x.Tell (growM b) (D, q) = (x, (D, q), q, 0) := by
  have e1 := idle_settled b x (D, q) hb ho
  have e : (growM b).sk (D, q) 0 1 = ((D, q), q, 0) := gK_here D q q0 q1
  have e2 : x.here (growM b) (D, q) = ((D, q), q, 0) := by
    unfold St.here
    rw [e]
    dsimp only
    rw [if_neg (by simp), hi, hk]
    simp only [List.length_nil, Int.natCast_zero, Int.sub_zero]
    have hw : IntKind.i64.wrap q = q := wrap64 (by omega) (by omega)
    rw [hw, hw]
    try rfl
  have hp0 : ¬ (q < 0) := by omega
  unfold St.Tell
  rw [e1]
  dsimp only
  rw [e2]
  dsimp only
  simp [hp0]
  try rfl

/-- A byte is put; where it is. -/
theorem pw_step (b : Nat) {x : St} {g : List Int × Int} {text puts : List Int} {i : Nat} (h : PW x g text puts i) (hi : i < puts.length) (h2 : puts.length ≤ 200) :
    ∃ x' g' x2 g2, x.Put (growM b) g (puts.getD i 0) = (x', g', 0) ∧ x'.fits ∧ x'.o.length ≤ 1 ∧ (g' = g ∨ g' = g2) ∧ x'.Tell (growM b) g' = (x2, g2, ((i + 1 : Nat) : Int), 0) ∧ PW x2 g2 text puts (i + 1) := by
  have hb := h.bErr
  obtain ⟨r, w, m, s, o, iv, k, d, en, bad, cl⟩ := x
  obtain ⟨h1, hr, hw, hcl, hd, h5, h6, ho, hg1, hg2⟩ := h
  simp only at hr hw hcl hd h5 h6 ho
  subst hr hw hcl h5 h6 ho
  obtain ⟨D, q⟩ := g
  simp only at hg1 hg2
  subst hg1 hg2
  obtain ⟨m1, m2, m3, m4, m5, m6, m7⟩ := h1
  simp only at m1
  obtain ⟨a1, a2, a3, a4⟩ := may_zero' m1
  have hwe : St.wErr ⟨true, true, m, s, [], [], [], d, en, bad, false⟩ = 0 := by simp [St.wErr, hd]
  have hnote : ∀ (y : St), y.noted 0 = y := fun y => by simp [St.noted]
  have mk : ∀ o' : List Int, (o'.length : Int) ≤ s → (¬ m = 1 ∨ o'.length = 0) → St.May ⟨true, true, m, s, o', [], [], 2, en, bad, false⟩ := fun o' q1 q2 => ⟨m1, q1, q2, by simp, by simp, .inl rfl, .inr (.inr ⟨rfl, rfl, rfl, rfl⟩)⟩
  have hD : wrote (puts.take i ++ text.drop i) (i : Int).toNat [puts.getD i 0] = puts.take (i + 1) ++ text.drop (i + 1) := by
    rw [Int.toNat_natCast]; exact wrote_one text puts i hi
  have hput : putV (growM b) (puts.take i ++ text.drop i, (i : Int)) [puts.getD i 0] = ((puts.take (i + 1) ++ text.drop (i + 1), ((i + 1 : Nat) : Int)), [], 0) := by
    rw [grow_putV b _ _ (by simp) (by simp; omega), if_neg (by simp)]
    dsimp only
    rw [hD]
    rfl
  have tell0 : St.Tell (growM b) ⟨true, true, m, s, [], [], [], 2, en, bad, false⟩ ((puts.take (i + 1) ++ text.drop (i + 1), ((i + 1 : Nat) : Int)) : List Int × Int) = (⟨true, true, m, s, [], [], [], 2, en, bad, false⟩, ((puts.take (i + 1) ++ text.drop (i + 1), ((i + 1 : Nat) : Int)) : List Int × Int), ((i + 1 : Nat) : Int), 0) := by
    exact idle_tell b ⟨true, true, m, s, [], [], [], 2, en, bad, false⟩ _ _ (by unfold St.bErr; rw [if_pos (mk [] (by simp; omega) (.inr rfl)), if_neg (by simp)]) rfl rfl rfl (by omega) (by omega)
  have fin : PW ⟨true, true, m, s, [], [], [], 2, en, bad, false⟩ ((puts.take (i + 1) ++ text.drop (i + 1), ((i + 1 : Nat) : Int)) : List Int × Int) text puts (i + 1) :=
    ⟨mk [] (by simp; omega) (.inr rfl), rfl, rfl, rfl, by simp, rfl, rfl, rfl, rfl, rfl⟩
  have fit : ∀ o' : List Int, o'.length ≤ 1 → St.fits ⟨true, true, m, s, o', [], [], 2, en, bad, false⟩ := fun o' ho => ⟨by simp; omega, by simp, by simp⟩
  generalize puts.getD i 0 = c at hput ⊢
  unfold St.Put St.put
  rw [if_neg (by rw [hb]; simp), if_neg (by rw [hwe]; simp)]
  dsimp only
  split
  · rw [hput, hnote]
    exact ⟨_, _, _, _, rfl, fit [] (by simp), by simp, .inr rfl, tell0, fin⟩
  · rename_i hm
    rw [if_neg (by simp; omega), List.nil_append]
    unfold St.put1
    dsimp only
    have hdel : St.deliver (growM b) ⟨true, true, m, s, [c], [], [], 2, en, bad, false⟩ ((puts.take i ++ text.drop i, (i : Int)) : List Int × Int) = (⟨true, true, m, s, [], [], [], 2, en, bad, false⟩, ((puts.take (i + 1) ++ text.drop (i + 1), ((i + 1 : Nat) : Int)) : List Int × Int), 0) := by
      unfold St.deliver
      dsimp only
      rw [hput, hnote]
      try rfl
    split
    · rw [hdel]
      exact ⟨_, _, _, _, rfl, fit [] (by simp), by simp, .inr rfl, tell0, fin⟩
    · rename_i hc
      refine ⟨_, _, _, _, rfl, fit [c] (by simp), by simp, .inl rfl, ?_, fin⟩
      have hb2 : St.bErr ⟨true, true, m, s, [c], [], [], 2, en, bad, false⟩ = 0 := by unfold St.bErr; rw [if_pos (mk [c] (by simp; omega) (.inl hm)), if_neg (by simp)]
      have e1 : St.settled (growM b) ⟨true, true, m, s, [c], [], [], 2, en, bad, false⟩ ((puts.take i ++ text.drop i, (i : Int)) : List Int × Int) false = (⟨true, true, m, s, [], [], [], 2, en, bad, false⟩, ((puts.take (i + 1) ++ text.drop (i + 1), ((i + 1 : Nat) : Int)) : List Int × Int), 0) := by
        unfold St.settled
        rw [if_neg (by rw [hb2]; simp), if_neg (by simp), if_neg (by simp)]
        have hf : St.Flush (growM b) ⟨true, true, m, s, [c], [], [], 2, en, bad, false⟩ ((puts.take i ++ text.drop i, (i : Int)) : List Int × Int) = (⟨true, true, m, s, [], [], [], 0, en, bad, false⟩, ((puts.take (i + 1) ++ text.drop (i + 1), ((i + 1 : Nat) : Int)) : List Int × Int), 0) := by
          unfold St.Flush
          rw [if_neg (by rw [hb2]; simp)]
          dsimp only
          rw [if_pos rfl, hdel]
          exact if_pos rfl
        rw [hf]
        try rfl
      have e1' : St.settled (growM b) ⟨true, true, m, s, [], [], [], 2, en, bad, false⟩ ((puts.take (i + 1) ++ text.drop (i + 1), ((i + 1 : Nat) : Int)) : List Int × Int) false = (⟨true, true, m, s, [], [], [], 2, en, bad, false⟩, ((puts.take (i + 1) ++ text.drop (i + 1), ((i + 1 : Nat) : Int)) : List Int × Int), 0) := by
        exact idle_settled b ⟨true, true, m, s, [], [], [], 2, en, bad, false⟩ _ (by unfold St.bErr; rw [if_pos (mk [] (by simp; omega) (.inr rfl)), if_neg (by simp)]) rfl
      refine Eq.trans ?_ tell0
      unfold St.Tell
      rw [e1, e1']

theorem pw_rewind (b : Nat) {x : St} {g : List Int × Int} {text puts : List Int} {i : Nat} (h : PW x g text puts i) :
    ∃ x', x.Seek (growM b) g 0 0 = (x', (g.1, 0), 0, 0) ∧ PL x' (g.1, 0) g.1 0 := by
  have hb := h.bErr
  have e1 : x.settled (growM b) g (decide ((0 : Int) < 0) || decide ((2 : Int) < 0)) = (x, g, 0) := by
    unfold St.settled
    rw [if_neg (by rw [hb]; simp), if_neg (by simp), if_pos (by rw [h.o]; rfl)]
    try rfl
  have e2 : (growM b).sk g 0 0 = ((g.1, 0), 0, 0) := by
    show gK 1048576 g.1 g.2 0 0 = _
    unfold gK
    simp
  refine ⟨{ x with o := [], i := [], k := [], en := false, d := 0 }, ?_, ?_⟩
  · unfold St.Seek
    rw [e1]
    dsimp only
    rw [if_neg (by simp), if_neg (by omega), e2]
    unfold St.sought
    simp
    try rfl
  · obtain ⟨m1, m2, m3, m4, m5, m6, m7⟩ := h.may
    exact ⟨⟨m1, by have := may_zero' m1; simp; omega, .inr rfl, by simp, by simp, .inl h.cl, .inl ⟨rfl, rfl, rfl, rfl⟩⟩, h.r, h.cl, by simp, rfl, rfl, by simp, rfl, by simp, by simp, by omega⟩
end Go.Proofs.Ytbhkpefjnomncaa
/- PositionCounts: the contract. -/
namespace Go.Proofs.Ytbhkpefjnomncaa
open Go Go.Eng
set_option maxHeartbeats 4000000
set_option linter.unusedSimpArgs false
set_option linter.unusedVariables false
set_option maxRecDepth 100000

theorem positionCounts_c (text : List Int) (m s : Int) (puts : List Int) (gets : Int) : Contract Try.prog 10 nilSS [.ints .u8 .old text, .i .i64 m, .i .i64 s, .ints .u8 .old puts, .i .i64 gets] (fun sv post => sv = .b true ∧ post = nilSS) := by
  have hv : ∀ b, (growM b).v = .ifc 62 (.raw (.pointer (some ⟨b, 0, none⟩))) := fun b => rfl
  have hr : ∀ b (s : List Int × Int), (growM b).res s = growR b s.1 s.2 := fun b s => rfl
  refine contract_ev Γok Try.func10 rfl rfl [10] ?_
  simp (maxSteps := 4000000) only [push_cast, Int.reduceEq, Int.reduceBNe, Int.reduceBEq, Int.reduceAdd, Int.reduceSub, Int.reduceMul, Int.reduceNeg, Int.reduceLT, Int.reduceLE, Int.reduceToNat, Nat.reduceLT, Nat.reduceAdd, Nat.reduceSub, Nat.reduceMul, Nat.reduceEqDiff, Nat.reduceLeDiff, Nat.reduceBEq, reduceIte, reduceCtorEq, Try.f10]
  refine call_w alive14_c [] (by simp (maxSteps := 4000000) only [push_cast, Int.reduceEq, Int.reduceBNe, Int.reduceBEq, Int.reduceAdd, Int.reduceSub, Int.reduceMul, Int.reduceNeg, Int.reduceLT, Int.reduceLE, Int.reduceToNat, Nat.reduceLT, Nat.reduceAdd, Nat.reduceSub, Nat.reduceMul, Nat.reduceEqDiff, Nat.reduceLeDiff, Nat.reduceBEq, reduceIte, reduceCtorEq]) ?_
  rintro sv post ⟨rfl, rfl⟩
  simp (maxSteps := 4000000) only [push_cast, Int.reduceEq, Int.reduceBNe, Int.reduceBEq, Int.reduceAdd, Int.reduceSub, Int.reduceMul, Int.reduceNeg, Int.reduceLT, Int.reduceLE, Int.reduceToNat, Nat.reduceLT, Nat.reduceAdd, Nat.reduceSub, Nat.reduceMul, Nat.reduceEqDiff, Nat.reduceLeDiff, Nat.reduceBEq, reduceIte, reduceCtorEq]
  by_cases hlen : text.length ≤ 1048576
  case neg =>
    refine call_w (newGrowLong_c text (by omega)) [] (by simp (maxSteps := 4000000) only [push_cast, Int.reduceEq, Int.reduceBNe, Int.reduceBEq, Int.reduceAdd, Int.reduceSub, Int.reduceMul, Int.reduceNeg, Int.reduceLT, Int.reduceLE, Int.reduceToNat, Nat.reduceLT, Nat.reduceAdd, Nat.reduceSub, Nat.reduceMul, Nat.reduceEqDiff, Nat.reduceLeDiff, Nat.reduceBEq, reduceIte, reduceCtorEq]) ?_
    rintro sv post ⟨rfl, rfl⟩
    simp (maxSteps := 4000000) only [push_cast, Int.reduceEq, Int.reduceBNe, Int.reduceBEq, Int.reduceAdd, Int.reduceSub, Int.reduceMul, Int.reduceNeg, Int.reduceLT, Int.reduceLE, Int.reduceToNat, Nat.reduceLT, Nat.reduceAdd, Nat.reduceSub, Nat.reduceMul, Nat.reduceEqDiff, Nat.reduceLeDiff, Nat.reduceBEq, reduceIte, reduceCtorEq]
    refine call_w (newS_c _ _ _ _ _ _ _ _ openRW_c m s) [] (by simp (maxSteps := 4000000) only [push_cast, Int.reduceEq, Int.reduceBNe, Int.reduceBEq, Int.reduceAdd, Int.reduceSub, Int.reduceMul, Int.reduceNeg, Int.reduceLT, Int.reduceLE, Int.reduceToNat, Nat.reduceLT, Nat.reduceAdd, Nat.reduceSub, Nat.reduceMul, Nat.reduceEqDiff, Nat.reduceLeDiff, Nat.reduceBEq, reduceIte, reduceCtorEq, modeV]) ?_
    rintro sv post ⟨rfl, rfl⟩
    simp (maxSteps := 4000000) only [push_cast, Int.reduceEq, Int.reduceBNe, Int.reduceBEq, Int.reduceAdd, Int.reduceSub, Int.reduceMul, Int.reduceNeg, Int.reduceLT, Int.reduceLE, Int.reduceToNat, Nat.reduceLT, Nat.reduceAdd, Nat.reduceSub, Nat.reduceMul, Nat.reduceEqDiff, Nat.reduceLeDiff, Nat.reduceBEq, reduceIte, reduceCtorEq, St.sv, St.cells]
    refine call_w (num14_c 5) [] (by simp (maxSteps := 4000000) only [push_cast, Int.reduceEq, Int.reduceBNe, Int.reduceBEq, Int.reduceAdd, Int.reduceSub, Int.reduceMul, Int.reduceNeg, Int.reduceLT, Int.reduceLE, Int.reduceToNat, Nat.reduceLT, Nat.reduceAdd, Nat.reduceSub, Nat.reduceMul, Nat.reduceEqDiff, Nat.reduceLeDiff, Nat.reduceBEq, reduceIte, reduceCtorEq]) ?_
    rintro sv post ⟨rfl, rfl⟩
    simp (maxSteps := 4000000) only [push_cast, Int.reduceEq, Int.reduceBNe, Int.reduceBEq, Int.reduceAdd, Int.reduceSub, Int.reduceMul, Int.reduceNeg, Int.reduceLT, Int.reduceLE, Int.reduceToNat, Nat.reduceLT, Nat.reduceAdd, Nat.reduceSub, Nat.reduceMul, Nat.reduceEqDiff, Nat.reduceLeDiff, Nat.reduceBEq, reduceIte, reduceCtorEq]
    exact Fin.nil rfl (psv := .b true) (by simp (maxSteps := 4000000) only [push_cast, Int.reduceEq, Int.reduceBNe, Int.reduceBEq, Int.reduceAdd, Int.reduceSub, Int.reduceMul, Int.reduceNeg, Int.reduceLT, Int.reduceLE, Int.reduceToNat, Nat.reduceLT, Nat.reduceAdd, Nat.reduceSub, Nat.reduceMul, Nat.reduceEqDiff, Nat.reduceLeDiff, Nat.reduceBEq, reduceIte, reduceCtorEq]) ⟨rfl, rfl⟩
  refine call_w (newGrow_c text hlen) [] (by simp (maxSteps := 4000000) only [push_cast, Int.reduceEq, Int.reduceBNe, Int.reduceBEq, Int.reduceAdd, Int.reduceSub, Int.reduceMul, Int.reduceNeg, Int.reduceLT, Int.reduceLE, Int.reduceToNat, Nat.reduceLT, Nat.reduceAdd, Nat.reduceSub, Nat.reduceMul, Nat.reduceEqDiff, Nat.reduceLeDiff, Nat.reduceBEq, reduceIte, reduceCtorEq]) ?_
  rintro sv post ⟨b, rfl, rfl⟩
  simp (maxSteps := 4000000) only [push_cast, Int.reduceEq, Int.reduceBNe, Int.reduceBEq, Int.reduceAdd, Int.reduceSub, Int.reduceMul, Int.reduceNeg, Int.reduceLT, Int.reduceLE, Int.reduceToNat, Nat.reduceLT, Nat.reduceAdd, Nat.reduceSub, Nat.reduceMul, Nat.reduceEqDiff, Nat.reduceLeDiff, Nat.reduceBEq, reduceIte, reduceCtorEq]
  refine call_w (newS_c _ _ _ _ _ _ _ _ openRW_c m s) [] (by simp (maxSteps := 4000000) only [push_cast, Int.reduceEq, Int.reduceBNe, Int.reduceBEq, Int.reduceAdd, Int.reduceSub, Int.reduceMul, Int.reduceNeg, Int.reduceLT, Int.reduceLE, Int.reduceToNat, Nat.reduceLT, Nat.reduceAdd, Nat.reduceSub, Nat.reduceMul, Nat.reduceEqDiff, Nat.reduceLeDiff, Nat.reduceBEq, reduceIte, reduceCtorEq, modeV]) ?_
  rintro sv post ⟨rfl, rfl⟩
  simp (maxSteps := 4000000) only [push_cast, Int.reduceEq, Int.reduceBNe, Int.reduceBEq, Int.reduceAdd, Int.reduceSub, Int.reduceMul, Int.reduceNeg, Int.reduceLT, Int.reduceLE, Int.reduceToNat, Nat.reduceLT, Nat.reduceAdd, Nat.reduceSub, Nat.reduceMul, Nat.reduceEqDiff, Nat.reduceLeDiff, Nat.reduceBEq, reduceIte, reduceCtorEq, St.sv, St.cells]
  refine call_w (num14_c 0) [] (by simp (maxSteps := 4000000) only [push_cast, Int.reduceEq, Int.reduceBNe, Int.reduceBEq, Int.reduceAdd, Int.reduceSub, Int.reduceMul, Int.reduceNeg, Int.reduceLT, Int.reduceLE, Int.reduceToNat, Nat.reduceLT, Nat.reduceAdd, Nat.reduceSub, Nat.reduceMul, Nat.reduceEqDiff, Nat.reduceLeDiff, Nat.reduceBEq, reduceIte, reduceCtorEq]) ?_
  rintro sv post ⟨rfl, rfl⟩
  simp (maxSteps := 4000000) only [push_cast, Int.reduceEq, Int.reduceBNe, Int.reduceBEq, Int.reduceAdd, Int.reduceSub, Int.reduceMul, Int.reduceNeg, Int.reduceLT, Int.reduceLE, Int.reduceToNat, Nat.reduceLT, Nat.reduceAdd, Nat.reduceSub, Nat.reduceMul, Nat.reduceEqDiff, Nat.reduceLeDiff, Nat.reduceBEq, reduceIte, reduceCtorEq]
  refine call_w (num14_c (mayV m s)) [] (by simp (maxSteps := 4000000) only [push_cast, Int.reduceEq, Int.reduceBNe, Int.reduceBEq, Int.reduceAdd, Int.reduceSub, Int.reduceMul, Int.reduceNeg, Int.reduceLT, Int.reduceLE, Int.reduceToNat, Nat.reduceLT, Nat.reduceAdd, Nat.reduceSub, Nat.reduceMul, Nat.reduceEqDiff, Nat.reduceLeDiff, Nat.reduceBEq, reduceIte, reduceCtorEq]) ?_
  rintro sv post ⟨rfl, rfl⟩
  by_cases hm : mayV m s = 0
  case neg =>
    simp (maxSteps := 4000000) only [push_cast, Int.reduceEq, Int.reduceBNe, Int.reduceBEq, Int.reduceAdd, Int.reduceSub, Int.reduceMul, Int.reduceNeg, Int.reduceLT, Int.reduceLE, Int.reduceToNat, Nat.reduceLT, Nat.reduceAdd, Nat.reduceSub, Nat.reduceMul, Nat.reduceEqDiff, Nat.reduceLeDiff, Nat.reduceBEq, reduceIte, reduceCtorEq, hm]
    exact ⟨Fin.nil rfl (psv := .b true) (by simp (maxSteps := 4000000) only [push_cast, Int.reduceEq, Int.reduceBNe, Int.reduceBEq, Int.reduceAdd, Int.reduceSub, Int.reduceMul, Int.reduceNeg, Int.reduceLT, Int.reduceLE, Int.reduceToNat, Nat.reduceLT, Nat.reduceAdd, Nat.reduceSub, Nat.reduceMul, Nat.reduceEqDiff, Nat.reduceLeDiff, Nat.reduceBEq, reduceIte, reduceCtorEq]) ⟨rfl, rfl⟩, fun h => h.1.elim⟩
  have e1 := newSt_ok true true hm
  rw [hm]
  simp (maxSteps := 4000000) only [push_cast, Int.reduceEq, Int.reduceBNe, Int.reduceBEq, Int.reduceAdd, Int.reduceSub, Int.reduceMul, Int.reduceNeg, Int.reduceLT, Int.reduceLE, Int.reduceToNat, Nat.reduceLT, Nat.reduceAdd, Nat.reduceSub, Nat.reduceMul, Nat.reduceEqDiff, Nat.reduceLeDiff, Nat.reduceBEq, reduceIte, reduceCtorEq]
  refine ⟨fun hp => Fin.nil rfl (psv := .b true) (by simp (maxSteps := 4000000) only [push_cast, Int.reduceEq, Int.reduceBNe, Int.reduceBEq, Int.reduceAdd, Int.reduceSub, Int.reduceMul, Int.reduceNeg, Int.reduceLT, Int.reduceLE, Int.reduceToNat, Nat.reduceLT, Nat.reduceAdd, Nat.reduceSub, Nat.reduceMul, Nat.reduceEqDiff, Nat.reduceLeDiff, Nat.reduceBEq, reduceIte, reduceCtorEq]) ⟨rfl, rfl⟩, fun hp => ?_⟩
  refine loop_ok (ι := {q : Nat × St × (List Int × Int) // q.1 ≤ puts.length ∧ PW q.2.1 q.2.2 text puts q.1})
    (fun q => ⟨[.ints .u8 .old text, .i .i64 m, .i .i64 s, .ints .u8 .old puts, .i .i64 gets, .any, .any, .any, .any, .any, .any, .raw (.pointer (some ⟨b, 0, none⟩)), .any, .ptr 0 0, .any, .i .i64 q.1.1] ++ List.replicate 175 .any, [(0, 26, q.1.2.1.cells .old .old .old)], [], [(1, growR b q.1.2.2.1 q.1.2.2.2)], 2, 0, []⟩)
    (fun q => puts.length - q.1.1) ⟨(0, newSt true true m s, (text, 0)), Nat.zero_le _, new_pw text puts hm⟩ ?_ ?_
  · refine Sub.w [3, 2] ?_
    simp (maxSteps := 4000000) only [push_cast, Int.reduceEq, Int.reduceBNe, Int.reduceBEq, Int.reduceAdd, Int.reduceSub, Int.reduceMul, Int.reduceNeg, Int.reduceLT, Int.reduceLE, Int.reduceToNat, Nat.reduceLT, Nat.reduceAdd, Nat.reduceSub, Nat.reduceMul, Nat.reduceEqDiff, Nat.reduceLeDiff, Nat.reduceBEq, reduceIte, reduceCtorEq, e1, St.cells, hr]
  · rintro ⟨⟨i, x, g⟩, hi, hx⟩
    simp only at hi hx
    have hok := hx.ok (b := b) hlen (by omega) hi
    refine evCode_sound Γok _ _ _ ?_
    simp (maxSteps := 4000000) only [push_cast, Int.reduceEq, Int.reduceBNe, Int.reduceBEq, Int.reduceAdd, Int.reduceSub, Int.reduceMul, Int.reduceNeg, Int.reduceLT, Int.reduceLE, Int.reduceToNat, Nat.reduceLT, Nat.reduceAdd, Nat.reduceSub, Nat.reduceMul, Nat.reduceEqDiff, Nat.reduceLeDiff, Nat.reduceBEq, reduceIte, reduceCtorEq, St.cells, rg11]
    refine ⟨fun h1 => ?_, fun h1 => ?_⟩
    · have hi3 : i < puts.length := by omega
      obtain ⟨x', g', x2, g2, q1, q2, q3, q4, q5, q6⟩ := pw_step b hx hi3 (by omega)
      have hok2 := q6.ok (b := b) hlen (by omega) hi3
      have hok1 : (growM b).ok g' := by rcases q4 with rfl | rfl <;> assumption
      refine (region_plan rfl Γok mixed (.pure 0 (.pure 1 (.pure 2 (.pure 3 (.pure 4 (.pure 5 (.pure 6 (.eff (.cons 7 [] (.pure 8 (.pure 9 (.pure 10 (.eff (.cons 11 [0, 6] (.eff (.cons 12 [] (.pure 13 .done) .nil)) .nil))))) (.cons 11 [0, 6] (.eff (.cons 7 [] (.pure 8 (.pure 9 (.pure 10 (.eff (.cons 12 [] (.pure 13 .done) .nil))))) .nil)) .nil)))))))))) 191 rfl (by kernel_rfl) ?_)
      simp (maxSteps := 4000000) only [push_cast, Int.reduceEq, Int.reduceBNe, Int.reduceBEq, Int.reduceAdd, Int.reduceSub, Int.reduceMul, Int.reduceNeg, Int.reduceLT, Int.reduceLE, Int.reduceToNat, Nat.reduceLT, Nat.reduceAdd, Nat.reduceSub, Nat.reduceMul, Nat.reduceEqDiff, Nat.reduceLeDiff, Nat.reduceBEq, reduceIte, reduceCtorEq, rg11]
      have hor : x.o.length + 1 ≤ (growM b).rm g := by rw [hx.o]; show _ ≤ 1125899906842624; simp
      refine ⟨⟨by omega, by omega⟩, ?_, ?_⟩
      all_goals
        refine call_w (PutR_c (growM b) (growM_wr b) x g hok hx.fits (puts.getD (i : Int).toNat 0) hor) [1] (by simp (maxSteps := 4000000) only [push_cast, Int.reduceEq, Int.reduceBNe, Int.reduceBEq, Int.reduceAdd, Int.reduceSub, Int.reduceMul, Int.reduceNeg, Int.reduceLT, Int.reduceLE, Int.reduceToNat, Nat.reduceLT, Nat.reduceAdd, Nat.reduceSub, Nat.reduceMul, Nat.reduceEqDiff, Nat.reduceLeDiff, Nat.reduceBEq, reduceIte, reduceCtorEq, hv, hr, St.sv, St.cells]) ?_
        rintro sv post ⟨rfl, rfl⟩
        rw [Int.toNat_natCast, q1]
        simp (maxSteps := 4000000) only [push_cast, Int.reduceEq, Int.reduceBNe, Int.reduceBEq, Int.reduceAdd, Int.reduceSub, Int.reduceMul, Int.reduceNeg, Int.reduceLT, Int.reduceLE, Int.reduceToNat, Nat.reduceLT, Nat.reduceAdd, Nat.reduceSub, Nat.reduceMul, Nat.reduceEqDiff, Nat.reduceLeDiff, Nat.reduceBEq, reduceIte, reduceCtorEq, hr, St.sv, St.cells, rg11]
        refine call_w (Tell_c (growM b) (growM_wr b) (growM_sk b) x' q2 (by omega) g' hok1 (by show _ ≤ 1125899906842624; omega)) [1] (by simp (maxSteps := 4000000) only [push_cast, Int.reduceEq, Int.reduceBNe, Int.reduceBEq, Int.reduceAdd, Int.reduceSub, Int.reduceMul, Int.reduceNeg, Int.reduceLT, Int.reduceLE, Int.reduceToNat, Nat.reduceLT, Nat.reduceAdd, Nat.reduceSub, Nat.reduceMul, Nat.reduceEqDiff, Nat.reduceLeDiff, Nat.reduceBEq, reduceIte, reduceCtorEq, hv, hr, St.sv, St.cells]) ?_
        rintro sv post ⟨rfl, rfl⟩
        rw [q5]
        simp (maxSteps := 4000000) only [push_cast, Int.reduceEq, Int.reduceBNe, Int.reduceBEq, Int.reduceAdd, Int.reduceSub, Int.reduceMul, Int.reduceNeg, Int.reduceLT, Int.reduceLE, Int.reduceToNat, Nat.reduceLT, Nat.reduceAdd, Nat.reduceSub, Nat.reduceMul, Nat.reduceEqDiff, Nat.reduceLeDiff, Nat.reduceBEq, reduceIte, reduceCtorEq, hr, St.sv, St.cells, rg11]
        refine call_w (num14_c 0) [] (by simp (maxSteps := 4000000) only [push_cast, Int.reduceEq, Int.reduceBNe, Int.reduceBEq, Int.reduceAdd, Int.reduceSub, Int.reduceMul, Int.reduceNeg, Int.reduceLT, Int.reduceLE, Int.reduceToNat, Nat.reduceLT, Nat.reduceAdd, Nat.reduceSub, Nat.reduceMul, Nat.reduceEqDiff, Nat.reduceLeDiff, Nat.reduceBEq, reduceIte, reduceCtorEq]) ?_
        rintro sv post ⟨rfl, rfl⟩
        simp (maxSteps := 4000000) only [push_cast, Int.reduceEq, Int.reduceBNe, Int.reduceBEq, Int.reduceAdd, Int.reduceSub, Int.reduceMul, Int.reduceNeg, Int.reduceLT, Int.reduceLE, Int.reduceToNat, Nat.reduceLT, Nat.reduceAdd, Nat.reduceSub, Nat.reduceMul, Nat.reduceEqDiff, Nat.reduceLeDiff, Nat.reduceBEq, reduceIte, reduceCtorEq]
        refine call_w (num14_c 0) [] (by simp (maxSteps := 4000000) only [push_cast, Int.reduceEq, Int.reduceBNe, Int.reduceBEq, Int.reduceAdd, Int.reduceSub, Int.reduceMul, Int.reduceNeg, Int.reduceLT, Int.reduceLE, Int.reduceToNat, Nat.reduceLT, Nat.reduceAdd, Nat.reduceSub, Nat.reduceMul, Nat.reduceEqDiff, Nat.reduceLeDiff, Nat.reduceBEq, reduceIte, reduceCtorEq]) ?_
        rintro sv post ⟨rfl, rfl⟩
        simp (maxSteps := 4000000) only [push_cast, Int.reduceEq, Int.reduceBNe, Int.reduceBEq, Int.reduceAdd, Int.reduceSub, Int.reduceMul, Int.reduceNeg, Int.reduceLT, Int.reduceLE, Int.reduceToNat, Nat.reduceLT, Nat.reduceAdd, Nat.reduceSub, Nat.reduceMul, Nat.reduceEqDiff, Nat.reduceLeDiff, Nat.reduceBEq, reduceIte, reduceCtorEq, q6.o, show IntKind.i64.wrap ((i : Int) + 1) = (i : Int) + 1 from wrap64 (by omega) (by omega)]
        refine ⟨⟨(i + 1, x2, g2), hi3, q6⟩, by simp only; omega, Sub.w [0, 1] ?_⟩
        simp (maxSteps := 4000000) only [push_cast, Int.reduceEq, Int.reduceBNe, Int.reduceBEq, Int.reduceAdd, Int.reduceSub, Int.reduceMul, Int.reduceNeg, Int.reduceLT, Int.reduceLE, Int.reduceToNat, Nat.reduceLT, Nat.reduceAdd, Nat.reduceSub, Nat.reduceMul, Nat.reduceEqDiff, Nat.reduceLeDiff, Nat.reduceBEq, reduceIte, reduceCtorEq, St.cells, hr, q6.o]
        rfl
    · have hie : i = puts.length := by omega
      subst hie
      obtain ⟨x', q1, q2⟩ := pw_rewind b hx
      have hor : x.o.length ≤ (growM b).rm g := by rw [hx.o]; exact Nat.zero_le _
      refine call_w (Seek_c (growM b) (growM_wr b) (growM_sk b) x hx.fits (by rw [hx.o]; simp) g hok hor 0 0) [1] (by simp (maxSteps := 4000000) only [push_cast, Int.reduceEq, Int.reduceBNe, Int.reduceBEq, Int.reduceAdd, Int.reduceSub, Int.reduceMul, Int.reduceNeg, Int.reduceLT, Int.reduceLE, Int.reduceToNat, Nat.reduceLT, Nat.reduceAdd, Nat.reduceSub, Nat.reduceMul, Nat.reduceEqDiff, Nat.reduceLeDiff, Nat.reduceBEq, reduceIte, reduceCtorEq, hv, hr, St.sv, St.cells]) ?_
      rintro sv post ⟨rfl, rfl⟩
      rw [q1]
      simp (maxSteps := 4000000) only [push_cast, Int.reduceEq, Int.reduceBNe, Int.reduceBEq, Int.reduceAdd, Int.reduceSub, Int.reduceMul, Int.reduceNeg, Int.reduceLT, Int.reduceLE, Int.reduceToNat, Nat.reduceLT, Nat.reduceAdd, Nat.reduceSub, Nat.reduceMul, Nat.reduceEqDiff, Nat.reduceLeDiff, Nat.reduceBEq, reduceIte, reduceCtorEq, hr, St.sv, St.cells, rg11]
      refine call_w (num14_c 0) [] (by simp (maxSteps := 4000000) only [push_cast, Int.reduceEq, Int.reduceBNe, Int.reduceBEq, Int.reduceAdd, Int.reduceSub, Int.reduceMul, Int.reduceNeg, Int.reduceLT, Int.reduceLE, Int.reduceToNat, Nat.reduceLT, Nat.reduceAdd, Nat.reduceSub, Nat.reduceMul, Nat.reduceEqDiff, Nat.reduceLeDiff, Nat.reduceBEq, reduceIte, reduceCtorEq]) ?_
      rintro sv post ⟨rfl, rfl⟩
      simp (maxSteps := 4000000) only [push_cast, Int.reduceEq, Int.reduceBNe, Int.reduceBEq, Int.reduceAdd, Int.reduceSub, Int.reduceMul, Int.reduceNeg, Int.reduceLT, Int.reduceLE, Int.reduceToNat, Nat.reduceLT, Nat.reduceAdd, Nat.reduceSub, Nat.reduceMul, Nat.reduceEqDiff, Nat.reduceLeDiff, Nat.reduceBEq, reduceIte, reduceCtorEq]
      have hg1 := hx.g1
      have hlg : g.1.length = max text.length puts.length := by rw [hg1]; simp; omega
      have htk : g.1.take puts.length = puts := by rw [hg1]; simp
      have hlg2 : g.1.length ≤ 1048576 := by omega
      generalize g.1 = D at hlg htk hlg2 q2
      refine call_w (growBytes_c b D 0 hlg2) [1] (by simp (maxSteps := 4000000) only [push_cast, Int.reduceEq, Int.reduceBNe, Int.reduceBEq, Int.reduceAdd, Int.reduceSub, Int.reduceMul, Int.reduceNeg, Int.reduceLT, Int.reduceLE, Int.reduceToNat, Nat.reduceLT, Nat.reduceAdd, Nat.reduceSub, Nat.reduceMul, Nat.reduceEqDiff, Nat.reduceLeDiff, Nat.reduceBEq, reduceIte, reduceCtorEq, hr]) ?_
      rintro sv post ⟨rfl, rfl⟩
      simp (maxSteps := 4000000) only [push_cast, Int.reduceEq, Int.reduceBNe, Int.reduceBEq, Int.reduceAdd, Int.reduceSub, Int.reduceMul, Int.reduceNeg, Int.reduceLT, Int.reduceLE, Int.reduceToNat, Nat.reduceLT, Nat.reduceAdd, Nat.reduceSub, Nat.reduceMul, Nat.reduceEqDiff, Nat.reduceLeDiff, Nat.reduceBEq, reduceIte, reduceCtorEq, hr, St.cells]
      obtain ⟨d1, d2, d3⟩ := mod40_rng gets
      rw [d3, show (gets.tmod 40 + 40).tmod 40 = mod40 gets from rfl]
      refine loop_ok (ι := {q : Nat × St × (List Int × Int) // (q.1 : Int) ≤ mod40 gets ∧ q.1 ≤ D.length ∧ PL q.2.1 q.2.2 D q.1})
        (fun q => ⟨[.ints .u8 .old text, .i .i64 m, .i .i64 s, .ints .u8 .old puts, .i .i64 (mod40 gets), .any, .any, .any, .any, .any, .any, .raw (.pointer (some ⟨b, 0, none⟩)), .any, .ptr 0 0, .any, .any, .any, .any, .any, .any, .any, .any, .any, .ints .u8 .new D, .i .i64 q.1.1] ++ List.replicate 166 .any, [(0, 26, q.1.2.1.cells .old .old .old)], [], [(1, growR b q.1.2.2.1 q.1.2.2.2)], 2, 0, []⟩)
        (fun q => D.length - q.1.1) ⟨(0, x', (D, 0)), d1, Nat.zero_le _, q2⟩ ?_ ?_
      · refine Sub.w [0, 1] ?_
        simp (maxSteps := 4000000) only [push_cast, Int.reduceEq, Int.reduceBNe, Int.reduceBEq, Int.reduceAdd, Int.reduceSub, Int.reduceMul, Int.reduceNeg, Int.reduceLT, Int.reduceLE, Int.reduceToNat, Nat.reduceLT, Nat.reduceAdd, Nat.reduceSub, Nat.reduceMul, Nat.reduceEqDiff, Nat.reduceLeDiff, Nat.reduceBEq, reduceIte, reduceCtorEq, St.cells, hr]
      · rintro ⟨⟨i, y, k⟩, hi1, hi2, hy⟩
        simp only at hi1 hi2 hy
        have hok := hy.ok (b := b) hlg2
        refine evCode_sound Γok _ _ _ ?_
        simp (maxSteps := 4000000) only [push_cast, Int.reduceEq, Int.reduceBNe, Int.reduceBEq, Int.reduceAdd, Int.reduceSub, Int.reduceMul, Int.reduceNeg, Int.reduceLT, Int.reduceLE, Int.reduceToNat, Nat.reduceLT, Nat.reduceAdd, Nat.reduceSub, Nat.reduceMul, Nat.reduceEqDiff, Nat.reduceLeDiff, Nat.reduceBEq, reduceIte, reduceCtorEq, St.cells, rg11]
        refine ⟨fun h => ?_, fun h => ?_⟩
        · obtain ⟨y', k', c, e, r1, -, -, r2, -⟩ := pl_get b hy hlg2
          obtain ⟨rfl, rfl, hy'⟩ := r2 (by omega)
          refine call_w (GetR_c (growM b) (growM_rd b) y k hok hy.fits) [1] (by simp (maxSteps := 4000000) only [push_cast, Int.reduceEq, Int.reduceBNe, Int.reduceBEq, Int.reduceAdd, Int.reduceSub, Int.reduceMul, Int.reduceNeg, Int.reduceLT, Int.reduceLE, Int.reduceToNat, Nat.reduceLT, Nat.reduceAdd, Nat.reduceSub, Nat.reduceMul, Nat.reduceEqDiff, Nat.reduceLeDiff, Nat.reduceBEq, reduceIte, reduceCtorEq, hv, hr, St.sv, St.cells]) ?_
          rintro sv post ⟨rfl, rfl⟩
          rw [r1]
          simp (maxSteps := 4000000) only [push_cast, Int.reduceEq, Int.reduceBNe, Int.reduceBEq, Int.reduceAdd, Int.reduceSub, Int.reduceMul, Int.reduceNeg, Int.reduceLT, Int.reduceLE, Int.reduceToNat, Nat.reduceLT, Nat.reduceAdd, Nat.reduceSub, Nat.reduceMul, Nat.reduceEqDiff, Nat.reduceLeDiff, Nat.reduceBEq, reduceIte, reduceCtorEq, hr, St.sv, St.cells, rg11]
          have hok' := hy'.ok (b := b) hlg2
          refine call_w (Tell_c (growM b) (growM_wr b) (growM_sk b) y' hy'.fits (by rw [hy'.o]; simp) k' hok' (by rw [hy'.o]; exact Nat.zero_le _)) [1] (by simp (maxSteps := 4000000) only [push_cast, Int.reduceEq, Int.reduceBNe, Int.reduceBEq, Int.reduceAdd, Int.reduceSub, Int.reduceMul, Int.reduceNeg, Int.reduceLT, Int.reduceLE, Int.reduceToNat, Nat.reduceLT, Nat.reduceAdd, Nat.reduceSub, Nat.reduceMul, Nat.reduceEqDiff, Nat.reduceLeDiff, Nat.reduceBEq, reduceIte, reduceCtorEq, hv, hr, St.sv, St.cells]) ?_
          rintro sv post ⟨rfl, rfl⟩
          rw [pl_tell b hy' hlg2]
          simp (maxSteps := 4000000) only [push_cast, Int.reduceEq, Int.reduceBNe, Int.reduceBEq, Int.reduceAdd, Int.reduceSub, Int.reduceMul, Int.reduceNeg, Int.reduceLT, Int.reduceLE, Int.reduceToNat, Nat.reduceLT, Nat.reduceAdd, Nat.reduceSub, Nat.reduceMul, Nat.reduceEqDiff, Nat.reduceLeDiff, Nat.reduceBEq, reduceIte, reduceCtorEq, hr, St.sv, St.cells, rg11]
          refine call_w (num14_c 0) [] (by simp (maxSteps := 4000000) only [push_cast, Int.reduceEq, Int.reduceBNe, Int.reduceBEq, Int.reduceAdd, Int.reduceSub, Int.reduceMul, Int.reduceNeg, Int.reduceLT, Int.reduceLE, Int.reduceToNat, Nat.reduceLT, Nat.reduceAdd, Nat.reduceSub, Nat.reduceMul, Nat.reduceEqDiff, Nat.reduceLeDiff, Nat.reduceBEq, reduceIte, reduceCtorEq]) ?_
          rintro sv post ⟨rfl, rfl⟩
          simp (maxSteps := 4000000) only [push_cast, Int.reduceEq, Int.reduceBNe, Int.reduceBEq, Int.reduceAdd, Int.reduceSub, Int.reduceMul, Int.reduceNeg, Int.reduceLT, Int.reduceLE, Int.reduceToNat, Nat.reduceLT, Nat.reduceAdd, Nat.reduceSub, Nat.reduceMul, Nat.reduceEqDiff, Nat.reduceLeDiff, Nat.reduceBEq, reduceIte, reduceCtorEq]
          refine call_w (num14_c 0) [] (by simp (maxSteps := 4000000) only [push_cast, Int.reduceEq, Int.reduceBNe, Int.reduceBEq, Int.reduceAdd, Int.reduceSub, Int.reduceMul, Int.reduceNeg, Int.reduceLT, Int.reduceLE, Int.reduceToNat, Nat.reduceLT, Nat.reduceAdd, Nat.reduceSub, Nat.reduceMul, Nat.reduceEqDiff, Nat.reduceLeDiff, Nat.reduceBEq, reduceIte, reduceCtorEq]) ?_
          rintro sv post ⟨rfl, rfl⟩
          simp (maxSteps := 4000000) only [push_cast, Int.reduceEq, Int.reduceBNe, Int.reduceBEq, Int.reduceAdd, Int.reduceSub, Int.reduceMul, Int.reduceNeg, Int.reduceLT, Int.reduceLE, Int.reduceToNat, Nat.reduceLT, Nat.reduceAdd, Nat.reduceSub, Nat.reduceMul, Nat.reduceEqDiff, Nat.reduceLeDiff, Nat.reduceBEq, reduceIte, reduceCtorEq, show IntKind.i64.wrap ((i : Int) + 1) = (i : Int) + 1 from wrap64 (by omega) (by omega)]
          refine ⟨⟨by omega, by omega⟩, fun hn => absurd rfl hn, fun _ => ⟨⟨(i + 1, y', k'), by simp only; omega, by simp only; omega, hy'⟩, by simp only; omega, Sub.w [0, 1] ?_⟩⟩
          simp (maxSteps := 4000000) only [push_cast, Int.reduceEq, Int.reduceBNe, Int.reduceBEq, Int.reduceAdd, Int.reduceSub, Int.reduceMul, Int.reduceNeg, Int.reduceLT, Int.reduceLE, Int.reduceToNat, Nat.reduceLT, Nat.reduceAdd, Nat.reduceSub, Nat.reduceMul, Nat.reduceEqDiff, Nat.reduceLeDiff, Nat.reduceBEq, reduceIte, reduceCtorEq, St.cells, hr]
          rfl
        · have hmax : (D.length : Int) = maxI text.length puts.length := by unfold maxI; rw [hlg]; split <;> omega
          refine ⟨fun _ => ⟨by omega, by omega⟩, fun _ => ⟨hmax, ?_⟩, fun hn => absurd hmax hn⟩
          rw [Int.toNat_natCast, htk]
          refine call_w (sameBytes_c puts puts) [] (by simp (maxSteps := 4000000) only [push_cast, Int.reduceEq, Int.reduceBNe, Int.reduceBEq, Int.reduceAdd, Int.reduceSub, Int.reduceMul, Int.reduceNeg, Int.reduceLT, Int.reduceLE, Int.reduceToNat, Nat.reduceLT, Nat.reduceAdd, Nat.reduceSub, Nat.reduceMul, Nat.reduceEqDiff, Nat.reduceLeDiff, Nat.reduceBEq, reduceIte, reduceCtorEq]) ?_
          rintro sv post ⟨rfl, rfl⟩
          simp (maxSteps := 4000000) only [push_cast, Int.reduceEq, Int.reduceBNe, Int.reduceBEq, Int.reduceAdd, Int.reduceSub, Int.reduceMul, Int.reduceNeg, Int.reduceLT, Int.reduceLE, Int.reduceToNat, Nat.reduceLT, Nat.reduceAdd, Nat.reduceSub, Nat.reduceMul, Nat.reduceEqDiff, Nat.reduceLeDiff, Nat.reduceBEq, reduceIte, reduceCtorEq]
          exact Fin.nil rfl (psv := .b true) (by simp (maxSteps := 4000000) only [push_cast, Int.reduceEq, Int.reduceBNe, Int.reduceBEq, Int.reduceAdd, Int.reduceSub, Int.reduceMul, Int.reduceNeg, Int.reduceLT, Int.reduceLE, Int.reduceToNat, Nat.reduceLT, Nat.reduceAdd, Nat.reduceSub, Nat.reduceMul, Nat.reduceEqDiff, Nat.reduceLeDiff, Nat.reduceBEq, reduceIte, reduceCtorEq, hmax]) ⟨rfl, rfl⟩
end Go.Proofs.Ytbhkpefjnomncaa
