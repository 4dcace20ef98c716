/- Texts joined, in order: Zn, Yz, Zo. -/
import Derived.Test.YtlgpcngfcglanaaGreatZEmGg
import Derived.Test.YtlgpcngfcglanaaGreatZLaKb
import Derived.Test.YtlgpcngfcglanaaGreatZKcKc
import Derived.Test.YtlgpcngfcglanaaGreatZIxZd
import Derived.Test.YtlgpcngfcglanaaGreatZZeZk
import Derived.Test.YtlgpcngfcglanaaGreatZZgZm
import Derived.ChangeSlices
import Derived.SizedLaws
/- StreamTells: what is got, byte by byte, is what the Raw has, whatever the buffer is, whatever faults there are. -/
namespace Go.Proofs.YtlgpcngfcglanaaGreat
open Go Go.Eng
set_option maxHeartbeats 4000000
set_option linter.unusedSimpArgs false
set_option linter.unusedVariables false
set_option maxRecDepth 100000

theorem kernM_v (b : Nat) (fl : Int) : (kernM b fl).v = .ifc 149 (.raw (hdlV b)) := rfl
theorem streamTells_c (b : List Int) (hb : b.length ≤ 140737488355328) (F : List (Int × Int)) (hF : F.length ≤ 140737488355328) (kind size : Int) : Contract Tryz.prog 3 nilSS [.ints .u8 .old b, .sl 2 .old F.length (faultEl F), .i .i64 kind, .i .i64 size] (fun sv post => sv = .b true ∧ post = nilSS) := by
  refine contract_ev Γok Tryz.func3 rfl rfl [] ?_
  simp (maxSteps := 4000000) only [push_cast, Int.reduceEq, Int.reduceBNe, Int.reduceBEq, Int.reduceAdd, Int.reduceSub, Int.reduceMul, Int.reduceNeg, Int.reduceLT, Int.reduceLE, Int.reduceToNat, Nat.reduceLT, Nat.reduceAdd, Nat.reduceSub, Nat.reduceMul, Nat.reduceEqDiff, Nat.reduceLeDiff, Nat.reduceBEq, reduceIte, reduceCtorEq, Tryz.f3]
  refine call_w alive11_c [] (by simp (maxSteps := 4000000) only [push_cast, Int.reduceEq, Int.reduceBNe, Int.reduceBEq, Int.reduceAdd, Int.reduceSub, Int.reduceMul, Int.reduceNeg, Int.reduceLT, Int.reduceLE, Int.reduceToNat, Nat.reduceLT, Nat.reduceAdd, Nat.reduceSub, Nat.reduceMul, Nat.reduceEqDiff, Nat.reduceLeDiff, Nat.reduceBEq, reduceIte, reduceCtorEq]) ?_
  rintro sv post ⟨rfl, rfl⟩
  simp (maxSteps := 4000000) only [push_cast, Int.reduceEq, Int.reduceBNe, Int.reduceBEq, Int.reduceAdd, Int.reduceSub, Int.reduceMul, Int.reduceNeg, Int.reduceLT, Int.reduceLE, Int.reduceToNat, Nat.reduceLT, Nat.reduceAdd, Nat.reduceSub, Nat.reduceMul, Nat.reduceEqDiff, Nat.reduceLeDiff, Nat.reduceBEq, reduceIte, reduceCtorEq]
  by_cases h0 : chkK b F = 0
  case neg =>
    refine call_w (make4Bad_c b F false hF h0) [] (by simp (maxSteps := 4000000) only [push_cast, Int.reduceEq, Int.reduceBNe, Int.reduceBEq, Int.reduceAdd, Int.reduceSub, Int.reduceMul, Int.reduceNeg, Int.reduceLT, Int.reduceLE, Int.reduceToNat, Nat.reduceLT, Nat.reduceAdd, Nat.reduceSub, Nat.reduceMul, Nat.reduceEqDiff, Nat.reduceLeDiff, Nat.reduceBEq, reduceIte, reduceCtorEq, plant4]; exact fun i _ j _ => W_fault _ F i j) ?_
    rintro sv post ⟨rfl, rfl⟩
    simp (maxSteps := 4000000) only [push_cast, Int.reduceEq, Int.reduceBNe, Int.reduceBEq, Int.reduceAdd, Int.reduceSub, Int.reduceMul, Int.reduceNeg, Int.reduceLT, Int.reduceLE, Int.reduceToNat, Nat.reduceLT, Nat.reduceAdd, Nat.reduceSub, Nat.reduceMul, Nat.reduceEqDiff, Nat.reduceLeDiff, Nat.reduceBEq, reduceIte, reduceCtorEq]
    refine call_w (newS_c _ _ _ _ _ _ _ _ openR_c kind size) [] (by simp (maxSteps := 4000000) only [push_cast, Int.reduceEq, Int.reduceBNe, Int.reduceBEq, Int.reduceAdd, Int.reduceSub, Int.reduceMul, Int.reduceNeg, Int.reduceLT, Int.reduceLE, Int.reduceToNat, Nat.reduceLT, Nat.reduceAdd, Nat.reduceSub, Nat.reduceMul, Nat.reduceEqDiff, Nat.reduceLeDiff, Nat.reduceBEq, reduceIte, reduceCtorEq, modeV]) ?_
    rintro sv post ⟨rfl, rfl⟩
    simp (maxSteps := 4000000) only [push_cast, Int.reduceEq, Int.reduceBNe, Int.reduceBEq, Int.reduceAdd, Int.reduceSub, Int.reduceMul, Int.reduceNeg, Int.reduceLT, Int.reduceLE, Int.reduceToNat, Nat.reduceLT, Nat.reduceAdd, Nat.reduceSub, Nat.reduceMul, Nat.reduceEqDiff, Nat.reduceLeDiff, Nat.reduceBEq, reduceIte, reduceCtorEq, St.sv, St.cells]
    exact Fin.nil rfl (psv := .b true) (by simp (maxSteps := 4000000) only [push_cast, Int.reduceEq, Int.reduceBNe, Int.reduceBEq, Int.reduceAdd, Int.reduceSub, Int.reduceMul, Int.reduceNeg, Int.reduceLT, Int.reduceLE, Int.reduceToNat, Nat.reduceLT, Nat.reduceAdd, Nat.reduceSub, Nat.reduceMul, Nat.reduceEqDiff, Nat.reduceLeDiff, Nat.reduceBEq, reduceIte, reduceCtorEq]) ⟨rfl, rfl⟩
  refine call_w (make4_c b F false h0) [] (by simp (maxSteps := 4000000) only [push_cast, Int.reduceEq, Int.reduceBNe, Int.reduceBEq, Int.reduceAdd, Int.reduceSub, Int.reduceMul, Int.reduceNeg, Int.reduceLT, Int.reduceLE, Int.reduceToNat, Nat.reduceLT, Nat.reduceAdd, Nat.reduceSub, Nat.reduceMul, Nat.reduceEqDiff, Nat.reduceLeDiff, Nat.reduceBEq, reduceIte, reduceCtorEq, plant4]; exact fun i _ j _ => W_fault _ F i j) ?_
  rintro sv post ⟨r, rfl, rfl⟩
  simp (maxSteps := 4000000) only [push_cast, Int.reduceEq, Int.reduceBNe, Int.reduceBEq, Int.reduceAdd, Int.reduceSub, Int.reduceMul, Int.reduceNeg, Int.reduceLT, Int.reduceLE, Int.reduceToNat, Nat.reduceLT, Nat.reduceAdd, Nat.reduceSub, Nat.reduceMul, Nat.reduceEqDiff, Nat.reduceLeDiff, Nat.reduceBEq, reduceIte, reduceCtorEq, made4, kernM_v]
  refine call_w (newS_c _ _ _ _ _ _ _ _ openR_c kind size) [] (by simp (maxSteps := 4000000) only [push_cast, Int.reduceEq, Int.reduceBNe, Int.reduceBEq, Int.reduceAdd, Int.reduceSub, Int.reduceMul, Int.reduceNeg, Int.reduceLT, Int.reduceLE, Int.reduceToNat, Nat.reduceLT, Nat.reduceAdd, Nat.reduceSub, Nat.reduceMul, Nat.reduceEqDiff, Nat.reduceLeDiff, Nat.reduceBEq, reduceIte, reduceCtorEq, modeV]) ?_
  rintro sv post ⟨rfl, rfl⟩
  simp (maxSteps := 4000000) only [push_cast, Int.reduceEq, Int.reduceBNe, Int.reduceBEq, Int.reduceAdd, Int.reduceSub, Int.reduceMul, Int.reduceNeg, Int.reduceLT, Int.reduceLE, Int.reduceToNat, Nat.reduceLT, Nat.reduceAdd, Nat.reduceSub, Nat.reduceMul, Nat.reduceEqDiff, Nat.reduceLeDiff, Nat.reduceBEq, reduceIte, reduceCtorEq, St.sv, St.cells]
  refine call_w (num11_c (mayV kind size)) [] (by simp (maxSteps := 4000000) only [push_cast, Int.reduceEq, Int.reduceBNe, Int.reduceBEq, Int.reduceAdd, Int.reduceSub, Int.reduceMul, Int.reduceNeg, Int.reduceLT, Int.reduceLE, Int.reduceToNat, Nat.reduceLT, Nat.reduceAdd, Nat.reduceSub, Nat.reduceMul, Nat.reduceEqDiff, Nat.reduceLeDiff, Nat.reduceBEq, reduceIte, reduceCtorEq]) ?_
  rintro sv post ⟨rfl, rfl⟩
  simp (maxSteps := 4000000) only [push_cast, Int.reduceEq, Int.reduceBNe, Int.reduceBEq, Int.reduceAdd, Int.reduceSub, Int.reduceMul, Int.reduceNeg, Int.reduceLT, Int.reduceLE, Int.reduceToNat, Nat.reduceLT, Nat.reduceAdd, Nat.reduceSub, Nat.reduceMul, Nat.reduceEqDiff, Nat.reduceLeDiff, Nat.reduceBEq, reduceIte, reduceCtorEq]
  refine ⟨fun h => ?_, fun hm => ?_⟩
  · exact Fin.nil rfl (psv := .b true) (by simp (maxSteps := 4000000) only [push_cast, Int.reduceEq, Int.reduceBNe, Int.reduceBEq, Int.reduceAdd, Int.reduceSub, Int.reduceMul, Int.reduceNeg, Int.reduceLT, Int.reduceLE, Int.reduceToNat, Nat.reduceLT, Nat.reduceAdd, Nat.reduceSub, Nat.reduceMul, Nat.reduceEqDiff, Nat.reduceLeDiff, Nat.reduceBEq, reduceIte, reduceCtorEq]) ⟨rfl, rfl⟩
  have hn := newSt_ok true false hm
  have hok := kok0 h0
  rw [hn]
  simp (maxSteps := 4000000) only [push_cast, Int.reduceEq, Int.reduceBNe, Int.reduceBEq, Int.reduceAdd, Int.reduceSub, Int.reduceMul, Int.reduceNeg, Int.reduceLT, Int.reduceLE, Int.reduceToNat, Nat.reduceLT, Nat.reduceAdd, Nat.reduceSub, Nat.reduceMul, Nat.reduceEqDiff, Nat.reduceLeDiff, Nat.reduceBEq, reduceIte, reduceCtorEq]
  have hR0 : Reads (kernM r (flagsOf false)) kRest ⟨true, false, kind, size, [], [], [], 0, false, false, false⟩ ⟨b, 0, F, 0, 0⟩ := by
    have h := newSt_may true false hm
    rw [hn] at h
    exact ⟨h, rfl, rfl, by simp, rfl, rfl, by simp, hok⟩
  have hrd := kernM_rd r (flagsOf false) (.inl rfl)
  have hfd := kern_feeds r (flagsOf false)
  have hv := kernM_v r (flagsOf false)
  refine loop_ok (ι := {q : Nat × St × KSt // q.1 ≤ b.length ∧ Reads (kernM r (flagsOf false)) kRest q.2.1 q.2.2 ∧ left (kernM r (flagsOf false)) kRest q.2.1 q.2.2 = b.drop q.1 ∧ q.2.1.bad = false})
    (fun q => ⟨[.ints .u8 .old b, .any, .any, .any, .any, .any, .any, .any, .any, .ptr 0 0, .any, .ptr 1 0, .any, .any, .i .i64 q.1.1] ++ List.replicate 98 .any, [(0, 52, [.ifc 149 (.raw (hdlV r)), .any, .nilp, .nilp, .nilp, .any, .any]), (1, 34, q.1.2.1.cells .new .new .new)], [], [(2, (kernM r (flagsOf false)).res q.1.2.2)], 3, 0, []⟩) (fun q => b.length - q.1.1)
    ⟨(0, ⟨true, false, kind, size, [], [], [], 0, false, false, false⟩, ⟨b, 0, F, 0, 0⟩), Nat.zero_le _, hR0, by simp [left, kRest], rfl⟩ ?_ ?_
  · refine Sub.w [0, 2, 1] ?_
    simp (maxSteps := 4000000) only [push_cast, Int.reduceEq, Int.reduceBNe, Int.reduceBEq, Int.reduceAdd, Int.reduceSub, Int.reduceMul, Int.reduceNeg, Int.reduceLT, Int.reduceLE, Int.reduceToNat, Nat.reduceLT, Nat.reduceAdd, Nat.reduceSub, Nat.reduceMul, Nat.reduceEqDiff, Nat.reduceLeDiff, Nat.reduceBEq, reduceIte, reduceCtorEq, St.cells]
  rintro ⟨⟨i, x, g⟩, hi, hx, hl, hbad⟩
  simp only at hi hx hl hbad
  refine evCode_sound Γok _ _ _ ?_
  simp (maxSteps := 4000000) only [push_cast, Int.reduceEq, Int.reduceBNe, Int.reduceBEq, Int.reduceAdd, Int.reduceSub, Int.reduceMul, Int.reduceNeg, Int.reduceLT, Int.reduceLE, Int.reduceToNat, Nat.reduceLT, Nat.reduceAdd, Nat.reduceSub, Nat.reduceMul, Nat.reduceEqDiff, Nat.reduceLeDiff, Nat.reduceBEq, reduceIte, reduceCtorEq, St.cells]
  refine ⟨fun h1 => ?_, fun h1 => ⟨fun h2 => ?_, fun h2 => ?_⟩⟩
  · have hi2 : i < b.length := by omega
    obtain ⟨k1, k2⟩ := get_feeds hrd hfd hx
    rw [hl, List.drop_eq_getElem_cons hi2] at k2
    obtain ⟨e1, e2, e3⟩ := k2
    have hg1 : b.getD (i : Int).toNat 0 = b[i] := by simp [List.getD, hi2]
    have hC := GetR_c (kernM r (flagsOf false)) hrd x g hx.ok hx.fits
    unfold isSB at hC
    rw [e1] at hC
    generalize x.Get (kernM r (flagsOf false)) g = G at k1 e1 e2 e3 hC
    obtain ⟨y, g', c', e'⟩ := G
    simp only at k1 e1 e2 e3 hC
    generalize b[i] = c at hC hg1
    refine (region_plan rfl Γok mixed (.pure 0 (.pure 1 (.pure 2 (.pure 3 (.pure 4 (.eff (.cons 5 [] (.pure 6 (.pure 7 (.pure 8 (.pure 9 (.eff (.cons 10 [] (.pure 11 (.pure 12 .done)) .nil)))))) .nil))))))) 113 rfl (by kernel_rfl) ?_)
    simp (maxSteps := 4000000) only [push_cast, Int.reduceEq, Int.reduceBNe, Int.reduceBEq, Int.reduceAdd, Int.reduceSub, Int.reduceMul, Int.reduceNeg, Int.reduceLT, Int.reduceLE, Int.reduceToNat, Nat.reduceLT, Nat.reduceAdd, Nat.reduceSub, Nat.reduceMul, Nat.reduceEqDiff, Nat.reduceLeDiff, Nat.reduceBEq, reduceIte, reduceCtorEq]
    refine call_w hC [2] (by simp (maxSteps := 4000000) only [push_cast, Int.reduceEq, Int.reduceBNe, Int.reduceBEq, Int.reduceAdd, Int.reduceSub, Int.reduceMul, Int.reduceNeg, Int.reduceLT, Int.reduceLE, Int.reduceToNat, Nat.reduceLT, Nat.reduceAdd, Nat.reduceSub, Nat.reduceMul, Nat.reduceEqDiff, Nat.reduceLeDiff, Nat.reduceBEq, reduceIte, reduceCtorEq, preR, St.sv, St.cells, hv]) ?_
    rintro sv post ⟨rfl, rfl⟩
    simp (maxSteps := 4000000) only [push_cast, Int.reduceEq, Int.reduceBNe, Int.reduceBEq, Int.reduceAdd, Int.reduceSub, Int.reduceMul, Int.reduceNeg, Int.reduceLT, Int.reduceLE, Int.reduceToNat, Nat.reduceLT, Nat.reduceAdd, Nat.reduceSub, Nat.reduceMul, Nat.reduceEqDiff, Nat.reduceLeDiff, Nat.reduceBEq, reduceIte, reduceCtorEq, preR, St.sv, St.cells]
    refine call_w (num11_c 0) [] (by simp (maxSteps := 4000000) only [push_cast, Int.reduceEq, Int.reduceBNe, Int.reduceBEq, Int.reduceAdd, Int.reduceSub, Int.reduceMul, Int.reduceNeg, Int.reduceLT, Int.reduceLE, Int.reduceToNat, Nat.reduceLT, Nat.reduceAdd, Nat.reduceSub, Nat.reduceMul, Nat.reduceEqDiff, Nat.reduceLeDiff, Nat.reduceBEq, reduceIte, reduceCtorEq]) ?_
    rintro sv post ⟨rfl, rfl⟩
    simp (maxSteps := 4000000) only [push_cast, Int.reduceEq, Int.reduceBNe, Int.reduceBEq, Int.reduceAdd, Int.reduceSub, Int.reduceMul, Int.reduceNeg, Int.reduceLT, Int.reduceLE, Int.reduceToNat, Nat.reduceLT, Nat.reduceAdd, Nat.reduceSub, Nat.reduceMul, Nat.reduceEqDiff, Nat.reduceLeDiff, Nat.reduceBEq, reduceIte, reduceCtorEq, hg1]
    refine ⟨by omega, ⟨(i + 1, y, g'), hi2, k1, e2, by rw [e3]; exact hbad⟩, by simp only; omega, Sub.w [0, 1, 2] ?_⟩
    simp (maxSteps := 4000000) only [push_cast, Int.reduceEq, Int.reduceBNe, Int.reduceBEq, Int.reduceAdd, Int.reduceSub, Int.reduceMul, Int.reduceNeg, Int.reduceLT, Int.reduceLE, Int.reduceToNat, Nat.reduceLT, Nat.reduceAdd, Nat.reduceSub, Nat.reduceMul, Nat.reduceEqDiff, Nat.reduceLeDiff, Nat.reduceBEq, reduceIte, reduceCtorEq, St.cells]
    exact (wrap64 (n := (i : Int) + 1) (by omega) (by omega)).symm
  · exact Fin.nil rfl (psv := .b true) (by simp (maxSteps := 4000000) only [push_cast, Int.reduceEq, Int.reduceBNe, Int.reduceBEq, Int.reduceAdd, Int.reduceSub, Int.reduceMul, Int.reduceNeg, Int.reduceLT, Int.reduceLE, Int.reduceToNat, Nat.reduceLT, Nat.reduceAdd, Nat.reduceSub, Nat.reduceMul, Nat.reduceEqDiff, Nat.reduceLeDiff, Nat.reduceBEq, reduceIte, reduceCtorEq]) ⟨rfl, rfl⟩
  · have hi2 : i = b.length := by omega
    subst hi2
    rw [List.drop_length] at hl
    obtain ⟨k1, k2⟩ := get_feeds hrd hfd hx
    rw [hl] at k2
    obtain ⟨e1, e2, e3, e4⟩ := k2
    have hC := GetR_c (kernM r (flagsOf false)) hrd x g hx.ok hx.fits
    unfold isSB at hC
    rw [e1] at hC
    rw [hbad] at e4
    generalize x.Get (kernM r (flagsOf false)) g = G at k1 e1 e2 e3 e4 hC
    obtain ⟨y, g', c', e'⟩ := G
    simp only at k1 e1 e2 e3 e4 hC
    obtain ⟨k1', k2'⟩ := get_feeds hrd hfd k1
    rw [e2] at k2'
    obtain ⟨e1', -⟩ := k2'
    have hC' := GetR_c (kernM r (flagsOf false)) hrd y g' k1.ok k1.fits
    unfold isSB at hC'
    rw [e1'] at hC'
    generalize y.Get (kernM r (flagsOf false)) g' = G at hC'
    obtain ⟨z, g'', c'', e''⟩ := G
    simp only at hC'
    refine (region_plan rfl Γok mixed (.pure 0 (.pure 1 (.pure 2 (.pure 3 (.pure 4 (.eff (.cons 5 [] (.pure 6 (.pure 7 (.pure 8 (.pure 9 (.eff (.cons 10 [] (.pure 11 .done) .nil)))))) .nil))))))) 113 rfl (by kernel_rfl) ?_)
    simp (maxSteps := 4000000) only [push_cast, Int.reduceEq, Int.reduceBNe, Int.reduceBEq, Int.reduceAdd, Int.reduceSub, Int.reduceMul, Int.reduceNeg, Int.reduceLT, Int.reduceLE, Int.reduceToNat, Nat.reduceLT, Nat.reduceAdd, Nat.reduceSub, Nat.reduceMul, Nat.reduceEqDiff, Nat.reduceLeDiff, Nat.reduceBEq, reduceIte, reduceCtorEq]
    refine call_w hC [2] (by simp (maxSteps := 4000000) only [push_cast, Int.reduceEq, Int.reduceBNe, Int.reduceBEq, Int.reduceAdd, Int.reduceSub, Int.reduceMul, Int.reduceNeg, Int.reduceLT, Int.reduceLE, Int.reduceToNat, Nat.reduceLT, Nat.reduceAdd, Nat.reduceSub, Nat.reduceMul, Nat.reduceEqDiff, Nat.reduceLeDiff, Nat.reduceBEq, reduceIte, reduceCtorEq, preR, St.sv, St.cells, hv]) ?_
    rintro sv post ⟨rfl, rfl⟩
    simp (maxSteps := 4000000) only [push_cast, Int.reduceEq, Int.reduceBNe, Int.reduceBEq, Int.reduceAdd, Int.reduceSub, Int.reduceMul, Int.reduceNeg, Int.reduceLT, Int.reduceLE, Int.reduceToNat, Nat.reduceLT, Nat.reduceAdd, Nat.reduceSub, Nat.reduceMul, Nat.reduceEqDiff, Nat.reduceLeDiff, Nat.reduceBEq, reduceIte, reduceCtorEq, preR, St.sv, St.cells]
    refine (region_plan rfl Γok mixed (.pure 0 (.pure 1 (.pure 2 (.pure 3 (.pure 4 (.eff (.cons 5 [] (.pure 6 (.pure 7 (.pure 8 (.pure 9 (.eff (.cons 10 [0, 4] (.eff (.cons 11 [] (.pure 12 (.pure 13 .done)) .nil)) .nil)))))) (.cons 10 [0, 4] (.eff (.cons 5 [] (.pure 6 (.pure 7 (.pure 8 (.pure 9 (.eff (.cons 11 [] (.pure 12 (.pure 13 .done)) .nil)))))) .nil)) .nil)))))))) 113 rfl (by kernel_rfl) ?_)
    simp (maxSteps := 4000000) only [push_cast, Int.reduceEq, Int.reduceBNe, Int.reduceBEq, Int.reduceAdd, Int.reduceSub, Int.reduceMul, Int.reduceNeg, Int.reduceLT, Int.reduceLE, Int.reduceToNat, Nat.reduceLT, Nat.reduceAdd, Nat.reduceSub, Nat.reduceMul, Nat.reduceEqDiff, Nat.reduceLeDiff, Nat.reduceBEq, reduceIte, reduceCtorEq]
    and_intros
    all_goals
      refine call_w hC' [2] (by simp (maxSteps := 4000000) only [push_cast, Int.reduceEq, Int.reduceBNe, Int.reduceBEq, Int.reduceAdd, Int.reduceSub, Int.reduceMul, Int.reduceNeg, Int.reduceLT, Int.reduceLE, Int.reduceToNat, Nat.reduceLT, Nat.reduceAdd, Nat.reduceSub, Nat.reduceMul, Nat.reduceEqDiff, Nat.reduceLeDiff, Nat.reduceBEq, reduceIte, reduceCtorEq, preR, St.sv, St.cells, hv]) ?_
      rintro sv post ⟨rfl, rfl⟩
      simp (maxSteps := 4000000) only [push_cast, Int.reduceEq, Int.reduceBNe, Int.reduceBEq, Int.reduceAdd, Int.reduceSub, Int.reduceMul, Int.reduceNeg, Int.reduceLT, Int.reduceLE, Int.reduceToNat, Nat.reduceLT, Nat.reduceAdd, Nat.reduceSub, Nat.reduceMul, Nat.reduceEqDiff, Nat.reduceLeDiff, Nat.reduceBEq, reduceIte, reduceCtorEq, preR, St.sv, St.cells]
      refine call_w (num11_c 111) [] (by simp (maxSteps := 4000000) only [push_cast, Int.reduceEq, Int.reduceBNe, Int.reduceBEq, Int.reduceAdd, Int.reduceSub, Int.reduceMul, Int.reduceNeg, Int.reduceLT, Int.reduceLE, Int.reduceToNat, Nat.reduceLT, Nat.reduceAdd, Nat.reduceSub, Nat.reduceMul, Nat.reduceEqDiff, Nat.reduceLeDiff, Nat.reduceBEq, reduceIte, reduceCtorEq]) ?_
      rintro sv post ⟨rfl, rfl⟩
      simp (maxSteps := 4000000) only [push_cast, Int.reduceEq, Int.reduceBNe, Int.reduceBEq, Int.reduceAdd, Int.reduceSub, Int.reduceMul, Int.reduceNeg, Int.reduceLT, Int.reduceLE, Int.reduceToNat, Nat.reduceLT, Nat.reduceAdd, Nat.reduceSub, Nat.reduceMul, Nat.reduceEqDiff, Nat.reduceLeDiff, Nat.reduceBEq, reduceIte, reduceCtorEq]
      refine call_w (num11_c 111) [] (by simp (maxSteps := 4000000) only [push_cast, Int.reduceEq, Int.reduceBNe, Int.reduceBEq, Int.reduceAdd, Int.reduceSub, Int.reduceMul, Int.reduceNeg, Int.reduceLT, Int.reduceLE, Int.reduceToNat, Nat.reduceLT, Nat.reduceAdd, Nat.reduceSub, Nat.reduceMul, Nat.reduceEqDiff, Nat.reduceLeDiff, Nat.reduceBEq, reduceIte, reduceCtorEq]) ?_
      rintro sv post ⟨rfl, rfl⟩
      simp (maxSteps := 4000000) only [push_cast, Int.reduceEq, Int.reduceBNe, Int.reduceBEq, Int.reduceAdd, Int.reduceSub, Int.reduceMul, Int.reduceNeg, Int.reduceLT, Int.reduceLE, Int.reduceToNat, Nat.reduceLT, Nat.reduceAdd, Nat.reduceSub, Nat.reduceMul, Nat.reduceEqDiff, Nat.reduceLeDiff, Nat.reduceBEq, reduceIte, reduceCtorEq, e3, e4]
      exact Fin.nil rfl (psv := .b true) (by simp (maxSteps := 4000000) only [push_cast, Int.reduceEq, Int.reduceBNe, Int.reduceBEq, Int.reduceAdd, Int.reduceSub, Int.reduceMul, Int.reduceNeg, Int.reduceLT, Int.reduceLE, Int.reduceToNat, Nat.reduceLT, Nat.reduceAdd, Nat.reduceSub, Nat.reduceMul, Nat.reduceEqDiff, Nat.reduceLeDiff, Nat.reduceBEq, reduceIte, reduceCtorEq]) ⟨rfl, rfl⟩
end Go.Proofs.YtlgpcngfcglanaaGreat
/- What came in: bytes; slices of elements. -/
namespace Go.Proofs.YtlgpcngfcglanaaGreat
open Go Go.Eng Go.RowKit
set_option linter.unusedSimpArgs false
set_option linter.unusedVariables false
set_option maxRecDepth 100000

section
variable {H : Type} {enc : TypeId × Value → H} {P : Program} {W : World} {base : Nat} {sp : Nat → Bool} {held : Bool}
theorem weights_all {e : TypeId} {d : DataW H} {k : Nat} : ∀ {ds : List (DataW H)}, d ∈ ds → k ∈ d.weights P e → k ∈ DataW.weightsAll P e ds
  | [], hd, _ => by cases hd
  | y :: r, hd, hk => by
    simp only [DataW.weightsAll, List.mem_append]
    rcases List.mem_cons.1 hd with rfl | hd
    · exact .inl hk
    · exact .inr (weights_all hd hk)
/-- A slice of elements that came in. -/
theorem den_sliceW {t e : TypeId} {fuel sz : Nat} {v : Value} {x : DataW H × List MemPlace} (ht : P.underlying t = some (.slice e)) (hc : P.cellsOf e = sz) (hsz : 0 < sz) {α : Type} (f : α → List SV)
    (hel : ∀ (n : Nat) (cs : List Value) (y : DataW H × List MemPlace), cs.length = sz → DataW.trod enc P W base sp held n e cs = some y → (∀ k, k ∈ y.1.weights P e → k ≤ reachBytes) → ∃ a : α, DenL (env0 W) (f a) cs)
    (h : DataW.trod enc P W base sp held fuel t v.cells.toList = some x) (hv : ∃ a n c, v = .slice a n c) (hz : ∀ k, k ∈ x.1.weights P t → k ≤ reachBytes) (hby : sz ≤ P.bytesOf e) :
    ∃ (rows : List α), rows.length ≤ 140737488355328 ∧ ∀ d : α, Den (env0 W) (.sl sz .old rows.length (fun i j => lget (f (rows.getD i d)) j)) v := by
  obtain ⟨va, vn, vc, rfl⟩ := hv
  rcases DataW.trod_slice ht h with ⟨h0, _⟩ | ⟨a, len, cap, elems, rest, n, _, hcs, hx, hb, hl, hm, hlen, hel', _, _⟩
  · simp [Value.cells] at h0
    obtain ⟨rfl, rfl, rfl⟩ := h0
    refine ⟨[], by simp, fun d => ?_⟩
    simp only [Den]
    exact ⟨none, 0, rfl, Nat.le_refl _, by omega, fun i hi => absurd hi (Nat.not_lt_zero _), trivial⟩
  · simp [Value.cells] at hcs
    obtain ⟨rfl, rfl, rfl⟩ := hcs
    have hn : vn ≤ 140737488355328 := by
      have h1 := hz (((elems.map (·.1)).length + (rest.map (·.1)).length) * P.bytesOf e) (by rw [hx]; simp only [DataW.weights, ht]; exact List.mem_cons_self)
      rw [List.length_map, List.length_map] at h1
      have h2 : vn * 1 ≤ (elems.length + rest.length) * P.bytesOf e := Nat.mul_le_mul (by omega) (by omega)
      unfold reachBytes at h1
      omega
    have each : ∀ i, i < vn → ∃ r : α, ∃ cs : List Value, cs.length = sz ∧ (∀ (j : Nat) (u : Value), cs[j]? = some u → W.cell? ((a.add (i * sz)).add j) = some u) ∧ DenL (env0 W) (f r) cs := by
      intro i hi
      have h1 := hel' i hi
      rw [List.getElem?_eq_getElem (by omega), Option.bind_eq_some_iff, hc] at h1
      obtain ⟨cs, h2, h3⟩ := h1
      obtain ⟨h4, h5⟩ := cells_get h2
      obtain ⟨r, hr⟩ := hel n cs _ h4 h3 (fun k hk => hz k (by
        rw [hx]
        simp only [DataW.weights, ht]
        refine List.mem_cons_of_mem _ (List.mem_append.2 (.inl ?_))
        exact weights_all (List.mem_map.2 ⟨_, List.getElem_mem (by omega), rfl⟩) hk))
      exact ⟨r, cs, h4, h5, hr⟩
    have build : ∀ m, m ≤ vn → ∃ rows : List α, rows.length = m ∧ ∀ i, i < m → ∃ r cs, rows[i]? = some r ∧ List.length cs = sz ∧ (∀ (j : Nat) (u : Value), cs[j]? = some u → W.cell? ((a.add (i * sz)).add j) = some u) ∧ DenL (env0 W) (f r) cs := by
      intro m
      induction m with
      | zero => intro _; exact ⟨[], rfl, fun i hi => absurd hi (Nat.not_lt_zero _)⟩
      | succ m ih =>
        intro hm
        obtain ⟨rows, h1, h2⟩ := ih (by omega)
        obtain ⟨r, cs, h3, h4, h5⟩ := each m (by omega)
        refine ⟨rows ++ [r], by simp [h1], fun i hi => ?_⟩
        rcases Nat.lt_or_ge i m with h | h
        · obtain ⟨r', cs', q1, q2⟩ := h2 i h
          exact ⟨r', cs', by rw [List.getElem?_append_left (by omega)]; exact q1, q2⟩
        · have : i = m := by omega
          subst this
          exact ⟨r, cs, by rw [List.getElem?_append_right (by omega), h1]; simp, h3, h4, h5⟩
    obtain ⟨rows, hr, hrows⟩ := build vn (Nat.le_refl _)
    refine ⟨rows, by omega, fun d => ?_⟩
    rw [hr]
    simp only [Den]
    refine ⟨some a, vc, rfl, hl, by unfold maxLen at hm; omega, fun i hi => ?_, trivial⟩
    obtain ⟨r, cs, q1, q2, q3, q4⟩ := hrows i hi
    have hspot : a.spot = none := by
      obtain ⟨r0, cs0, _, l0, c0, _⟩ := hrows 0 (by omega)
      have h1 := World.cell?_spot (c0 0 (cs0[0]'(by omega)) (List.getElem?_eq_getElem (by omega)))
      simpa [Addr.add] using h1
    obtain ⟨b, off, spot⟩ := a
    simp only at hspot
    subst hspot
    refine ⟨b, off, rfl, fun j hj => ?_⟩
    have hju : cs[j]? = some (cs[j]'(by omega)) := List.getElem?_eq_getElem (by omega)
    refine ⟨cs[j]'(by omega), ?_, ?_⟩
    · have := q3 j _ hju
      rw [addr_add, addr_add] at this
      exact this
    · have h1 : rows.getD i d = r := by simp [List.getD, q1]
      rw [h1]
      have := denL_get _ _ j undef q4
      rw [hju] at this
      exact this

end
def BytesIn (W : World) (v : Value) : Prop := ∃ l : List UInt8, l.length ≤ 140737488355328 ∧ Den (env0 W) (.ints .u8 .old (ofU l)) v
theorem wfb {n : Int} (h : (Lit.int .u8 n).wf = true) : 0 ≤ n ∧ n ≤ 255 := by
  simp only [Lit.wf, Bool.and_eq_true, decide_eq_true_eq] at h
  exact h
theorem BytesIn_in {H : Type} {enc : TypeId × Value → H} {W : World} {base : Nat} {sp : Nat → Bool} {held : Bool} {v : Value} {d : DataW H} {ps : List MemPlace} (h : DataW.Trod enc Tryz.prog W base sp held 22 v d ps) (hv : ∃ a n c, v = .slice a n c)
    (hz : ∀ k, k ∈ d.weights Tryz.prog 22 → k ≤ reachBytes) : BytesIn W v := by
  obtain ⟨fuel, h⟩ := h
  have hc : Tryz.prog.cellsOf 5 = 1 := by kernel_rfl
  have hby : Tryz.prog.bytesOf 5 = 1 := by kernel_rfl
  obtain ⟨rows, h1, h2⟩ := den_sliceW (by kernel_rfl : Tryz.prog.underlying 22 = some (.slice 5)) hc (by omega) (α := UInt8) (fun c => [.i .u8 c.toNat]) (fun n cs y hl ht hw => by
    obtain ⟨z, e, g, w⟩ := DataW.trod_int (by kernel_rfl : Tryz.prog.underlying 5 = some (.int .u8)) ht
    subst e
    obtain ⟨w1, w2⟩ := wfb w
    refine ⟨UInt8.ofNat z.toNat, ?_⟩
    simp only [DenL, Den]
    refine ⟨?_, trivial⟩
    congr 1
    rw [UInt8.toNat_ofNat']
    omega) h hv hz (by rw [hby]; omega)
  refine ⟨rows, h1, ?_⟩
  have h3 := h2 0
  simp only [Den, IsInts] at h3 ⊢
  obtain ⟨a, cap, e1, e2, e3, e4, e5⟩ := h3
  have hlen : (ofU rows).length = rows.length := by unfold ofU; rw [List.length_map]
  refine ⟨a, cap, by rw [hlen]; exact e1, by rw [hlen]; exact e2, e3, fun i x hx => ?_, e5⟩
  unfold ofU at hx
  rw [List.getElem?_map] at hx
  obtain ⟨c, hc1, hc2⟩ := Option.map_eq_some_iff.1 hx
  have hi : i < rows.length := by
    rcases Nat.lt_or_ge i rows.length with h | h
    · exact h
    · rw [List.getElem?_eq_none h] at hc1; cases hc1
  obtain ⟨b, off, p, q⟩ := e4 i hi
  obtain ⟨y, r, s⟩ := q 0 (by omega)
  have hg : rows.getD i 0 = c := by simp [List.getD, hc1]
  rw [hg] at s
  simp only [lget, Den] at s
  subst s
  refine ⟨b, off, p, ?_⟩
  rw [← hc2]
  rw [show off + i * 1 + 0 = off + i by omega] at r
  exact r
end Go.Proofs.YtlgpcngfcglanaaGreat
/- Faults that came in. -/
namespace Go.Proofs.YtlgpcngfcglanaaGreat
open Go Go.Eng Go.RowKit
set_option linter.unusedSimpArgs false
set_option linter.unusedVariables false
set_option maxRecDepth 100000

theorem faultEl_get : ∀ (rows : List (Int × Int)) (i j : Nat) (d : Int × Int), i < rows.length → faultEl rows i j = lget [.i .i64 (rows.getD i d).1, .i .i64 (rows.getD i d).2] j
  | [], i, j, d, h => by simp at h
  | a :: r, 0, j, d, h => rfl
  | a :: r, i + 1, j, d, h => by
    have := faultEl_get r i j d (by simpa using h)
    rw [show (a :: r).getD (i + 1) d = r.getD i d by simp [List.getD]]
    exact this
def FaultsIn (W : World) (v : Value) : Prop := ∃ F : List (Int × Int), F.length ≤ 140737488355328 ∧ Den (env0 W) (.sl 2 .old F.length (faultEl F)) v
theorem FaultsIn_in {H : Type} {enc : TypeId × Value → H} {W : World} {base : Nat} {sp : Nat → Bool} {held : Bool} {v : Value} {d : DataW H} {ps : List MemPlace} (h : DataW.Trod enc Tryz.prog W base sp held 23 v d ps) (hv : ∃ a n c, v = .slice a n c)
    (hz : ∀ k, k ∈ d.weights Tryz.prog 23 → k ≤ reachBytes) : FaultsIn W v := by
  obtain ⟨fuel, h⟩ := h
  have hs : ∃ f0 f1 : Field, Tryz.prog.underlying 239 = some (.struct #[f0, f1]) ∧ (f0.offset = 0 ∧ f0.type = 3) ∧ (f1.offset = 1 ∧ f1.type = 3) := ⟨_, _, Tryz.underlying239, ⟨rfl, rfl⟩, ⟨rfl, rfl⟩⟩
  obtain ⟨f0, f1, hs, ⟨o0, t0⟩, o1, t1⟩ := hs
  have hi : Tryz.prog.underlying 3 = some (.int .i64) := by kernel_rfl
  have hc1 : Tryz.prog.cellsOf 3 = 1 := by kernel_rfl
  have hc2 : Tryz.prog.cellsOf 239 = 2 := by kernel_rfl
  have hby : Tryz.prog.bytesOf 239 = 16 := by kernel_rfl
  obtain ⟨rows, h1, h2⟩ := den_sliceW (by kernel_rfl : Tryz.prog.underlying 23 = some (.slice 239)) hc2 (by omega) (α := Int × Int) (fun t => [.i .i64 t.1, .i .i64 t.2]) (fun n cs y hl ht hw => by
    obtain ⟨h1, h2⟩ := trod_fields hs (fun i f hf => by
      match i with
      | 0 => simp at hf; subst hf; exact ⟨o0, by rw [t0]; exact hc1⟩
      | 1 => simp at hf; subst hf; exact ⟨o1, by rw [t1]; exact hc1⟩
      | i + 2 => simp at hf) hc2 ht
    obtain ⟨u0, y0, n0, c0, r0⟩ := h2 0 f0 rfl
    obtain ⟨u1, y1, n1, c1, r1⟩ := h2 1 f1 rfl
    obtain ⟨x0, e0, _⟩ := DataW.trod_int (by rw [t0]; exact hi) r0
    obtain ⟨x1, e1, _⟩ := DataW.trod_int (by rw [t1]; exact hi) r1
    refine ⟨(x0, x1), ?_⟩
    match cs, hl with
    | [a, b], _ =>
      simp at c0 c1 e0 e1
      subst c0 c1 e0 e1
      simp only [DenL, Den]
      exact ⟨trivial, trivial, trivial⟩) h hv hz (by rw [hby]; omega)
  refine ⟨rows, h1, den_el (fun i hi j hj => ?_) (h2 (0, 0))⟩
  rw [faultEl_get rows i j (0, 0) hi]
theorem streamTellsB_c (b : List UInt8) (F : List (Int × Int)) (kind size : Int) (hb : b.length ≤ 140737488355328) (hF : F.length ≤ 140737488355328) : Contract Tryz.prog 3 nilSS [.ints .u8 .old (ofU b), .sl 2 .old F.length (faultEl F), .i .i64 kind, .i .i64 size] (fun sv post => sv = .b true ∧ post = nilSS) :=
  streamTells_c (ofU b) (by rw [show (ofU b).length = b.length by simp [ofU]]; exact hb) F hF kind size
end Go.Proofs.YtlgpcngfcglanaaGreat
