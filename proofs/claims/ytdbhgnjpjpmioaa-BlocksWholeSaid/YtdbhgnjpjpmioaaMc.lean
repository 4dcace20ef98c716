/- Blocks: the law's small functions. -/
import Derived.Test.YtdbhgnjpjpmioaaMb
namespace Go.Proofs.Ytdbhgnjpjpmioaa
open Go Go.Eng
set_option linter.unusedSimpArgs false
set_option linter.unusedVariables false
set_option maxRecDepth 100000

theorem num16_c (m : Int) : Contract Try.prog 32 nilSS [.i .i64 m] (fun sv post => sv = .i .i64 m ∧ post = nilSS) := by
  refine contract_ev Γok Try.func32 rfl rfl [] ?_
  simp (maxSteps := 4000000) only [push_cast, Int.reduceEq, Int.reduceBNe, Int.reduceBEq, Int.reduceAdd, Int.reduceSub, Int.reduceMul, Int.reduceNeg, Int.reduceLT, Int.reduceLE, Nat.reduceLT, Nat.reduceAdd, Nat.reduceSub, Nat.reduceMul, Nat.reduceEqDiff, Nat.reduceLeDiff, Nat.reduceBEq, reduceIte, reduceCtorEq, Try.f32]
  exact Fin.nil rfl (psv := .i .i64 _) ⟨rfl, rfl⟩ ⟨rfl, rfl⟩

theorem refBytes_c (size count : Int) (hs : size ≤ 9223372036854775807) (hc : count ≤ 9223372036854775807) : Contract Try.prog 31 nilSS [.i .i64 size, .i .i64 count] (fun sv post => sv = .tup [.i .i64 (bytesV size count).1, .i .i64 (bytesV size count).2] ∧ post = nilSS) := by
  refine contract_ev Γok Try.func31 rfl rfl [] ?_
  simp (maxSteps := 4000000) only [push_cast, Int.reduceEq, Int.reduceBNe, Int.reduceBEq, Int.reduceAdd, Int.reduceSub, Int.reduceMul, Int.reduceNeg, Int.reduceLT, Int.reduceLE, Nat.reduceLT, Nat.reduceAdd, Nat.reduceSub, Nat.reduceMul, Nat.reduceEqDiff, Nat.reduceLeDiff, Nat.reduceBEq, reduceIte, reduceCtorEq, Try.f31]
  have hq : 0 < size → (IntKind.i64.wrap (Int.tdiv 1048576 size) < count ↔ 1048576 < size * count) := fun h => by
    rw [Int.tdiv_eq_ediv_of_nonneg (by omega)]
    have h1 : 0 ≤ (1048576 : Int) / size := Int.ediv_nonneg (by omega) (by omega)
    have h2 : (1048576 : Int) / size ≤ 1048576 := Int.ediv_le_self size (by omega)
    rw [wrap64 (by omega) (by omega), Int.ediv_lt_iff_lt_mul h, Int.mul_comm]
  have no : ∀ S : SS, S.k = 0 → (size < 0 ∨ count < 0 ∨ 1048576 < size * count) → Fin (fun sv post => sv = .tup [.i .i64 (bytesV size count).1, .i .i64 (bytesV size count).2] ∧ post = nilSS) (.tup [.i .i64 0, .i .i64 4]) S := fun S hS h => by
    unfold bytesV
    rw [if_pos h]
    exact Fin.nil hS (psv := .tup [.i .i64 0, .i .i64 4]) (by simp (maxSteps := 4000000) only [push_cast, Int.reduceEq, Int.reduceBNe, Int.reduceBEq, Int.reduceAdd, Int.reduceSub, Int.reduceMul, Int.reduceNeg, Int.reduceLT, Int.reduceLE, Nat.reduceLT, Nat.reduceAdd, Nat.reduceSub, Nat.reduceMul, Nat.reduceEqDiff, Nat.reduceLeDiff, Nat.reduceBEq, reduceIte, reduceCtorEq]) ⟨rfl, rfl⟩
  refine ⟨fun h => by omega, fun h => ?_, fun h => ?_⟩
  · refine no _ rfl ?_
    rcases h with (h | h) | h
    · exact .inl h
    · exact .inr (.inl h)
    · exact .inr (.inr ((hq h.1).1 h.2))
  · have hb : size * count ≤ 1048576 := by
      rcases h.2 with h2 | h2
      · obtain rfl : size = 0 := by omega
        simp
      · by_cases hs0 : 0 < size
        · have := hq hs0
          omega
        · obtain rfl : size = 0 := by omega
          simp
    have hb0 := Int.mul_nonneg h.1.1 h.1.2
    unfold bytesV
    rw [if_neg (by omega), wrap64 (by omega) (by omega)]
    exact Fin.nil rfl (psv := .tup [.i .i64 _, .i .i64 0]) (by simp (maxSteps := 4000000) only [push_cast, Int.reduceEq, Int.reduceBNe, Int.reduceBEq, Int.reduceAdd, Int.reduceSub, Int.reduceMul, Int.reduceNeg, Int.reduceLT, Int.reduceLE, Nat.reduceLT, Nat.reduceAdd, Nat.reduceSub, Nat.reduceMul, Nat.reduceEqDiff, Nat.reduceLeDiff, Nat.reduceBEq, reduceIte, reduceCtorEq]) ⟨rfl, rfl⟩

theorem readGo_feeds {M : RawM} (hR : M.Rd) {rest : M.σ → List Int} (hF : Feeds M rest) : ∀ (f : Nat) (x : St) (g : M.σ) (out : List Int), Reads M rest x g →
    (readGo M f x g out).2.2.1 = out ++ (left M rest x g).take f ∧ (readGo M f x g out).2.2.2 = (if f ≤ (left M rest x g).length then 0 else 111)
  | 0, x, g, out, h => by simp [readGo]
  | f + 1, x, g, out, h => by
    obtain ⟨k1, k2⟩ := get_feeds hR hF h
    unfold readGo
    cases hl : left M rest x g with
    | nil =>
      rw [hl] at k2
      simp only at k2
      rw [k2.1]
      simp
    | cons c l =>
      rw [hl] at k2
      simp only at k2
      rw [k2.1]
      obtain ⟨e1, e2⟩ := readGo_feeds hR hF f _ _ (out ++ [c]) k1
      rw [k2.2.1] at e1 e2
      simp only [ne_eq, not_true_eq_false, if_false]
      rw [e1, e2]
      simp

theorem rd16a (b : Nat) : (newSt true false 3 4).Read (readerM [104, 101, 108, 108, 111] b) (0 : Int) 2 3 = (exSt [] true, (5 : Int), [104, 101, 108, 108, 111], 2, 111) := by kernel_rfl

set_option maxHeartbeats 2000000 in
theorem alive16_c : Contract Try.prog 33 nilSS [] (fun sv post => sv = .b true ∧ post = nilSS) := by
  have e0 : newSt true false 3 4 = ⟨true, false, 3, 4, [], [], [], 0, false, false, false⟩ := rfl
  have hR := fun b => readerM_rd [104, 101, 108, 108, 111] b (by simp)
  have hv : ∀ b, (readerM [104, 101, 108, 108, 111] b).v = .ifc 38 (.raw (.pointer (some ⟨b, 0, none⟩))) := fun b => rfl
  have hr : ∀ b (p : Int), (readerM [104, 101, 108, 108, 111] b).res p = (readerS [104, 101, 108, 108, 111] p).res b := fun b p => rfl
  have q1 : strOf [104, 101, 108, 108, 111] = ⟨#[104, 101, 108, 108, 111]⟩ := rfl
  have may0 : mayV 3 4 = 0 := rfl
  have bv : bytesV 1099511627776 1099511627776 = (0, 4) := by decide
  refine contract_ev Γok Try.func33 rfl rfl [] ?_
  simp (maxSteps := 4000000) only [push_cast, Int.reduceEq, Int.reduceBNe, Int.reduceBEq, Int.reduceAdd, Int.reduceSub, Int.reduceMul, Int.reduceNeg, Int.reduceLT, Int.reduceLE, Nat.reduceLT, Nat.reduceAdd, Nat.reduceSub, Nat.reduceMul, Nat.reduceEqDiff, Nat.reduceLeDiff, Nat.reduceBEq, reduceIte, reduceCtorEq, Try.f33]
  refine call_w (newReader_c [104, 101, 108, 108, 111] (by simp)) [] (by simp (maxSteps := 4000000) only [push_cast, Int.reduceEq, Int.reduceBNe, Int.reduceBEq, Int.reduceAdd, Int.reduceSub, Int.reduceMul, Int.reduceNeg, Int.reduceLT, Int.reduceLE, Nat.reduceLT, Nat.reduceAdd, Nat.reduceSub, Nat.reduceMul, Nat.reduceEqDiff, Nat.reduceLeDiff, Nat.reduceBEq, reduceIte, reduceCtorEq]) ?_
  rintro sv post ⟨b, rfl, rfl⟩
  simp (maxSteps := 4000000) only [push_cast, Int.reduceEq, Int.reduceBNe, Int.reduceBEq, Int.reduceAdd, Int.reduceSub, Int.reduceMul, Int.reduceNeg, Int.reduceLT, Int.reduceLE, Nat.reduceLT, Nat.reduceAdd, Nat.reduceSub, Nat.reduceMul, Nat.reduceEqDiff, Nat.reduceLeDiff, Nat.reduceBEq, reduceIte, reduceCtorEq]
  refine call_w (newS_c _ _ _ _ _ _ _ _ openR_c 3 4) [] (by simp (maxSteps := 4000000) only [push_cast, Int.reduceEq, Int.reduceBNe, Int.reduceBEq, Int.reduceAdd, Int.reduceSub, Int.reduceMul, Int.reduceNeg, Int.reduceLT, Int.reduceLE, Nat.reduceLT, Nat.reduceAdd, Nat.reduceSub, Nat.reduceMul, Nat.reduceEqDiff, Nat.reduceLeDiff, Nat.reduceBEq, reduceIte, reduceCtorEq, modeV]) ?_
  rintro sv post ⟨rfl, rfl⟩
  simp (maxSteps := 4000000) only [push_cast, Int.reduceEq, Int.reduceBNe, Int.reduceBEq, Int.reduceAdd, Int.reduceSub, Int.reduceMul, Int.reduceNeg, Int.reduceLT, Int.reduceLE, Nat.reduceLT, Nat.reduceAdd, Nat.reduceSub, Nat.reduceMul, Nat.reduceEqDiff, Nat.reduceLeDiff, Nat.reduceBEq, reduceIte, reduceCtorEq, St.sv, St.cells]
  refine call_w (num16_c 0) [] (by simp (maxSteps := 4000000) only [push_cast, Int.reduceEq, Int.reduceBNe, Int.reduceBEq, Int.reduceAdd, Int.reduceSub, Int.reduceMul, Int.reduceNeg, Int.reduceLT, Int.reduceLE, Nat.reduceLT, Nat.reduceAdd, Nat.reduceSub, Nat.reduceMul, Nat.reduceEqDiff, Nat.reduceLeDiff, Nat.reduceBEq, reduceIte, reduceCtorEq]) ?_
  rintro sv post ⟨rfl, rfl⟩
  simp (maxSteps := 4000000) only [push_cast, Int.reduceEq, Int.reduceBNe, Int.reduceBEq, Int.reduceAdd, Int.reduceSub, Int.reduceMul, Int.reduceNeg, Int.reduceLT, Int.reduceLE, Nat.reduceLT, Nat.reduceAdd, Nat.reduceSub, Nat.reduceMul, Nat.reduceEqDiff, Nat.reduceLeDiff, Nat.reduceBEq, reduceIte, reduceCtorEq, may0]
  refine call_w (num16_c 0) [] (by simp (maxSteps := 4000000) only [push_cast, Int.reduceEq, Int.reduceBNe, Int.reduceBEq, Int.reduceAdd, Int.reduceSub, Int.reduceMul, Int.reduceNeg, Int.reduceLT, Int.reduceLE, Nat.reduceLT, Nat.reduceAdd, Nat.reduceSub, Nat.reduceMul, Nat.reduceEqDiff, Nat.reduceLeDiff, Nat.reduceBEq, reduceIte, reduceCtorEq]) ?_
  rintro sv post ⟨rfl, rfl⟩
  simp (maxSteps := 4000000) only [push_cast, Int.reduceEq, Int.reduceBNe, Int.reduceBEq, Int.reduceAdd, Int.reduceSub, Int.reduceMul, Int.reduceNeg, Int.reduceLT, Int.reduceLE, Nat.reduceLT, Nat.reduceAdd, Nat.reduceSub, Nat.reduceMul, Nat.reduceEqDiff, Nat.reduceLeDiff, Nat.reduceBEq, reduceIte, reduceCtorEq, e0, rg11]
  refine call_w (ReadB_c (readerM [104, 101, 108, 108, 111] b) (hR b) (newSt true false 3 4) (by exact ⟨by decide, by decide, by decide⟩) (0 : Int) (by exact ⟨by decide, by decide⟩) 2 3 (by decide) (by decide)) [2] (by simp (maxSteps := 4000000) only [push_cast, Int.reduceEq, Int.reduceBNe, Int.reduceBEq, Int.reduceAdd, Int.reduceSub, Int.reduceMul, Int.reduceNeg, Int.reduceLT, Int.reduceLE, Nat.reduceLT, Nat.reduceAdd, Nat.reduceSub, Nat.reduceMul, Nat.reduceEqDiff, Nat.reduceLeDiff, Nat.reduceBEq, reduceIte, reduceCtorEq, hv, hr, St.sv, St.cells, e0, exSt]) ?_
  rintro sv post ⟨rfl, rfl⟩
  rw [rd16a b]
  simp (maxSteps := 4000000) only [push_cast, Int.reduceEq, Int.reduceBNe, Int.reduceBEq, Int.reduceAdd, Int.reduceSub, Int.reduceMul, Int.reduceNeg, Int.reduceLT, Int.reduceLE, Nat.reduceLT, Nat.reduceAdd, Nat.reduceSub, Nat.reduceMul, Nat.reduceEqDiff, Nat.reduceLeDiff, Nat.reduceBEq, reduceIte, reduceCtorEq, hv, hr, St.sv, St.cells, exSt, rg11]
  refine call_w (bytes_c 1099511627776 1099511627776 (by decide) (by decide)) [] (by simp (maxSteps := 4000000) only [push_cast, Int.reduceEq, Int.reduceBNe, Int.reduceBEq, Int.reduceAdd, Int.reduceSub, Int.reduceMul, Int.reduceNeg, Int.reduceLT, Int.reduceLE, Nat.reduceLT, Nat.reduceAdd, Nat.reduceSub, Nat.reduceMul, Nat.reduceEqDiff, Nat.reduceLeDiff, Nat.reduceBEq, reduceIte, reduceCtorEq]) ?_
  rintro sv post ⟨rfl, rfl⟩
  simp (maxSteps := 4000000) only [push_cast, Int.reduceEq, Int.reduceBNe, Int.reduceBEq, Int.reduceAdd, Int.reduceSub, Int.reduceMul, Int.reduceNeg, Int.reduceLT, Int.reduceLE, Nat.reduceLT, Nat.reduceAdd, Nat.reduceSub, Nat.reduceMul, Nat.reduceEqDiff, Nat.reduceLeDiff, Nat.reduceBEq, reduceIte, reduceCtorEq, bv, q1]
  refine call_w (num16_c 111) [] (by simp (maxSteps := 4000000) only [push_cast, Int.reduceEq, Int.reduceBNe, Int.reduceBEq, Int.reduceAdd, Int.reduceSub, Int.reduceMul, Int.reduceNeg, Int.reduceLT, Int.reduceLE, Nat.reduceLT, Nat.reduceAdd, Nat.reduceSub, Nat.reduceMul, Nat.reduceEqDiff, Nat.reduceLeDiff, Nat.reduceBEq, reduceIte, reduceCtorEq]) ?_
  rintro sv post ⟨rfl, rfl⟩
  simp (maxSteps := 4000000) only [push_cast, Int.reduceEq, Int.reduceBNe, Int.reduceBEq, Int.reduceAdd, Int.reduceSub, Int.reduceMul, Int.reduceNeg, Int.reduceLT, Int.reduceLE, Nat.reduceLT, Nat.reduceAdd, Nat.reduceSub, Nat.reduceMul, Nat.reduceEqDiff, Nat.reduceLeDiff, Nat.reduceBEq, reduceIte, reduceCtorEq]
  refine call_w (num16_c 4) [] (by simp (maxSteps := 4000000) only [push_cast, Int.reduceEq, Int.reduceBNe, Int.reduceBEq, Int.reduceAdd, Int.reduceSub, Int.reduceMul, Int.reduceNeg, Int.reduceLT, Int.reduceLE, Nat.reduceLT, Nat.reduceAdd, Nat.reduceSub, Nat.reduceMul, Nat.reduceEqDiff, Nat.reduceLeDiff, Nat.reduceBEq, reduceIte, reduceCtorEq]) ?_
  rintro sv post ⟨rfl, rfl⟩
  simp (maxSteps := 4000000) only [push_cast, Int.reduceEq, Int.reduceBNe, Int.reduceBEq, Int.reduceAdd, Int.reduceSub, Int.reduceMul, Int.reduceNeg, Int.reduceLT, Int.reduceLE, Nat.reduceLT, Nat.reduceAdd, Nat.reduceSub, Nat.reduceMul, Nat.reduceEqDiff, Nat.reduceLeDiff, Nat.reduceBEq, reduceIte, reduceCtorEq]
  exact Fin.nil rfl (psv := .b true) rfl ⟨rfl, rfl⟩

theorem wf_le {a : Int} (h : (Lit.int .i64 a).wf = true) : a ≤ 9223372036854775807 := by
  simp only [Lit.wf, Bool.and_eq_true, decide_eq_true_eq] at h
  exact h.2

theorem blocksBytes_c (size count : Int) (hs : size ≤ 9223372036854775807) (hc : count ≤ 9223372036854775807) : Contract Try.prog 8 nilSS [.i .i64 size, .i .i64 count] (fun sv post => sv = .b true ∧ post = nilSS) := by
  refine contract_ev Γok Try.func8 rfl rfl [] ?_
  simp (maxSteps := 4000000) only [push_cast, Int.reduceEq, Int.reduceBNe, Int.reduceBEq, Int.reduceAdd, Int.reduceSub, Int.reduceMul, Int.reduceNeg, Int.reduceLT, Int.reduceLE, Nat.reduceLT, Nat.reduceAdd, Nat.reduceSub, Nat.reduceMul, Nat.reduceEqDiff, Nat.reduceLeDiff, Nat.reduceBEq, reduceIte, reduceCtorEq, Try.f8]
  refine call_w (bytes_c size count hs hc) [] (by simp (maxSteps := 4000000) only [push_cast, Int.reduceEq, Int.reduceBNe, Int.reduceBEq, Int.reduceAdd, Int.reduceSub, Int.reduceMul, Int.reduceNeg, Int.reduceLT, Int.reduceLE, Nat.reduceLT, Nat.reduceAdd, Nat.reduceSub, Nat.reduceMul, Nat.reduceEqDiff, Nat.reduceLeDiff, Nat.reduceBEq, reduceIte, reduceCtorEq]) ?_
  rintro sv post ⟨rfl, rfl⟩
  simp (maxSteps := 4000000) only [push_cast, Int.reduceEq, Int.reduceBNe, Int.reduceBEq, Int.reduceAdd, Int.reduceSub, Int.reduceMul, Int.reduceNeg, Int.reduceLT, Int.reduceLE, Nat.reduceLT, Nat.reduceAdd, Nat.reduceSub, Nat.reduceMul, Nat.reduceEqDiff, Nat.reduceLeDiff, Nat.reduceBEq, reduceIte, reduceCtorEq]
  refine call_w (refBytes_c size count hs hc) [] (by simp (maxSteps := 4000000) only [push_cast, Int.reduceEq, Int.reduceBNe, Int.reduceBEq, Int.reduceAdd, Int.reduceSub, Int.reduceMul, Int.reduceNeg, Int.reduceLT, Int.reduceLE, Nat.reduceLT, Nat.reduceAdd, Nat.reduceSub, Nat.reduceMul, Nat.reduceEqDiff, Nat.reduceLeDiff, Nat.reduceBEq, reduceIte, reduceCtorEq]) ?_
  rintro sv post ⟨rfl, rfl⟩
  simp (maxSteps := 4000000) only [push_cast, Int.reduceEq, Int.reduceBNe, Int.reduceBEq, Int.reduceAdd, Int.reduceSub, Int.reduceMul, Int.reduceNeg, Int.reduceLT, Int.reduceLE, Nat.reduceLT, Nat.reduceAdd, Nat.reduceSub, Nat.reduceMul, Nat.reduceEqDiff, Nat.reduceLeDiff, Nat.reduceBEq, reduceIte, reduceCtorEq]
  refine call_w (num16_c (bytesV size count).2) [] (by simp (maxSteps := 4000000) only [push_cast, Int.reduceEq, Int.reduceBNe, Int.reduceBEq, Int.reduceAdd, Int.reduceSub, Int.reduceMul, Int.reduceNeg, Int.reduceLT, Int.reduceLE, Nat.reduceLT, Nat.reduceAdd, Nat.reduceSub, Nat.reduceMul, Nat.reduceEqDiff, Nat.reduceLeDiff, Nat.reduceBEq, reduceIte, reduceCtorEq]) ?_
  rintro sv post ⟨rfl, rfl⟩
  simp (maxSteps := 4000000) only [push_cast, Int.reduceEq, Int.reduceBNe, Int.reduceBEq, Int.reduceAdd, Int.reduceSub, Int.reduceMul, Int.reduceNeg, Int.reduceLT, Int.reduceLE, Nat.reduceLT, Nat.reduceAdd, Nat.reduceSub, Nat.reduceMul, Nat.reduceEqDiff, Nat.reduceLeDiff, Nat.reduceBEq, reduceIte, reduceCtorEq]
  refine call_w alive16_c [] (by simp (maxSteps := 4000000) only [push_cast, Int.reduceEq, Int.reduceBNe, Int.reduceBEq, Int.reduceAdd, Int.reduceSub, Int.reduceMul, Int.reduceNeg, Int.reduceLT, Int.reduceLE, Nat.reduceLT, Nat.reduceAdd, Nat.reduceSub, Nat.reduceMul, Nat.reduceEqDiff, Nat.reduceLeDiff, Nat.reduceBEq, reduceIte, reduceCtorEq]) ?_
  rintro sv post ⟨rfl, rfl⟩
  simp (maxSteps := 4000000) only [push_cast, Int.reduceEq, Int.reduceBNe, Int.reduceBEq, Int.reduceAdd, Int.reduceSub, Int.reduceMul, Int.reduceNeg, Int.reduceLT, Int.reduceLE, Nat.reduceLT, Nat.reduceAdd, Nat.reduceSub, Nat.reduceMul, Nat.reduceEqDiff, Nat.reduceLeDiff, Nat.reduceBEq, reduceIte, reduceCtorEq]
  exact Fin.nil rfl (psv := .b true) rfl ⟨rfl, rfl⟩
end Go.Proofs.Ytdbhgnjpjpmioaa
