/- Lines: the law's small functions. -/
import Derived.Test.YtdbhgnjpjpmioaaRl
namespace Go.Proofs.Ytdbhgnjpjpmioaa
open Go Go.Eng
set_option linter.unusedSimpArgs false
set_option linter.unusedVariables false
set_option maxRecDepth 100000

theorem sameBytes_c (l m : List Int) : Contract Try.prog 23 nilSS [.ints .u8 .old l, .ints .u8 .old m] (fun sv post => sv = .b (l == m) ∧ post = nilSS) := by
  refine contract_len 0 rfl fun hlen => ?_
  refine contract_ev Γok Try.func23 rfl rfl [] ?_
  simp (maxSteps := 4000000) only [push_cast, Int.reduceEq, Int.reduceBNe, Int.reduceBEq, Int.reduceAdd, Int.reduceSub, Int.reduceMul, Int.reduceNeg, Int.reduceLT, Int.reduceLE, Nat.reduceLT, Nat.reduceAdd, Nat.reduceSub, Nat.reduceMul, Nat.reduceEqDiff, Nat.reduceLeDiff, Nat.reduceBEq, reduceIte, reduceCtorEq, Try.f23]
  have no : ∀ (S : SS), S.k = 0 → l ≠ m → Fin (fun sv post => sv = .b (l == m) ∧ post = nilSS) (.b false) S := fun S hS h => Fin.nil hS (psv := .b false) rfl ⟨by rw [beq_eq_false_iff_ne.2 h], rfl⟩
  refine ⟨fun h1 => no _ rfl (by rintro rfl; exact h1 rfl), fun h1 => ?_⟩
  have hl : l.length = m.length := by omega
  refine loop_ok (ι := {i : Nat // i ≤ l.length ∧ l.take i = m.take i}) (fun i => ⟨[.ints .u8 .old l, .ints .u8 .old m, .any, .any, .any, .i .i64 i.1] ++ List.replicate 20 .any, [], [], [], 0, 0, []⟩) (fun i => l.length - i.1) ⟨0, by simp, by simp⟩ ?_ ?_
  · refine Sub.w [] ?_
    simp (maxSteps := 4000000) only [push_cast, Int.reduceEq, Int.reduceBNe, Int.reduceBEq, Int.reduceAdd, Int.reduceSub, Int.reduceMul, Int.reduceNeg, Int.reduceLT, Int.reduceLE, Nat.reduceLT, Nat.reduceAdd, Nat.reduceSub, Nat.reduceMul, Nat.reduceEqDiff, Nat.reduceLeDiff, Nat.reduceBEq, reduceIte, reduceCtorEq]
  · rintro ⟨i, hi, hp⟩
    refine evCode_sound Γok _ _ _ ?_
    simp (maxSteps := 4000000) only [push_cast, Int.reduceEq, Int.reduceBNe, Int.reduceBEq, Int.reduceAdd, Int.reduceSub, Int.reduceMul, Int.reduceNeg, Int.reduceLT, Int.reduceLE, Nat.reduceLT, Nat.reduceAdd, Nat.reduceSub, Nat.reduceMul, Nat.reduceEqDiff, Nat.reduceLeDiff, Nat.reduceBEq, reduceIte, reduceCtorEq]
    refine ⟨fun h2 => ?_, fun h2 => ?_⟩
    · have hi2 : i < l.length := by omega
      refine (region_plan rfl Γok mixed (.pure 0 (.pure 1 (.pure 2 (.pure 3 (.pure 4 (.pure 5 (.pure 6 (.pure 7 (.pure 8 .done))))))))) 26 rfl (by kernel_rfl) ?_)
      simp (maxSteps := 4000000) only [push_cast, Int.reduceEq, Int.reduceBNe, Int.reduceBEq, Int.reduceAdd, Int.reduceSub, Int.reduceMul, Int.reduceNeg, Int.reduceLT, Int.reduceLE, Nat.reduceLT, Nat.reduceAdd, Nat.reduceSub, Nat.reduceMul, Nat.reduceEqDiff, Nat.reduceLeDiff, Nat.reduceBEq, reduceIte, reduceCtorEq]
      have e1 : l.getD (i : Int).toNat 0 = l[i] := by simp [List.getD, hi2]
      have e2 : m.getD (i : Int).toNat 0 = m[i] := by simp [List.getD, hl ▸ hi2]
      rw [e1, e2]
      refine ⟨by omega, by omega, fun h3 => no _ rfl (by rintro rfl; exact h3 rfl), fun h3 => ⟨⟨i + 1, hi2, ?_⟩, ?_, Sub.w [] ?_⟩⟩
      · rw [List.take_succ_eq_append_getElem hi2, List.take_succ_eq_append_getElem (hl ▸ hi2), hp, h3]
      · simp only; omega
      · simp (maxSteps := 4000000) only [push_cast, Int.reduceEq, Int.reduceBNe, Int.reduceBEq, Int.reduceAdd, Int.reduceSub, Int.reduceMul, Int.reduceNeg, Int.reduceLT, Int.reduceLE, Nat.reduceLT, Nat.reduceAdd, Nat.reduceSub, Nat.reduceMul, Nat.reduceEqDiff, Nat.reduceLeDiff, Nat.reduceBEq, reduceIte, reduceCtorEq]
        rw [wrap64 (by omega) (by omega)]
    · have hi2 : i = l.length := by omega
      refine Fin.nil rfl (psv := .b true) rfl ⟨?_, rfl⟩
      subst hi2
      rw [List.take_length, hl, List.take_length] at hp
      simp [hp]

theorem num15_c (m : Int) : Contract Try.prog 21 nilSS [.i .i64 m] (fun sv post => sv = .i .i64 m ∧ post = nilSS) := by
  refine contract_ev Γok Try.func21 rfl rfl [] ?_
  simp (maxSteps := 4000000) only [push_cast, Int.reduceEq, Int.reduceBNe, Int.reduceBEq, Int.reduceAdd, Int.reduceSub, Int.reduceMul, Int.reduceNeg, Int.reduceLT, Int.reduceLE, Nat.reduceLT, Nat.reduceAdd, Nat.reduceSub, Nat.reduceMul, Nat.reduceEqDiff, Nat.reduceLeDiff, Nat.reduceBEq, reduceIte, reduceCtorEq, Try.f21]
  exact Fin.nil rfl (psv := .i .i64 _) ⟨rfl, rfl⟩ ⟨rfl, rfl⟩

theorem newSt_ok (r w : Bool) {m s : Int} (h : mayV m s = 0) : newSt r w m s = ⟨r, w, m, s, [], [], [], 0, false, false, false⟩ := if_pos h
theorem newSt_may (r w : Bool) {m s : Int} (h : mayV m s = 0) : (newSt r w m s).May := by
  obtain ⟨h1, h2, h3, h4⟩ := may_zero' h
  rw [newSt_ok r w h]
  exact ⟨h, by simp; omega, .inr rfl, by simp, by simp, .inl rfl, .inl ⟨rfl, rfl, rfl, rfl⟩⟩
theorem newSt_fits (r w : Bool) (m s : Int) : (newSt r w m s).fits := by
  unfold newSt
  split <;> exact ⟨by simp, by simp, by simp⟩

/-- A reader feeds a stream. -/
theorem reader_feeds (data : List Int) (b : Nat) : Feeds (readerM data b) (fun p => data.drop p.toNat) := by
  refine ⟨fun (p : Int) n ⟨h0, h0'⟩ h1 h2 => ?_⟩
  have hl := readV_len data p n h0 h0' (by omega)
  have e : someV (readerM data b) p n = (p + (readV data p n).length, readV data p n, 0) := by
    unfold someV
    refine (RawM.some.eq_2 (readerM data b) n p 8191).trans ?_
    rw [if_neg (by simp [readerM]), if_neg (by simp [readerM]), if_neg (by simp only [readerM]; omega)]
    rfl
  rw [e]
  refine ⟨rfl, ?_, fun h => ?_⟩
  · show readV data p n ++ data.drop (p + (readV data p n).length).toNat = data.drop p.toNat
    have : (p + (readV data p n).length).toNat = p.toNat + (readV data p n).length := by omega
    rw [this, ← List.drop_drop]
    unfold readV
    rw [List.length_take]
    by_cases hc : n.toNat ≤ (data.drop p.toNat).length
    · rw [Nat.min_eq_left hc]; exact List.take_append_drop _ _
    · rw [Nat.min_eq_right (by omega), List.take_of_length_le (by omega), List.drop_length, List.append_nil]
  · have h' : readV data p n = [] := h
    unfold readV at h'
    rw [List.take_eq_nil_iff] at h'
    rcases h' with h' | h'
    · omega
    · exact h'
theorem new_reads (data : List Int) (b : Nat) (w : Bool) {m s : Int} (h : mayV m s = 0) : Reads (readerM data b) (fun p => data.drop p.toNat) (newSt true w m s) (0 : Int) := by
  have e := newSt_ok true w h
  exact ⟨newSt_may true w h, by rw [e], by rw [e], by rw [e]; simp, by rw [e], by rw [e], by rw [e]; simp, ⟨by simp, by simp⟩⟩

/-- Where the examples lead. -/
def exSt (i : List Int) (en : Bool) : St := ⟨true, false, 3, 4, [], i, [], 1, en, false, false⟩
theorem ex1 (b : Nat) : (newSt true false 3 4).Until (readerM [97, 98, 10, 99, 100] b) (0 : Int) 10 9 = (exSt [99] false, (4 : Int), [97, 98, 10], 0) := by kernel_rfl
theorem ex2 (b : Nat) : (exSt [99] false).Until (readerM [97, 98, 10, 99, 100] b) (4 : Int) 10 1 = (exSt [] false, (4 : Int), [99], 0) := by kernel_rfl
theorem ex3 (b : Nat) : (exSt [] false).Until (readerM [97, 98, 10, 99, 100] b) (4 : Int) 10 9 = (exSt [] true, (5 : Int), [100], 0) := by kernel_rfl
theorem ex4 (b : Nat) : (exSt [] true).Until (readerM [97, 98, 10, 99, 100] b) (5 : Int) 10 9 = (exSt [] true, (5 : Int), [], 111) := by kernel_rfl
end Go.Proofs.Ytdbhgnjpjpmioaa
