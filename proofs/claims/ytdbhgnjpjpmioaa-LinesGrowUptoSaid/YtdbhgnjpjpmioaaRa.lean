/- Raws by what they answer; the tries over one. -/
import Derived.Test.YtdbhgnjpjpmioaaTab
import Derived.Test.YtdbhgnjpjpmioaaCa
namespace Go.Proofs.Ytdbhgnjpjpmioaa
open Go Go.Eng
set_option linter.unusedSimpArgs false
set_option linter.unusedVariables false
set_option maxRecDepth 100000

theorem bclone_c (l : List Int) (hl : l.length ≤ 140737488355328) : Contract Try.prog 58 nilSS [.ints .u8 .old l] (fun sv post => sv = .ints .u8 (.tok 0 true) l ∧ post = ⟨[], [], [0], [], 1, 0, []⟩) := by
  refine contract_ev Γok Try.func58 rfl rfl [] ?_
  simp (maxSteps := 4000000) only [push_cast, Int.reduceEq, Int.reduceBNe, Int.reduceBEq, Int.reduceAdd, Int.reduceSub, Int.reduceMul, Int.reduceNeg, Int.reduceLT, Int.reduceLE, Nat.reduceLT, Nat.reduceAdd, Nat.reduceSub, Nat.reduceMul, Nat.reduceEqDiff, Nat.reduceLeDiff, Nat.reduceBEq, reduceIte, reduceCtorEq, Try.f58]
  rintro c hc
  refine ⟨fun h => ?_, fun h => ⟨by omega, Fin.w [1] _ _ (by simp (maxSteps := 4000000) only [push_cast, Int.reduceEq, Int.reduceBNe, Int.reduceBEq, Int.reduceAdd, Int.reduceSub, Int.reduceMul, Int.reduceNeg, Int.reduceLT, Int.reduceLE, Nat.reduceLT, Nat.reduceAdd, Nat.reduceSub, Nat.reduceMul, Nat.reduceEqDiff, Nat.reduceLeDiff, Nat.reduceBEq, reduceIte, reduceCtorEq]) ⟨rfl, rfl⟩⟩⟩
  have hn := hc h
  subst hn
  exact Fin.wt [0] (.ints .u8 (.tok 0 true) []) ⟨[], [], [0], [], 1, 0, []⟩ (by simp (maxSteps := 4000000) only [push_cast, Int.reduceEq, Int.reduceBNe, Int.reduceBEq, Int.reduceAdd, Int.reduceSub, Int.reduceMul, Int.reduceNeg, Int.reduceLT, Int.reduceLE, Nat.reduceLT, Nat.reduceAdd, Nat.reduceSub, Nat.reduceMul, Nat.reduceEqDiff, Nat.reduceLeDiff, Nat.reduceBEq, reduceIte, reduceCtorEq]) ⟨rfl, rfl⟩

theorem passing_c (e : Int) : Contract Try.prog 70 nilSS [.i .i64 e] (fun sv post => sv = .b (e == 22 || e == 23) ∧ post = nilSS) := by
  refine contract_ev Γok Try.func70 rfl rfl [] ?_
  simp (maxSteps := 4000000) only [push_cast, Int.reduceEq, Int.reduceBNe, Int.reduceBEq, Int.reduceAdd, Int.reduceSub, Int.reduceMul, Int.reduceNeg, Int.reduceLT, Int.reduceLE, Nat.reduceLT, Nat.reduceAdd, Nat.reduceSub, Nat.reduceMul, Nat.reduceEqDiff, Nat.reduceLeDiff, Nat.reduceBEq, reduceIte, reduceCtorEq, Try.f70]
  exact Fin.nil rfl (psv := .b _) rfl ⟨rfl, rfl⟩

theorem out_c (T : TypeId) (p : Int) (h1 : 0 ≤ p) (h2 : p ≤ 100000) : Contract Try.prog 71 ⟨[], [(0, T, [.i .i64 p])], [], [], 1, 1, []⟩ [.ptr 0 0] (fun sv post => sv = .b (decide (8192 ≤ p + 1)) ∧ post = ⟨[], [(0, T, [.i .i64 (p + 1)])], [], [], 1, 1, []⟩) := by
  refine contract_ev Γok Try.func71 rfl rfl [] ?_
  simp (maxSteps := 4000000) only [push_cast, Int.reduceEq, Int.reduceBNe, Int.reduceBEq, Int.reduceAdd, Int.reduceSub, Int.reduceMul, Int.reduceNeg, Int.reduceLT, Int.reduceLE, Nat.reduceLT, Nat.reduceAdd, Nat.reduceSub, Nat.reduceMul, Nat.reduceEqDiff, Nat.reduceLeDiff, Nat.reduceBEq, reduceIte, reduceCtorEq, Try.f71]
  rw [wrap64 (n := p + 1) (by omega) (by omega)]
  exact Fin.w [0] _ _ (by simp (maxSteps := 4000000) only [push_cast, Int.reduceEq, Int.reduceBNe, Int.reduceBEq, Int.reduceAdd, Int.reduceSub, Int.reduceMul, Int.reduceNeg, Int.reduceLT, Int.reduceLE, Nat.reduceLT, Nat.reduceAdd, Nat.reduceSub, Nat.reduceMul, Nat.reduceEqDiff, Nat.reduceLeDiff, Nat.reduceBEq, reduceIte, reduceCtorEq]) ⟨rfl, rfl⟩

/-- A Raw: what it holds, by states; what it answers. -/
structure RawM where
  σ : Type
  t : TypeId
  y : Value
  res : σ → Res
  ok : σ → Prop
  rd : σ → Int → σ × List Int × Int
  wr : σ → List Int → σ × Int × Int
  sk : σ → Int → Int → σ × Int × Int
  rm : σ → Nat := fun _ => 1125899906842624
/-- As an interface value. -/
def RawM.v (M : RawM) : SV := .ifc M.t (.raw M.y)
structure RawM.Rd (M : RawM) : Prop where
  keep : ∀ s n, M.ok s → 1 ≤ n → n ≤ 1048576 → M.ok (M.rd s n).1
  run : ∀ s n, M.ok s → 1 ≤ n → n ≤ 1048576 → InvC Try.prog M.t M.y "Read" (preR (M.res s)) [.i .i64 n] (fun sv post => sv = .tup [.ints .u8 .old (M.rd s n).2.1, .i .i64 (M.rd s n).2.2] ∧ post = preR (M.res (M.rd s n).1))
structure RawM.Wr (M : RawM) : Prop where
  nil : NilOK Try.prog "Write" M.v
  keep : ∀ s l, M.ok s → l ≠ [] → l.length ≤ 1048576 → l.length ≤ M.rm s → M.ok (M.wr s l).1 ∧ M.rm s ≤ M.rm (M.wr s l).1 + (if (M.wr s l).2.2 = 0 ∧ (M.wr s l).2.1 ≤ l.length then (M.wr s l).2.1.toNat else 0)
  run : ∀ s l, M.ok s → l ≠ [] → l.length ≤ 1048576 → l.length ≤ M.rm s → InvC Try.prog M.t M.y "Write" (preR (M.res s)) [.ints .u8 .old l] (fun sv post => sv = .tup [.i .i64 (M.wr s l).2.1, .i .i64 (M.wr s l).2.2] ∧ post = preR (M.res (M.wr s l).1))
structure RawM.Sk (M : RawM) : Prop where
  keep : ∀ s o w, M.ok s → M.ok (M.sk s o w).1
  run : ∀ s o w, M.ok s → InvC Try.prog M.t M.y "Seek" (preR (M.res s)) [.i .i64 o, .i .i64 w] (fun sv post => sv = .tup [.i .i64 (M.sk s o w).2.1, .i .i64 (M.sk s o w).2.2] ∧ post = preR (M.res (M.sk s o w).1))

/-- A read that is tried. -/
def RawM.some (M : RawM) (n : Int) : Nat → M.σ → M.σ × List Int × Int
  | 0, g => (g, [], 81)
  | k + 1, g =>
    if (M.rd g n).2.2 = 22 ∨ (M.rd g n).2.2 = 23 then (if k = 0 then ((M.rd g n).1, [], 81) else M.some n k (M.rd g n).1)
    else if (M.rd g n).2.2 ≠ 0 then ((M.rd g n).1, [], (M.rd g n).2.2)
    else if n < (M.rd g n).2.1.length then ((M.rd g n).1, [], 82)
    else ((M.rd g n).1, (M.rd g n).2.1, 0)
def someV (M : RawM) (g : M.σ) (n : Int) : M.σ × List Int × Int := M.some n 8192 g

theorem RawM.some_ok (M : RawM) (hR : M.Rd) (n : Int) (h1 : 1 ≤ n) (h2 : n ≤ 1048576) : ∀ (k : Nat) (g : M.σ), M.ok g → M.ok (M.some n k g).1
  | 0, g, h => h
  | k + 1, g, h => by
    have hk := hR.keep g n h h1 h2
    simp only [RawM.some]
    split
    · split
      · exact hk
      · exact M.some_ok hR n h1 h2 k _ hk
    · split
      · exact hk
      · split <;> exact hk
theorem someV_len (M : RawM) (n : Int) (h1 : 1 ≤ n) : ∀ (k : Nat) (g : M.σ), (M.some n k g).2.1.length ≤ n
  | 0, g => by simp [RawM.some]; omega
  | k + 1, g => by
    simp only [RawM.some]
    split
    · split
      · simp; omega
      · exact someV_len M n h1 k _
    · split
      · simp; omega
      · split
        · simp; omega
        · simp; omega
theorem someV_err (M : RawM) (n : Int) : ∀ (k : Nat) (g : M.σ), (M.some n k g).2.2 ≠ 0 → (M.some n k g).2.1 = []
  | 0, g, _ => rfl
  | k + 1, g, h => by
    simp only [RawM.some] at h ⊢
    split
    · split
      · rfl
      · rename_i h1 h2
        rw [if_pos h1, if_neg h2] at h
        exact someV_err M n k _ h
    · rename_i h1
      rw [if_neg h1] at h
      split
      · rfl
      · rename_i h2
        rw [if_neg h2] at h
        split
        · rfl
        · rename_i h3
          rw [if_neg h3] at h
          exact absurd rfl h

theorem someR_c (M : RawM) (hR : M.Rd) (g : M.σ) (hg : M.ok g) (n : Int) (h1 : 1 ≤ n) (h2 : n ≤ 1048576) :
    Contract Try.prog 82 (preR (M.res g)) [M.v, .i .i64 n]
      (fun sv post => sv = .tup [.ints .u8 .old (someV M g n).2.1, .i .i64 (someV M g n).2.2] ∧ post = preR (M.res (someV M g n).1)) := by
  refine contract_ev Γok Try.func82 rfl rfl [] ?_
  simp (maxSteps := 4000000) only [push_cast, Int.reduceEq, Int.reduceBNe, Int.reduceBEq, Int.reduceAdd, Int.reduceSub, Int.reduceMul, Int.reduceNeg, Int.reduceLT, Int.reduceLE, Nat.reduceLT, Nat.reduceAdd, Nat.reduceSub, Nat.reduceMul, Nat.reduceEqDiff, Nat.reduceLeDiff, Nat.reduceBEq, reduceIte, reduceCtorEq, Try.f82, RawM.v]
  refine ⟨fun h => by omega, fun h => ?_⟩
  refine loop_ok (ι := {x : Nat × M.σ // x.1 < 8192 ∧ M.ok x.2 ∧ M.some n (x.1 + 1) x.2 = someV M g n}) (fun x => ⟨[M.v, .i .i64 n, .any, .any, .ints .u8 .old [], .i .i64 0, .ptr 1 0] ++ List.replicate 30 .any, [(1, 124, [.i .i64 (8191 - x.1.1)])], [], [(0, M.res x.1.2)], 2, 1, []⟩) (fun x => x.1.1) ⟨(8191, g), by omega, hg, rfl⟩ ?_ ?_
  · refine Sub.w [0, 1] ?_
    simp (maxSteps := 4000000) only [push_cast, Int.reduceEq, Int.reduceBNe, Int.reduceBEq, Int.reduceAdd, Int.reduceSub, Int.reduceMul, Int.reduceNeg, Int.reduceLT, Int.reduceLE, Nat.reduceLT, Nat.reduceAdd, Nat.reduceSub, Nat.reduceMul, Nat.reduceEqDiff, Nat.reduceLeDiff, Nat.reduceBEq, reduceIte, reduceCtorEq, RawM.v]
  · rintro ⟨⟨k, g'⟩, hk, hok, he⟩
    simp only at hk hok he
    refine evCode_sound Γok _ _ _ ?_
    simp (maxSteps := 4000000) only [push_cast, Int.reduceEq, Int.reduceBNe, Int.reduceBEq, Int.reduceAdd, Int.reduceSub, Int.reduceMul, Int.reduceNeg, Int.reduceLT, Int.reduceLE, Nat.reduceLT, Nat.reduceAdd, Nat.reduceSub, Nat.reduceMul, Nat.reduceEqDiff, Nat.reduceLeDiff, Nat.reduceBEq, reduceIte, reduceCtorEq, RawM.v]
    refine inv_w (hR.run g' n hok h1 h2) [0] (by simp (maxSteps := 4000000) only [push_cast, Int.reduceEq, Int.reduceBNe, Int.reduceBEq, Int.reduceAdd, Int.reduceSub, Int.reduceMul, Int.reduceNeg, Int.reduceLT, Int.reduceLE, Nat.reduceLT, Nat.reduceAdd, Nat.reduceSub, Nat.reduceMul, Nat.reduceEqDiff, Nat.reduceLeDiff, Nat.reduceBEq, reduceIte, reduceCtorEq]) ?_
    rintro sv post ⟨rfl, rfl⟩
    simp (maxSteps := 4000000) only [push_cast, Int.reduceEq, Int.reduceBNe, Int.reduceBEq, Int.reduceAdd, Int.reduceSub, Int.reduceMul, Int.reduceNeg, Int.reduceLT, Int.reduceLE, Nat.reduceLT, Nat.reduceAdd, Nat.reduceSub, Nat.reduceMul, Nat.reduceEqDiff, Nat.reduceLeDiff, Nat.reduceBEq, reduceIte, reduceCtorEq]
    refine call_w (passing_c (M.rd g' n).2.2) [] (by simp (maxSteps := 4000000) only [push_cast, Int.reduceEq, Int.reduceBNe, Int.reduceBEq, Int.reduceAdd, Int.reduceSub, Int.reduceMul, Int.reduceNeg, Int.reduceLT, Int.reduceLE, Nat.reduceLT, Nat.reduceAdd, Nat.reduceSub, Nat.reduceMul, Nat.reduceEqDiff, Nat.reduceLeDiff, Nat.reduceBEq, reduceIte, reduceCtorEq]) ?_
    rintro sv post ⟨rfl, rfl⟩
    simp (maxSteps := 4000000) only [push_cast, Int.reduceEq, Int.reduceBNe, Int.reduceBEq, Int.reduceAdd, Int.reduceSub, Int.reduceMul, Int.reduceNeg, Int.reduceLT, Int.reduceLE, Nat.reduceLT, Nat.reduceAdd, Nat.reduceSub, Nat.reduceMul, Nat.reduceEqDiff, Nat.reduceLeDiff, Nat.reduceBEq, reduceIte, reduceCtorEq]
    have hkeep := hR.keep g' n hok h1 h2
    simp only [RawM.some] at he
    refine ⟨fun hp => ?_, fun hp => ?_⟩
    · rw [if_pos hp] at he
      refine call_w (out_c 124 (8191 - k) (by omega) (by omega)) [1] (by simp (maxSteps := 4000000) only [push_cast, Int.reduceEq, Int.reduceBNe, Int.reduceBEq, Int.reduceAdd, Int.reduceSub, Int.reduceMul, Int.reduceNeg, Int.reduceLT, Int.reduceLE, Nat.reduceLT, Nat.reduceAdd, Nat.reduceSub, Nat.reduceMul, Nat.reduceEqDiff, Nat.reduceLeDiff, Nat.reduceBEq, reduceIte, reduceCtorEq]) ?_
      rintro sv post ⟨rfl, rfl⟩
      simp (maxSteps := 4000000) only [push_cast, Int.reduceEq, Int.reduceBNe, Int.reduceBEq, Int.reduceAdd, Int.reduceSub, Int.reduceMul, Int.reduceNeg, Int.reduceLT, Int.reduceLE, Nat.reduceLT, Nat.reduceAdd, Nat.reduceSub, Nat.reduceMul, Nat.reduceEqDiff, Nat.reduceLeDiff, Nat.reduceBEq, reduceIte, reduceCtorEq]
      refine ⟨fun hq => ?_, fun hq => ?_⟩
      · rw [if_pos (by omega)] at he
        rw [← he]
        exact Fin.w [0] (.tup [.ints .u8 .old [], .i .i64 81]) _ (by simp (maxSteps := 4000000) only [push_cast, Int.reduceEq, Int.reduceBNe, Int.reduceBEq, Int.reduceAdd, Int.reduceSub, Int.reduceMul, Int.reduceNeg, Int.reduceLT, Int.reduceLE, Nat.reduceLT, Nat.reduceAdd, Nat.reduceSub, Nat.reduceMul, Nat.reduceEqDiff, Nat.reduceLeDiff, Nat.reduceBEq, reduceIte, reduceCtorEq]) ⟨rfl, rfl⟩
      · rw [if_neg (by omega)] at he
        obtain ⟨k', rfl⟩ : ∃ k', k = k' + 1 := ⟨k - 1, by omega⟩
        refine ⟨⟨(k', (M.rd g' n).1), by omega, hkeep, he⟩, by simp only; omega, Sub.w [0, 1] ?_⟩
        simp (maxSteps := 4000000) only [push_cast, Int.reduceEq, Int.reduceBNe, Int.reduceBEq, Int.reduceAdd, Int.reduceSub, Int.reduceMul, Int.reduceNeg, Int.reduceLT, Int.reduceLE, Nat.reduceLT, Nat.reduceAdd, Nat.reduceSub, Nat.reduceMul, Nat.reduceEqDiff, Nat.reduceLeDiff, Nat.reduceBEq, reduceIte, reduceCtorEq, RawM.v]
        omega
    · rw [if_neg (by omega)] at he
      refine ⟨fun hq => ?_, fun hq => ⟨fun hr => ?_, fun hr => ?_⟩⟩
      · rw [if_pos hq] at he
        rw [← he]
        exact Fin.w [0] (.tup [.ints .u8 .old [], .i .i64 _]) _ (by simp (maxSteps := 4000000) only [push_cast, Int.reduceEq, Int.reduceBNe, Int.reduceBEq, Int.reduceAdd, Int.reduceSub, Int.reduceMul, Int.reduceNeg, Int.reduceLT, Int.reduceLE, Nat.reduceLT, Nat.reduceAdd, Nat.reduceSub, Nat.reduceMul, Nat.reduceEqDiff, Nat.reduceLeDiff, Nat.reduceBEq, reduceIte, reduceCtorEq]) ⟨rfl, rfl⟩
      · rw [if_neg (by omega), if_pos hr] at he
        rw [← he]
        exact Fin.w [0] (.tup [.ints .u8 .old [], .i .i64 82]) _ (by simp (maxSteps := 4000000) only [push_cast, Int.reduceEq, Int.reduceBNe, Int.reduceBEq, Int.reduceAdd, Int.reduceSub, Int.reduceMul, Int.reduceNeg, Int.reduceLT, Int.reduceLE, Nat.reduceLT, Nat.reduceAdd, Nat.reduceSub, Nat.reduceMul, Nat.reduceEqDiff, Nat.reduceLeDiff, Nat.reduceBEq, reduceIte, reduceCtorEq]) ⟨rfl, rfl⟩
      · rw [if_neg (by omega), if_neg (by omega)] at he
        rw [← he]
        exact Fin.w [0] (.tup [.ints .u8 .old _, .i .i64 0]) _ (by simp (maxSteps := 4000000) only [push_cast, Int.reduceEq, Int.reduceBNe, Int.reduceBEq, Int.reduceAdd, Int.reduceSub, Int.reduceMul, Int.reduceNeg, Int.reduceLT, Int.reduceLE, Nat.reduceLT, Nat.reduceAdd, Nat.reduceSub, Nat.reduceMul, Nat.reduceEqDiff, Nat.reduceLeDiff, Nat.reduceBEq, reduceIte, reduceCtorEq]) ⟨rfl, rfl⟩
end Go.Proofs.Ytdbhgnjpjpmioaa
