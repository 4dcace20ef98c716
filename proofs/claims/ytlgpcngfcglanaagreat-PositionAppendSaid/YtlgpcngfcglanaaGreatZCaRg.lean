/- Texts joined, in order: Ca, Ra, Rb, Rc, Rd, Re, Rf, Rg. -/
import Derived.Test.YtlgpcngfcglanaaGreatZEmGg
import Derived.Test.YtlgpcngfcglanaaGreatZGeTab
/- Contracts of the small functions of the buffer's mode. -/
namespace Go.Proofs.YtlgpcngfcglanaaGreat
open Go Go.Eng
set_option maxHeartbeats 4000000
set_option linter.unusedSimpArgs false
set_option linter.unusedVariables false
set_option maxRecDepth 100000

def mayV (m s : Int) : Int := if m < 1 ∨ 3 < m then 1 else if s < 1 ∨ 65536 < s then 4 else 0



theorem mixed : Tryz.prog.follows .mixedOrders = true := by kernel_rfl

end Go.Proofs.YtlgpcngfcglanaaGreat
/- Raws by what they answer; the tries over one. -/
namespace Go.Proofs.YtlgpcngfcglanaaGreat
open Go Go.Eng
set_option maxHeartbeats 4000000
set_option linter.unusedSimpArgs false
set_option linter.unusedVariables false
set_option maxRecDepth 100000

theorem bclone_c (l : List Int) (hl : l.length ≤ 140737488355328) : Contract Tryz.prog 51 nilSS [.ints .u8 .old l] (fun sv post => sv = .ints .u8 (.tok 0 true) l ∧ post = ⟨[], [], [0], [], 1, 0, []⟩) := by
  refine contract_ev Γok Tryz.func51 rfl rfl [] ?_
  simp (maxSteps := 4000000) only [push_cast, Int.reduceEq, Int.reduceBNe, Int.reduceBEq, Int.reduceAdd, Int.reduceSub, Int.reduceMul, Int.reduceNeg, Int.reduceLT, Int.reduceLE, Int.reduceToNat, Nat.reduceLT, Nat.reduceAdd, Nat.reduceSub, Nat.reduceMul, Nat.reduceEqDiff, Nat.reduceLeDiff, Nat.reduceBEq, reduceIte, reduceCtorEq, Tryz.f51]
  rintro c hc
  refine ⟨fun h => ?_, fun h => ⟨by omega, Fin.w [1] _ _ (by simp (maxSteps := 4000000) only [push_cast, Int.reduceEq, Int.reduceBNe, Int.reduceBEq, Int.reduceAdd, Int.reduceSub, Int.reduceMul, Int.reduceNeg, Int.reduceLT, Int.reduceLE, Int.reduceToNat, Nat.reduceLT, Nat.reduceAdd, Nat.reduceSub, Nat.reduceMul, Nat.reduceEqDiff, Nat.reduceLeDiff, Nat.reduceBEq, reduceIte, reduceCtorEq]) ⟨rfl, rfl⟩⟩⟩
  have hn := hc h
  subst hn
  exact Fin.wt [0] (.ints .u8 (.tok 0 true) []) ⟨[], [], [0], [], 1, 0, []⟩ (by simp (maxSteps := 4000000) only [push_cast, Int.reduceEq, Int.reduceBNe, Int.reduceBEq, Int.reduceAdd, Int.reduceSub, Int.reduceMul, Int.reduceNeg, Int.reduceLT, Int.reduceLE, Int.reduceToNat, Nat.reduceLT, Nat.reduceAdd, Nat.reduceSub, Nat.reduceMul, Nat.reduceEqDiff, Nat.reduceLeDiff, Nat.reduceBEq, reduceIte, reduceCtorEq]) ⟨rfl, rfl⟩

theorem passing_c (e : Int) : Contract Tryz.prog 93 nilSS [.i .i64 e] (fun sv post => sv = .b (e == 22 || e == 23) ∧ post = nilSS) := by
  refine contract_ev Γok Tryz.func93 rfl rfl [] ?_
  simp (maxSteps := 4000000) only [push_cast, Int.reduceEq, Int.reduceBNe, Int.reduceBEq, Int.reduceAdd, Int.reduceSub, Int.reduceMul, Int.reduceNeg, Int.reduceLT, Int.reduceLE, Int.reduceToNat, Nat.reduceLT, Nat.reduceAdd, Nat.reduceSub, Nat.reduceMul, Nat.reduceEqDiff, Nat.reduceLeDiff, Nat.reduceBEq, reduceIte, reduceCtorEq, Tryz.f93]
  exact Fin.nil rfl (psv := .b _) rfl ⟨rfl, rfl⟩

theorem out_c (T : TypeId) (p : Int) (h1 : 0 ≤ p) (h2 : p ≤ 100000) (hT : T < 1000000 := by decide) : Contract Tryz.prog 94 ⟨[], [(0, T, [.i .i64 p])], [], [], 1, 1, []⟩ [.ptr 0 0] (fun sv post => sv = .b (decide (8192 ≤ p + 1)) ∧ post = ⟨[], [(0, T, [.i .i64 (p + 1)])], [], [], 1, 1, []⟩) := by
  refine contract_ev Γok Tryz.func94 rfl rfl [] ?_
  simp (maxSteps := 4000000) only [push_cast, Int.reduceEq, Int.reduceBNe, Int.reduceBEq, Int.reduceAdd, Int.reduceSub, Int.reduceMul, Int.reduceNeg, Int.reduceLT, Int.reduceLE, Int.reduceToNat, Nat.reduceLT, Nat.reduceAdd, Nat.reduceSub, Nat.reduceMul, Nat.reduceEqDiff, Nat.reduceLeDiff, Nat.reduceBEq, reduceIte, reduceCtorEq, hT, Tryz.f94]
  rw [wrap64 (n := p + 1) (by omega) (by omega)]
  exact Fin.w [0] _ _ (by simp (maxSteps := 4000000) only [push_cast, Int.reduceEq, Int.reduceBNe, Int.reduceBEq, Int.reduceAdd, Int.reduceSub, Int.reduceMul, Int.reduceNeg, Int.reduceLT, Int.reduceLE, Int.reduceToNat, Nat.reduceLT, Nat.reduceAdd, Nat.reduceSub, Nat.reduceMul, Nat.reduceEqDiff, Nat.reduceLeDiff, Nat.reduceBEq, reduceIte, reduceCtorEq, hT]) ⟨rfl, rfl⟩

/-- A Raw: what it holds, by states; what it answers. -/
structure RawM where
  σ : Type
  t : TypeId
  y : Value
  res : σ → Res
  ok : σ → Prop
  rd : σ → Int → σ × List Int × Int
  wr : σ → List Int → σ × Int × Int
  sk : σ → Int → Int → σ × Int × Int
  rm : σ → Nat := fun _ => 1125899906842624
/-- As an interface value. -/
def RawM.v (M : RawM) : SV := .ifc M.t (.raw M.y)
structure RawM.Rd (M : RawM) : Prop where
  keep : ∀ s n, M.ok s → 1 ≤ n → n ≤ 1048576 → M.ok (M.rd s n).1
  run : ∀ s n, M.ok s → 1 ≤ n → n ≤ 1048576 → InvC Tryz.prog M.t M.y "Read" (preR (M.res s)) [.i .i64 n] (fun sv post => sv = .tup [.ints .u8 .old (M.rd s n).2.1, .i .i64 (M.rd s n).2.2] ∧ post = preR (M.res (M.rd s n).1))
structure RawM.Wr (M : RawM) : Prop where
  nil : NilOK Tryz.prog "Write" M.v
  keep : ∀ s l, M.ok s → l ≠ [] → l.length ≤ 1048576 → l.length ≤ M.rm s → M.ok (M.wr s l).1 ∧ M.rm s ≤ M.rm (M.wr s l).1 + (if (M.wr s l).2.2 = 0 ∧ (M.wr s l).2.1 ≤ l.length then (M.wr s l).2.1.toNat else 0)
  run : ∀ s l, M.ok s → l ≠ [] → l.length ≤ 1048576 → l.length ≤ M.rm s → InvC Tryz.prog M.t M.y "Write" (preR (M.res s)) [.ints .u8 .old l] (fun sv post => sv = .tup [.i .i64 (M.wr s l).2.1, .i .i64 (M.wr s l).2.2] ∧ post = preR (M.res (M.wr s l).1))
structure RawM.Sk (M : RawM) : Prop where
  keep : ∀ s o w, M.ok s → M.ok (M.sk s o w).1
  run : ∀ s o w, M.ok s → InvC Tryz.prog M.t M.y "Seek" (preR (M.res s)) [.i .i64 o, .i .i64 w] (fun sv post => sv = .tup [.i .i64 (M.sk s o w).2.1, .i .i64 (M.sk s o w).2.2] ∧ post = preR (M.res (M.sk s o w).1))

/-- A read that is tried. -/
def RawM.some (M : RawM) (n : Int) : Nat → M.σ → M.σ × List Int × Int
  | 0, g => (g, [], 81)
  | k + 1, g =>
    if (M.rd g n).2.2 = 22 ∨ (M.rd g n).2.2 = 23 then (if k = 0 then ((M.rd g n).1, [], 81) else M.some n k (M.rd g n).1)
    else if (M.rd g n).2.2 ≠ 0 then ((M.rd g n).1, [], (M.rd g n).2.2)
    else if n < (M.rd g n).2.1.length then ((M.rd g n).1, [], 82)
    else ((M.rd g n).1, (M.rd g n).2.1, 0)
def someV (M : RawM) (g : M.σ) (n : Int) : M.σ × List Int × Int := M.some n 8192 g

theorem RawM.some_ok (M : RawM) (hR : M.Rd) (n : Int) (h1 : 1 ≤ n) (h2 : n ≤ 1048576) : ∀ (k : Nat) (g : M.σ), M.ok g → M.ok (M.some n k g).1
  | 0, g, h => h
  | k + 1, g, h => by
    have hk := hR.keep g n h h1 h2
    simp only [RawM.some]
    split
    · split
      · exact hk
      · exact M.some_ok hR n h1 h2 k _ hk
    · split
      · exact hk
      · split <;> exact hk
theorem someV_len (M : RawM) (n : Int) (h1 : 1 ≤ n) : ∀ (k : Nat) (g : M.σ), (M.some n k g).2.1.length ≤ n
  | 0, g => by simp [RawM.some]; omega
  | k + 1, g => by
    simp only [RawM.some]
    split
    · split
      · simp; omega
      · exact someV_len M n h1 k _
    · split
      · simp; omega
      · split
        · simp; omega
        · simp; omega
theorem someV_err (M : RawM) (n : Int) : ∀ (k : Nat) (g : M.σ), (M.some n k g).2.2 ≠ 0 → (M.some n k g).2.1 = []
  | 0, g, _ => rfl
  | k + 1, g, h => by
    simp only [RawM.some] at h ⊢
    split
    · split
      · rfl
      · rename_i h1 h2
        rw [if_pos h1, if_neg h2] at h
        exact someV_err M n k _ h
    · rename_i h1
      rw [if_neg h1] at h
      split
      · rfl
      · rename_i h2
        rw [if_neg h2] at h
        split
        · rfl
        · rename_i h3
          rw [if_neg h3] at h
          exact absurd rfl h

theorem someR_c (M : RawM) (hR : M.Rd) (g : M.σ) (hg : M.ok g) (n : Int) (h1 : 1 ≤ n) (h2 : n ≤ 1048576) :
    Contract Tryz.prog 92 (preR (M.res g)) [M.v, .i .i64 n]
      (fun sv post => sv = .tup [.ints .u8 .old (someV M g n).2.1, .i .i64 (someV M g n).2.2] ∧ post = preR (M.res (someV M g n).1)) := by
  refine contract_ev Γok Tryz.func92 rfl rfl [] ?_
  simp (maxSteps := 4000000) only [push_cast, Int.reduceEq, Int.reduceBNe, Int.reduceBEq, Int.reduceAdd, Int.reduceSub, Int.reduceMul, Int.reduceNeg, Int.reduceLT, Int.reduceLE, Int.reduceToNat, Nat.reduceLT, Nat.reduceAdd, Nat.reduceSub, Nat.reduceMul, Nat.reduceEqDiff, Nat.reduceLeDiff, Nat.reduceBEq, reduceIte, reduceCtorEq, Tryz.f92, RawM.v]
  refine ⟨fun h => by omega, fun h => ?_⟩
  refine loop_ok (ι := {x : Nat × M.σ // x.1 < 8192 ∧ M.ok x.2 ∧ M.some n (x.1 + 1) x.2 = someV M g n}) (fun x => ⟨[M.v, .i .i64 n, .any, .any, .ints .u8 .old [], .i .i64 0, .ptr 1 0] ++ List.replicate 30 .any, [(1, 222, [.i .i64 (8191 - x.1.1)])], [], [(0, M.res x.1.2)], 2, 1, []⟩) (fun x => x.1.1) ⟨(8191, g), by omega, hg, rfl⟩ ?_ ?_
  · refine Sub.w [0, 1] ?_
    simp (maxSteps := 4000000) only [push_cast, Int.reduceEq, Int.reduceBNe, Int.reduceBEq, Int.reduceAdd, Int.reduceSub, Int.reduceMul, Int.reduceNeg, Int.reduceLT, Int.reduceLE, Int.reduceToNat, Nat.reduceLT, Nat.reduceAdd, Nat.reduceSub, Nat.reduceMul, Nat.reduceEqDiff, Nat.reduceLeDiff, Nat.reduceBEq, reduceIte, reduceCtorEq, RawM.v]
  · rintro ⟨⟨k, g'⟩, hk, hok, he⟩
    simp only at hk hok he
    refine evCode_sound Γok _ _ _ ?_
    simp (maxSteps := 4000000) only [push_cast, Int.reduceEq, Int.reduceBNe, Int.reduceBEq, Int.reduceAdd, Int.reduceSub, Int.reduceMul, Int.reduceNeg, Int.reduceLT, Int.reduceLE, Int.reduceToNat, Nat.reduceLT, Nat.reduceAdd, Nat.reduceSub, Nat.reduceMul, Nat.reduceEqDiff, Nat.reduceLeDiff, Nat.reduceBEq, reduceIte, reduceCtorEq, RawM.v]
    refine inv_w (hR.run g' n hok h1 h2) [0] (by simp (maxSteps := 4000000) only [push_cast, Int.reduceEq, Int.reduceBNe, Int.reduceBEq, Int.reduceAdd, Int.reduceSub, Int.reduceMul, Int.reduceNeg, Int.reduceLT, Int.reduceLE, Int.reduceToNat, Nat.reduceLT, Nat.reduceAdd, Nat.reduceSub, Nat.reduceMul, Nat.reduceEqDiff, Nat.reduceLeDiff, Nat.reduceBEq, reduceIte, reduceCtorEq]) ?_
    rintro sv post ⟨rfl, rfl⟩
    simp (maxSteps := 4000000) only [push_cast, Int.reduceEq, Int.reduceBNe, Int.reduceBEq, Int.reduceAdd, Int.reduceSub, Int.reduceMul, Int.reduceNeg, Int.reduceLT, Int.reduceLE, Int.reduceToNat, Nat.reduceLT, Nat.reduceAdd, Nat.reduceSub, Nat.reduceMul, Nat.reduceEqDiff, Nat.reduceLeDiff, Nat.reduceBEq, reduceIte, reduceCtorEq]
    refine call_w (passing_c (M.rd g' n).2.2) [] (by simp (maxSteps := 4000000) only [push_cast, Int.reduceEq, Int.reduceBNe, Int.reduceBEq, Int.reduceAdd, Int.reduceSub, Int.reduceMul, Int.reduceNeg, Int.reduceLT, Int.reduceLE, Int.reduceToNat, Nat.reduceLT, Nat.reduceAdd, Nat.reduceSub, Nat.reduceMul, Nat.reduceEqDiff, Nat.reduceLeDiff, Nat.reduceBEq, reduceIte, reduceCtorEq]) ?_
    rintro sv post ⟨rfl, rfl⟩
    simp (maxSteps := 4000000) only [push_cast, Int.reduceEq, Int.reduceBNe, Int.reduceBEq, Int.reduceAdd, Int.reduceSub, Int.reduceMul, Int.reduceNeg, Int.reduceLT, Int.reduceLE, Int.reduceToNat, Nat.reduceLT, Nat.reduceAdd, Nat.reduceSub, Nat.reduceMul, Nat.reduceEqDiff, Nat.reduceLeDiff, Nat.reduceBEq, reduceIte, reduceCtorEq]
    have hkeep := hR.keep g' n hok h1 h2
    simp only [RawM.some] at he
    refine ⟨fun hp => ?_, fun hp => ?_⟩
    · rw [if_pos hp] at he
      refine call_w (out_c 222 (8191 - k) (by omega) (by omega)) [1] (by simp (maxSteps := 4000000) only [push_cast, Int.reduceEq, Int.reduceBNe, Int.reduceBEq, Int.reduceAdd, Int.reduceSub, Int.reduceMul, Int.reduceNeg, Int.reduceLT, Int.reduceLE, Int.reduceToNat, Nat.reduceLT, Nat.reduceAdd, Nat.reduceSub, Nat.reduceMul, Nat.reduceEqDiff, Nat.reduceLeDiff, Nat.reduceBEq, reduceIte, reduceCtorEq]) ?_
      rintro sv post ⟨rfl, rfl⟩
      simp (maxSteps := 4000000) only [push_cast, Int.reduceEq, Int.reduceBNe, Int.reduceBEq, Int.reduceAdd, Int.reduceSub, Int.reduceMul, Int.reduceNeg, Int.reduceLT, Int.reduceLE, Int.reduceToNat, Nat.reduceLT, Nat.reduceAdd, Nat.reduceSub, Nat.reduceMul, Nat.reduceEqDiff, Nat.reduceLeDiff, Nat.reduceBEq, reduceIte, reduceCtorEq]
      refine ⟨fun hq => ?_, fun hq => ?_⟩
      · rw [if_pos (by omega)] at he
        rw [← he]
        exact Fin.w [0] (.tup [.ints .u8 .old [], .i .i64 81]) _ (by simp (maxSteps := 4000000) only [push_cast, Int.reduceEq, Int.reduceBNe, Int.reduceBEq, Int.reduceAdd, Int.reduceSub, Int.reduceMul, Int.reduceNeg, Int.reduceLT, Int.reduceLE, Int.reduceToNat, Nat.reduceLT, Nat.reduceAdd, Nat.reduceSub, Nat.reduceMul, Nat.reduceEqDiff, Nat.reduceLeDiff, Nat.reduceBEq, reduceIte, reduceCtorEq]) ⟨rfl, rfl⟩
      · rw [if_neg (by omega)] at he
        obtain ⟨k', rfl⟩ : ∃ k', k = k' + 1 := ⟨k - 1, by omega⟩
        refine ⟨⟨(k', (M.rd g' n).1), by omega, hkeep, he⟩, by simp only; omega, Sub.w [0, 1] ?_⟩
        simp (maxSteps := 4000000) only [push_cast, Int.reduceEq, Int.reduceBNe, Int.reduceBEq, Int.reduceAdd, Int.reduceSub, Int.reduceMul, Int.reduceNeg, Int.reduceLT, Int.reduceLE, Int.reduceToNat, Nat.reduceLT, Nat.reduceAdd, Nat.reduceSub, Nat.reduceMul, Nat.reduceEqDiff, Nat.reduceLeDiff, Nat.reduceBEq, reduceIte, reduceCtorEq, RawM.v]
        omega
    · rw [if_neg (by omega)] at he
      refine ⟨fun hq => ?_, fun hq => ⟨fun hr => ?_, fun hr => ?_⟩⟩
      · rw [if_pos hq] at he
        rw [← he]
        exact Fin.w [0] (.tup [.ints .u8 .old [], .i .i64 _]) _ (by simp (maxSteps := 4000000) only [push_cast, Int.reduceEq, Int.reduceBNe, Int.reduceBEq, Int.reduceAdd, Int.reduceSub, Int.reduceMul, Int.reduceNeg, Int.reduceLT, Int.reduceLE, Int.reduceToNat, Nat.reduceLT, Nat.reduceAdd, Nat.reduceSub, Nat.reduceMul, Nat.reduceEqDiff, Nat.reduceLeDiff, Nat.reduceBEq, reduceIte, reduceCtorEq]) ⟨rfl, rfl⟩
      · rw [if_neg (by omega), if_pos hr] at he
        rw [← he]
        exact Fin.w [0] (.tup [.ints .u8 .old [], .i .i64 82]) _ (by simp (maxSteps := 4000000) only [push_cast, Int.reduceEq, Int.reduceBNe, Int.reduceBEq, Int.reduceAdd, Int.reduceSub, Int.reduceMul, Int.reduceNeg, Int.reduceLT, Int.reduceLE, Int.reduceToNat, Nat.reduceLT, Nat.reduceAdd, Nat.reduceSub, Nat.reduceMul, Nat.reduceEqDiff, Nat.reduceLeDiff, Nat.reduceBEq, reduceIte, reduceCtorEq]) ⟨rfl, rfl⟩
      · rw [if_neg (by omega), if_neg (by omega)] at he
        rw [← he]
        exact Fin.w [0] (.tup [.ints .u8 .old _, .i .i64 0]) _ (by simp (maxSteps := 4000000) only [push_cast, Int.reduceEq, Int.reduceBNe, Int.reduceBEq, Int.reduceAdd, Int.reduceSub, Int.reduceMul, Int.reduceNeg, Int.reduceLT, Int.reduceLE, Int.reduceToNat, Nat.reduceLT, Nat.reduceAdd, Nat.reduceSub, Nat.reduceMul, Nat.reduceEqDiff, Nat.reduceLeDiff, Nat.reduceBEq, reduceIte, reduceCtorEq]) ⟨rfl, rfl⟩
end Go.Proofs.YtlgpcngfcglanaaGreat
/- All bytes onto a Raw. -/
namespace Go.Proofs.YtlgpcngfcglanaaGreat
open Go Go.Eng
set_option maxHeartbeats 4000000
set_option linter.unusedSimpArgs false
set_option linter.unusedVariables false
set_option maxRecDepth 100000

/-- What is left to write, the tries in a row, how it ends. -/
def RawM.putGo (M : RawM) : Nat → M.σ → List Int → Nat → M.σ × List Int × Int
  | 0, g, rest, _ => (g, rest, 81)
  | f + 1, g, rest, p =>
    if rest = [] then (g, [], 0)
    else if (M.wr g rest).2.2 = 22 ∨ (M.wr g rest).2.2 = 23 ∨ ((M.wr g rest).2.2 = 0 ∧ (M.wr g rest).2.1 = 0) then
      (if 8192 ≤ p + 1 then ((M.wr g rest).1, rest, 81) else M.putGo f (M.wr g rest).1 rest (p + 1))
    else if (M.wr g rest).2.2 ≠ 0 then ((M.wr g rest).1, rest, (M.wr g rest).2.2)
    else if (M.wr g rest).2.1 < 0 ∨ rest.length < (M.wr g rest).2.1 then ((M.wr g rest).1, rest, 82)
    else M.putGo f (M.wr g rest).1 (rest.drop (M.wr g rest).2.1.toNat) 0
def putV (M : RawM) (g : M.σ) (b : List Int) : M.σ × List Int × Int := M.putGo (8193 * (b.length + 1)) g b 0

theorem RawM.putGo_ok (M : RawM) (hW : M.Wr) : ∀ (f : Nat) (g : M.σ) (rest : List Int) (p : Nat), M.ok g → rest.length ≤ 1048576 → rest.length ≤ M.rm g → M.ok (M.putGo f g rest p).1 ∧ M.rm g ≤ M.rm (M.putGo f g rest p).1 + rest.length
  | 0, g, rest, p, h, _, _ => ⟨h, by simp only [RawM.putGo]; omega⟩
  | f + 1, g, rest, p, h, hl, hr => by
    simp only [RawM.putGo]
    split
    · exact ⟨h, by dsimp only; omega⟩
    · rename_i hne
      obtain ⟨hk, hk2⟩ := hW.keep g rest h hne hl hr
      split
      · rename_i hq
        have hk3 : M.rm g ≤ M.rm (M.wr g rest).1 := by
          split at hk2
          · rename_i hz; omega
          · omega
        split
        · exact ⟨hk, by dsimp only; omega⟩
        · obtain ⟨e1, e2⟩ := M.putGo_ok hW f (M.wr g rest).1 rest (p + 1) hk hl (by omega)
          exact ⟨e1, by omega⟩
      · split
        · rename_i hq
          rw [if_neg (by omega)] at hk2
          exact ⟨hk, by dsimp only; omega⟩
        · split
          · rename_i hq
            refine ⟨hk, ?_⟩
            split at hk2 <;> dsimp only <;> omega
          · rw [if_pos (by omega)] at hk2
            obtain ⟨e1, e2⟩ := M.putGo_ok hW f (M.wr g rest).1 (rest.drop (M.wr g rest).2.1.toNat) 0 hk (by simp; omega) (by simp; omega)
            refine ⟨e1, ?_⟩
            simp only [List.length_drop] at e2
            omega
theorem putGo_len (M : RawM) : ∀ (f : Nat) (g : M.σ) (rest : List Int) (p : Nat), (M.putGo f g rest p).2.1.length ≤ rest.length
  | 0, g, rest, p => Nat.le_refl _
  | f + 1, g, rest, p => by
    simp only [RawM.putGo]
    split
    · simp
    · split
      · split
        · exact Nat.le_refl _
        · exact putGo_len M f _ _ _
      · split
        · exact Nat.le_refl _
        · split
          · exact Nat.le_refl _
          · exact Nat.le_trans (putGo_len M f _ _ _) (by simp)
/-- What is left is the end of what was given. -/
theorem putGo_drop (M : RawM) : ∀ (f : Nat) (g : M.σ) (rest : List Int) (p : Nat), (M.putGo f g rest p).2.1 = rest.drop (rest.length - (M.putGo f g rest p).2.1.length)
  | 0, g, rest, p => by simp [RawM.putGo]
  | f + 1, g, rest, p => by
    simp only [RawM.putGo]
    split
    · rename_i h; simp [h]
    · split
      · split
        · simp
        · exact putGo_drop M f _ _ _
      · split
        · simp
        · split
          · simp
          · rename_i h
            have h1 := putGo_drop M f (M.wr g rest).1 (rest.drop (M.wr g rest).2.1.toNat) 0
            have h2 := putGo_len M f (M.wr g rest).1 (rest.drop (M.wr g rest).2.1.toNat) 0
            generalize (M.putGo f (M.wr g rest).1 (rest.drop (M.wr g rest).2.1.toNat) 0).2.1 = q at h1 h2 ⊢
            have h3 : (rest.drop (M.wr g rest).2.1.toNat).length = rest.length - (M.wr g rest).2.1.toNat := by simp
            have h4 : q = rest.drop ((M.wr g rest).2.1.toNat + ((rest.drop (M.wr g rest).2.1.toNat).length - q.length)) := by
              rw [← List.drop_drop]; exact h1
            rw [show rest.length - q.length = (M.wr g rest).2.1.toNat + ((rest.drop (M.wr g rest).2.1.toNat).length - q.length) by
              rw [h3]; omega]
            exact h4
theorem putGo_ok0 (M : RawM) : ∀ (f : Nat) (g : M.σ) (rest : List Int) (p : Nat), (M.putGo f g rest p).2.2 = 0 → (M.putGo f g rest p).2.1 = []
  | 0, g, rest, p => by simp [RawM.putGo]
  | f + 1, g, rest, p => by
    simp only [RawM.putGo]
    split
    · intro _; rfl
    · split
      · split
        · simp
        · exact putGo_ok0 M f _ _ _
      · split
        · rename_i h; intro h2; exact absurd h2 h
        · split
          · simp
          · exact putGo_ok0 M f _ _ _

theorem putR_c (M : RawM) (hW : M.Wr) (g : M.σ) (hg : M.ok g) (b : List Int) (hb : b.length ≤ 1048576) (hr : b.length ≤ M.rm g) :
    Contract Tryz.prog 66 (preR (M.res g)) [M.v, .ints .u8 .old b]
      (fun sv post => sv = .tup [.i .i64 (b.length - (putV M g b).2.1.length), .i .i64 (putV M g b).2.2] ∧ post = preR (M.res (putV M g b).1)) := by
  have hnil := hW.nil
  refine contract_ev Γok Tryz.func66 rfl rfl [] ?_
  unfold RawM.v at hnil ⊢
  simp (maxSteps := 4000000) only [push_cast, Int.reduceEq, Int.reduceBNe, Int.reduceBEq, Int.reduceAdd, Int.reduceSub, Int.reduceMul, Int.reduceNeg, Int.reduceLT, Int.reduceLE, Int.reduceToNat, Nat.reduceLT, Nat.reduceAdd, Nat.reduceSub, Nat.reduceMul, Nat.reduceEqDiff, Nat.reduceLeDiff, Nat.reduceBEq, reduceIte, reduceCtorEq, Tryz.f66]
  refine ⟨fun h => by omega, fun h => ?_⟩
  refine loop_ok (ι := {x : M.σ × List Int × Nat × Nat // (M.ok x.1 ∧ x.2.1.length ≤ M.rm x.1) ∧ x.2.1.length ≤ b.length ∧ x.2.2.1 < 8192 ∧ 8193 * x.2.1.length + (8192 - x.2.2.1) ≤ x.2.2.2 ∧ M.putGo x.2.2.2 x.1 x.2.1 x.2.2.1 = putV M g b})
    (fun x => ⟨[.ifc M.t (.raw M.y), .ints .u8 .old b, .any, .any, .i .i64 0, .i .i64 0, .ptr 1 0, .ints .u8 .old x.1.2.1] ++ List.replicate 59 .any, [(1, 222, [.i .i64 x.1.2.2.1])], [], [(0, M.res x.1.1)], 2, 1, []⟩) (fun x => x.1.2.2.2) ⟨(g, b, 0, 8193 * (b.length + 1)), ⟨hg, hr⟩, Nat.le_refl _, by simp only; omega, by simp only; omega, rfl⟩ ?_ ?_
  · refine Sub.w [0, 1] ?_
    simp (maxSteps := 4000000) only [push_cast, Int.reduceEq, Int.reduceBNe, Int.reduceBEq, Int.reduceAdd, Int.reduceSub, Int.reduceMul, Int.reduceNeg, Int.reduceLT, Int.reduceLE, Int.reduceToNat, Nat.reduceLT, Nat.reduceAdd, Nat.reduceSub, Nat.reduceMul, Nat.reduceEqDiff, Nat.reduceLeDiff, Nat.reduceBEq, reduceIte, reduceCtorEq]
  · rintro ⟨⟨g', rest, p, f⟩, hok, hl, hp, hf, he⟩
    simp only at hok hl hp hf he
    obtain ⟨hok, hrm⟩ := hok
    obtain ⟨f', rfl⟩ : ∃ f', f = f' + 1 := ⟨f - 1, by omega⟩
    simp only [RawM.putGo] at he
    refine evCode_sound Γok _ _ _ ?_
    simp (maxSteps := 4000000) only [push_cast, Int.reduceEq, Int.reduceBNe, Int.reduceBEq, Int.reduceAdd, Int.reduceSub, Int.reduceMul, Int.reduceNeg, Int.reduceLT, Int.reduceLE, Int.reduceToNat, Nat.reduceLT, Nat.reduceAdd, Nat.reduceSub, Nat.reduceMul, Nat.reduceEqDiff, Nat.reduceLeDiff, Nat.reduceBEq, reduceIte, reduceCtorEq]
    refine ⟨fun h1 => ?_, fun h1 => ?_⟩
    · have hne : rest ≠ [] := by rintro rfl; simp at h1
      rw [if_neg hne] at he
      obtain ⟨hkeep, hkr⟩ := hW.keep g' rest hok hne (by omega) hrm
      refine (region_plan rfl Γok mixed (.pure 0 (.pure 2 (.pure 4 (.pure 5 (.pure 6 (.eff (.cons 1 [] (.eff (.cons 3 [] (.eff (.cons 7 [] (.pure 8 (.pure 9 (.pure 10 (.pure 11 (.pure 12 .done))))) .nil)) .nil)) .nil))))))) 67 rfl (by kernel_rfl) ?_)
      simp (maxSteps := 4000000) only [push_cast, Int.reduceEq, Int.reduceBNe, Int.reduceBEq, Int.reduceAdd, Int.reduceSub, Int.reduceMul, Int.reduceNeg, Int.reduceLT, Int.reduceLE, Int.reduceToNat, Nat.reduceLT, Nat.reduceAdd, Nat.reduceSub, Nat.reduceMul, Nat.reduceEqDiff, Nat.reduceLeDiff, Nat.reduceBEq, reduceIte, reduceCtorEq]
      refine ⟨hnil, by omega, inv_w (hW.run g' rest hok hne (by omega) hrm) [0] (by simp (maxSteps := 4000000) only [push_cast, Int.reduceEq, Int.reduceBNe, Int.reduceBEq, Int.reduceAdd, Int.reduceSub, Int.reduceMul, Int.reduceNeg, Int.reduceLT, Int.reduceLE, Int.reduceToNat, Nat.reduceLT, Nat.reduceAdd, Nat.reduceSub, Nat.reduceMul, Nat.reduceEqDiff, Nat.reduceLeDiff, Nat.reduceBEq, reduceIte, reduceCtorEq]) ?_⟩
      rintro sv post ⟨rfl, rfl⟩
      simp (maxSteps := 4000000) only [push_cast, Int.reduceEq, Int.reduceBNe, Int.reduceBEq, Int.reduceAdd, Int.reduceSub, Int.reduceMul, Int.reduceNeg, Int.reduceLT, Int.reduceLE, Int.reduceToNat, Nat.reduceLT, Nat.reduceAdd, Nat.reduceSub, Nat.reduceMul, Nat.reduceEqDiff, Nat.reduceLeDiff, Nat.reduceBEq, reduceIte, reduceCtorEq]
      rw [wrap64 (n := (b.length : Int) - rest.length) (by omega) (by omega)]
      refine call_w (passing_c (M.wr g' rest).2.2) [] (by simp (maxSteps := 4000000) only [push_cast, Int.reduceEq, Int.reduceBNe, Int.reduceBEq, Int.reduceAdd, Int.reduceSub, Int.reduceMul, Int.reduceNeg, Int.reduceLT, Int.reduceLE, Int.reduceToNat, Nat.reduceLT, Nat.reduceAdd, Nat.reduceSub, Nat.reduceMul, Nat.reduceEqDiff, Nat.reduceLeDiff, Nat.reduceBEq, reduceIte, reduceCtorEq]) ?_
      rintro sv post ⟨rfl, rfl⟩
      simp (maxSteps := 4000000) only [push_cast, Int.reduceEq, Int.reduceBNe, Int.reduceBEq, Int.reduceAdd, Int.reduceSub, Int.reduceMul, Int.reduceNeg, Int.reduceLT, Int.reduceLE, Int.reduceToNat, Nat.reduceLT, Nat.reduceAdd, Nat.reduceSub, Nat.reduceMul, Nat.reduceEqDiff, Nat.reduceLeDiff, Nat.reduceBEq, reduceIte, reduceCtorEq]
      refine ⟨fun hp1 => ⟨fun _ => ?_, fun hp2 => by omega⟩, fun hp1 => ⟨fun hp2 => ?_, fun hp2 => ?_⟩⟩
      · rw [if_pos (by omega)] at he
        refine call_w (out_c 222 p (by omega) (by omega)) [1] (by simp (maxSteps := 4000000) only [push_cast, Int.reduceEq, Int.reduceBNe, Int.reduceBEq, Int.reduceAdd, Int.reduceSub, Int.reduceMul, Int.reduceNeg, Int.reduceLT, Int.reduceLE, Int.reduceToNat, Nat.reduceLT, Nat.reduceAdd, Nat.reduceSub, Nat.reduceMul, Nat.reduceEqDiff, Nat.reduceLeDiff, Nat.reduceBEq, reduceIte, reduceCtorEq]) ?_
        rintro sv post ⟨rfl, rfl⟩
        simp (maxSteps := 4000000) only [push_cast, Int.reduceEq, Int.reduceBNe, Int.reduceBEq, Int.reduceAdd, Int.reduceSub, Int.reduceMul, Int.reduceNeg, Int.reduceLT, Int.reduceLE, Int.reduceToNat, Nat.reduceLT, Nat.reduceAdd, Nat.reduceSub, Nat.reduceMul, Nat.reduceEqDiff, Nat.reduceLeDiff, Nat.reduceBEq, reduceIte, reduceCtorEq]
        refine ⟨fun hq => ?_, fun hq => ?_⟩
        · rw [if_pos (by omega)] at he
          rw [← he]
          exact Fin.w [0] (.tup [.i .i64 (b.length - rest.length), .i .i64 81]) _ (by simp (maxSteps := 4000000) only [push_cast, Int.reduceEq, Int.reduceBNe, Int.reduceBEq, Int.reduceAdd, Int.reduceSub, Int.reduceMul, Int.reduceNeg, Int.reduceLT, Int.reduceLE, Int.reduceToNat, Nat.reduceLT, Nat.reduceAdd, Nat.reduceSub, Nat.reduceMul, Nat.reduceEqDiff, Nat.reduceLeDiff, Nat.reduceBEq, reduceIte, reduceCtorEq]) ⟨rfl, rfl⟩
        · rw [if_neg (by omega)] at he
          refine ⟨⟨((M.wr g' rest).1, rest, p + 1, f'), ⟨hkeep, by simp only; split at hkr <;> omega⟩, hl, by simp only; omega, by simp only; omega, he⟩, by simp only; omega, Sub.w [0, 1] ?_⟩
          simp (maxSteps := 4000000) only [push_cast, Int.reduceEq, Int.reduceBNe, Int.reduceBEq, Int.reduceAdd, Int.reduceSub, Int.reduceMul, Int.reduceNeg, Int.reduceLT, Int.reduceLE, Int.reduceToNat, Nat.reduceLT, Nat.reduceAdd, Nat.reduceSub, Nat.reduceMul, Nat.reduceEqDiff, Nat.reduceLeDiff, Nat.reduceBEq, reduceIte, reduceCtorEq]
      · rw [if_pos (by omega)] at he
        refine call_w (out_c 222 p (by omega) (by omega)) [1] (by simp (maxSteps := 4000000) only [push_cast, Int.reduceEq, Int.reduceBNe, Int.reduceBEq, Int.reduceAdd, Int.reduceSub, Int.reduceMul, Int.reduceNeg, Int.reduceLT, Int.reduceLE, Int.reduceToNat, Nat.reduceLT, Nat.reduceAdd, Nat.reduceSub, Nat.reduceMul, Nat.reduceEqDiff, Nat.reduceLeDiff, Nat.reduceBEq, reduceIte, reduceCtorEq]) ?_
        rintro sv post ⟨rfl, rfl⟩
        simp (maxSteps := 4000000) only [push_cast, Int.reduceEq, Int.reduceBNe, Int.reduceBEq, Int.reduceAdd, Int.reduceSub, Int.reduceMul, Int.reduceNeg, Int.reduceLT, Int.reduceLE, Int.reduceToNat, Nat.reduceLT, Nat.reduceAdd, Nat.reduceSub, Nat.reduceMul, Nat.reduceEqDiff, Nat.reduceLeDiff, Nat.reduceBEq, reduceIte, reduceCtorEq]
        refine ⟨fun hq => ?_, fun hq => ?_⟩
        · rw [if_pos (by omega)] at he
          rw [← he]
          exact Fin.w [0] (.tup [.i .i64 (b.length - rest.length), .i .i64 81]) _ (by simp (maxSteps := 4000000) only [push_cast, Int.reduceEq, Int.reduceBNe, Int.reduceBEq, Int.reduceAdd, Int.reduceSub, Int.reduceMul, Int.reduceNeg, Int.reduceLT, Int.reduceLE, Int.reduceToNat, Nat.reduceLT, Nat.reduceAdd, Nat.reduceSub, Nat.reduceMul, Nat.reduceEqDiff, Nat.reduceLeDiff, Nat.reduceBEq, reduceIte, reduceCtorEq]) ⟨rfl, rfl⟩
        · rw [if_neg (by omega)] at he
          refine ⟨⟨((M.wr g' rest).1, rest, p + 1, f'), ⟨hkeep, by simp only; split at hkr <;> omega⟩, hl, by simp only; omega, by simp only; omega, he⟩, by simp only; omega, Sub.w [0, 1] ?_⟩
          simp (maxSteps := 4000000) only [push_cast, Int.reduceEq, Int.reduceBNe, Int.reduceBEq, Int.reduceAdd, Int.reduceSub, Int.reduceMul, Int.reduceNeg, Int.reduceLT, Int.reduceLE, Int.reduceToNat, Nat.reduceLT, Nat.reduceAdd, Nat.reduceSub, Nat.reduceMul, Nat.reduceEqDiff, Nat.reduceLeDiff, Nat.reduceBEq, reduceIte, reduceCtorEq]
      · rw [if_neg (by omega)] at he
        refine ⟨fun h2 => ?_, fun h2 => ?_⟩
        · rw [if_pos h2] at he
          rw [← he]
          exact Fin.w [0] (.tup [.i .i64 (b.length - rest.length), .i .i64 (M.wr g' rest).2.2]) _ (by simp (maxSteps := 4000000) only [push_cast, Int.reduceEq, Int.reduceBNe, Int.reduceBEq, Int.reduceAdd, Int.reduceSub, Int.reduceMul, Int.reduceNeg, Int.reduceLT, Int.reduceLE, Int.reduceToNat, Nat.reduceLT, Nat.reduceAdd, Nat.reduceSub, Nat.reduceMul, Nat.reduceEqDiff, Nat.reduceLeDiff, Nat.reduceBEq, reduceIte, reduceCtorEq]) ⟨rfl, rfl⟩
        · rw [if_neg (by omega)] at he
          refine ⟨fun h3 => ?_, fun h3 => ⟨h3, ?_⟩⟩
          · rw [if_pos h3] at he
            rw [← he]
            exact Fin.w [0] (.tup [.i .i64 (b.length - rest.length), .i .i64 82]) _ (by simp (maxSteps := 4000000) only [push_cast, Int.reduceEq, Int.reduceBNe, Int.reduceBEq, Int.reduceAdd, Int.reduceSub, Int.reduceMul, Int.reduceNeg, Int.reduceLT, Int.reduceLE, Int.reduceToNat, Nat.reduceLT, Nat.reduceAdd, Nat.reduceSub, Nat.reduceMul, Nat.reduceEqDiff, Nat.reduceLeDiff, Nat.reduceBEq, reduceIte, reduceCtorEq]) ⟨rfl, rfl⟩
          · have hn : ¬ (M.wr g' rest).2.1 = 0 := by omega
            rw [if_neg (by omega)] at he
            refine ⟨⟨((M.wr g' rest).1, rest.drop (M.wr g' rest).2.1.toNat, 0, f'), ⟨hkeep, by rw [if_pos (by omega)] at hkr; simp only [List.length_drop]; omega⟩, by simp only [List.length_drop]; omega, by simp only; omega, by simp only [List.length_drop]; omega, he⟩, by simp only; omega, Sub.w [0, 1] ?_⟩
            simp (maxSteps := 4000000) only [push_cast, Int.reduceEq, Int.reduceBNe, Int.reduceBEq, Int.reduceAdd, Int.reduceSub, Int.reduceMul, Int.reduceNeg, Int.reduceLT, Int.reduceLE, Int.reduceToNat, Nat.reduceLT, Nat.reduceAdd, Nat.reduceSub, Nat.reduceMul, Nat.reduceEqDiff, Nat.reduceLeDiff, Nat.reduceBEq, reduceIte, reduceCtorEq]
    · have hne : rest = [] := by
        have : rest.length = 0 := by omega
        simpa using this
      subst hne
      rw [if_pos rfl] at he
      rw [← he]
      refine Fin.w [0] (.tup [.i .i64 b.length, .i .i64 0]) _ (by simp (maxSteps := 4000000) only [push_cast, Int.reduceEq, Int.reduceBNe, Int.reduceBEq, Int.reduceAdd, Int.reduceSub, Int.reduceMul, Int.reduceNeg, Int.reduceLT, Int.reduceLE, Int.reduceToNat, Nat.reduceLT, Nat.reduceAdd, Nat.reduceSub, Nat.reduceMul, Nat.reduceEqDiff, Nat.reduceLeDiff, Nat.reduceBEq, reduceIte, reduceCtorEq]) ⟨by simp, rfl⟩
end Go.Proofs.YtlgpcngfcglanaaGreat
/- A stream's state; a stream at work: what its parts come to. -/
namespace Go.Proofs.YtlgpcngfcglanaaGreat
open Go Go.Eng
set_option maxHeartbeats 4000000
set_option linter.unusedSimpArgs false
set_option linter.unusedVariables false
set_option maxRecDepth 100000

structure St where
  r : Bool
  w : Bool
  m : Int
  s : Int
  o : List Int
  i : List Int
  k : List Int
  d : Int
  en : Bool
  bad : Bool
  cl : Bool
def St.cells (x : St) (a b c : Tag) : List SV := [.b x.r, .b x.w, .i .i64 x.m, .i .i64 x.s, .ints .u8 a x.o, .ints .u8 b x.i, .ints .u8 c x.k, .i .i64 x.d, .b x.en, .b x.bad, .b x.cl]
def St.sv (x : St) (t : Tag) : SV := .agg (x.cells t t t)
/-- A stream at work: names 2, 3: what it holds to be written, and to be got. -/
def St.work (x : St) (v : SV) : List SV := [.b x.r, .b x.w, .i .i64 x.m, .i .i64 x.s, .ints .u8 (.tok 2 true) x.o, .ints .u8 (.tok 3 true) x.i, .ints .u8 .new x.k, .i .i64 x.d, .b x.en, .b x.bad, .b x.cl, v]
/-- What a part of it is handed; the tokens stay with its caller. -/
def preD (M : RawM) (x : St) (g : M.σ) : SS := ⟨[], [(0, 102, x.work M.v)], [], [(1, M.res g)], 4, 4, []⟩
/-- The same, the tokens too. -/
def preW (M : RawM) (x : St) (g : M.σ) : SS := ⟨[], [(0, 102, x.work M.v)], [2, 3], [(1, M.res g)], 4, 2, []⟩

def St.noted (x : St) (e : Int) : St := { x with bad := x.bad || (e != 0 && e != 52) }
/-- How a part ends: the tokens stay with its caller. -/
def isD (M : RawM) (r : St × M.σ × Int) (sv : SV) (post : SS) : Prop := sv = .i .i64 r.2.2 ∧ post = preD M r.1 r.2.1
/-- How a part ends: new tokens. -/
def isW (M : RawM) (r : St × M.σ × Int) (sv : SV) (post : SS) : Prop := sv = .i .i64 r.2.2 ∧ post = preW M r.1 r.2.1
def isN (x : St) (t : TypeId) (y : Value) (e : Int) (sv : SV) (post : SS) : Prop := sv = .i .i64 e ∧ post = ⟨[], [(0, 102, (x.noted e).work (.ifc t (.raw y)))], [], [], 4, 4, []⟩

theorem notedR_c (x : St) (t : TypeId) (y : Value) (e : Int) : Contract Tryz.prog 67 ⟨[], [(0, 102, x.work (.ifc t (.raw y)))], [], [], 4, 4, []⟩ [.ptr 0 0, .i .i64 e] (isN x t y e) := by
  refine contract_ev Γok Tryz.func67 rfl rfl [] ?_
  simp (maxSteps := 4000000) only [push_cast, Int.reduceEq, Int.reduceBNe, Int.reduceBEq, Int.reduceAdd, Int.reduceSub, Int.reduceMul, Int.reduceNeg, Int.reduceLT, Int.reduceLE, Int.reduceToNat, Nat.reduceLT, Nat.reduceAdd, Nat.reduceSub, Nat.reduceMul, Nat.reduceEqDiff, Nat.reduceLeDiff, Nat.reduceBEq, reduceIte, reduceCtorEq, Tryz.f67, St.work]
  exact Fin.w [0, 1, 2, 3] (.i .i64 e) _ (by simp (maxSteps := 4000000) only [push_cast, Int.reduceEq, Int.reduceBNe, Int.reduceBEq, Int.reduceAdd, Int.reduceSub, Int.reduceMul, Int.reduceNeg, Int.reduceLT, Int.reduceLE, Int.reduceToNat, Nat.reduceLT, Nat.reduceAdd, Nat.reduceSub, Nat.reduceMul, Nat.reduceEqDiff, Nat.reduceLeDiff, Nat.reduceBEq, reduceIte, reduceCtorEq, St.work, St.noted]) ⟨rfl, rfl⟩

/-- Delivered: what was held. -/
def St.deliver (M : RawM) (x : St) (g : M.σ) : St × M.σ × Int :=
  (({ x with o := (putV M g x.o).2.1 } : St).noted (putV M g x.o).2.2, (putV M g x.o).1, (putV M g x.o).2.2)

theorem deliverR_c (M : RawM) (hW : M.Wr) (x : St) (g : M.σ) (hg : M.ok g) (hx : x.o.length ≤ 1048576) (hr : x.o.length ≤ M.rm g) : Contract Tryz.prog 44 (preD M x g) [.ptr 0 0] (isD M (x.deliver M g)) := by
  refine contract_ev Γok Tryz.func44 rfl rfl [] ?_
  simp (maxSteps := 4000000) only [push_cast, Int.reduceEq, Int.reduceBNe, Int.reduceBEq, Int.reduceAdd, Int.reduceSub, Int.reduceMul, Int.reduceNeg, Int.reduceLT, Int.reduceLE, Int.reduceToNat, Nat.reduceLT, Nat.reduceAdd, Nat.reduceSub, Nat.reduceMul, Nat.reduceEqDiff, Nat.reduceLeDiff, Nat.reduceBEq, reduceIte, reduceCtorEq, Tryz.f44, preD, St.work, RawM.v]
  refine (region_plan rfl Γok mixed (.pure 0 (.pure 1 (.pure 2 (.pure 3 (.pure 4 (.pure 5 (.pure 6 (.pure 7 (.pure 8 (.eff (.cons 9 [] (.pure 10 (.pure 11 (.pure 12 (.pure 13 (.pure 14 .done))))) .nil))))))))))) 32 rfl (by kernel_rfl) ?_)
  simp (maxSteps := 4000000) only [push_cast, Int.reduceEq, Int.reduceBNe, Int.reduceBEq, Int.reduceAdd, Int.reduceSub, Int.reduceMul, Int.reduceNeg, Int.reduceLT, Int.reduceLE, Int.reduceToNat, Nat.reduceLT, Nat.reduceAdd, Nat.reduceSub, Nat.reduceMul, Nat.reduceEqDiff, Nat.reduceLeDiff, Nat.reduceBEq, reduceIte, reduceCtorEq]
  refine call_w (putR_c M hW g hg x.o hx hr) [1] (by simp (maxSteps := 4000000) only [push_cast, Int.reduceEq, Int.reduceBNe, Int.reduceBEq, Int.reduceAdd, Int.reduceSub, Int.reduceMul, Int.reduceNeg, Int.reduceLT, Int.reduceLE, Int.reduceToNat, Nat.reduceLT, Nat.reduceAdd, Nat.reduceSub, Nat.reduceMul, Nat.reduceEqDiff, Nat.reduceLeDiff, Nat.reduceBEq, reduceIte, reduceCtorEq, RawM.v]) ?_
  rintro sv post ⟨rfl, rfl⟩
  simp (maxSteps := 4000000) only [push_cast, Int.reduceEq, Int.reduceBNe, Int.reduceBEq, Int.reduceAdd, Int.reduceSub, Int.reduceMul, Int.reduceNeg, Int.reduceLT, Int.reduceLE, Int.reduceToNat, Nat.reduceLT, Nat.reduceAdd, Nat.reduceSub, Nat.reduceMul, Nat.reduceEqDiff, Nat.reduceLeDiff, Nat.reduceBEq, reduceIte, reduceCtorEq]
  have hl := putGo_len M (8193 * (x.o.length + 1)) g x.o 0
  have hd := putGo_drop M (8193 * (x.o.length + 1)) g x.o 0
  have e1 : x.o.drop ((x.o.length : Int) - ((putV M g x.o).2.1.length : Int)).toNat = (putV M g x.o).2.1 := by
    rw [show ((x.o.length : Int) - ((putV M g x.o).2.1.length : Int)).toNat = x.o.length - (putV M g x.o).2.1.length by omega]
    exact hd.symm
  have hl' : (putV M g x.o).2.1.length ≤ x.o.length := hl
  refine ⟨by omega, ?_⟩
  rw [e1]
  refine call_w (notedR_c { x with o := (putV M g x.o).2.1 } M.t M.y (putV M g x.o).2.2) [0, 1, 2, 3] (by simp (maxSteps := 4000000) only [push_cast, Int.reduceEq, Int.reduceBNe, Int.reduceBEq, Int.reduceAdd, Int.reduceSub, Int.reduceMul, Int.reduceNeg, Int.reduceLT, Int.reduceLE, Int.reduceToNat, Nat.reduceLT, Nat.reduceAdd, Nat.reduceSub, Nat.reduceMul, Nat.reduceEqDiff, Nat.reduceLeDiff, Nat.reduceBEq, reduceIte, reduceCtorEq, St.work]) ?_
  rintro sv post ⟨rfl, rfl⟩
  simp (maxSteps := 4000000) only [push_cast, Int.reduceEq, Int.reduceBNe, Int.reduceBEq, Int.reduceAdd, Int.reduceSub, Int.reduceMul, Int.reduceNeg, Int.reduceLT, Int.reduceLE, Int.reduceToNat, Nat.reduceLT, Nat.reduceAdd, Nat.reduceSub, Nat.reduceMul, Nat.reduceEqDiff, Nat.reduceLeDiff, Nat.reduceBEq, reduceIte, reduceCtorEq, St.work]
  exact Fin.w [0, 1, 2, 3] (.i .i64 _) _ (by simp (maxSteps := 4000000) only [push_cast, Int.reduceEq, Int.reduceBNe, Int.reduceBEq, Int.reduceAdd, Int.reduceSub, Int.reduceMul, Int.reduceNeg, Int.reduceLT, Int.reduceLE, Int.reduceToNat, Nat.reduceLT, Nat.reduceAdd, Nat.reduceSub, Nat.reduceMul, Nat.reduceEqDiff, Nat.reduceLeDiff, Nat.reduceBEq, reduceIte, reduceCtorEq, preD, St.work, RawM.v, St.deliver]) ⟨rfl, rfl⟩

/-- It is the way now: whether it may be. -/
def St.wErr (x : St) : Int := if x.w = false then 65 else if x.d = 1 ∧ (x.en = false ∨ 0 < x.i.length + x.k.length) then 112 else 0

theorem writeR_c (M : RawM) (x : St) (g : M.σ) (hi : x.i.length ≤ 140737488355328) (hk : x.k.length ≤ 140737488355328) : Contract Tryz.prog 65 (preD M x g) [.ptr 0 0] (isD M (if x.wErr = 0 then { x with d := 2 } else x, g, x.wErr)) := by
  refine contract_ev Γok Tryz.func65 rfl rfl [] ?_
  simp (maxSteps := 4000000) only [push_cast, Int.reduceEq, Int.reduceBNe, Int.reduceBEq, Int.reduceAdd, Int.reduceSub, Int.reduceMul, Int.reduceNeg, Int.reduceLT, Int.reduceLE, Int.reduceToNat, Nat.reduceLT, Nat.reduceAdd, Nat.reduceSub, Nat.reduceMul, Nat.reduceEqDiff, Nat.reduceLeDiff, Nat.reduceBEq, reduceIte, reduceCtorEq, Tryz.f65, preD, St.work, RawM.v]
  refine ⟨fun h => ?_, fun h => ?_⟩
  · have e : x.wErr = 65 := by simp [St.wErr, h]
    rw [e, if_neg (by omega)]
    exact Fin.w [0, 1, 2, 3] (.i .i64 65) _ (by simp (maxSteps := 4000000) only [push_cast, Int.reduceEq, Int.reduceBNe, Int.reduceBEq, Int.reduceAdd, Int.reduceSub, Int.reduceMul, Int.reduceNeg, Int.reduceLT, Int.reduceLE, Int.reduceToNat, Nat.reduceLT, Nat.reduceAdd, Nat.reduceSub, Nat.reduceMul, Nat.reduceEqDiff, Nat.reduceLeDiff, Nat.reduceBEq, reduceIte, reduceCtorEq, preD, St.work, RawM.v]) ⟨rfl, rfl⟩
  refine (region_plan rfl Γok mixed (.pure 0 (.pure 1 (.pure 2 (.pure 3 (.pure 4 (.pure 5 (.pure 6 (.pure 7 (.pure 8 (.pure 9 (.pure 10 (.pure 11 (.pure 12 (.pure 13 (.pure 14 (.pure 15 (.pure 16 (.pure 17 (.pure 18 (.pure 19 (.pure 20 (.pure 21 (.pure 22 (.pure 23 (.pure 24 (.pure 25 (.pure 26 (.pure 27 (.pure 28 (.pure 29 (.pure 30 .done))))))))))))))))))))))))))))))) 45 rfl (by kernel_rfl) ?_)
  simp (maxSteps := 4000000) only [push_cast, Int.reduceEq, Int.reduceBNe, Int.reduceBEq, Int.reduceAdd, Int.reduceSub, Int.reduceMul, Int.reduceNeg, Int.reduceLT, Int.reduceLE, Int.reduceToNat, Nat.reduceLT, Nat.reduceAdd, Nat.reduceSub, Nat.reduceMul, Nat.reduceEqDiff, Nat.reduceLeDiff, Nat.reduceBEq, reduceIte, reduceCtorEq]
  rw [wrap64 (n := (x.i.length : Int) + x.k.length) (by omega) (by omega)]
  refine ⟨fun h1 => ?_, fun h1 => ?_⟩
  · have e : x.wErr = 112 := by
      unfold St.wErr
      rw [if_neg (by simp [h]), if_pos ⟨h1.1, h1.2.imp id (fun h => by omega)⟩]
    rw [e, if_neg (by omega)]
    exact Fin.w [0, 1, 2, 3] (.i .i64 112) _ (by simp (maxSteps := 4000000) only [push_cast, Int.reduceEq, Int.reduceBNe, Int.reduceBEq, Int.reduceAdd, Int.reduceSub, Int.reduceMul, Int.reduceNeg, Int.reduceLT, Int.reduceLE, Int.reduceToNat, Nat.reduceLT, Nat.reduceAdd, Nat.reduceSub, Nat.reduceMul, Nat.reduceEqDiff, Nat.reduceLeDiff, Nat.reduceBEq, reduceIte, reduceCtorEq, preD, St.work, RawM.v]) ⟨rfl, rfl⟩
  · have e : x.wErr = 0 := by
      unfold St.wErr
      rw [if_neg (by simp [h]), if_neg]
      rintro ⟨c1, c2⟩
      rcases h1 with h1 | h1
      · exact h1 c1
      · rcases c2 with c2 | c2
        · rw [c2] at h1; simp at h1
        · omega
    rw [e, if_pos rfl]
    exact Fin.w [0, 1, 2, 3] (.i .i64 0) _ (by simp (maxSteps := 4000000) only [push_cast, Int.reduceEq, Int.reduceBNe, Int.reduceBEq, Int.reduceAdd, Int.reduceSub, Int.reduceMul, Int.reduceNeg, Int.reduceLT, Int.reduceLE, Int.reduceToNat, Nat.reduceLT, Nat.reduceAdd, Nat.reduceSub, Nat.reduceMul, Nat.reduceEqDiff, Nat.reduceLeDiff, Nat.reduceBEq, reduceIte, reduceCtorEq, preD, St.work, RawM.v]) ⟨rfl, rfl⟩
end Go.Proofs.YtlgpcngfcglanaaGreat
/- A byte is put onto, and got off, a stream at work. -/
namespace Go.Proofs.YtlgpcngfcglanaaGreat
open Go Go.Eng
set_option maxHeartbeats 4000000
set_option linter.unusedSimpArgs false
set_option linter.unusedVariables false
set_option maxRecDepth 100000

theorem may_zero' {m s : Int} (h : mayV m s = 0) : 1 ≤ m ∧ m ≤ 3 ∧ 1 ≤ s ∧ s ≤ 65536 := by
  unfold mayV at h
  split at h
  · omega
  · split at h <;> omega

/-- A byte is put. -/
def St.put1 (M : RawM) (x : St) (g : M.σ) (c : Int) : St × M.σ × Int :=
  if x.o.length = x.s ∨ (x.m = 2 ∧ c = 10) then x.deliver M g else (x, g, 0)
def St.put (M : RawM) (x : St) (g : M.σ) (c : Int) : St × M.σ × Int :=
  if x.wErr ≠ 0 then (x, g, x.wErr)
  else if x.m = 1 then (({ x with d := 2 } : St).noted (putV M g [c]).2.2, (putV M g [c]).1, (putV M g [c]).2.2)
  else if x.o.length = x.s then
    (let z := ({ x with d := 2 } : St).deliver M g
     if z.2.2 ≠ 0 then z else ({ z.1 with o := z.1.o ++ [c] } : St).put1 M z.2.1 c)
  else ({ x with d := 2, o := x.o ++ [c] } : St).put1 M g c

theorem deliver_o (M : RawM) (x : St) (g : M.σ) : (x.deliver M g).1.o.length ≤ x.o.length := putGo_len M _ g x.o 0
theorem deliver_ok (M : RawM) (hW : M.Wr) (x : St) (g : M.σ) (hg : M.ok g) (hx : x.o.length ≤ 1048576) (hr : x.o.length ≤ M.rm g) : M.ok (x.deliver M g).2.1 ∧ M.rm g ≤ M.rm (x.deliver M g).2.1 + x.o.length := M.putGo_ok hW _ g x.o 0 hg hx hr

theorem putW_c (M : RawM) (hW : M.Wr) (x : St) (g : M.σ) (hg : M.ok g) (c : Int) (hr : x.o.length + 1 ≤ M.rm g) (ho : x.o.length ≤ 65536) (hi : x.i.length ≤ 140737488355328) (hk : x.k.length ≤ 140737488355328) :
    Contract Tryz.prog 43 (preW M x g) [.ptr 0 0, .i .u8 c] (isW M (x.put M g c)) := by
  refine contract_ev Γok Tryz.func43 rfl rfl [] ?_
  simp (maxSteps := 4000000) only [push_cast, Int.reduceEq, Int.reduceBNe, Int.reduceBEq, Int.reduceAdd, Int.reduceSub, Int.reduceMul, Int.reduceNeg, Int.reduceLT, Int.reduceLE, Int.reduceToNat, Nat.reduceLT, Nat.reduceAdd, Nat.reduceSub, Nat.reduceMul, Nat.reduceEqDiff, Nat.reduceLeDiff, Nat.reduceBEq, reduceIte, reduceCtorEq, Tryz.f43, preW, St.work, RawM.v]
  refine call_w (writeR_c M x g hi hk) [0, 1, 2, 3] (by simp (maxSteps := 4000000) only [push_cast, Int.reduceEq, Int.reduceBNe, Int.reduceBEq, Int.reduceAdd, Int.reduceSub, Int.reduceMul, Int.reduceNeg, Int.reduceLT, Int.reduceLE, Int.reduceToNat, Nat.reduceLT, Nat.reduceAdd, Nat.reduceSub, Nat.reduceMul, Nat.reduceEqDiff, Nat.reduceLeDiff, Nat.reduceBEq, reduceIte, reduceCtorEq, preD, St.work, RawM.v]) ?_
  rintro sv post ⟨rfl, rfl⟩
  by_cases he : x.wErr = 0
  case neg =>
    rw [if_neg he]
    simp (maxSteps := 4000000) only [push_cast, Int.reduceEq, Int.reduceBNe, Int.reduceBEq, Int.reduceAdd, Int.reduceSub, Int.reduceMul, Int.reduceNeg, Int.reduceLT, Int.reduceLE, Int.reduceToNat, Nat.reduceLT, Nat.reduceAdd, Nat.reduceSub, Nat.reduceMul, Nat.reduceEqDiff, Nat.reduceLeDiff, Nat.reduceBEq, reduceIte, reduceCtorEq, preD, St.work, RawM.v]
    refine ⟨fun _ => ?_, fun h => absurd h he⟩
    unfold St.put
    rw [if_pos he]
    exact Fin.w [0, 1, 2, 3] (.i .i64 _) _ (by simp (maxSteps := 4000000) only [push_cast, Int.reduceEq, Int.reduceBNe, Int.reduceBEq, Int.reduceAdd, Int.reduceSub, Int.reduceMul, Int.reduceNeg, Int.reduceLT, Int.reduceLE, Int.reduceToNat, Nat.reduceLT, Nat.reduceAdd, Nat.reduceSub, Nat.reduceMul, Nat.reduceEqDiff, Nat.reduceLeDiff, Nat.reduceBEq, reduceIte, reduceCtorEq, preW, St.work, RawM.v]) ⟨rfl, rfl⟩
  rw [if_pos he]
  unfold St.put
  rw [if_neg (by omega)]
  simp (maxSteps := 4000000) only [push_cast, Int.reduceEq, Int.reduceBNe, Int.reduceBEq, Int.reduceAdd, Int.reduceSub, Int.reduceMul, Int.reduceNeg, Int.reduceLT, Int.reduceLE, Int.reduceToNat, Nat.reduceLT, Nat.reduceAdd, Nat.reduceSub, Nat.reduceMul, Nat.reduceEqDiff, Nat.reduceLeDiff, Nat.reduceBEq, reduceIte, reduceCtorEq, preD, St.work, RawM.v]
  refine ⟨fun h => absurd he h, fun _ => ⟨fun h => ?_, fun h => ?_⟩⟩
  · rw [if_pos h]
    refine call_w (putR_c M hW g hg [c] (by simp) (by simp; omega)) [1] (by simp (maxSteps := 4000000) only [push_cast, Int.reduceEq, Int.reduceBNe, Int.reduceBEq, Int.reduceAdd, Int.reduceSub, Int.reduceMul, Int.reduceNeg, Int.reduceLT, Int.reduceLE, Int.reduceToNat, Nat.reduceLT, Nat.reduceAdd, Nat.reduceSub, Nat.reduceMul, Nat.reduceEqDiff, Nat.reduceLeDiff, Nat.reduceBEq, reduceIte, reduceCtorEq, RawM.v]) ?_
    rintro sv post ⟨rfl, rfl⟩
    simp (maxSteps := 4000000) only [push_cast, Int.reduceEq, Int.reduceBNe, Int.reduceBEq, Int.reduceAdd, Int.reduceSub, Int.reduceMul, Int.reduceNeg, Int.reduceLT, Int.reduceLE, Int.reduceToNat, Nat.reduceLT, Nat.reduceAdd, Nat.reduceSub, Nat.reduceMul, Nat.reduceEqDiff, Nat.reduceLeDiff, Nat.reduceBEq, reduceIte, reduceCtorEq]
    refine call_w (notedR_c { x with d := 2 } M.t M.y (putV M g [c]).2.2) [0, 1, 2, 3] (by simp (maxSteps := 4000000) only [push_cast, Int.reduceEq, Int.reduceBNe, Int.reduceBEq, Int.reduceAdd, Int.reduceSub, Int.reduceMul, Int.reduceNeg, Int.reduceLT, Int.reduceLE, Int.reduceToNat, Nat.reduceLT, Nat.reduceAdd, Nat.reduceSub, Nat.reduceMul, Nat.reduceEqDiff, Nat.reduceLeDiff, Nat.reduceBEq, reduceIte, reduceCtorEq, St.work]) ?_
    rintro sv post ⟨rfl, rfl⟩
    simp (maxSteps := 4000000) only [push_cast, Int.reduceEq, Int.reduceBNe, Int.reduceBEq, Int.reduceAdd, Int.reduceSub, Int.reduceMul, Int.reduceNeg, Int.reduceLT, Int.reduceLE, Int.reduceToNat, Nat.reduceLT, Nat.reduceAdd, Nat.reduceSub, Nat.reduceMul, Nat.reduceEqDiff, Nat.reduceLeDiff, Nat.reduceBEq, reduceIte, reduceCtorEq, St.work]
    exact Fin.w [0, 1, 2, 3] (.i .i64 _) _ (by simp (maxSteps := 4000000) only [push_cast, Int.reduceEq, Int.reduceBNe, Int.reduceBEq, Int.reduceAdd, Int.reduceSub, Int.reduceMul, Int.reduceNeg, Int.reduceLT, Int.reduceLE, Int.reduceToNat, Nat.reduceLT, Nat.reduceAdd, Nat.reduceSub, Nat.reduceMul, Nat.reduceEqDiff, Nat.reduceLeDiff, Nat.reduceBEq, reduceIte, reduceCtorEq, preW, St.work, RawM.v]) ⟨rfl, rfl⟩
  · rw [if_neg h]
    refine (region_plan rfl Γok mixed (.pure 0 (.pure 1 (.pure 2 (.pure 3 (.pure 4 (.pure 5 (.pure 6 (.pure 7 (.pure 8 (.pure 9 (.pure 10 (.pure 11 .done)))))))))))) 88 rfl (by kernel_rfl) ?_)
    simp (maxSteps := 4000000) only [push_cast, Int.reduceEq, Int.reduceBNe, Int.reduceBEq, Int.reduceAdd, Int.reduceSub, Int.reduceMul, Int.reduceNeg, Int.reduceLT, Int.reduceLE, Int.reduceToNat, Nat.reduceLT, Nat.reduceAdd, Nat.reduceSub, Nat.reduceMul, Nat.reduceEqDiff, Nat.reduceLeDiff, Nat.reduceBEq, reduceIte, reduceCtorEq]
    refine ⟨fun h1 => ?_, fun h1 => ?_⟩
    · rw [if_pos h1]
      refine call_w (deliverR_c M hW { x with d := 2 } g hg (by simp only; omega) (by simp only; omega)) [0, 1, 2, 3] (by simp (maxSteps := 4000000) only [push_cast, Int.reduceEq, Int.reduceBNe, Int.reduceBEq, Int.reduceAdd, Int.reduceSub, Int.reduceMul, Int.reduceNeg, Int.reduceLT, Int.reduceLE, Int.reduceToNat, Nat.reduceLT, Nat.reduceAdd, Nat.reduceSub, Nat.reduceMul, Nat.reduceEqDiff, Nat.reduceLeDiff, Nat.reduceBEq, reduceIte, reduceCtorEq, preD, St.work, RawM.v]) ?_
      rintro sv post ⟨rfl, rfl⟩
      have hz := deliver_o M { x with d := 2 } g
      obtain ⟨hzk, hzr⟩ := deliver_ok M hW { x with d := 2 } g hg (by simp only; omega) (by simp only; omega)
      have hz0 : (({ x with d := 2 } : St).deliver M g).2.2 = 0 → (({ x with d := 2 } : St).deliver M g).1.o = [] := putGo_ok0 M _ g x.o 0
      generalize ({ x with d := 2 } : St).deliver M g = z at *
      simp only at hz hzr
      simp (maxSteps := 4000000) only [push_cast, Int.reduceEq, Int.reduceBNe, Int.reduceBEq, Int.reduceAdd, Int.reduceSub, Int.reduceMul, Int.reduceNeg, Int.reduceLT, Int.reduceLE, Int.reduceToNat, Nat.reduceLT, Nat.reduceAdd, Nat.reduceSub, Nat.reduceMul, Nat.reduceEqDiff, Nat.reduceLeDiff, Nat.reduceBEq, reduceIte, reduceCtorEq, preD, St.work, RawM.v]
      refine ⟨fun h2 => ?_, fun h2 => ?_⟩
      · rw [if_pos h2]
        exact Fin.w [0, 1, 2, 3] (.i .i64 _) _ (by simp (maxSteps := 4000000) only [push_cast, Int.reduceEq, Int.reduceBNe, Int.reduceBEq, Int.reduceAdd, Int.reduceSub, Int.reduceMul, Int.reduceNeg, Int.reduceLT, Int.reduceLE, Int.reduceToNat, Nat.reduceLT, Nat.reduceAdd, Nat.reduceSub, Nat.reduceMul, Nat.reduceEqDiff, Nat.reduceLeDiff, Nat.reduceBEq, reduceIte, reduceCtorEq, preW, St.work, RawM.v]) ⟨rfl, rfl⟩
      · rw [if_neg (by omega)]
        refine ⟨by omega, ?_⟩
        refine (region_plan rfl Γok mixed (.pure 0 (.pure 1 (.pure 2 (.pure 3 (.pure 4 (.pure 5 (.pure 6 (.pure 7 (.pure 8 (.pure 9 (.pure 10 (.pure 11 (.pure 12 (.pure 13 (.pure 14 (.pure 15 (.pure 16 (.pure 17 (.pure 18 (.pure 19 (.pure 20 (.pure 21 (.pure 22 (.pure 23 .done)))))))))))))))))))))))) 88 rfl (by kernel_rfl) ?_)
        simp (maxSteps := 4000000) only [push_cast, Int.reduceEq, Int.reduceBNe, Int.reduceBEq, Int.reduceAdd, Int.reduceSub, Int.reduceMul, Int.reduceNeg, Int.reduceLT, Int.reduceLE, Int.reduceToNat, Nat.reduceLT, Nat.reduceAdd, Nat.reduceSub, Nat.reduceMul, Nat.reduceEqDiff, Nat.reduceLeDiff, Nat.reduceBEq, reduceIte, reduceCtorEq, List.length_append]
        unfold St.put1
        refine ⟨fun h3 => ?_, fun h3 => ?_⟩
        · rw [if_pos (by simpa using h3)]
          refine call_w (deliverR_c M hW { z.1 with o := z.1.o ++ [c] } z.2.1 hzk (by simp; omega) (by simp only; rw [hz0 (by omega)]; simp; omega)) [0, 1, 5, 3] (by simp (maxSteps := 4000000) only [push_cast, Int.reduceEq, Int.reduceBNe, Int.reduceBEq, Int.reduceAdd, Int.reduceSub, Int.reduceMul, Int.reduceNeg, Int.reduceLT, Int.reduceLE, Int.reduceToNat, Nat.reduceLT, Nat.reduceAdd, Nat.reduceSub, Nat.reduceMul, Nat.reduceEqDiff, Nat.reduceLeDiff, Nat.reduceBEq, reduceIte, reduceCtorEq, preD, St.work, RawM.v]) ?_
          rintro sv post ⟨rfl, rfl⟩
          simp (maxSteps := 4000000) only [push_cast, Int.reduceEq, Int.reduceBNe, Int.reduceBEq, Int.reduceAdd, Int.reduceSub, Int.reduceMul, Int.reduceNeg, Int.reduceLT, Int.reduceLE, Int.reduceToNat, Nat.reduceLT, Nat.reduceAdd, Nat.reduceSub, Nat.reduceMul, Nat.reduceEqDiff, Nat.reduceLeDiff, Nat.reduceBEq, reduceIte, reduceCtorEq, preD, St.work, RawM.v]
          exact Fin.w [0, 1, 5, 3] (.i .i64 _) _ (by simp (maxSteps := 4000000) only [push_cast, Int.reduceEq, Int.reduceBNe, Int.reduceBEq, Int.reduceAdd, Int.reduceSub, Int.reduceMul, Int.reduceNeg, Int.reduceLT, Int.reduceLE, Int.reduceToNat, Nat.reduceLT, Nat.reduceAdd, Nat.reduceSub, Nat.reduceMul, Nat.reduceEqDiff, Nat.reduceLeDiff, Nat.reduceBEq, reduceIte, reduceCtorEq, preW, St.work, RawM.v]) ⟨rfl, rfl⟩
        · rw [if_neg (by simp; omega)]
          exact Fin.w [0, 1, 5, 3] (.i .i64 0) _ (by simp (maxSteps := 4000000) only [push_cast, Int.reduceEq, Int.reduceBNe, Int.reduceBEq, Int.reduceAdd, Int.reduceSub, Int.reduceMul, Int.reduceNeg, Int.reduceLT, Int.reduceLE, Int.reduceToNat, Nat.reduceLT, Nat.reduceAdd, Nat.reduceSub, Nat.reduceMul, Nat.reduceEqDiff, Nat.reduceLeDiff, Nat.reduceBEq, reduceIte, reduceCtorEq, preW, St.work, RawM.v]) ⟨rfl, rfl⟩
    · rw [if_neg h1]
      refine ⟨by omega, ?_⟩
      refine (region_plan rfl Γok mixed (.pure 0 (.pure 1 (.pure 2 (.pure 3 (.pure 4 (.pure 5 (.pure 6 (.pure 7 (.pure 8 (.pure 9 (.pure 10 (.pure 11 (.pure 12 (.pure 13 (.pure 14 (.pure 15 (.pure 16 (.pure 17 (.pure 18 (.pure 19 (.pure 20 (.pure 21 (.pure 22 (.pure 23 .done)))))))))))))))))))))))) 88 rfl (by kernel_rfl) ?_)
      simp (maxSteps := 4000000) only [push_cast, Int.reduceEq, Int.reduceBNe, Int.reduceBEq, Int.reduceAdd, Int.reduceSub, Int.reduceMul, Int.reduceNeg, Int.reduceLT, Int.reduceLE, Int.reduceToNat, Nat.reduceLT, Nat.reduceAdd, Nat.reduceSub, Nat.reduceMul, Nat.reduceEqDiff, Nat.reduceLeDiff, Nat.reduceBEq, reduceIte, reduceCtorEq, List.length_append]
      unfold St.put1
      refine ⟨fun h3 => ?_, fun h3 => ?_⟩
      · rw [if_pos (by simpa using h3)]
        refine call_w (deliverR_c M hW { x with d := 2, o := x.o ++ [c] } g hg (by simp; omega) (by simp; omega)) [0, 1, 5, 3] (by simp (maxSteps := 4000000) only [push_cast, Int.reduceEq, Int.reduceBNe, Int.reduceBEq, Int.reduceAdd, Int.reduceSub, Int.reduceMul, Int.reduceNeg, Int.reduceLT, Int.reduceLE, Int.reduceToNat, Nat.reduceLT, Nat.reduceAdd, Nat.reduceSub, Nat.reduceMul, Nat.reduceEqDiff, Nat.reduceLeDiff, Nat.reduceBEq, reduceIte, reduceCtorEq, preD, St.work, RawM.v]) ?_
        rintro sv post ⟨rfl, rfl⟩
        simp (maxSteps := 4000000) only [push_cast, Int.reduceEq, Int.reduceBNe, Int.reduceBEq, Int.reduceAdd, Int.reduceSub, Int.reduceMul, Int.reduceNeg, Int.reduceLT, Int.reduceLE, Int.reduceToNat, Nat.reduceLT, Nat.reduceAdd, Nat.reduceSub, Nat.reduceMul, Nat.reduceEqDiff, Nat.reduceLeDiff, Nat.reduceBEq, reduceIte, reduceCtorEq, preD, St.work, RawM.v]
        exact Fin.w [0, 1, 5, 3] (.i .i64 _) _ (by simp (maxSteps := 4000000) only [push_cast, Int.reduceEq, Int.reduceBNe, Int.reduceBEq, Int.reduceAdd, Int.reduceSub, Int.reduceMul, Int.reduceNeg, Int.reduceLT, Int.reduceLE, Int.reduceToNat, Nat.reduceLT, Nat.reduceAdd, Nat.reduceSub, Nat.reduceMul, Nat.reduceEqDiff, Nat.reduceLeDiff, Nat.reduceBEq, reduceIte, reduceCtorEq, preW, St.work, RawM.v]) ⟨rfl, rfl⟩
      · rw [if_neg (by simp; omega)]
        exact Fin.w [0, 1, 5, 3] (.i .i64 0) _ (by simp (maxSteps := 4000000) only [push_cast, Int.reduceEq, Int.reduceBNe, Int.reduceBEq, Int.reduceAdd, Int.reduceSub, Int.reduceMul, Int.reduceNeg, Int.reduceLT, Int.reduceLE, Int.reduceToNat, Nat.reduceLT, Nat.reduceAdd, Nat.reduceSub, Nat.reduceMul, Nat.reduceEqDiff, Nat.reduceLeDiff, Nat.reduceBEq, reduceIte, reduceCtorEq, preW, St.work, RawM.v]) ⟨rfl, rfl⟩
end Go.Proofs.YtlgpcngfcglanaaGreat
/- A byte is got off a stream at work. -/
namespace Go.Proofs.YtlgpcngfcglanaaGreat
open Go Go.Eng
set_option maxHeartbeats 4000000
set_option linter.unusedSimpArgs false
set_option linter.unusedVariables false
set_option maxRecDepth 100000

/-- So many bytes are asked for at once. -/
def askV (m s : Int) : Int := if m = 1 then 1 else s
def St.fill (M : RawM) (x : St) (g : M.σ) : St × M.σ × Int :=
  if x.en = true then (x, g, 111)
  else if (someV M g (askV x.m x.s)).2.2 = 0 ∧ (someV M g (askV x.m x.s)).2.1 = [] then ({ x with en := true }, (someV M g (askV x.m x.s)).1, 111)
  else (({ x with i := x.i ++ (someV M g (askV x.m x.s)).2.1 } : St).noted (someV M g (askV x.m x.s)).2.2, (someV M g (askV x.m x.s)).1, (someV M g (askV x.m x.s)).2.2)

theorem ask_rng {m s : Int} (h : mayV m s = 0) : 1 ≤ askV m s ∧ askV m s ≤ 65536 := by
  obtain ⟨h1, h2, h3, h4⟩ := may_zero' h
  unfold askV
  split <;> omega

theorem fillW_c (M : RawM) (hR : M.Rd) (x : St) (g : M.σ) (hg : M.ok g) (hm : mayV x.m x.s = 0) (hi : x.i.length ≤ 1048576) :
    Contract Tryz.prog 63 (preW M x g) [.ptr 0 0] (isW M (x.fill M g)) := by
  obtain ⟨a1, a2⟩ := ask_rng hm
  have hl := someV_len M (askV x.m x.s) a1 8192 g
  refine contract_ev Γok Tryz.func63 rfl rfl [] ?_
  simp (maxSteps := 4000000) only [push_cast, Int.reduceEq, Int.reduceBNe, Int.reduceBEq, Int.reduceAdd, Int.reduceSub, Int.reduceMul, Int.reduceNeg, Int.reduceLT, Int.reduceLE, Int.reduceToNat, Nat.reduceLT, Nat.reduceAdd, Nat.reduceSub, Nat.reduceMul, Nat.reduceEqDiff, Nat.reduceLeDiff, Nat.reduceBEq, reduceIte, reduceCtorEq, Tryz.f63, preW, St.work, RawM.v]
  unfold St.fill
  refine ⟨fun h => ?_, fun h => ?_⟩
  · rw [if_pos h]
    exact Fin.w [0, 1, 2, 3] (.i .i64 _) _ (by simp (maxSteps := 4000000) only [push_cast, Int.reduceEq, Int.reduceBNe, Int.reduceBEq, Int.reduceAdd, Int.reduceSub, Int.reduceMul, Int.reduceNeg, Int.reduceLT, Int.reduceLE, Int.reduceToNat, Nat.reduceLT, Nat.reduceAdd, Nat.reduceSub, Nat.reduceMul, Nat.reduceEqDiff, Nat.reduceLeDiff, Nat.reduceBEq, reduceIte, reduceCtorEq, preW, St.work, RawM.v]) ⟨rfl, rfl⟩
  rw [if_neg (by simp [h])]
  have hl' : (someV M g (askV x.m x.s)).2.1.length ≤ askV x.m x.s := hl
  refine ⟨fun h1 => ?_, fun h1 => ?_⟩
  · have ha : askV x.m x.s = 1 := by unfold askV; rw [if_pos h1]
    rw [ha] at hl' ⊢
    refine call_w (someR_c M hR g hg 1 (by omega) (by omega)) [1] (by simp (maxSteps := 4000000) only [push_cast, Int.reduceEq, Int.reduceBNe, Int.reduceBEq, Int.reduceAdd, Int.reduceSub, Int.reduceMul, Int.reduceNeg, Int.reduceLT, Int.reduceLE, Int.reduceToNat, Nat.reduceLT, Nat.reduceAdd, Nat.reduceSub, Nat.reduceMul, Nat.reduceEqDiff, Nat.reduceLeDiff, Nat.reduceBEq, reduceIte, reduceCtorEq, RawM.v]) ?_
    rintro sv post ⟨rfl, rfl⟩
    simp (maxSteps := 4000000) only [push_cast, Int.reduceEq, Int.reduceBNe, Int.reduceBEq, Int.reduceAdd, Int.reduceSub, Int.reduceMul, Int.reduceNeg, Int.reduceLT, Int.reduceLE, Int.reduceToNat, Nat.reduceLT, Nat.reduceAdd, Nat.reduceSub, Nat.reduceMul, Nat.reduceEqDiff, Nat.reduceLeDiff, Nat.reduceBEq, reduceIte, reduceCtorEq]
    refine ⟨fun h2 => ?_, fun h2 => ?_⟩
    · rw [if_pos ⟨h2.1, by have := h2.2; simpa using this⟩]
      exact Fin.w [0, 1, 2, 3] (.i .i64 _) _ (by simp (maxSteps := 4000000) only [push_cast, Int.reduceEq, Int.reduceBNe, Int.reduceBEq, Int.reduceAdd, Int.reduceSub, Int.reduceMul, Int.reduceNeg, Int.reduceLT, Int.reduceLE, Int.reduceToNat, Nat.reduceLT, Nat.reduceAdd, Nat.reduceSub, Nat.reduceMul, Nat.reduceEqDiff, Nat.reduceLeDiff, Nat.reduceBEq, reduceIte, reduceCtorEq, preW, St.work, RawM.v]) ⟨rfl, rfl⟩
    · rw [if_neg (by rintro ⟨e1, e2⟩; rcases h2 with h2 | h2 <;> simp [e1, e2] at h2)]
      refine ⟨by omega, call_w (notedR_c { x with i := x.i ++ (someV M g 1).2.1 } M.t M.y (someV M g 1).2.2) [0, 1, 2, 4] (by simp (maxSteps := 4000000) only [push_cast, Int.reduceEq, Int.reduceBNe, Int.reduceBEq, Int.reduceAdd, Int.reduceSub, Int.reduceMul, Int.reduceNeg, Int.reduceLT, Int.reduceLE, Int.reduceToNat, Nat.reduceLT, Nat.reduceAdd, Nat.reduceSub, Nat.reduceMul, Nat.reduceEqDiff, Nat.reduceLeDiff, Nat.reduceBEq, reduceIte, reduceCtorEq, St.work]) ?_⟩
      rintro sv post ⟨rfl, rfl⟩
      simp (maxSteps := 4000000) only [push_cast, Int.reduceEq, Int.reduceBNe, Int.reduceBEq, Int.reduceAdd, Int.reduceSub, Int.reduceMul, Int.reduceNeg, Int.reduceLT, Int.reduceLE, Int.reduceToNat, Nat.reduceLT, Nat.reduceAdd, Nat.reduceSub, Nat.reduceMul, Nat.reduceEqDiff, Nat.reduceLeDiff, Nat.reduceBEq, reduceIte, reduceCtorEq, St.work]
      exact Fin.w [0, 1, 2, 4] (.i .i64 _) _ (by simp (maxSteps := 4000000) only [push_cast, Int.reduceEq, Int.reduceBNe, Int.reduceBEq, Int.reduceAdd, Int.reduceSub, Int.reduceMul, Int.reduceNeg, Int.reduceLT, Int.reduceLE, Int.reduceToNat, Nat.reduceLT, Nat.reduceAdd, Nat.reduceSub, Nat.reduceMul, Nat.reduceEqDiff, Nat.reduceLeDiff, Nat.reduceBEq, reduceIte, reduceCtorEq, preW, St.work, RawM.v]) ⟨rfl, rfl⟩
  · have ha : askV x.m x.s = x.s := by unfold askV; rw [if_neg h1]
    rw [ha] at hl' ⊢
    refine call_w (someR_c M hR g hg x.s (by omega) (by omega)) [1] (by simp (maxSteps := 4000000) only [push_cast, Int.reduceEq, Int.reduceBNe, Int.reduceBEq, Int.reduceAdd, Int.reduceSub, Int.reduceMul, Int.reduceNeg, Int.reduceLT, Int.reduceLE, Int.reduceToNat, Nat.reduceLT, Nat.reduceAdd, Nat.reduceSub, Nat.reduceMul, Nat.reduceEqDiff, Nat.reduceLeDiff, Nat.reduceBEq, reduceIte, reduceCtorEq, RawM.v]) ?_
    rintro sv post ⟨rfl, rfl⟩
    simp (maxSteps := 4000000) only [push_cast, Int.reduceEq, Int.reduceBNe, Int.reduceBEq, Int.reduceAdd, Int.reduceSub, Int.reduceMul, Int.reduceNeg, Int.reduceLT, Int.reduceLE, Int.reduceToNat, Nat.reduceLT, Nat.reduceAdd, Nat.reduceSub, Nat.reduceMul, Nat.reduceEqDiff, Nat.reduceLeDiff, Nat.reduceBEq, reduceIte, reduceCtorEq]
    refine ⟨fun h2 => ?_, fun h2 => ?_⟩
    · rw [if_pos ⟨h2.1, by have := h2.2; simpa using this⟩]
      exact Fin.w [0, 1, 2, 3] (.i .i64 _) _ (by simp (maxSteps := 4000000) only [push_cast, Int.reduceEq, Int.reduceBNe, Int.reduceBEq, Int.reduceAdd, Int.reduceSub, Int.reduceMul, Int.reduceNeg, Int.reduceLT, Int.reduceLE, Int.reduceToNat, Nat.reduceLT, Nat.reduceAdd, Nat.reduceSub, Nat.reduceMul, Nat.reduceEqDiff, Nat.reduceLeDiff, Nat.reduceBEq, reduceIte, reduceCtorEq, preW, St.work, RawM.v]) ⟨rfl, rfl⟩
    · rw [if_neg (by rintro ⟨e1, e2⟩; rcases h2 with h2 | h2 <;> simp [e1, e2] at h2)]
      refine ⟨by omega, call_w (notedR_c { x with i := x.i ++ (someV M g x.s).2.1 } M.t M.y (someV M g x.s).2.2) [0, 1, 2, 4] (by simp (maxSteps := 4000000) only [push_cast, Int.reduceEq, Int.reduceBNe, Int.reduceBEq, Int.reduceAdd, Int.reduceSub, Int.reduceMul, Int.reduceNeg, Int.reduceLT, Int.reduceLE, Int.reduceToNat, Nat.reduceLT, Nat.reduceAdd, Nat.reduceSub, Nat.reduceMul, Nat.reduceEqDiff, Nat.reduceLeDiff, Nat.reduceBEq, reduceIte, reduceCtorEq, St.work]) ?_⟩
      rintro sv post ⟨rfl, rfl⟩
      simp (maxSteps := 4000000) only [push_cast, Int.reduceEq, Int.reduceBNe, Int.reduceBEq, Int.reduceAdd, Int.reduceSub, Int.reduceMul, Int.reduceNeg, Int.reduceLT, Int.reduceLE, Int.reduceToNat, Nat.reduceLT, Nat.reduceAdd, Nat.reduceSub, Nat.reduceMul, Nat.reduceEqDiff, Nat.reduceLeDiff, Nat.reduceBEq, reduceIte, reduceCtorEq, St.work]
      exact Fin.w [0, 1, 2, 4] (.i .i64 _) _ (by simp (maxSteps := 4000000) only [push_cast, Int.reduceEq, Int.reduceBNe, Int.reduceBEq, Int.reduceAdd, Int.reduceSub, Int.reduceMul, Int.reduceNeg, Int.reduceLT, Int.reduceLE, Int.reduceToNat, Nat.reduceLT, Nat.reduceAdd, Nat.reduceSub, Nat.reduceMul, Nat.reduceEqDiff, Nat.reduceLeDiff, Nat.reduceBEq, reduceIte, reduceCtorEq, preW, St.work, RawM.v]) ⟨rfl, rfl⟩

/-- A byte is got: the state, the Raw, the byte, the error. -/
def St.get (M : RawM) (x : St) (g : M.σ) : St × M.σ × Int × Int :=
  if x.r = false then (x, g, 0, 65)
  else if x.d = 2 then (x, g, 0, 112)
  else if x.k ≠ [] then ({ x with d := 1, k := x.k.take (x.k.length - 1) }, g, x.k.getD (x.k.length - 1) 0, 0)
  else if x.i ≠ [] then ({ x with d := 1, i := x.i.drop 1 }, g, x.i.getD 0 0, 0)
  else
    (let z := ({ x with d := 1 } : St).fill M g
     if z.2.2 ≠ 0 then (z.1, z.2.1, 0, z.2.2) else ({ z.1 with i := z.1.i.drop 1 }, z.2.1, z.1.i.getD 0 0, 0))
/-- How get ends. -/
def isG (M : RawM) (r : St × M.σ × Int × Int) (sv : SV) (post : SS) : Prop := sv = .tup [.i .u8 r.2.2.1, .i .i64 r.2.2.2] ∧ post = preW M r.1 r.2.1

theorem fill_i (M : RawM) (x : St) (g : M.σ) (h : (x.fill M g).2.2 = 0) : (x.fill M g).1.i ≠ [] := by
  unfold St.fill at h ⊢
  split at h
  · simp at h
  · split at h
    · simp at h
    · rename_i h1 h2
      rw [if_neg h1, if_neg h2]
      simp only [St.noted] at h ⊢
      intro h3
      exact h2 ⟨h, (List.append_eq_nil_iff.1 h3).2⟩

theorem getW_c (M : RawM) (hR : M.Rd) (x : St) (g : M.σ) (hg : M.ok g) (hm : mayV x.m x.s = 0) (hi : x.i.length ≤ 1048576) (hk : x.k.length ≤ 1048576) :
    Contract Tryz.prog 41 (preW M x g) [.ptr 0 0] (isG M (x.get M g)) := by
  have z0 : ((0 : Nat) : Int) = 0 := rfl
  refine contract_ev Γok Tryz.func41 rfl rfl [] ?_
  simp (maxSteps := 4000000) only [push_cast, Int.reduceEq, Int.reduceBNe, Int.reduceBEq, Int.reduceAdd, Int.reduceSub, Int.reduceMul, Int.reduceNeg, Int.reduceLT, Int.reduceLE, Int.reduceToNat, Nat.reduceLT, Nat.reduceAdd, Nat.reduceSub, Nat.reduceMul, Nat.reduceEqDiff, Nat.reduceLeDiff, Nat.reduceBEq, reduceIte, reduceCtorEq, Tryz.f41, preW, St.work, RawM.v]
  unfold St.get
  refine ⟨fun h => ?_, fun h => ⟨fun h1 => ?_, fun h1 => ?_⟩⟩
  · rw [if_pos h]
    exact Fin.w [0, 1, 2, 3] (.tup [.i .u8 0, .i .i64 65]) _ (by simp (maxSteps := 4000000) only [push_cast, Int.reduceEq, Int.reduceBNe, Int.reduceBEq, Int.reduceAdd, Int.reduceSub, Int.reduceMul, Int.reduceNeg, Int.reduceLT, Int.reduceLE, Int.reduceToNat, Nat.reduceLT, Nat.reduceAdd, Nat.reduceSub, Nat.reduceMul, Nat.reduceEqDiff, Nat.reduceLeDiff, Nat.reduceBEq, reduceIte, reduceCtorEq, preW, St.work, RawM.v]) ⟨rfl, rfl⟩
  · rw [if_neg (by simp [h]), if_pos h1]
    exact Fin.w [0, 1, 2, 3] (.tup [.i .u8 0, .i .i64 112]) _ (by simp (maxSteps := 4000000) only [push_cast, Int.reduceEq, Int.reduceBNe, Int.reduceBEq, Int.reduceAdd, Int.reduceSub, Int.reduceMul, Int.reduceNeg, Int.reduceLT, Int.reduceLE, Int.reduceToNat, Nat.reduceLT, Nat.reduceAdd, Nat.reduceSub, Nat.reduceMul, Nat.reduceEqDiff, Nat.reduceLeDiff, Nat.reduceBEq, reduceIte, reduceCtorEq, preW, St.work, RawM.v]) ⟨rfl, rfl⟩
  rw [if_neg (by simp [h]), if_neg h1]
  refine ⟨fun h2 => ?_, fun h2 => ?_⟩
  · rw [if_pos (by rintro e; rw [e] at h2; simp at h2)]
    rw [wrap64 (n := (x.k.length : Int) - 1) (by omega) (by omega)]
    refine ⟨by omega, by omega, ?_⟩
    have e1 : ((x.k.length : Int) - 1).toNat = x.k.length - 1 := by omega
    rw [e1]
    exact Fin.w [0, 1, 2, 3] (.tup [.i .u8 _, .i .i64 0]) _ (by simp (maxSteps := 4000000) only [push_cast, Int.reduceEq, Int.reduceBNe, Int.reduceBEq, Int.reduceAdd, Int.reduceSub, Int.reduceMul, Int.reduceNeg, Int.reduceLT, Int.reduceLE, Int.reduceToNat, Nat.reduceLT, Nat.reduceAdd, Nat.reduceSub, Nat.reduceMul, Nat.reduceEqDiff, Nat.reduceLeDiff, Nat.reduceBEq, reduceIte, reduceCtorEq, preW, St.work, RawM.v]) ⟨rfl, rfl⟩
  · have hkn : x.k = [] := by
      have : x.k.length = 0 := by omega
      simpa using this
    rw [if_neg (by simp [hkn])]
    refine ⟨fun h3 => ?_, fun h3 => ?_⟩
    · have hin : x.i = [] := by
        have : x.i.length = 0 := by omega
        simpa using this
      rw [if_neg (by simp [hin])]
      refine call_w (fillW_c M hR { x with d := 1 } g hg hm hi) [0, 1, 2, 3] (by simp (maxSteps := 4000000) only [push_cast, Int.reduceEq, Int.reduceBNe, Int.reduceBEq, Int.reduceAdd, Int.reduceSub, Int.reduceMul, Int.reduceNeg, Int.reduceLT, Int.reduceLE, Int.reduceToNat, Nat.reduceLT, Nat.reduceAdd, Nat.reduceSub, Nat.reduceMul, Nat.reduceEqDiff, Nat.reduceLeDiff, Nat.reduceBEq, reduceIte, reduceCtorEq, preW, St.work, RawM.v]) ?_
      rintro sv post ⟨rfl, rfl⟩
      have hz := fill_i M { x with d := 1 } g
      generalize ({ x with d := 1 } : St).fill M g = z at *
      simp (maxSteps := 4000000) only [push_cast, Int.reduceEq, Int.reduceBNe, Int.reduceBEq, Int.reduceAdd, Int.reduceSub, Int.reduceMul, Int.reduceNeg, Int.reduceLT, Int.reduceLE, Int.reduceToNat, Nat.reduceLT, Nat.reduceAdd, Nat.reduceSub, Nat.reduceMul, Nat.reduceEqDiff, Nat.reduceLeDiff, Nat.reduceBEq, reduceIte, reduceCtorEq, preW, St.work, RawM.v]
      refine ⟨fun h4 => ?_, fun h4 => ?_⟩
      · rw [if_pos h4]
        exact Fin.w [0, 1, 4, 5] (.tup [.i .u8 0, .i .i64 _]) _ (by simp (maxSteps := 4000000) only [push_cast, Int.reduceEq, Int.reduceBNe, Int.reduceBEq, Int.reduceAdd, Int.reduceSub, Int.reduceMul, Int.reduceNeg, Int.reduceLT, Int.reduceLE, Int.reduceToNat, Nat.reduceLT, Nat.reduceAdd, Nat.reduceSub, Nat.reduceMul, Nat.reduceEqDiff, Nat.reduceLeDiff, Nat.reduceBEq, reduceIte, reduceCtorEq, preW, St.work, RawM.v]) ⟨rfl, rfl⟩
      · rw [if_neg (by omega)]
        have hne := hz h4
        have hpos : 0 < z.1.i.length := List.length_pos_iff.2 hne
        refine ⟨by omega, by omega, ?_⟩
        exact Fin.w [0, 1, 4, 5] (.tup [.i .u8 _, .i .i64 0]) _ (by simp (maxSteps := 4000000) only [push_cast, Int.reduceEq, Int.reduceBNe, Int.reduceBEq, Int.reduceAdd, Int.reduceSub, Int.reduceMul, Int.reduceNeg, Int.reduceLT, Int.reduceLE, Int.reduceToNat, Nat.reduceLT, Nat.reduceAdd, Nat.reduceSub, Nat.reduceMul, Nat.reduceEqDiff, Nat.reduceLeDiff, Nat.reduceBEq, reduceIte, reduceCtorEq, preW, St.work, RawM.v]; try exact ⟨rfl, rfl⟩) ⟨rfl, rfl⟩
    · have hpos : 0 < x.i.length := by omega
      rw [if_pos (List.length_pos_iff.1 hpos)]
      refine ⟨by omega, by omega, ?_⟩
      exact Fin.w [0, 1, 2, 3] (.tup [.i .u8 _, .i .i64 0]) _ (by simp (maxSteps := 4000000) only [push_cast, Int.reduceEq, Int.reduceBNe, Int.reduceBEq, Int.reduceAdd, Int.reduceSub, Int.reduceMul, Int.reduceNeg, Int.reduceLT, Int.reduceLE, Int.reduceToNat, Nat.reduceLT, Nat.reduceAdd, Nat.reduceSub, Nat.reduceMul, Nat.reduceEqDiff, Nat.reduceLeDiff, Nat.reduceBEq, reduceIte, reduceCtorEq, preW, St.work, RawM.v]; try exact ⟨rfl, rfl⟩) ⟨rfl, rfl⟩
end Go.Proofs.YtlgpcngfcglanaaGreat
/- A call on a stream begins. -/
namespace Go.Proofs.YtlgpcngfcglanaaGreat
open Go Go.Eng
set_option maxHeartbeats 4000000
set_option linter.unusedSimpArgs false
set_option linter.unusedVariables false
set_option maxRecDepth 100000

theorem rg8 : List.range 8 = [0, 1, 2, 3, 4, 5, 6, 7] := rfl
theorem rg11 : List.range 11 = [0, 1, 2, 3, 4, 5, 6, 7, 8, 9, 10] := rfl

theorem buffer_c (m s : Int) : Contract Tryz.prog 39 nilSS [.i .i64 m, .i .i64 s] (fun sv post => sv = .i .i64 (mayV m s) ∧ post = nilSS) := by
  refine contract_ev Γok Tryz.func39 rfl rfl [] ?_
  simp (maxSteps := 4000000) only [push_cast, Int.reduceEq, Int.reduceBNe, Int.reduceBEq, Int.reduceAdd, Int.reduceSub, Int.reduceMul, Int.reduceNeg, Int.reduceLT, Int.reduceLE, Int.reduceToNat, Nat.reduceLT, Nat.reduceAdd, Nat.reduceSub, Nat.reduceMul, Nat.reduceEqDiff, Nat.reduceLeDiff, Nat.reduceBEq, reduceIte, reduceCtorEq, Tryz.f39]
  refine ⟨fun h1 => ?_, fun h1 => ⟨fun h2 => ?_, fun h2 => ?_⟩⟩ <;> refine Fin.nil rfl (psv := .i .i64 _) ⟨rfl, rfl⟩ ⟨?_, rfl⟩ <;> unfold mayV
  · rw [if_pos h1]
  · rw [if_neg (by omega), if_pos h2]
  · rw [if_neg (by omega), if_neg (by omega)]

/-- A state may be. -/
def St.May (x : St) : Prop :=
  mayV x.m x.s = 0 ∧ x.o.length ≤ x.s ∧ (¬ x.m = 1 ∨ x.o.length = 0) ∧ x.i.length ≤ 65536 ∧ x.k.length ≤ 8 ∧ (x.cl = false ∨ x.d = 0) ∧
    ((x.d = 0 ∧ x.o.length = 0 ∧ x.i.length = 0 ∧ x.k.length = 0) ∨ (x.d = 1 ∧ x.r = true ∧ x.o.length = 0) ∨ (x.d = 2 ∧ x.w = true ∧ x.i.length = 0 ∧ x.k.length = 0))
instance (x : St) : Decidable x.May := by unfold St.May; infer_instance
/-- Its slices are of a machine's size. -/
structure St.fits (x : St) : Prop where
  o : x.o.length ≤ 140737488355328
  i : x.i.length ≤ 140737488355328
  k : x.k.length ≤ 140737488355328

theorem int_beq0 (n : Nat) : ((n : Int) == 0) = (n == 0) := by
  rw [Bool.eq_iff_iff]; simp

theorem checkR_c (x : St) (hx : x.fits) : Contract Tryz.prog 18 nilSS [x.sv .old] (fun sv post => sv = .i .i64 (if x.May then 0 else 51) ∧ post = nilSS) := by
  obtain ⟨ho, hi, hk⟩ := hx
  refine contract_ev Γok Tryz.func18 rfl rfl [] ?_
  simp (maxSteps := 4000000) only [push_cast, Int.reduceEq, Int.reduceBNe, Int.reduceBEq, Int.reduceAdd, Int.reduceSub, Int.reduceMul, Int.reduceNeg, Int.reduceLT, Int.reduceLE, Int.reduceToNat, Nat.reduceLT, Nat.reduceAdd, Nat.reduceSub, Nat.reduceMul, Nat.reduceEqDiff, Nat.reduceLeDiff, Nat.reduceBEq, reduceIte, reduceCtorEq, Tryz.f18, rg11, St.sv, St.cells]
  refine call_w (buffer_c x.m x.s) [] (by simp (maxSteps := 4000000) only [push_cast, Int.reduceEq, Int.reduceBNe, Int.reduceBEq, Int.reduceAdd, Int.reduceSub, Int.reduceMul, Int.reduceNeg, Int.reduceLT, Int.reduceLE, Int.reduceToNat, Nat.reduceLT, Nat.reduceAdd, Nat.reduceSub, Nat.reduceMul, Nat.reduceEqDiff, Nat.reduceLeDiff, Nat.reduceBEq, reduceIte, reduceCtorEq]) ?_
  rintro sv post ⟨rfl, rfl⟩
  simp (maxSteps := 4000000) only [push_cast, Int.reduceEq, Int.reduceBNe, Int.reduceBEq, Int.reduceAdd, Int.reduceSub, Int.reduceMul, Int.reduceNeg, Int.reduceLT, Int.reduceLE, Int.reduceToNat, Nat.reduceLT, Nat.reduceAdd, Nat.reduceSub, Nat.reduceMul, Nat.reduceEqDiff, Nat.reduceLeDiff, Nat.reduceBEq, reduceIte, reduceCtorEq]
  rw [wrap64 (n := (x.i.length : Int) + x.k.length) (by omega) (by omega)]
  rw [wrap64 (n := (x.o.length : Int) + (x.i.length + x.k.length)) (by omega) (by omega)]
  have no : ∀ (S : SS), S.k = 0 → ¬ x.May → Fin (fun sv post => sv = .i .i64 (if x.May then 0 else 51) ∧ post = nilSS) (.i .i64 51) S := fun S hS hP =>
    Fin.nil hS (psv := .i .i64 51) ⟨rfl, rfl⟩ ⟨by rw [if_neg hP], rfl⟩
  have yes : ∀ (S : SS), S.k = 0 → x.May → Fin (fun sv post => sv = .i .i64 (if x.May then 0 else 51) ∧ post = nilSS) (.i .i64 0) S := fun S hS hP =>
    Fin.nil hS (psv := .i .i64 0) ⟨rfl, rfl⟩ ⟨by rw [if_pos hP], rfl⟩
  unfold St.May at no yes ⊢
  refine ⟨fun hd => ⟨fun h => no _ rfl ?_, fun h => yes _ rfl ?_⟩, fun hd => ⟨fun hd1 => ⟨fun h => no _ rfl ?_, fun h => yes _ rfl ?_⟩, fun hd1 => ⟨fun hd2 => ⟨fun h => no _ rfl ?_, fun h => yes _ rfl ?_⟩, fun hd2 => no _ rfl ?_⟩⟩⟩
  all_goals grind

/-- What a call begins with. -/
def St.bErr (x : St) : Int := if x.May then (if x.cl = true then 113 else 0) else 51
def isB (x : St) (v : SV) (e : Int) (sv : SV) (post : SS) : Prop := sv = .tup [.ptr 0 0, .i .i64 e] ∧ post = ⟨[], [(0, 102, x.work v)], [2, 3], [], 4, 0, []⟩

theorem beginR_c (x : St) (hx : x.fits) (t : TypeId) (y : Value) : Contract Tryz.prog 40 nilSS [x.sv .old, .ifc t (.raw y)] (isB x (.ifc t (.raw y)) x.bErr) := by
  have hx' := hx
  obtain ⟨ho, hi, hk⟩ := hx'
  refine contract_ev Γok Tryz.func40 rfl rfl [] ?_
  simp (maxSteps := 4000000) only [push_cast, Int.reduceEq, Int.reduceBNe, Int.reduceBEq, Int.reduceAdd, Int.reduceSub, Int.reduceMul, Int.reduceNeg, Int.reduceLT, Int.reduceLE, Int.reduceToNat, Nat.reduceLT, Nat.reduceAdd, Nat.reduceSub, Nat.reduceMul, Nat.reduceEqDiff, Nat.reduceLeDiff, Nat.reduceBEq, reduceIte, reduceCtorEq, Tryz.f40, rg11, St.sv, St.cells]
  refine (region_plan rfl Γok mixed (.pure 0 (.pure 1 (.pure 2 (.pure 3 (.pure 4 (.pure 6 (.pure 7 (.pure 9 (.pure 10 (.eff (.cons 5 [7, 10] (.eff (.cons 8 [10] (.eff (.cons 11 [] (.pure 12 (.pure 13 (.pure 14 (.eff (.cons 15 [] (.pure 16 (.pure 17 (.pure 18 (.eff (.cons 19 [] (.pure 20 (.pure 21 (.pure 22 (.eff (.cons 23 [] .done .nil))))) .nil))))) .nil))))) .nil)) .nil)) .nil))))))))))) 49 rfl (by kernel_rfl) ?_)
  simp (maxSteps := 4000000) only [push_cast, Int.reduceEq, Int.reduceBNe, Int.reduceBEq, Int.reduceAdd, Int.reduceSub, Int.reduceMul, Int.reduceNeg, Int.reduceLT, Int.reduceLE, Int.reduceToNat, Nat.reduceLT, Nat.reduceAdd, Nat.reduceSub, Nat.reduceMul, Nat.reduceEqDiff, Nat.reduceLeDiff, Nat.reduceBEq, reduceIte, reduceCtorEq]
  refine call_w (bclone_c x.o ho) [] (by simp (maxSteps := 4000000) only [push_cast, Int.reduceEq, Int.reduceBNe, Int.reduceBEq, Int.reduceAdd, Int.reduceSub, Int.reduceMul, Int.reduceNeg, Int.reduceLT, Int.reduceLE, Int.reduceToNat, Nat.reduceLT, Nat.reduceAdd, Nat.reduceSub, Nat.reduceMul, Nat.reduceEqDiff, Nat.reduceLeDiff, Nat.reduceBEq, reduceIte, reduceCtorEq]) ?_
  rintro sv post ⟨rfl, rfl⟩
  simp (maxSteps := 4000000) only [push_cast, Int.reduceEq, Int.reduceBNe, Int.reduceBEq, Int.reduceAdd, Int.reduceSub, Int.reduceMul, Int.reduceNeg, Int.reduceLT, Int.reduceLE, Int.reduceToNat, Nat.reduceLT, Nat.reduceAdd, Nat.reduceSub, Nat.reduceMul, Nat.reduceEqDiff, Nat.reduceLeDiff, Nat.reduceBEq, reduceIte, reduceCtorEq]
  refine call_w (bclone_c x.i hi) [] (by simp (maxSteps := 4000000) only [push_cast, Int.reduceEq, Int.reduceBNe, Int.reduceBEq, Int.reduceAdd, Int.reduceSub, Int.reduceMul, Int.reduceNeg, Int.reduceLT, Int.reduceLE, Int.reduceToNat, Nat.reduceLT, Nat.reduceAdd, Nat.reduceSub, Nat.reduceMul, Nat.reduceEqDiff, Nat.reduceLeDiff, Nat.reduceBEq, reduceIte, reduceCtorEq]) ?_
  rintro sv post ⟨rfl, rfl⟩
  simp (maxSteps := 4000000) only [push_cast, Int.reduceEq, Int.reduceBNe, Int.reduceBEq, Int.reduceAdd, Int.reduceSub, Int.reduceMul, Int.reduceNeg, Int.reduceLT, Int.reduceLE, Int.reduceToNat, Nat.reduceLT, Nat.reduceAdd, Nat.reduceSub, Nat.reduceMul, Nat.reduceEqDiff, Nat.reduceLeDiff, Nat.reduceBEq, reduceIte, reduceCtorEq]
  refine call_w (bclone_c x.k hk) [] (by simp (maxSteps := 4000000) only [push_cast, Int.reduceEq, Int.reduceBNe, Int.reduceBEq, Int.reduceAdd, Int.reduceSub, Int.reduceMul, Int.reduceNeg, Int.reduceLT, Int.reduceLE, Int.reduceToNat, Nat.reduceLT, Nat.reduceAdd, Nat.reduceSub, Nat.reduceMul, Nat.reduceEqDiff, Nat.reduceLeDiff, Nat.reduceBEq, reduceIte, reduceCtorEq]) ?_
  rintro sv post ⟨rfl, rfl⟩
  simp (maxSteps := 4000000) only [push_cast, Int.reduceEq, Int.reduceBNe, Int.reduceBEq, Int.reduceAdd, Int.reduceSub, Int.reduceMul, Int.reduceNeg, Int.reduceLT, Int.reduceLE, Int.reduceToNat, Nat.reduceLT, Nat.reduceAdd, Nat.reduceSub, Nat.reduceMul, Nat.reduceEqDiff, Nat.reduceLeDiff, Nat.reduceBEq, reduceIte, reduceCtorEq, rg11]
  refine call_w (checkR_c x hx) [] (by simp (maxSteps := 4000000) only [push_cast, Int.reduceEq, Int.reduceBNe, Int.reduceBEq, Int.reduceAdd, Int.reduceSub, Int.reduceMul, Int.reduceNeg, Int.reduceLT, Int.reduceLE, Int.reduceToNat, Nat.reduceLT, Nat.reduceAdd, Nat.reduceSub, Nat.reduceMul, Nat.reduceEqDiff, Nat.reduceLeDiff, Nat.reduceBEq, reduceIte, reduceCtorEq, St.sv, St.cells]) ?_
  rintro sv post ⟨rfl, rfl⟩
  simp (maxSteps := 4000000) only [push_cast, Int.reduceEq, Int.reduceBNe, Int.reduceBEq, Int.reduceAdd, Int.reduceSub, Int.reduceMul, Int.reduceNeg, Int.reduceLT, Int.reduceLE, Int.reduceToNat, Nat.reduceLT, Nat.reduceAdd, Nat.reduceSub, Nat.reduceMul, Nat.reduceEqDiff, Nat.reduceLeDiff, Nat.reduceBEq, reduceIte, reduceCtorEq]
  unfold St.bErr
  refine ⟨fun h => ?_, fun h => ⟨fun h1 => ?_, fun h1 => ?_⟩⟩
  · have hm : ¬ x.May := fun hm => h (by rw [if_pos hm])
    rw [if_neg hm, if_neg hm]
    exact Fin.w [1, 4, 2, 3] (.tup [.ptr 0 0, .i .i64 51]) _ (by simp (maxSteps := 4000000) only [push_cast, Int.reduceEq, Int.reduceBNe, Int.reduceBEq, Int.reduceAdd, Int.reduceSub, Int.reduceMul, Int.reduceNeg, Int.reduceLT, Int.reduceLE, Int.reduceToNat, Nat.reduceLT, Nat.reduceAdd, Nat.reduceSub, Nat.reduceMul, Nat.reduceEqDiff, Nat.reduceLeDiff, Nat.reduceBEq, reduceIte, reduceCtorEq, St.work]) ⟨rfl, rfl⟩
  · have hm : x.May := by
      by_cases hm : x.May
      · exact hm
      · rw [if_neg hm] at h; omega
    rw [if_pos hm, if_pos h1]
    exact Fin.w [1, 4, 2, 3] (.tup [.ptr 0 0, .i .i64 113]) _ (by simp (maxSteps := 4000000) only [push_cast, Int.reduceEq, Int.reduceBNe, Int.reduceBEq, Int.reduceAdd, Int.reduceSub, Int.reduceMul, Int.reduceNeg, Int.reduceLT, Int.reduceLE, Int.reduceToNat, Nat.reduceLT, Nat.reduceAdd, Nat.reduceSub, Nat.reduceMul, Nat.reduceEqDiff, Nat.reduceLeDiff, Nat.reduceBEq, reduceIte, reduceCtorEq, St.work]) ⟨rfl, rfl⟩
  · have hm : x.May := by
      by_cases hm : x.May
      · exact hm
      · rw [if_neg hm] at h; omega
    rw [if_pos hm, if_neg (by simp [h1])]
    exact Fin.w [1, 4, 2, 3] (.tup [.ptr 0 0, .i .i64 0]) _ (by simp (maxSteps := 4000000) only [push_cast, Int.reduceEq, Int.reduceBNe, Int.reduceBEq, Int.reduceAdd, Int.reduceSub, Int.reduceMul, Int.reduceNeg, Int.reduceLT, Int.reduceLE, Int.reduceToNat, Nat.reduceLT, Nat.reduceAdd, Nat.reduceSub, Nat.reduceMul, Nat.reduceEqDiff, Nat.reduceLeDiff, Nat.reduceBEq, reduceIte, reduceCtorEq, St.work]) ⟨rfl, rfl⟩
end Go.Proofs.YtlgpcngfcglanaaGreat
/- The calls on a stream. -/
namespace Go.Proofs.YtlgpcngfcglanaaGreat
open Go Go.Eng
set_option maxHeartbeats 4000000
set_option linter.unusedSimpArgs false
set_option linter.unusedVariables false
set_option maxRecDepth 100000

theorem bErr_zero {x : St} (h : x.bErr = 0) : x.May ∧ x.cl = false := by
  unfold St.bErr at h
  split at h
  · rename_i hm
    refine ⟨hm, ?_⟩
    split at h
    · omega
    · rename_i hc; simpa using hc
  · omega
theorem May.bd {x : St} (h : x.May) : mayV x.m x.s = 0 ∧ x.o.length ≤ 65536 ∧ x.i.length ≤ 65536 ∧ x.k.length ≤ 8 := by
  obtain ⟨h1, h2, h3, h4, h5, h6, h7⟩ := h
  have := may_zero' h1
  exact ⟨h1, by omega, h4, h5⟩

def St.Put (M : RawM) (x : St) (g : M.σ) (c : Int) : St × M.σ × Int := if x.bErr ≠ 0 then (x, g, x.bErr) else x.put M g c
def St.Get (M : RawM) (x : St) (g : M.σ) : St × M.σ × Int × Int := if x.bErr ≠ 0 then (x, g, 0, x.bErr) else x.get M g
def St.Flush (M : RawM) (x : St) (g : M.σ) : St × M.σ × Int :=
  if x.bErr ≠ 0 then (x, g, x.bErr)
  else if x.d = 2 then (if (x.deliver M g).2.2 = 0 then ({ (x.deliver M g).1 with d := 0 }, (x.deliver M g).2.1, 0) else x.deliver M g)
  else (x, g, 0)
def St.Close (M : RawM) (x : St) (g : M.σ) : St × M.σ × Int :=
  if x.bErr ≠ 0 then (x, g, x.bErr)
  else ({ (x.deliver M g).1 with o := [], i := [], k := [], d := 0, cl := true }, (x.deliver M g).2.1, (x.deliver M g).2.2)
/-- How a call ends: the state that follows, an error. -/
def isS (M : RawM) (r : St × M.σ × Int) (sv : SV) (post : SS) : Prop := sv = .tup [r.1.sv .new, .i .i64 r.2.2] ∧ post = preR (M.res r.2.1)
def isSB (M : RawM) (r : St × M.σ × Int × Int) (sv : SV) (post : SS) : Prop := sv = .tup [r.1.sv .new, .i .u8 r.2.2.1, .i .i64 r.2.2.2] ∧ post = preR (M.res r.2.1)

theorem PutR_c (M : RawM) (hW : M.Wr) (x : St) (g : M.σ) (hg : M.ok g) (hx : x.fits) (c : Int) (hr : x.o.length + 1 ≤ M.rm g) : Contract Tryz.prog 14 (preR (M.res g)) [x.sv .old, M.v, .i .u8 c] (isS M (x.Put M g c)) := by
  refine contract_ev Γok Tryz.func14 rfl rfl [] ?_
  simp (maxSteps := 4000000) only [push_cast, Int.reduceEq, Int.reduceBNe, Int.reduceBEq, Int.reduceAdd, Int.reduceSub, Int.reduceMul, Int.reduceNeg, Int.reduceLT, Int.reduceLE, Int.reduceToNat, Nat.reduceLT, Nat.reduceAdd, Nat.reduceSub, Nat.reduceMul, Nat.reduceEqDiff, Nat.reduceLeDiff, Nat.reduceBEq, reduceIte, reduceCtorEq, Tryz.f14, RawM.v, St.sv, St.cells, rg11]
  refine call_w (beginR_c x hx M.t M.y) [] (by simp (maxSteps := 4000000) only [push_cast, Int.reduceEq, Int.reduceBNe, Int.reduceBEq, Int.reduceAdd, Int.reduceSub, Int.reduceMul, Int.reduceNeg, Int.reduceLT, Int.reduceLE, Int.reduceToNat, Nat.reduceLT, Nat.reduceAdd, Nat.reduceSub, Nat.reduceMul, Nat.reduceEqDiff, Nat.reduceLeDiff, Nat.reduceBEq, reduceIte, reduceCtorEq, St.sv, St.cells]) ?_
  rintro sv post ⟨rfl, rfl⟩
  simp (maxSteps := 4000000) only [push_cast, Int.reduceEq, Int.reduceBNe, Int.reduceBEq, Int.reduceAdd, Int.reduceSub, Int.reduceMul, Int.reduceNeg, Int.reduceLT, Int.reduceLE, Int.reduceToNat, Nat.reduceLT, Nat.reduceAdd, Nat.reduceSub, Nat.reduceMul, Nat.reduceEqDiff, Nat.reduceLeDiff, Nat.reduceBEq, reduceIte, reduceCtorEq]
  unfold St.Put
  refine ⟨fun h => ?_, fun h => ?_⟩
  · rw [if_neg (by omega)]
    obtain ⟨hm, hc⟩ := bErr_zero h
    obtain ⟨b1, b2, b3, b4⟩ := May.bd hm
    refine call_w (putW_c M hW x g hg c hr b2 (by omega) (by omega)) [3, 0, 5, 6] (by simp (maxSteps := 4000000) only [push_cast, Int.reduceEq, Int.reduceBNe, Int.reduceBEq, Int.reduceAdd, Int.reduceSub, Int.reduceMul, Int.reduceNeg, Int.reduceLT, Int.reduceLE, Int.reduceToNat, Nat.reduceLT, Nat.reduceAdd, Nat.reduceSub, Nat.reduceMul, Nat.reduceEqDiff, Nat.reduceLeDiff, Nat.reduceBEq, reduceIte, reduceCtorEq, preW, St.work, RawM.v]) ?_
    rintro sv post ⟨rfl, rfl⟩
    simp (maxSteps := 4000000) only [push_cast, Int.reduceEq, Int.reduceBNe, Int.reduceBEq, Int.reduceAdd, Int.reduceSub, Int.reduceMul, Int.reduceNeg, Int.reduceLT, Int.reduceLE, Int.reduceToNat, Nat.reduceLT, Nat.reduceAdd, Nat.reduceSub, Nat.reduceMul, Nat.reduceEqDiff, Nat.reduceLeDiff, Nat.reduceBEq, reduceIte, reduceCtorEq, preW, St.work, rg11]
    exact Fin.w [0] (.tup [(x.put M g c).1.sv .new, .i .i64 _]) _ (by simp (maxSteps := 4000000) only [push_cast, Int.reduceEq, Int.reduceBNe, Int.reduceBEq, Int.reduceAdd, Int.reduceSub, Int.reduceMul, Int.reduceNeg, Int.reduceLT, Int.reduceLE, Int.reduceToNat, Nat.reduceLT, Nat.reduceAdd, Nat.reduceSub, Nat.reduceMul, Nat.reduceEqDiff, Nat.reduceLeDiff, Nat.reduceBEq, reduceIte, reduceCtorEq, St.sv, St.cells]) ⟨rfl, rfl⟩
  · rw [if_pos h]
    simp (maxSteps := 4000000) only [push_cast, Int.reduceEq, Int.reduceBNe, Int.reduceBEq, Int.reduceAdd, Int.reduceSub, Int.reduceMul, Int.reduceNeg, Int.reduceLT, Int.reduceLE, Int.reduceToNat, Nat.reduceLT, Nat.reduceAdd, Nat.reduceSub, Nat.reduceMul, Nat.reduceEqDiff, Nat.reduceLeDiff, Nat.reduceBEq, reduceIte, reduceCtorEq, St.work, rg11]
    exact Fin.w [0] (.tup [x.sv .new, .i .i64 _]) _ (by simp (maxSteps := 4000000) only [push_cast, Int.reduceEq, Int.reduceBNe, Int.reduceBEq, Int.reduceAdd, Int.reduceSub, Int.reduceMul, Int.reduceNeg, Int.reduceLT, Int.reduceLE, Int.reduceToNat, Nat.reduceLT, Nat.reduceAdd, Nat.reduceSub, Nat.reduceMul, Nat.reduceEqDiff, Nat.reduceLeDiff, Nat.reduceBEq, reduceIte, reduceCtorEq, St.sv, St.cells]) ⟨rfl, rfl⟩

theorem GetR_c (M : RawM) (hR : M.Rd) (x : St) (g : M.σ) (hg : M.ok g) (hx : x.fits) : Contract Tryz.prog 10 (preR (M.res g)) [x.sv .old, M.v] (isSB M (x.Get M g)) := by
  refine contract_ev Γok Tryz.func10 rfl rfl [] ?_
  simp (maxSteps := 4000000) only [push_cast, Int.reduceEq, Int.reduceBNe, Int.reduceBEq, Int.reduceAdd, Int.reduceSub, Int.reduceMul, Int.reduceNeg, Int.reduceLT, Int.reduceLE, Int.reduceToNat, Nat.reduceLT, Nat.reduceAdd, Nat.reduceSub, Nat.reduceMul, Nat.reduceEqDiff, Nat.reduceLeDiff, Nat.reduceBEq, reduceIte, reduceCtorEq, Tryz.f10, RawM.v, St.sv, St.cells, rg11]
  refine call_w (beginR_c x hx M.t M.y) [] (by simp (maxSteps := 4000000) only [push_cast, Int.reduceEq, Int.reduceBNe, Int.reduceBEq, Int.reduceAdd, Int.reduceSub, Int.reduceMul, Int.reduceNeg, Int.reduceLT, Int.reduceLE, Int.reduceToNat, Nat.reduceLT, Nat.reduceAdd, Nat.reduceSub, Nat.reduceMul, Nat.reduceEqDiff, Nat.reduceLeDiff, Nat.reduceBEq, reduceIte, reduceCtorEq, St.sv, St.cells]) ?_
  rintro sv post ⟨rfl, rfl⟩
  simp (maxSteps := 4000000) only [push_cast, Int.reduceEq, Int.reduceBNe, Int.reduceBEq, Int.reduceAdd, Int.reduceSub, Int.reduceMul, Int.reduceNeg, Int.reduceLT, Int.reduceLE, Int.reduceToNat, Nat.reduceLT, Nat.reduceAdd, Nat.reduceSub, Nat.reduceMul, Nat.reduceEqDiff, Nat.reduceLeDiff, Nat.reduceBEq, reduceIte, reduceCtorEq]
  unfold St.Get
  refine ⟨fun h => ?_, fun h => ?_⟩
  · rw [if_pos h]
    simp (maxSteps := 4000000) only [push_cast, Int.reduceEq, Int.reduceBNe, Int.reduceBEq, Int.reduceAdd, Int.reduceSub, Int.reduceMul, Int.reduceNeg, Int.reduceLT, Int.reduceLE, Int.reduceToNat, Nat.reduceLT, Nat.reduceAdd, Nat.reduceSub, Nat.reduceMul, Nat.reduceEqDiff, Nat.reduceLeDiff, Nat.reduceBEq, reduceIte, reduceCtorEq, St.work, rg11]
    exact Fin.w [0] (.tup [x.sv .new, .i .u8 0, .i .i64 _]) _ (by simp (maxSteps := 4000000) only [push_cast, Int.reduceEq, Int.reduceBNe, Int.reduceBEq, Int.reduceAdd, Int.reduceSub, Int.reduceMul, Int.reduceNeg, Int.reduceLT, Int.reduceLE, Int.reduceToNat, Nat.reduceLT, Nat.reduceAdd, Nat.reduceSub, Nat.reduceMul, Nat.reduceEqDiff, Nat.reduceLeDiff, Nat.reduceBEq, reduceIte, reduceCtorEq, St.sv, St.cells]) ⟨rfl, rfl⟩
  · rw [if_neg (by omega)]
    obtain ⟨hm, hc⟩ := bErr_zero h
    obtain ⟨b1, b2, b3, b4⟩ := May.bd hm
    refine call_w (getW_c M hR x g hg b1 (by omega) (by omega)) [3, 0, 5, 6] (by simp (maxSteps := 4000000) only [push_cast, Int.reduceEq, Int.reduceBNe, Int.reduceBEq, Int.reduceAdd, Int.reduceSub, Int.reduceMul, Int.reduceNeg, Int.reduceLT, Int.reduceLE, Int.reduceToNat, Nat.reduceLT, Nat.reduceAdd, Nat.reduceSub, Nat.reduceMul, Nat.reduceEqDiff, Nat.reduceLeDiff, Nat.reduceBEq, reduceIte, reduceCtorEq, preW, St.work, RawM.v]) ?_
    rintro sv post ⟨rfl, rfl⟩
    simp (maxSteps := 4000000) only [push_cast, Int.reduceEq, Int.reduceBNe, Int.reduceBEq, Int.reduceAdd, Int.reduceSub, Int.reduceMul, Int.reduceNeg, Int.reduceLT, Int.reduceLE, Int.reduceToNat, Nat.reduceLT, Nat.reduceAdd, Nat.reduceSub, Nat.reduceMul, Nat.reduceEqDiff, Nat.reduceLeDiff, Nat.reduceBEq, reduceIte, reduceCtorEq, preW, St.work, rg11]
    exact Fin.w [0] (.tup [(x.get M g).1.sv .new, .i .u8 _, .i .i64 _]) _ (by simp (maxSteps := 4000000) only [push_cast, Int.reduceEq, Int.reduceBNe, Int.reduceBEq, Int.reduceAdd, Int.reduceSub, Int.reduceMul, Int.reduceNeg, Int.reduceLT, Int.reduceLE, Int.reduceToNat, Nat.reduceLT, Nat.reduceAdd, Nat.reduceSub, Nat.reduceMul, Nat.reduceEqDiff, Nat.reduceLeDiff, Nat.reduceBEq, reduceIte, reduceCtorEq, St.sv, St.cells]) ⟨rfl, rfl⟩

theorem FlushR_c (M : RawM) (hW : M.Wr) (x : St) (g : M.σ) (hg : M.ok g) (hx : x.fits) (hr : x.o.length ≤ M.rm g) : Contract Tryz.prog 15 (preR (M.res g)) [x.sv .old, M.v] (isS M (x.Flush M g)) := by
  refine contract_ev Γok Tryz.func15 rfl rfl [] ?_
  simp (maxSteps := 4000000) only [push_cast, Int.reduceEq, Int.reduceBNe, Int.reduceBEq, Int.reduceAdd, Int.reduceSub, Int.reduceMul, Int.reduceNeg, Int.reduceLT, Int.reduceLE, Int.reduceToNat, Nat.reduceLT, Nat.reduceAdd, Nat.reduceSub, Nat.reduceMul, Nat.reduceEqDiff, Nat.reduceLeDiff, Nat.reduceBEq, reduceIte, reduceCtorEq, Tryz.f15, RawM.v, St.sv, St.cells, rg11]
  refine call_w (beginR_c x hx M.t M.y) [] (by simp (maxSteps := 4000000) only [push_cast, Int.reduceEq, Int.reduceBNe, Int.reduceBEq, Int.reduceAdd, Int.reduceSub, Int.reduceMul, Int.reduceNeg, Int.reduceLT, Int.reduceLE, Int.reduceToNat, Nat.reduceLT, Nat.reduceAdd, Nat.reduceSub, Nat.reduceMul, Nat.reduceEqDiff, Nat.reduceLeDiff, Nat.reduceBEq, reduceIte, reduceCtorEq, St.sv, St.cells]) ?_
  rintro sv post ⟨rfl, rfl⟩
  simp (maxSteps := 4000000) only [push_cast, Int.reduceEq, Int.reduceBNe, Int.reduceBEq, Int.reduceAdd, Int.reduceSub, Int.reduceMul, Int.reduceNeg, Int.reduceLT, Int.reduceLE, Int.reduceToNat, Nat.reduceLT, Nat.reduceAdd, Nat.reduceSub, Nat.reduceMul, Nat.reduceEqDiff, Nat.reduceLeDiff, Nat.reduceBEq, reduceIte, reduceCtorEq, St.work]
  unfold St.Flush
  refine ⟨fun h => ?_, fun h => ?_⟩
  · rw [if_neg (by omega), if_pos h.2]
    obtain ⟨hm, hc⟩ := bErr_zero h.1
    obtain ⟨b1, b2, b3, b4⟩ := May.bd hm
    refine call_w (deliverR_c M hW x g hg (by omega) hr) [3, 0, 5, 6] (by simp (maxSteps := 4000000) only [push_cast, Int.reduceEq, Int.reduceBNe, Int.reduceBEq, Int.reduceAdd, Int.reduceSub, Int.reduceMul, Int.reduceNeg, Int.reduceLT, Int.reduceLE, Int.reduceToNat, Nat.reduceLT, Nat.reduceAdd, Nat.reduceSub, Nat.reduceMul, Nat.reduceEqDiff, Nat.reduceLeDiff, Nat.reduceBEq, reduceIte, reduceCtorEq, preD, St.work, RawM.v]) ?_
    rintro sv post ⟨rfl, rfl⟩
    simp (maxSteps := 4000000) only [push_cast, Int.reduceEq, Int.reduceBNe, Int.reduceBEq, Int.reduceAdd, Int.reduceSub, Int.reduceMul, Int.reduceNeg, Int.reduceLT, Int.reduceLE, Int.reduceToNat, Nat.reduceLT, Nat.reduceAdd, Nat.reduceSub, Nat.reduceMul, Nat.reduceEqDiff, Nat.reduceLeDiff, Nat.reduceBEq, reduceIte, reduceCtorEq, preD, St.work, rg11]
    refine ⟨fun h2 => ?_, fun h2 => ?_⟩
    · rw [if_pos h2]
      exact Fin.w [0] (.tup [({ (x.deliver M g).1 with d := 0 } : St).sv .new, .i .i64 0]) _ (by simp (maxSteps := 4000000) only [push_cast, Int.reduceEq, Int.reduceBNe, Int.reduceBEq, Int.reduceAdd, Int.reduceSub, Int.reduceMul, Int.reduceNeg, Int.reduceLT, Int.reduceLE, Int.reduceToNat, Nat.reduceLT, Nat.reduceAdd, Nat.reduceSub, Nat.reduceMul, Nat.reduceEqDiff, Nat.reduceLeDiff, Nat.reduceBEq, reduceIte, reduceCtorEq, St.sv, St.cells, h2]) ⟨rfl, rfl⟩
    · rw [if_neg h2]
      exact Fin.w [0] (.tup [(x.deliver M g).1.sv .new, .i .i64 _]) _ (by simp (maxSteps := 4000000) only [push_cast, Int.reduceEq, Int.reduceBNe, Int.reduceBEq, Int.reduceAdd, Int.reduceSub, Int.reduceMul, Int.reduceNeg, Int.reduceLT, Int.reduceLE, Int.reduceToNat, Nat.reduceLT, Nat.reduceAdd, Nat.reduceSub, Nat.reduceMul, Nat.reduceEqDiff, Nat.reduceLeDiff, Nat.reduceBEq, reduceIte, reduceCtorEq, St.sv, St.cells]) ⟨rfl, rfl⟩
  · simp (maxSteps := 4000000) only [push_cast, Int.reduceEq, Int.reduceBNe, Int.reduceBEq, Int.reduceAdd, Int.reduceSub, Int.reduceMul, Int.reduceNeg, Int.reduceLT, Int.reduceLE, Int.reduceToNat, Nat.reduceLT, Nat.reduceAdd, Nat.reduceSub, Nat.reduceMul, Nat.reduceEqDiff, Nat.reduceLeDiff, Nat.reduceBEq, reduceIte, reduceCtorEq, rg11]
    by_cases hb : x.bErr = 0
    · rw [if_neg (by omega), if_neg (by omega), hb]
      exact Fin.w [0] (.tup [x.sv .new, .i .i64 _]) _ (by simp (maxSteps := 4000000) only [push_cast, Int.reduceEq, Int.reduceBNe, Int.reduceBEq, Int.reduceAdd, Int.reduceSub, Int.reduceMul, Int.reduceNeg, Int.reduceLT, Int.reduceLE, Int.reduceToNat, Nat.reduceLT, Nat.reduceAdd, Nat.reduceSub, Nat.reduceMul, Nat.reduceEqDiff, Nat.reduceLeDiff, Nat.reduceBEq, reduceIte, reduceCtorEq, St.sv, St.cells]) ⟨rfl, rfl⟩
    · rw [if_pos hb]
      exact Fin.w [0] (.tup [x.sv .new, .i .i64 _]) _ (by simp (maxSteps := 4000000) only [push_cast, Int.reduceEq, Int.reduceBNe, Int.reduceBEq, Int.reduceAdd, Int.reduceSub, Int.reduceMul, Int.reduceNeg, Int.reduceLT, Int.reduceLE, Int.reduceToNat, Nat.reduceLT, Nat.reduceAdd, Nat.reduceSub, Nat.reduceMul, Nat.reduceEqDiff, Nat.reduceLeDiff, Nat.reduceBEq, reduceIte, reduceCtorEq, St.sv, St.cells]) ⟨rfl, rfl⟩

theorem CloseR_c (M : RawM) (hW : M.Wr) (x : St) (g : M.σ) (hg : M.ok g) (hx : x.fits) (hr : x.o.length ≤ M.rm g) : Contract Tryz.prog 17 (preR (M.res g)) [x.sv .old, M.v] (isS M (x.Close M g)) := by
  refine contract_ev Γok Tryz.func17 rfl rfl [] ?_
  simp (maxSteps := 4000000) only [push_cast, Int.reduceEq, Int.reduceBNe, Int.reduceBEq, Int.reduceAdd, Int.reduceSub, Int.reduceMul, Int.reduceNeg, Int.reduceLT, Int.reduceLE, Int.reduceToNat, Nat.reduceLT, Nat.reduceAdd, Nat.reduceSub, Nat.reduceMul, Nat.reduceEqDiff, Nat.reduceLeDiff, Nat.reduceBEq, reduceIte, reduceCtorEq, Tryz.f17, RawM.v, St.sv, St.cells, rg11]
  refine call_w (beginR_c x hx M.t M.y) [] (by simp (maxSteps := 4000000) only [push_cast, Int.reduceEq, Int.reduceBNe, Int.reduceBEq, Int.reduceAdd, Int.reduceSub, Int.reduceMul, Int.reduceNeg, Int.reduceLT, Int.reduceLE, Int.reduceToNat, Nat.reduceLT, Nat.reduceAdd, Nat.reduceSub, Nat.reduceMul, Nat.reduceEqDiff, Nat.reduceLeDiff, Nat.reduceBEq, reduceIte, reduceCtorEq, St.sv, St.cells]) ?_
  rintro sv post ⟨rfl, rfl⟩
  simp (maxSteps := 4000000) only [push_cast, Int.reduceEq, Int.reduceBNe, Int.reduceBEq, Int.reduceAdd, Int.reduceSub, Int.reduceMul, Int.reduceNeg, Int.reduceLT, Int.reduceLE, Int.reduceToNat, Nat.reduceLT, Nat.reduceAdd, Nat.reduceSub, Nat.reduceMul, Nat.reduceEqDiff, Nat.reduceLeDiff, Nat.reduceBEq, reduceIte, reduceCtorEq, St.work]
  unfold St.Close
  refine ⟨fun h => ?_, fun h => ?_⟩
  · rw [if_pos h]
    exact Fin.w [0] (.tup [x.sv .new, .i .i64 _]) _ (by simp (maxSteps := 4000000) only [push_cast, Int.reduceEq, Int.reduceBNe, Int.reduceBEq, Int.reduceAdd, Int.reduceSub, Int.reduceMul, Int.reduceNeg, Int.reduceLT, Int.reduceLE, Int.reduceToNat, Nat.reduceLT, Nat.reduceAdd, Nat.reduceSub, Nat.reduceMul, Nat.reduceEqDiff, Nat.reduceLeDiff, Nat.reduceBEq, reduceIte, reduceCtorEq, St.sv, St.cells]) ⟨rfl, rfl⟩
  · rw [if_neg (by omega)]
    obtain ⟨hm, hc⟩ := bErr_zero h
    obtain ⟨b1, b2, b3, b4⟩ := May.bd hm
    refine call_w (deliverR_c M hW x g hg (by omega) hr) [3, 0, 5, 6] (by simp (maxSteps := 4000000) only [push_cast, Int.reduceEq, Int.reduceBNe, Int.reduceBEq, Int.reduceAdd, Int.reduceSub, Int.reduceMul, Int.reduceNeg, Int.reduceLT, Int.reduceLE, Int.reduceToNat, Nat.reduceLT, Nat.reduceAdd, Nat.reduceSub, Nat.reduceMul, Nat.reduceEqDiff, Nat.reduceLeDiff, Nat.reduceBEq, reduceIte, reduceCtorEq, preD, St.work, RawM.v]) ?_
    rintro sv post ⟨rfl, rfl⟩
    simp (maxSteps := 4000000) only [push_cast, Int.reduceEq, Int.reduceBNe, Int.reduceBEq, Int.reduceAdd, Int.reduceSub, Int.reduceMul, Int.reduceNeg, Int.reduceLT, Int.reduceLE, Int.reduceToNat, Nat.reduceLT, Nat.reduceAdd, Nat.reduceSub, Nat.reduceMul, Nat.reduceEqDiff, Nat.reduceLeDiff, Nat.reduceBEq, reduceIte, reduceCtorEq, preD, St.work, rg11]
    exact Fin.w [0] (.tup [({ (x.deliver M g).1 with o := [], i := [], k := [], d := 0, cl := true } : St).sv .new, .i .i64 _]) _ (by simp (maxSteps := 4000000) only [push_cast, Int.reduceEq, Int.reduceBNe, Int.reduceBEq, Int.reduceAdd, Int.reduceSub, Int.reduceMul, Int.reduceNeg, Int.reduceLT, Int.reduceLE, Int.reduceToNat, Nat.reduceLT, Nat.reduceAdd, Nat.reduceSub, Nat.reduceMul, Nat.reduceEqDiff, Nat.reduceLeDiff, Nat.reduceBEq, reduceIte, reduceCtorEq, St.sv, St.cells]) ⟨rfl, rfl⟩
end Go.Proofs.YtlgpcngfcglanaaGreat
