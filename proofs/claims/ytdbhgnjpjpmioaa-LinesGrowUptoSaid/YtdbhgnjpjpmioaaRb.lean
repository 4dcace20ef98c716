/- All bytes onto a Raw. -/
import Derived.Test.YtdbhgnjpjpmioaaRa
namespace Go.Proofs.Ytdbhgnjpjpmioaa
open Go Go.Eng
set_option linter.unusedSimpArgs false
set_option linter.unusedVariables false
set_option maxRecDepth 100000

/-- What is left to write, the tries in a row, how it ends. -/
def RawM.putGo (M : RawM) : Nat → M.σ → List Int → Nat → M.σ × List Int × Int
  | 0, g, rest, _ => (g, rest, 81)
  | f + 1, g, rest, p =>
    if rest = [] then (g, [], 0)
    else if (M.wr g rest).2.2 = 22 ∨ (M.wr g rest).2.2 = 23 ∨ ((M.wr g rest).2.2 = 0 ∧ (M.wr g rest).2.1 = 0) then
      (if 8192 ≤ p + 1 then ((M.wr g rest).1, rest, 81) else M.putGo f (M.wr g rest).1 rest (p + 1))
    else if (M.wr g rest).2.2 ≠ 0 then ((M.wr g rest).1, rest, (M.wr g rest).2.2)
    else if (M.wr g rest).2.1 < 0 ∨ rest.length < (M.wr g rest).2.1 then ((M.wr g rest).1, rest, 82)
    else M.putGo f (M.wr g rest).1 (rest.drop (M.wr g rest).2.1.toNat) 0
def putV (M : RawM) (g : M.σ) (b : List Int) : M.σ × List Int × Int := M.putGo (8193 * (b.length + 1)) g b 0

theorem RawM.putGo_ok (M : RawM) (hW : M.Wr) : ∀ (f : Nat) (g : M.σ) (rest : List Int) (p : Nat), M.ok g → rest.length ≤ 1048576 → rest.length ≤ M.rm g → M.ok (M.putGo f g rest p).1 ∧ M.rm g ≤ M.rm (M.putGo f g rest p).1 + rest.length
  | 0, g, rest, p, h, _, _ => ⟨h, by simp only [RawM.putGo]; omega⟩
  | f + 1, g, rest, p, h, hl, hr => by
    simp only [RawM.putGo]
    split
    · exact ⟨h, by dsimp only; omega⟩
    · rename_i hne
      obtain ⟨hk, hk2⟩ := hW.keep g rest h hne hl hr
      split
      · rename_i hq
        have hk3 : M.rm g ≤ M.rm (M.wr g rest).1 := by
          split at hk2
          · rename_i hz; omega
          · omega
        split
        · exact ⟨hk, by dsimp only; omega⟩
        · obtain ⟨e1, e2⟩ := M.putGo_ok hW f (M.wr g rest).1 rest (p + 1) hk hl (by omega)
          exact ⟨e1, by omega⟩
      · split
        · rename_i hq
          rw [if_neg (by omega)] at hk2
          exact ⟨hk, by dsimp only; omega⟩
        · split
          · rename_i hq
            refine ⟨hk, ?_⟩
            split at hk2 <;> dsimp only <;> omega
          · rw [if_pos (by omega)] at hk2
            obtain ⟨e1, e2⟩ := M.putGo_ok hW f (M.wr g rest).1 (rest.drop (M.wr g rest).2.1.toNat) 0 hk (by simp; omega) (by simp; omega)
            refine ⟨e1, ?_⟩
            simp only [List.length_drop] at e2
            omega
theorem putGo_len (M : RawM) : ∀ (f : Nat) (g : M.σ) (rest : List Int) (p : Nat), (M.putGo f g rest p).2.1.length ≤ rest.length
  | 0, g, rest, p => Nat.le_refl _
  | f + 1, g, rest, p => by
    simp only [RawM.putGo]
    split
    · simp
    · split
      · split
        · exact Nat.le_refl _
        · exact putGo_len M f _ _ _
      · split
        · exact Nat.le_refl _
        · split
          · exact Nat.le_refl _
          · exact Nat.le_trans (putGo_len M f _ _ _) (by simp)
/-- What is left is the end of what was given. -/
theorem putGo_drop (M : RawM) : ∀ (f : Nat) (g : M.σ) (rest : List Int) (p : Nat), (M.putGo f g rest p).2.1 = rest.drop (rest.length - (M.putGo f g rest p).2.1.length)
  | 0, g, rest, p => by simp [RawM.putGo]
  | f + 1, g, rest, p => by
    simp only [RawM.putGo]
    split
    · rename_i h; simp [h]
    · split
      · split
        · simp
        · exact putGo_drop M f _ _ _
      · split
        · simp
        · split
          · simp
          · rename_i h
            have h1 := putGo_drop M f (M.wr g rest).1 (rest.drop (M.wr g rest).2.1.toNat) 0
            have h2 := putGo_len M f (M.wr g rest).1 (rest.drop (M.wr g rest).2.1.toNat) 0
            generalize (M.putGo f (M.wr g rest).1 (rest.drop (M.wr g rest).2.1.toNat) 0).2.1 = q at h1 h2 ⊢
            have h3 : (rest.drop (M.wr g rest).2.1.toNat).length = rest.length - (M.wr g rest).2.1.toNat := by simp
            have h4 : q = rest.drop ((M.wr g rest).2.1.toNat + ((rest.drop (M.wr g rest).2.1.toNat).length - q.length)) := by
              rw [← List.drop_drop]; exact h1
            rw [show rest.length - q.length = (M.wr g rest).2.1.toNat + ((rest.drop (M.wr g rest).2.1.toNat).length - q.length) by
              rw [h3]; omega]
            exact h4
theorem putGo_ok0 (M : RawM) : ∀ (f : Nat) (g : M.σ) (rest : List Int) (p : Nat), (M.putGo f g rest p).2.2 = 0 → (M.putGo f g rest p).2.1 = []
  | 0, g, rest, p => by simp [RawM.putGo]
  | f + 1, g, rest, p => by
    simp only [RawM.putGo]
    split
    · intro _; rfl
    · split
      · split
        · simp
        · exact putGo_ok0 M f _ _ _
      · split
        · rename_i h; intro h2; exact absurd h2 h
        · split
          · simp
          · exact putGo_ok0 M f _ _ _

theorem putR_c (M : RawM) (hW : M.Wr) (g : M.σ) (hg : M.ok g) (b : List Int) (hb : b.length ≤ 1048576) (hr : b.length ≤ M.rm g) :
    Contract Try.prog 65 (preR (M.res g)) [M.v, .ints .u8 .old b]
      (fun sv post => sv = .tup [.i .i64 (b.length - (putV M g b).2.1.length), .i .i64 (putV M g b).2.2] ∧ post = preR (M.res (putV M g b).1)) := by
  have hnil := hW.nil
  refine contract_ev Γok Try.func65 rfl rfl [] ?_
  unfold RawM.v at hnil ⊢
  simp (maxSteps := 4000000) only [push_cast, Int.reduceEq, Int.reduceBNe, Int.reduceBEq, Int.reduceAdd, Int.reduceSub, Int.reduceMul, Int.reduceNeg, Int.reduceLT, Int.reduceLE, Nat.reduceLT, Nat.reduceAdd, Nat.reduceSub, Nat.reduceMul, Nat.reduceEqDiff, Nat.reduceLeDiff, Nat.reduceBEq, reduceIte, reduceCtorEq, Try.f65]
  refine ⟨fun h => by omega, fun h => ?_⟩
  refine loop_ok (ι := {x : M.σ × List Int × Nat × Nat // (M.ok x.1 ∧ x.2.1.length ≤ M.rm x.1) ∧ x.2.1.length ≤ b.length ∧ x.2.2.1 < 8192 ∧ 8193 * x.2.1.length + (8192 - x.2.2.1) ≤ x.2.2.2 ∧ M.putGo x.2.2.2 x.1 x.2.1 x.2.2.1 = putV M g b})
    (fun x => ⟨[.ifc M.t (.raw M.y), .ints .u8 .old b, .any, .any, .i .i64 0, .i .i64 0, .ptr 1 0, .ints .u8 .old x.1.2.1] ++ List.replicate 59 .any, [(1, 124, [.i .i64 x.1.2.2.1])], [], [(0, M.res x.1.1)], 2, 1, []⟩) (fun x => x.1.2.2.2) ⟨(g, b, 0, 8193 * (b.length + 1)), ⟨hg, hr⟩, Nat.le_refl _, by simp only; omega, by simp only; omega, rfl⟩ ?_ ?_
  · refine Sub.w [0, 1] ?_
    simp (maxSteps := 4000000) only [push_cast, Int.reduceEq, Int.reduceBNe, Int.reduceBEq, Int.reduceAdd, Int.reduceSub, Int.reduceMul, Int.reduceNeg, Int.reduceLT, Int.reduceLE, Nat.reduceLT, Nat.reduceAdd, Nat.reduceSub, Nat.reduceMul, Nat.reduceEqDiff, Nat.reduceLeDiff, Nat.reduceBEq, reduceIte, reduceCtorEq]
  · rintro ⟨⟨g', rest, p, f⟩, hok, hl, hp, hf, he⟩
    simp only at hok hl hp hf he
    obtain ⟨hok, hrm⟩ := hok
    obtain ⟨f', rfl⟩ : ∃ f', f = f' + 1 := ⟨f - 1, by omega⟩
    simp only [RawM.putGo] at he
    refine evCode_sound Γok _ _ _ ?_
    simp (maxSteps := 4000000) only [push_cast, Int.reduceEq, Int.reduceBNe, Int.reduceBEq, Int.reduceAdd, Int.reduceSub, Int.reduceMul, Int.reduceNeg, Int.reduceLT, Int.reduceLE, Nat.reduceLT, Nat.reduceAdd, Nat.reduceSub, Nat.reduceMul, Nat.reduceEqDiff, Nat.reduceLeDiff, Nat.reduceBEq, reduceIte, reduceCtorEq]
    refine ⟨fun h1 => ?_, fun h1 => ?_⟩
    · have hne : rest ≠ [] := by rintro rfl; simp at h1
      rw [if_neg hne] at he
      obtain ⟨hkeep, hkr⟩ := hW.keep g' rest hok hne (by omega) hrm
      refine (region_plan rfl Γok mixed (.pure 0 (.pure 2 (.pure 4 (.pure 5 (.pure 6 (.eff (.cons 1 [] (.eff (.cons 3 [] (.eff (.cons 7 [] (.pure 8 (.pure 9 (.pure 10 (.pure 11 (.pure 12 .done))))) .nil)) .nil)) .nil))))))) 67 rfl (by kernel_rfl) ?_)
      simp (maxSteps := 4000000) only [push_cast, Int.reduceEq, Int.reduceBNe, Int.reduceBEq, Int.reduceAdd, Int.reduceSub, Int.reduceMul, Int.reduceNeg, Int.reduceLT, Int.reduceLE, Nat.reduceLT, Nat.reduceAdd, Nat.reduceSub, Nat.reduceMul, Nat.reduceEqDiff, Nat.reduceLeDiff, Nat.reduceBEq, reduceIte, reduceCtorEq]
      refine ⟨hnil, by omega, inv_w (hW.run g' rest hok hne (by omega) hrm) [0] (by simp (maxSteps := 4000000) only [push_cast, Int.reduceEq, Int.reduceBNe, Int.reduceBEq, Int.reduceAdd, Int.reduceSub, Int.reduceMul, Int.reduceNeg, Int.reduceLT, Int.reduceLE, Nat.reduceLT, Nat.reduceAdd, Nat.reduceSub, Nat.reduceMul, Nat.reduceEqDiff, Nat.reduceLeDiff, Nat.reduceBEq, reduceIte, reduceCtorEq]) ?_⟩
      rintro sv post ⟨rfl, rfl⟩
      simp (maxSteps := 4000000) only [push_cast, Int.reduceEq, Int.reduceBNe, Int.reduceBEq, Int.reduceAdd, Int.reduceSub, Int.reduceMul, Int.reduceNeg, Int.reduceLT, Int.reduceLE, Nat.reduceLT, Nat.reduceAdd, Nat.reduceSub, Nat.reduceMul, Nat.reduceEqDiff, Nat.reduceLeDiff, Nat.reduceBEq, reduceIte, reduceCtorEq]
      rw [wrap64 (n := (b.length : Int) - rest.length) (by omega) (by omega)]
      refine call_w (passing_c (M.wr g' rest).2.2) [] (by simp (maxSteps := 4000000) only [push_cast, Int.reduceEq, Int.reduceBNe, Int.reduceBEq, Int.reduceAdd, Int.reduceSub, Int.reduceMul, Int.reduceNeg, Int.reduceLT, Int.reduceLE, Nat.reduceLT, Nat.reduceAdd, Nat.reduceSub, Nat.reduceMul, Nat.reduceEqDiff, Nat.reduceLeDiff, Nat.reduceBEq, reduceIte, reduceCtorEq]) ?_
      rintro sv post ⟨rfl, rfl⟩
      simp (maxSteps := 4000000) only [push_cast, Int.reduceEq, Int.reduceBNe, Int.reduceBEq, Int.reduceAdd, Int.reduceSub, Int.reduceMul, Int.reduceNeg, Int.reduceLT, Int.reduceLE, Nat.reduceLT, Nat.reduceAdd, Nat.reduceSub, Nat.reduceMul, Nat.reduceEqDiff, Nat.reduceLeDiff, Nat.reduceBEq, reduceIte, reduceCtorEq]
      refine ⟨fun hp1 => ⟨fun _ => ?_, fun hp2 => by omega⟩, fun hp1 => ⟨fun hp2 => ?_, fun hp2 => ?_⟩⟩
      · rw [if_pos (by omega)] at he
        refine call_w (out_c 124 p (by omega) (by omega)) [1] (by simp (maxSteps := 4000000) only [push_cast, Int.reduceEq, Int.reduceBNe, Int.reduceBEq, Int.reduceAdd, Int.reduceSub, Int.reduceMul, Int.reduceNeg, Int.reduceLT, Int.reduceLE, Nat.reduceLT, Nat.reduceAdd, Nat.reduceSub, Nat.reduceMul, Nat.reduceEqDiff, Nat.reduceLeDiff, Nat.reduceBEq, reduceIte, reduceCtorEq]) ?_
        rintro sv post ⟨rfl, rfl⟩
        simp (maxSteps := 4000000) only [push_cast, Int.reduceEq, Int.reduceBNe, Int.reduceBEq, Int.reduceAdd, Int.reduceSub, Int.reduceMul, Int.reduceNeg, Int.reduceLT, Int.reduceLE, Nat.reduceLT, Nat.reduceAdd, Nat.reduceSub, Nat.reduceMul, Nat.reduceEqDiff, Nat.reduceLeDiff, Nat.reduceBEq, reduceIte, reduceCtorEq]
        refine ⟨fun hq => ?_, fun hq => ?_⟩
        · rw [if_pos (by omega)] at he
          rw [← he]
          exact Fin.w [0] (.tup [.i .i64 (b.length - rest.length), .i .i64 81]) _ (by simp (maxSteps := 4000000) only [push_cast, Int.reduceEq, Int.reduceBNe, Int.reduceBEq, Int.reduceAdd, Int.reduceSub, Int.reduceMul, Int.reduceNeg, Int.reduceLT, Int.reduceLE, Nat.reduceLT, Nat.reduceAdd, Nat.reduceSub, Nat.reduceMul, Nat.reduceEqDiff, Nat.reduceLeDiff, Nat.reduceBEq, reduceIte, reduceCtorEq]) ⟨rfl, rfl⟩
        · rw [if_neg (by omega)] at he
          refine ⟨⟨((M.wr g' rest).1, rest, p + 1, f'), ⟨hkeep, by simp only; split at hkr <;> omega⟩, hl, by simp only; omega, by simp only; omega, he⟩, by simp only; omega, Sub.w [0, 1] ?_⟩
          simp (maxSteps := 4000000) only [push_cast, Int.reduceEq, Int.reduceBNe, Int.reduceBEq, Int.reduceAdd, Int.reduceSub, Int.reduceMul, Int.reduceNeg, Int.reduceLT, Int.reduceLE, Nat.reduceLT, Nat.reduceAdd, Nat.reduceSub, Nat.reduceMul, Nat.reduceEqDiff, Nat.reduceLeDiff, Nat.reduceBEq, reduceIte, reduceCtorEq]
      · rw [if_pos (by omega)] at he
        refine call_w (out_c 124 p (by omega) (by omega)) [1] (by simp (maxSteps := 4000000) only [push_cast, Int.reduceEq, Int.reduceBNe, Int.reduceBEq, Int.reduceAdd, Int.reduceSub, Int.reduceMul, Int.reduceNeg, Int.reduceLT, Int.reduceLE, Nat.reduceLT, Nat.reduceAdd, Nat.reduceSub, Nat.reduceMul, Nat.reduceEqDiff, Nat.reduceLeDiff, Nat.reduceBEq, reduceIte, reduceCtorEq]) ?_
        rintro sv post ⟨rfl, rfl⟩
        simp (maxSteps := 4000000) only [push_cast, Int.reduceEq, Int.reduceBNe, Int.reduceBEq, Int.reduceAdd, Int.reduceSub, Int.reduceMul, Int.reduceNeg, Int.reduceLT, Int.reduceLE, Nat.reduceLT, Nat.reduceAdd, Nat.reduceSub, Nat.reduceMul, Nat.reduceEqDiff, Nat.reduceLeDiff, Nat.reduceBEq, reduceIte, reduceCtorEq]
        refine ⟨fun hq => ?_, fun hq => ?_⟩
        · rw [if_pos (by omega)] at he
          rw [← he]
          exact Fin.w [0] (.tup [.i .i64 (b.length - rest.length), .i .i64 81]) _ (by simp (maxSteps := 4000000) only [push_cast, Int.reduceEq, Int.reduceBNe, Int.reduceBEq, Int.reduceAdd, Int.reduceSub, Int.reduceMul, Int.reduceNeg, Int.reduceLT, Int.reduceLE, Nat.reduceLT, Nat.reduceAdd, Nat.reduceSub, Nat.reduceMul, Nat.reduceEqDiff, Nat.reduceLeDiff, Nat.reduceBEq, reduceIte, reduceCtorEq]) ⟨rfl, rfl⟩
        · rw [if_neg (by omega)] at he
          refine ⟨⟨((M.wr g' rest).1, rest, p + 1, f'), ⟨hkeep, by simp only; split at hkr <;> omega⟩, hl, by simp only; omega, by simp only; omega, he⟩, by simp only; omega, Sub.w [0, 1] ?_⟩
          simp (maxSteps := 4000000) only [push_cast, Int.reduceEq, Int.reduceBNe, Int.reduceBEq, Int.reduceAdd, Int.reduceSub, Int.reduceMul, Int.reduceNeg, Int.reduceLT, Int.reduceLE, Nat.reduceLT, Nat.reduceAdd, Nat.reduceSub, Nat.reduceMul, Nat.reduceEqDiff, Nat.reduceLeDiff, Nat.reduceBEq, reduceIte, reduceCtorEq]
      · rw [if_neg (by omega)] at he
        refine ⟨fun h2 => ?_, fun h2 => ?_⟩
        · rw [if_pos h2] at he
          rw [← he]
          exact Fin.w [0] (.tup [.i .i64 (b.length - rest.length), .i .i64 (M.wr g' rest).2.2]) _ (by simp (maxSteps := 4000000) only [push_cast, Int.reduceEq, Int.reduceBNe, Int.reduceBEq, Int.reduceAdd, Int.reduceSub, Int.reduceMul, Int.reduceNeg, Int.reduceLT, Int.reduceLE, Nat.reduceLT, Nat.reduceAdd, Nat.reduceSub, Nat.reduceMul, Nat.reduceEqDiff, Nat.reduceLeDiff, Nat.reduceBEq, reduceIte, reduceCtorEq]) ⟨rfl, rfl⟩
        · rw [if_neg (by omega)] at he
          refine ⟨fun h3 => ?_, fun h3 => ⟨h3, ?_⟩⟩
          · rw [if_pos h3] at he
            rw [← he]
            exact Fin.w [0] (.tup [.i .i64 (b.length - rest.length), .i .i64 82]) _ (by simp (maxSteps := 4000000) only [push_cast, Int.reduceEq, Int.reduceBNe, Int.reduceBEq, Int.reduceAdd, Int.reduceSub, Int.reduceMul, Int.reduceNeg, Int.reduceLT, Int.reduceLE, Nat.reduceLT, Nat.reduceAdd, Nat.reduceSub, Nat.reduceMul, Nat.reduceEqDiff, Nat.reduceLeDiff, Nat.reduceBEq, reduceIte, reduceCtorEq]) ⟨rfl, rfl⟩
          · have hn : ¬ (M.wr g' rest).2.1 = 0 := by omega
            rw [if_neg (by omega)] at he
            refine ⟨⟨((M.wr g' rest).1, rest.drop (M.wr g' rest).2.1.toNat, 0, f'), ⟨hkeep, by rw [if_pos (by omega)] at hkr; simp only [List.length_drop]; omega⟩, by simp only [List.length_drop]; omega, by simp only; omega, by simp only [List.length_drop]; omega, he⟩, by simp only; omega, Sub.w [0, 1] ?_⟩
            simp (maxSteps := 4000000) only [push_cast, Int.reduceEq, Int.reduceBNe, Int.reduceBEq, Int.reduceAdd, Int.reduceSub, Int.reduceMul, Int.reduceNeg, Int.reduceLT, Int.reduceLE, Nat.reduceLT, Nat.reduceAdd, Nat.reduceSub, Nat.reduceMul, Nat.reduceEqDiff, Nat.reduceLeDiff, Nat.reduceBEq, reduceIte, reduceCtorEq]
    · have hne : rest = [] := by
        have : rest.length = 0 := by omega
        simpa using this
      subst hne
      rw [if_pos rfl] at he
      rw [← he]
      refine Fin.w [0] (.tup [.i .i64 b.length, .i .i64 0]) _ (by simp (maxSteps := 4000000) only [push_cast, Int.reduceEq, Int.reduceBNe, Int.reduceBEq, Int.reduceAdd, Int.reduceSub, Int.reduceMul, Int.reduceNeg, Int.reduceLT, Int.reduceLE, Nat.reduceLT, Nat.reduceAdd, Nat.reduceSub, Nat.reduceMul, Nat.reduceEqDiff, Nat.reduceLeDiff, Nat.reduceBEq, reduceIte, reduceCtorEq]) ⟨by simp, rfl⟩
end Go.Proofs.Ytdbhgnjpjpmioaa
