/- Texts joined, in order: Yl, Ne. -/
import Derived.Test.YtmciepkhpocafaaGreatZYfYk
/- Scan: the page's examples. -/
namespace Go.Proofs.YtmciepkhpocafaaGreat
open Go Go.Eng
set_option maxHeartbeats 4000000
set_option linter.unusedSimpArgs false
set_option linter.unusedVariables false
set_option maxRecDepth 100000

theorem num18_c (n : Int) : Contract Tryz.prog 12 nilSS [.i .i64 n] (fun sv post => sv = .i .i64 n ∧ post = nilSS) := by
  refine contract_ev Γok Tryz.func12 rfl rfl [] ?_
  simp (maxSteps := 4000000) only [push_cast, Int.reduceEq, Int.reduceBNe, Int.reduceBEq, Int.reduceAdd, Int.reduceSub, Int.reduceMul, Int.reduceNeg, Int.reduceLT, Int.reduceLE, Int.reduceToNat, Nat.reduceLT, Nat.reduceAdd, Nat.reduceSub, Nat.reduceMul, Nat.reduceEqDiff, Nat.reduceLeDiff, Nat.reduceBEq, reduceIte, reduceCtorEq, Tryz.f12]
  exact Fin.w [] (.i .i64 n) _ (by simp (maxSteps := 4000000) only [push_cast, Int.reduceEq, Int.reduceBNe, Int.reduceBEq, Int.reduceAdd, Int.reduceSub, Int.reduceMul, Int.reduceNeg, Int.reduceLT, Int.reduceLE, Int.reduceToNat, Nat.reduceLT, Nat.reduceAdd, Nat.reduceSub, Nat.reduceMul, Nat.reduceEqDiff, Nat.reduceLeDiff, Nat.reduceBEq, reduceIte, reduceCtorEq]) ⟨rfl, rfl⟩
def yex1f : List UInt8 := [37, 100, 32, 37, 115]
def yex1b : List UInt8 := [32, 45, 53, 32, 97, 98, 32, 99]
def yex2f : List UInt8 := [37, 50, 100, 37, 100]
def yex2b : List UInt8 := [49, 50, 51, 52]
def yex3f : List UInt8 := [120, 37, 100]
def yex3b : List UInt8 := [121, 49]
def yex4f : List UInt8 := [37, 100]
def yex4b : List UInt8 := [43]
theorem yex1p : partsP yex1f = ([⟨100, 0, false, 0⟩, ⟨32, 0, false, 0⟩, ⟨115, 0, false, 0⟩], 0, 5) := by decide +kernel
theorem yex1 : allQ yex1b (partsP yex1f).1 0 [] = ([⟨1, -5, 0, []⟩, ⟨4, 0, 0, [97, 98]⟩], 0, 6) := by decide +kernel
theorem yex2 : allQ yex2b (partsP yex2f).1 0 [] = ([⟨1, 12, 0, []⟩, ⟨1, 34, 0, []⟩], 0, 4) := by decide +kernel
theorem yex3 : allQ yex3b (partsP yex3f).1 0 [] = ([], 181, 0) := by decide +kernel
theorem yex4 : allQ yex4b (partsP yex4f).1 0 [] = ([], 111, 1) := by decide +kernel
theorem yo1 : ofU yex1b = [32, 45, 53, 32, 97, 98, 32, 99] := rfl
theorem yo2 : ofU yex2b = [49, 50, 51, 52] := rfl
theorem yo3 : ofU yex3b = [121, 49] := rfl
theorem yo4 : ofU yex4b = [43] := rfl
theorem yc1 : bs yex1f = ⟨#[37, 100, 32, 37, 115]⟩ := rfl
theorem yc2 : bs yex2f = ⟨#[37, 50, 100, 37, 100]⟩ := rfl
theorem yc3 : bs yex3f = ⟨#[120, 37, 100]⟩ := rfl
theorem yc4 : bs yex4f = ⟨#[37, 100]⟩ := rfl
def A1 : List AV := [⟨1, -5, 0, []⟩, ⟨4, 0, 0, [97, 98]⟩]
def A2 : List AV := [⟨1, 12, 0, []⟩, ⟨1, 34, 0, []⟩]
theorem scan_ok (f b : List UInt8) (out : List AV) (e : Int) (k : Nat) (hb : b.length ≤ 1000) (hp : (partsP f).2.1 = 0) (h : allQ b (partsP f).1 0 [] = (out, e, k)) :
    Contract Tryz.prog 5 nilSS [.s (bs f), .ints .u8 .old (ofU b)] (fun sv post => sv = .tup [.sl 4 .old out.length (argElQ out), .i .i64 k, .i .i64 e] ∧ post = nilSS) := by
  refine (scan_c f b (by omega)).later fun sv post hR E w v hw hd => ?_
  obtain ⟨rfl, ⟨h1, _⟩ | ⟨_, rfl⟩⟩ := hR
  · exact absurd hp h1
  · rw [h] at hd
    exact ⟨E, _, _, Env.Le.refl E, hw, hd, rfl, rfl⟩
theorem alive18_c : Contract Tryz.prog 4 nilSS [] (fun sv post => sv = .b true ∧ post = nilSS) := by
  refine contract_ev Γok Tryz.func4 rfl rfl [] ?_
  simp (maxSteps := 4000000) only [push_cast, Int.reduceEq, Int.reduceBNe, Int.reduceBEq, Int.reduceAdd, Int.reduceSub, Int.reduceMul, Int.reduceNeg, Int.reduceLT, Int.reduceLE, Int.reduceToNat, Nat.reduceLT, Nat.reduceAdd, Nat.reduceSub, Nat.reduceMul, Nat.reduceEqDiff, Nat.reduceLeDiff, Nat.reduceBEq, reduceIte, reduceCtorEq, Tryz.f4]
  refine call_w (scan_ok yex1f yex1b A1 0 6 (by decide) (by decide +kernel) yex1) [] (by simp (maxSteps := 4000000) only [push_cast, Int.reduceEq, Int.reduceBNe, Int.reduceBEq, Int.reduceAdd, Int.reduceSub, Int.reduceMul, Int.reduceNeg, Int.reduceLT, Int.reduceLE, Int.reduceToNat, Nat.reduceLT, Nat.reduceAdd, Nat.reduceSub, Nat.reduceMul, Nat.reduceEqDiff, Nat.reduceLeDiff, Nat.reduceBEq, reduceIte, reduceCtorEq, yo1, yc1]) ?_
  rintro sv post ⟨rfl, rfl⟩
  simp (maxSteps := 4000000) only [push_cast, Int.reduceEq, Int.reduceBNe, Int.reduceBEq, Int.reduceAdd, Int.reduceSub, Int.reduceMul, Int.reduceNeg, Int.reduceLT, Int.reduceLE, Int.reduceToNat, Nat.reduceLT, Nat.reduceAdd, Nat.reduceSub, Nat.reduceMul, Nat.reduceEqDiff, Nat.reduceLeDiff, Nat.reduceBEq, reduceIte, reduceCtorEq, ren_argQf]
  refine call_w (scan_ok yex2f yex2b A2 0 4 (by decide) (by decide +kernel) yex2) [] (by simp (maxSteps := 4000000) only [push_cast, Int.reduceEq, Int.reduceBNe, Int.reduceBEq, Int.reduceAdd, Int.reduceSub, Int.reduceMul, Int.reduceNeg, Int.reduceLT, Int.reduceLE, Int.reduceToNat, Nat.reduceLT, Nat.reduceAdd, Nat.reduceSub, Nat.reduceMul, Nat.reduceEqDiff, Nat.reduceLeDiff, Nat.reduceBEq, reduceIte, reduceCtorEq, yo2, yc2]) ?_
  rintro sv post ⟨rfl, rfl⟩
  simp (maxSteps := 4000000) only [push_cast, Int.reduceEq, Int.reduceBNe, Int.reduceBEq, Int.reduceAdd, Int.reduceSub, Int.reduceMul, Int.reduceNeg, Int.reduceLT, Int.reduceLE, Int.reduceToNat, Nat.reduceLT, Nat.reduceAdd, Nat.reduceSub, Nat.reduceMul, Nat.reduceEqDiff, Nat.reduceLeDiff, Nat.reduceBEq, reduceIte, reduceCtorEq, ren_argQf]
  refine call_w (scan_ok yex3f yex3b [] 181 0 (by decide) (by decide +kernel) yex3) [] (by simp (maxSteps := 4000000) only [push_cast, Int.reduceEq, Int.reduceBNe, Int.reduceBEq, Int.reduceAdd, Int.reduceSub, Int.reduceMul, Int.reduceNeg, Int.reduceLT, Int.reduceLE, Int.reduceToNat, Nat.reduceLT, Nat.reduceAdd, Nat.reduceSub, Nat.reduceMul, Nat.reduceEqDiff, Nat.reduceLeDiff, Nat.reduceBEq, reduceIte, reduceCtorEq, yo3, yc3]) ?_
  rintro sv post ⟨rfl, rfl⟩
  simp (maxSteps := 4000000) only [push_cast, Int.reduceEq, Int.reduceBNe, Int.reduceBEq, Int.reduceAdd, Int.reduceSub, Int.reduceMul, Int.reduceNeg, Int.reduceLT, Int.reduceLE, Int.reduceToNat, Nat.reduceLT, Nat.reduceAdd, Nat.reduceSub, Nat.reduceMul, Nat.reduceEqDiff, Nat.reduceLeDiff, Nat.reduceBEq, reduceIte, reduceCtorEq, ren_argQf]
  refine call_w (scan_ok yex4f yex4b [] 111 1 (by decide) (by decide +kernel) yex4) [] (by simp (maxSteps := 4000000) only [push_cast, Int.reduceEq, Int.reduceBNe, Int.reduceBEq, Int.reduceAdd, Int.reduceSub, Int.reduceMul, Int.reduceNeg, Int.reduceLT, Int.reduceLE, Int.reduceToNat, Nat.reduceLT, Nat.reduceAdd, Nat.reduceSub, Nat.reduceMul, Nat.reduceEqDiff, Nat.reduceLeDiff, Nat.reduceBEq, reduceIte, reduceCtorEq, yo4, yc4]) ?_
  rintro sv post ⟨rfl, rfl⟩
  simp (maxSteps := 4000000) only [push_cast, Int.reduceEq, Int.reduceBNe, Int.reduceBEq, Int.reduceAdd, Int.reduceSub, Int.reduceMul, Int.reduceNeg, Int.reduceLT, Int.reduceLE, Int.reduceToNat, Nat.reduceLT, Nat.reduceAdd, Nat.reduceSub, Nat.reduceMul, Nat.reduceEqDiff, Nat.reduceLeDiff, Nat.reduceBEq, reduceIte, reduceCtorEq, ren_argQf]
  refine call_w (num18_c 0) [] (by simp (maxSteps := 4000000) only [push_cast, Int.reduceEq, Int.reduceBNe, Int.reduceBEq, Int.reduceAdd, Int.reduceSub, Int.reduceMul, Int.reduceNeg, Int.reduceLT, Int.reduceLE, Int.reduceToNat, Nat.reduceLT, Nat.reduceAdd, Nat.reduceSub, Nat.reduceMul, Nat.reduceEqDiff, Nat.reduceLeDiff, Nat.reduceBEq, reduceIte, reduceCtorEq]) ?_
  rintro sv post ⟨rfl, rfl⟩
  simp (maxSteps := 4000000) only [push_cast, Int.reduceEq, Int.reduceBNe, Int.reduceBEq, Int.reduceAdd, Int.reduceSub, Int.reduceMul, Int.reduceNeg, Int.reduceLT, Int.reduceLE, Int.reduceToNat, Nat.reduceLT, Nat.reduceAdd, Nat.reduceSub, Nat.reduceMul, Nat.reduceEqDiff, Nat.reduceLeDiff, Nat.reduceBEq, reduceIte, reduceCtorEq]
  refine call_w (num18_c 0) [] (by simp (maxSteps := 4000000) only [push_cast, Int.reduceEq, Int.reduceBNe, Int.reduceBEq, Int.reduceAdd, Int.reduceSub, Int.reduceMul, Int.reduceNeg, Int.reduceLT, Int.reduceLE, Int.reduceToNat, Nat.reduceLT, Nat.reduceAdd, Nat.reduceSub, Nat.reduceMul, Nat.reduceEqDiff, Nat.reduceLeDiff, Nat.reduceBEq, reduceIte, reduceCtorEq]) ?_
  rintro sv post ⟨rfl, rfl⟩
  have l1 : A1.length = 2 := rfl
  have l2 : A2.length = 2 := rfl
  have g1 : argElQ A1 0 1 = .i .i64 (-5) := rfl
  have g2 : argElQ A1 1 3 = .s ⟨#[97, 98]⟩ := rfl
  have g3 : argElQ A2 1 1 = .i .i64 34 := rfl
  simp (maxSteps := 4000000) only [push_cast, Int.reduceEq, Int.reduceBNe, Int.reduceBEq, Int.reduceAdd, Int.reduceSub, Int.reduceMul, Int.reduceNeg, Int.reduceLT, Int.reduceLE, Int.reduceToNat, Nat.reduceLT, Nat.reduceAdd, Nat.reduceSub, Nat.reduceMul, Nat.reduceEqDiff, Nat.reduceLeDiff, Nat.reduceBEq, reduceIte, reduceCtorEq, l1, l2, g1, g2, g3]
  refine call_w (num18_c 181) [] (by simp (maxSteps := 4000000) only [push_cast, Int.reduceEq, Int.reduceBNe, Int.reduceBEq, Int.reduceAdd, Int.reduceSub, Int.reduceMul, Int.reduceNeg, Int.reduceLT, Int.reduceLE, Int.reduceToNat, Nat.reduceLT, Nat.reduceAdd, Nat.reduceSub, Nat.reduceMul, Nat.reduceEqDiff, Nat.reduceLeDiff, Nat.reduceBEq, reduceIte, reduceCtorEq]) ?_
  rintro sv post ⟨rfl, rfl⟩
  simp (maxSteps := 4000000) only [push_cast, Int.reduceEq, Int.reduceBNe, Int.reduceBEq, Int.reduceAdd, Int.reduceSub, Int.reduceMul, Int.reduceNeg, Int.reduceLT, Int.reduceLE, Int.reduceToNat, Nat.reduceLT, Nat.reduceAdd, Nat.reduceSub, Nat.reduceMul, Nat.reduceEqDiff, Nat.reduceLeDiff, Nat.reduceBEq, reduceIte, reduceCtorEq]
  refine call_w (num18_c 111) [] (by simp (maxSteps := 4000000) only [push_cast, Int.reduceEq, Int.reduceBNe, Int.reduceBEq, Int.reduceAdd, Int.reduceSub, Int.reduceMul, Int.reduceNeg, Int.reduceLT, Int.reduceLE, Int.reduceToNat, Nat.reduceLT, Nat.reduceAdd, Nat.reduceSub, Nat.reduceMul, Nat.reduceEqDiff, Nat.reduceLeDiff, Nat.reduceBEq, reduceIte, reduceCtorEq]) ?_
  rintro sv post ⟨rfl, rfl⟩
  simp (maxSteps := 4000000) only [push_cast, Int.reduceEq, Int.reduceBNe, Int.reduceBEq, Int.reduceAdd, Int.reduceSub, Int.reduceMul, Int.reduceNeg, Int.reduceLT, Int.reduceLE, Int.reduceToNat, Nat.reduceLT, Nat.reduceAdd, Nat.reduceSub, Nat.reduceMul, Nat.reduceEqDiff, Nat.reduceLeDiff, Nat.reduceBEq, reduceIte, reduceCtorEq]
  exact Fin.w [] (.b true) _ (by simp (maxSteps := 4000000) only [push_cast, Int.reduceEq, Int.reduceBNe, Int.reduceBEq, Int.reduceAdd, Int.reduceSub, Int.reduceMul, Int.reduceNeg, Int.reduceLT, Int.reduceLE, Int.reduceToNat, Nat.reduceLT, Nat.reduceAdd, Nat.reduceSub, Nat.reduceMul, Nat.reduceEqDiff, Nat.reduceLeDiff, Nat.reduceBEq, reduceIte, reduceCtorEq]) ⟨rfl, rfl⟩
end Go.Proofs.YtmciepkhpocafaaGreat
/- Args that are the same: parts of XYy. -/
namespace Go.Proofs.YtmciepkhpocafaaGreat
open Go Go.Eng
set_option maxHeartbeats 4000000
set_option linter.unusedSimpArgs false
set_option linter.unusedVariables false
set_option maxRecDepth 100000

theorem argElQ_at2 : ∀ (s : List AV) (t : Nat) (a : AV), s[t]? = some a → List.map (argElQ s t) (List.range 4) = argQ a
  | [], t, a, h => by simp at h
  | c :: s, 0, a, h => by
    simp only [List.getElem?_cons_zero, Option.some.injEq] at h
    subst h
    rfl
  | c :: s, t + 1, a, h => argElQ_at2 s t a (by rw [List.getElem?_cons_succ] at h; exact h)
theorem argq_eq2 : eqPlain Tryz.prog 32 = true := by kernel_rfl
theorem baq_self2 (x : ByteArray) : (x == x) = true := by
  rw [show (x == x) = (x.data == x.data) from rfl, beq_iff_eq]
theorem sameBytesQ_c (l m : List Int) : Contract Tryz.prog 29 nilSS [.ints .u8 .old l, .ints .u8 .old m] (fun sv post => sv = .b (l == m) ∧ post = nilSS) := by
  refine contract_len 0 rfl fun hlen => ?_
  refine contract_ev Γok Tryz.func29 rfl rfl [] ?_
  simp (maxSteps := 4000000) only [push_cast, Int.reduceEq, Int.reduceBNe, Int.reduceBEq, Int.reduceAdd, Int.reduceSub, Int.reduceMul, Int.reduceNeg, Int.reduceLT, Int.reduceLE, Int.reduceToNat, Nat.reduceLT, Nat.reduceAdd, Nat.reduceSub, Nat.reduceMul, Nat.reduceEqDiff, Nat.reduceLeDiff, Nat.reduceBEq, reduceIte, reduceCtorEq, Tryz.f29]
  have no : ∀ (S : SS), S.k = 0 → l ≠ m → Fin (fun sv post => sv = .b (l == m) ∧ post = nilSS) (.b false) S := fun S hS h => Fin.nil hS (psv := .b false) rfl ⟨by rw [beq_eq_false_iff_ne.2 h], rfl⟩
  refine ⟨fun h1 => no _ rfl (by rintro rfl; exact h1 rfl), fun h1 => ?_⟩
  have hl : l.length = m.length := by omega
  refine loop_ok (ι := {i : Nat // i ≤ l.length ∧ l.take i = m.take i}) (fun i => ⟨[.ints .u8 .old l, .ints .u8 .old m, .any, .any, .any, .i .i64 i.1] ++ List.replicate 20 .any, [], [], [], 0, 0, []⟩) (fun i => l.length - i.1) ⟨0, by simp, by simp⟩ ?_ ?_
  · refine Sub.w [] ?_
    simp (maxSteps := 4000000) only [push_cast, Int.reduceEq, Int.reduceBNe, Int.reduceBEq, Int.reduceAdd, Int.reduceSub, Int.reduceMul, Int.reduceNeg, Int.reduceLT, Int.reduceLE, Int.reduceToNat, Nat.reduceLT, Nat.reduceAdd, Nat.reduceSub, Nat.reduceMul, Nat.reduceEqDiff, Nat.reduceLeDiff, Nat.reduceBEq, reduceIte, reduceCtorEq]
  · rintro ⟨i, hi, hp⟩
    refine evCode_sound Γok _ _ _ ?_
    simp (maxSteps := 4000000) only [push_cast, Int.reduceEq, Int.reduceBNe, Int.reduceBEq, Int.reduceAdd, Int.reduceSub, Int.reduceMul, Int.reduceNeg, Int.reduceLT, Int.reduceLE, Int.reduceToNat, Nat.reduceLT, Nat.reduceAdd, Nat.reduceSub, Nat.reduceMul, Nat.reduceEqDiff, Nat.reduceLeDiff, Nat.reduceBEq, reduceIte, reduceCtorEq]
    refine ⟨fun h2 => ?_, fun h2 => ?_⟩
    · have hi2 : i < l.length := by omega
      refine (region_plan rfl Γok mixed (.pure 0 (.pure 1 (.pure 2 (.pure 3 (.pure 4 (.pure 5 (.pure 6 (.pure 7 (.pure 8 .done))))))))) 26 rfl (by kernel_rfl) ?_)
      simp (maxSteps := 4000000) only [push_cast, Int.reduceEq, Int.reduceBNe, Int.reduceBEq, Int.reduceAdd, Int.reduceSub, Int.reduceMul, Int.reduceNeg, Int.reduceLT, Int.reduceLE, Int.reduceToNat, Nat.reduceLT, Nat.reduceAdd, Nat.reduceSub, Nat.reduceMul, Nat.reduceEqDiff, Nat.reduceLeDiff, Nat.reduceBEq, reduceIte, reduceCtorEq]
      have e1 : l.getD (i : Int).toNat 0 = l[i] := by simp [List.getD, hi2]
      have e2 : m.getD (i : Int).toNat 0 = m[i] := by simp [List.getD, hl ▸ hi2]
      rw [e1, e2]
      refine ⟨by omega, by omega, fun h3 => no _ rfl (by rintro rfl; exact h3 rfl), fun h3 => ⟨⟨i + 1, hi2, ?_⟩, ?_, Sub.w [] ?_⟩⟩
      · rw [List.take_succ_eq_append_getElem hi2, List.take_succ_eq_append_getElem (hl ▸ hi2), hp, h3]
      · simp only; omega
      · simp (maxSteps := 4000000) only [push_cast, Int.reduceEq, Int.reduceBNe, Int.reduceBEq, Int.reduceAdd, Int.reduceSub, Int.reduceMul, Int.reduceNeg, Int.reduceLT, Int.reduceLE, Int.reduceToNat, Nat.reduceLT, Nat.reduceAdd, Nat.reduceSub, Nat.reduceMul, Nat.reduceEqDiff, Nat.reduceLeDiff, Nat.reduceBEq, reduceIte, reduceCtorEq]
        rw [wrap64 (by omega) (by omega)]
    · have hi2 : i = l.length := by omega
      refine Fin.nil rfl (psv := .b true) rfl ⟨?_, rfl⟩
      subst hi2
      rw [List.take_length, hl, List.take_length] at hp
      simp [hp]

theorem sameArgsQ_c (args : List AV) (hl : args.length ≤ 140737488355328) : Contract Tryz.prog 7 nilSS [.sl 4 .old args.length (argElQ args), .sl 4 .old args.length (argElQ args)] (fun sv post => sv = .b true ∧ post = nilSS) := by
  refine contract_ev Γok Tryz.func7 rfl rfl [] ?_
  simp (maxSteps := 4000000) only [push_cast, Int.reduceEq, Int.reduceBNe, Int.reduceBEq, Int.reduceAdd, Int.reduceSub, Int.reduceMul, Int.reduceNeg, Int.reduceLT, Int.reduceLE, Int.reduceToNat, Nat.reduceLT, Nat.reduceAdd, Nat.reduceSub, Nat.reduceMul, Nat.reduceEqDiff, Nat.reduceLeDiff, Nat.reduceBEq, reduceIte, reduceCtorEq, Tryz.f7]
  refine loop_ok (ι := {i : Nat // i ≤ args.length}) (fun i => ⟨[.sl 4 .old args.length (argElQ args), .sl 4 .old args.length (argElQ args), .any, .any, .any, .i .i64 i.1] ++ List.replicate 20 .any, [], [], [], 0, 0, []⟩) (fun i => args.length - i.1) ⟨0, Nat.zero_le _⟩ ?_ ?_
  · refine Sub.w [] ?_
    simp (maxSteps := 4000000) only [push_cast, Int.reduceEq, Int.reduceBNe, Int.reduceBEq, Int.reduceAdd, Int.reduceSub, Int.reduceMul, Int.reduceNeg, Int.reduceLT, Int.reduceLE, Int.reduceToNat, Nat.reduceLT, Nat.reduceAdd, Nat.reduceSub, Nat.reduceMul, Nat.reduceEqDiff, Nat.reduceLeDiff, Nat.reduceBEq, reduceIte, reduceCtorEq]
    exact fun i _ j _ => W_argQ _ args i j
  · rintro ⟨i, hi⟩
    refine evCode_sound Γok _ _ _ ?_
    simp (maxSteps := 4000000) only [push_cast, Int.reduceEq, Int.reduceBNe, Int.reduceBEq, Int.reduceAdd, Int.reduceSub, Int.reduceMul, Int.reduceNeg, Int.reduceLT, Int.reduceLE, Int.reduceToNat, Nat.reduceLT, Nat.reduceAdd, Nat.reduceSub, Nat.reduceMul, Nat.reduceEqDiff, Nat.reduceLeDiff, Nat.reduceBEq, reduceIte, reduceCtorEq]
    refine ⟨fun h2 => ?_, fun h2 => ?_⟩
    · have hi2 : i < args.length := by omega
      have hmap : List.map (argElQ args ((i : Int)).toNat) (List.range 4) = argQ args[i] := by
        rw [Int.toNat_natCast]
        exact argElQ_at2 args i args[i] (List.getElem?_eq_getElem hi2)
      generalize args[i] = a at hmap
      refine (region_plan rfl Γok mixed (.pure 0 (.pure 1 (.pure 2 (.pure 3 (.pure 4 (.pure 5 (.pure 6 (.pure 7 (.eff (.cons 8 [] .done .nil)))))))))) 26 rfl (by kernel_rfl) ?_)
      simp (maxSteps := 4000000) only [push_cast, Int.reduceEq, Int.reduceBNe, Int.reduceBEq, Int.reduceAdd, Int.reduceSub, Int.reduceMul, Int.reduceNeg, Int.reduceLT, Int.reduceLE, Int.reduceToNat, Nat.reduceLT, Nat.reduceAdd, Nat.reduceSub, Nat.reduceMul, Nat.reduceEqDiff, Nat.reduceLeDiff, Nat.reduceBEq, reduceIte, reduceCtorEq, hmap, argQ, argq_eq2, baq_self2]
      refine ⟨by omega, by omega, ⟨i + 1, hi2⟩, by show args.length - (i + 1) < args.length - i; omega, Sub.w [] ?_⟩
      simp (maxSteps := 4000000) only [push_cast, Int.reduceEq, Int.reduceBNe, Int.reduceBEq, Int.reduceAdd, Int.reduceSub, Int.reduceMul, Int.reduceNeg, Int.reduceLT, Int.reduceLE, Int.reduceToNat, Nat.reduceLT, Nat.reduceAdd, Nat.reduceSub, Nat.reduceMul, Nat.reduceEqDiff, Nat.reduceLeDiff, Nat.reduceBEq, reduceIte, reduceCtorEq]
      refine ⟨fun i _ j _ => W_argQ _ args i j, fun i _ j _ => W_argQ _ args i j, ?_⟩
      exact (wrap64 (n := (i : Int) + 1) (by omega) (by omega)).symm
    · exact Fin.nil rfl (psv := .b true) rfl ⟨rfl, rfl⟩
theorem sameArgs0_c : Contract Tryz.prog 7 nilSS [.ints .u8 .nil [], .ints .u8 .nil []] (fun sv post => sv = .b true ∧ post = nilSS) := by
  refine contract_ev Γok Tryz.func7 rfl rfl [] ?_
  simp (maxSteps := 4000000) only [push_cast, Int.reduceEq, Int.reduceBNe, Int.reduceBEq, Int.reduceAdd, Int.reduceSub, Int.reduceMul, Int.reduceNeg, Int.reduceLT, Int.reduceLE, Int.reduceToNat, Nat.reduceLT, Nat.reduceAdd, Nat.reduceSub, Nat.reduceMul, Nat.reduceEqDiff, Nat.reduceLeDiff, Nat.reduceBEq, reduceIte, reduceCtorEq, Tryz.f7]
  refine loop_ok (ι := Unit) (fun i => ⟨[.ints .u8 .nil [], .ints .u8 .nil [], .any, .any, .any, .i .i64 0] ++ List.replicate 20 .any, [], [], [], 0, 0, []⟩) (fun i => 0) () ?_ ?_
  · refine Sub.w [] ?_
    simp (maxSteps := 4000000) only [push_cast, Int.reduceEq, Int.reduceBNe, Int.reduceBEq, Int.reduceAdd, Int.reduceSub, Int.reduceMul, Int.reduceNeg, Int.reduceLT, Int.reduceLE, Int.reduceToNat, Nat.reduceLT, Nat.reduceAdd, Nat.reduceSub, Nat.reduceMul, Nat.reduceEqDiff, Nat.reduceLeDiff, Nat.reduceBEq, reduceIte, reduceCtorEq]
  · rintro _
    refine evCode_sound Γok _ _ _ ?_
    simp (maxSteps := 4000000) only [push_cast, Int.reduceEq, Int.reduceBNe, Int.reduceBEq, Int.reduceAdd, Int.reduceSub, Int.reduceMul, Int.reduceNeg, Int.reduceLT, Int.reduceLE, Int.reduceToNat, Nat.reduceLT, Nat.reduceAdd, Nat.reduceSub, Nat.reduceMul, Nat.reduceEqDiff, Nat.reduceLeDiff, Nat.reduceBEq, reduceIte, reduceCtorEq]
    exact Fin.nil rfl (psv := .b true) rfl ⟨rfl, rfl⟩
theorem allQ_len (l : List UInt8) : ∀ (ps : List PartP) (k : Nat) (out : List AV), (allQ l ps k out).1.length ≤ out.length + ps.length
  | [], k, out => Nat.le_refl _
  | p :: r, k, out => by
    simp only [allQ]
    split
    · simp
    · refine Nat.le_trans (allQ_len l r _ _) ?_
      split <;> simp <;> omega
end Go.Proofs.YtmciepkhpocafaaGreat
