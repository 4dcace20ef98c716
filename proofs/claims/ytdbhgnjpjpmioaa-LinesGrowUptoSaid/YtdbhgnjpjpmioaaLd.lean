/- LinesGrow: a line is got whole, however small the limit. -/
import Derived.Test.YtdbhgnjpjpmioaaLc
namespace Go.Proofs.Ytdbhgnjpjpmioaa
open Go Go.Eng
set_option linter.unusedSimpArgs false
set_option linter.unusedVariables false
set_option maxRecDepth 100000

theorem copyBytes_c (l : List Int) (hl : l.length ≤ 140737488355328) : Contract Try.prog 24 nilSS [.ints .u8 .old l] (fun sv post => sv = .ints .u8 (.tok 0 true) l ∧ post = ⟨[], [], [0], [], 1, 0, []⟩) := by
  refine contract_ev Γok Try.func24 rfl rfl [] ?_
  simp (maxSteps := 4000000) only [push_cast, Int.reduceEq, Int.reduceBNe, Int.reduceBEq, Int.reduceAdd, Int.reduceSub, Int.reduceMul, Int.reduceNeg, Int.reduceLT, Int.reduceLE, Nat.reduceLT, Nat.reduceAdd, Nat.reduceSub, Nat.reduceMul, Nat.reduceEqDiff, Nat.reduceLeDiff, Nat.reduceBEq, reduceIte, reduceCtorEq, Try.f24]
  refine ⟨by omega, Fin.w [0] (.ints .u8 (.tok 0 true) l) _ (by simp (maxSteps := 4000000) only [push_cast, Int.reduceEq, Int.reduceBNe, Int.reduceBEq, Int.reduceAdd, Int.reduceSub, Int.reduceMul, Int.reduceNeg, Int.reduceLT, Int.reduceLE, Nat.reduceLT, Nat.reduceAdd, Nat.reduceSub, Nat.reduceMul, Nat.reduceEqDiff, Nat.reduceLeDiff, Nat.reduceBEq, reduceIte, reduceCtorEq]) ⟨rfl, rfl⟩⟩

theorem split_at {d : Int} : ∀ (a b x y : List Int), (∀ c, c ∈ a → c ≠ d) → (∀ c, c ∈ b → c ≠ d) → a ++ d :: x = b ++ d :: y → a = b
  | [], [], _, _, _, _, _ => rfl
  | [], c :: b, x, y, _, h2, h => by
    simp only [List.nil_append, List.cons_append, List.cons.injEq] at h
    exact absurd h.1.symm (h2 c (by simp))
  | c :: a, [], x, y, h1, _, h => by
    simp only [List.nil_append, List.cons_append, List.cons.injEq] at h
    exact absurd h.1 (h1 c (by simp))
  | c :: a, e :: b, x, y, h1, h2, h => by
    simp only [List.cons_append, List.cons.injEq] at h
    rw [h.1, split_at a b x y (fun c hc => h1 c (by simp [hc])) (fun c hc => h2 c (by simp [hc])) h.2]
theorem no_long {d : Int} : ∀ (a b x y : List Int), (∀ c, c ∈ a → c ≠ d) → a ++ x = b ++ d :: y → a.length ≤ b.length
  | [], b, x, y, _, _ => Nat.zero_le _
  | c :: a, [], x, y, h1, h => by
    simp only [List.nil_append, List.cons_append, List.cons.injEq] at h
    exact absurd h.1 (h1 c (by simp))
  | c :: a, e :: b, x, y, h1, h => by
    simp only [List.cons_append, List.cons.injEq] at h
    have := no_long a b x y (fun c hc => h1 c (by simp [hc])) h.2
    simp only [List.length_cons]
    omega

set_option maxHeartbeats 2000000 in
theorem linesGrow_c (line rest : List Int) (limit m s : Int) (hb : line.length + rest.length ≤ 1048576) : Contract Try.prog 6 nilSS [.ints .u8 .old line, .ints .u8 .old rest, .i .i64 limit, .i .i64 m, .i .i64 s] (fun sv post => sv = .b true ∧ post = nilSS) := by
  refine contract_ev Γok Try.func6 rfl rfl [] ?_
  simp (maxSteps := 4000000) only [push_cast, Int.reduceEq, Int.reduceBNe, Int.reduceBEq, Int.reduceAdd, Int.reduceSub, Int.reduceMul, Int.reduceNeg, Int.reduceLT, Int.reduceLE, Nat.reduceLT, Nat.reduceAdd, Nat.reduceSub, Nat.reduceMul, Nat.reduceEqDiff, Nat.reduceLeDiff, Nat.reduceBEq, reduceIte, reduceCtorEq, Try.f6]
  refine call_w alive15_c [] (by simp (maxSteps := 4000000) only [push_cast, Int.reduceEq, Int.reduceBNe, Int.reduceBEq, Int.reduceAdd, Int.reduceSub, Int.reduceMul, Int.reduceNeg, Int.reduceLT, Int.reduceLE, Nat.reduceLT, Nat.reduceAdd, Nat.reduceSub, Nat.reduceMul, Nat.reduceEqDiff, Nat.reduceLeDiff, Nat.reduceBEq, reduceIte, reduceCtorEq]) ?_
  rintro sv post ⟨rfl, rfl⟩
  simp (maxSteps := 4000000) only [push_cast, Int.reduceEq, Int.reduceBNe, Int.reduceBEq, Int.reduceAdd, Int.reduceSub, Int.reduceMul, Int.reduceNeg, Int.reduceLT, Int.reduceLE, Nat.reduceLT, Nat.reduceAdd, Nat.reduceSub, Nat.reduceMul, Nat.reduceEqDiff, Nat.reduceLeDiff, Nat.reduceBEq, reduceIte, reduceCtorEq]
  refine loop_ok (ι := {q : Nat × Bool // q.1 ≤ line.length ∧ (q.2 = true → (∀ c, c ∈ line.take q.1 → c ≠ 10) ∧ line.length ≤ 3000)})
    (fun q => ⟨[.ints .u8 .old line, .ints .u8 .old rest, .i .i64 limit, .i .i64 m, .i .i64 s, .any, .any, .any, .any, .any, .any, .b q.1.2, .i .i64 q.1.1] ++ List.replicate 114 .any, [], [], [], 0, 0, []⟩)
    (fun q => line.length - q.1.1) ⟨(0, decide (line.length ≤ 3000)), by simp, by simp⟩ ?_ ?_
  · refine Sub.w [] ?_
    simp (maxSteps := 4000000) only [push_cast, Int.reduceEq, Int.reduceBNe, Int.reduceBEq, Int.reduceAdd, Int.reduceSub, Int.reduceMul, Int.reduceNeg, Int.reduceLT, Int.reduceLE, Nat.reduceLT, Nat.reduceAdd, Nat.reduceSub, Nat.reduceMul, Nat.reduceEqDiff, Nat.reduceLeDiff, Nat.reduceBEq, reduceIte, reduceCtorEq]
    simp only [decide_eq_decide]
    omega
  · rintro ⟨⟨i, cl⟩, hi, hcl⟩
    simp only at hi hcl
    refine evCode_sound Γok _ _ _ ?_
    simp (maxSteps := 4000000) only [push_cast, Int.reduceEq, Int.reduceBNe, Int.reduceBEq, Int.reduceAdd, Int.reduceSub, Int.reduceMul, Int.reduceNeg, Int.reduceLT, Int.reduceLE, Nat.reduceLT, Nat.reduceAdd, Nat.reduceSub, Nat.reduceMul, Nat.reduceEqDiff, Nat.reduceLeDiff, Nat.reduceBEq, reduceIte, reduceCtorEq]
    refine ⟨fun h1 => ⟨⟨by omega, by omega⟩, ⟨(i + 1, decide (line.getD i 0 ≠ 10)), by simp only; omega, ?_⟩, by simp only; omega, Sub.w [] ?_⟩, fun h1 => ?_⟩
    · intro hq
      obtain ⟨k1, k2⟩ := hcl h1.2
      have hi2 : i < line.length := by omega
      refine ⟨fun c hc => ?_, k2⟩
      simp only at hc
      rw [List.take_succ_eq_append_getElem hi2, List.mem_append] at hc
      rcases hc with hc | hc
      · exact k1 c hc
      · have e : line.getD i 0 = line[i] := by simp [List.getD, hi2]
        have hq' : line.getD i 0 ≠ 10 := by simpa using hq
        rw [List.mem_singleton.1 hc, ← e]
        exact hq'
    · simp (maxSteps := 4000000) only [push_cast, Int.reduceEq, Int.reduceBNe, Int.reduceBEq, Int.reduceAdd, Int.reduceSub, Int.reduceMul, Int.reduceNeg, Int.reduceLT, Int.reduceLE, Nat.reduceLT, Nat.reduceAdd, Nat.reduceSub, Nat.reduceMul, Nat.reduceEqDiff, Nat.reduceLeDiff, Nat.reduceBEq, reduceIte, reduceCtorEq]
      rw [wrap64 (n := (i : Int) + 1) (by omega) (by omega)]
      refine ⟨?_, rfl⟩
      rw [Int.toNat_natCast, bne, decide_not, Bool.beq_eq_decide_eq]
    have hcl' : cl = true → (∀ c, c ∈ line → c ≠ 10) ∧ line.length ≤ 3000 := fun h => by
      obtain ⟨k1, k2⟩ := hcl h
      have : i = line.length := by rcases h1 with h1 | h1; omega; rw [h] at h1; cases h1
      rw [this, List.take_length] at k1
      exact ⟨k1, k2⟩
    refine call_w (copyBytes_c line (by omega)) [] (by simp (maxSteps := 4000000) only [push_cast, Int.reduceEq, Int.reduceBNe, Int.reduceBEq, Int.reduceAdd, Int.reduceSub, Int.reduceMul, Int.reduceNeg, Int.reduceLT, Int.reduceLE, Nat.reduceLT, Nat.reduceAdd, Nat.reduceSub, Nat.reduceMul, Nat.reduceEqDiff, Nat.reduceLeDiff, Nat.reduceBEq, reduceIte, reduceCtorEq]) ?_
    rintro sv post ⟨rfl, rfl⟩
    simp (maxSteps := 4000000) only [push_cast, Int.reduceEq, Int.reduceBNe, Int.reduceBEq, Int.reduceAdd, Int.reduceSub, Int.reduceMul, Int.reduceNeg, Int.reduceLT, Int.reduceLE, Nat.reduceLT, Nat.reduceAdd, Nat.reduceSub, Nat.reduceMul, Nat.reduceEqDiff, Nat.reduceLeDiff, Nat.reduceBEq, reduceIte, reduceCtorEq]
    refine ⟨by omega, by simp; omega, ?_⟩
    obtain ⟨text, htext⟩ : ∃ text, line ++ [10] ++ rest = text := ⟨_, rfl⟩
    rw [htext]
    by_cases hlen : text.length ≤ 1048576
    case neg =>
      refine call_w (newReaderLong_c text (by omega)) [] (by simp (maxSteps := 4000000) only [push_cast, Int.reduceEq, Int.reduceBNe, Int.reduceBEq, Int.reduceAdd, Int.reduceSub, Int.reduceMul, Int.reduceNeg, Int.reduceLT, Int.reduceLE, Nat.reduceLT, Nat.reduceAdd, Nat.reduceSub, Nat.reduceMul, Nat.reduceEqDiff, Nat.reduceLeDiff, Nat.reduceBEq, reduceIte, reduceCtorEq]) ?_
      rintro sv post ⟨rfl, rfl⟩
      simp (maxSteps := 4000000) only [push_cast, Int.reduceEq, Int.reduceBNe, Int.reduceBEq, Int.reduceAdd, Int.reduceSub, Int.reduceMul, Int.reduceNeg, Int.reduceLT, Int.reduceLE, Nat.reduceLT, Nat.reduceAdd, Nat.reduceSub, Nat.reduceMul, Nat.reduceEqDiff, Nat.reduceLeDiff, Nat.reduceBEq, reduceIte, reduceCtorEq]
      refine call_w (newS_c _ _ _ _ _ _ _ _ openR_c m s) [] (by simp (maxSteps := 4000000) only [push_cast, Int.reduceEq, Int.reduceBNe, Int.reduceBEq, Int.reduceAdd, Int.reduceSub, Int.reduceMul, Int.reduceNeg, Int.reduceLT, Int.reduceLE, Nat.reduceLT, Nat.reduceAdd, Nat.reduceSub, Nat.reduceMul, Nat.reduceEqDiff, Nat.reduceLeDiff, Nat.reduceBEq, reduceIte, reduceCtorEq, modeV]) ?_
      rintro sv post ⟨rfl, rfl⟩
      simp (maxSteps := 4000000) only [push_cast, Int.reduceEq, Int.reduceBNe, Int.reduceBEq, Int.reduceAdd, Int.reduceSub, Int.reduceMul, Int.reduceNeg, Int.reduceLT, Int.reduceLE, Nat.reduceLT, Nat.reduceAdd, Nat.reduceSub, Nat.reduceMul, Nat.reduceEqDiff, Nat.reduceLeDiff, Nat.reduceBEq, reduceIte, reduceCtorEq, St.sv, St.cells]
      cases cl
      · simp (maxSteps := 4000000) only [push_cast, Int.reduceEq, Int.reduceBNe, Int.reduceBEq, Int.reduceAdd, Int.reduceSub, Int.reduceMul, Int.reduceNeg, Int.reduceLT, Int.reduceLE, Nat.reduceLT, Nat.reduceAdd, Nat.reduceSub, Nat.reduceMul, Nat.reduceEqDiff, Nat.reduceLeDiff, Nat.reduceBEq, reduceIte, reduceCtorEq]
        exact Fin.nil rfl (psv := .b true) rfl ⟨rfl, rfl⟩
      simp (maxSteps := 4000000) only [push_cast, Int.reduceEq, Int.reduceBNe, Int.reduceBEq, Int.reduceAdd, Int.reduceSub, Int.reduceMul, Int.reduceNeg, Int.reduceLT, Int.reduceLE, Nat.reduceLT, Nat.reduceAdd, Nat.reduceSub, Nat.reduceMul, Nat.reduceEqDiff, Nat.reduceLeDiff, Nat.reduceBEq, reduceIte, reduceCtorEq]
      refine call_w (num15_c 5) [] (by simp (maxSteps := 4000000) only [push_cast, Int.reduceEq, Int.reduceBNe, Int.reduceBEq, Int.reduceAdd, Int.reduceSub, Int.reduceMul, Int.reduceNeg, Int.reduceLT, Int.reduceLE, Nat.reduceLT, Nat.reduceAdd, Nat.reduceSub, Nat.reduceMul, Nat.reduceEqDiff, Nat.reduceLeDiff, Nat.reduceBEq, reduceIte, reduceCtorEq]) ?_
      rintro sv post ⟨rfl, rfl⟩
      simp (maxSteps := 4000000) only [push_cast, Int.reduceEq, Int.reduceBNe, Int.reduceBEq, Int.reduceAdd, Int.reduceSub, Int.reduceMul, Int.reduceNeg, Int.reduceLT, Int.reduceLE, Nat.reduceLT, Nat.reduceAdd, Nat.reduceSub, Nat.reduceMul, Nat.reduceEqDiff, Nat.reduceLeDiff, Nat.reduceBEq, reduceIte, reduceCtorEq]
      exact Fin.nil rfl (psv := .b true) rfl ⟨rfl, rfl⟩
    refine call_w (newReader_c text hlen) [] (by simp (maxSteps := 4000000) only [push_cast, Int.reduceEq, Int.reduceBNe, Int.reduceBEq, Int.reduceAdd, Int.reduceSub, Int.reduceMul, Int.reduceNeg, Int.reduceLT, Int.reduceLE, Nat.reduceLT, Nat.reduceAdd, Nat.reduceSub, Nat.reduceMul, Nat.reduceEqDiff, Nat.reduceLeDiff, Nat.reduceBEq, reduceIte, reduceCtorEq]) ?_
    rintro sv post ⟨b, rfl, rfl⟩
    simp (maxSteps := 4000000) only [push_cast, Int.reduceEq, Int.reduceBNe, Int.reduceBEq, Int.reduceAdd, Int.reduceSub, Int.reduceMul, Int.reduceNeg, Int.reduceLT, Int.reduceLE, Nat.reduceLT, Nat.reduceAdd, Nat.reduceSub, Nat.reduceMul, Nat.reduceEqDiff, Nat.reduceLeDiff, Nat.reduceBEq, reduceIte, reduceCtorEq]
    refine call_w (newS_c _ _ _ _ _ _ _ _ openR_c m s) [] (by simp (maxSteps := 4000000) only [push_cast, Int.reduceEq, Int.reduceBNe, Int.reduceBEq, Int.reduceAdd, Int.reduceSub, Int.reduceMul, Int.reduceNeg, Int.reduceLT, Int.reduceLE, Nat.reduceLT, Nat.reduceAdd, Nat.reduceSub, Nat.reduceMul, Nat.reduceEqDiff, Nat.reduceLeDiff, Nat.reduceBEq, reduceIte, reduceCtorEq, modeV]) ?_
    rintro sv post ⟨rfl, rfl⟩
    simp (maxSteps := 4000000) only [push_cast, Int.reduceEq, Int.reduceBNe, Int.reduceBEq, Int.reduceAdd, Int.reduceSub, Int.reduceMul, Int.reduceNeg, Int.reduceLT, Int.reduceLE, Nat.reduceLT, Nat.reduceAdd, Nat.reduceSub, Nat.reduceMul, Nat.reduceEqDiff, Nat.reduceLeDiff, Nat.reduceBEq, reduceIte, reduceCtorEq, St.sv, St.cells]
    cases cl
    · simp (maxSteps := 4000000) only [push_cast, Int.reduceEq, Int.reduceBNe, Int.reduceBEq, Int.reduceAdd, Int.reduceSub, Int.reduceMul, Int.reduceNeg, Int.reduceLT, Int.reduceLE, Nat.reduceLT, Nat.reduceAdd, Nat.reduceSub, Nat.reduceMul, Nat.reduceEqDiff, Nat.reduceLeDiff, Nat.reduceBEq, reduceIte, reduceCtorEq]
      exact Fin.nil rfl (psv := .b true) rfl ⟨rfl, rfl⟩
    obtain ⟨hno, hl3⟩ := hcl' rfl
    simp (maxSteps := 4000000) only [push_cast, Int.reduceEq, Int.reduceBNe, Int.reduceBEq, Int.reduceAdd, Int.reduceSub, Int.reduceMul, Int.reduceNeg, Int.reduceLT, Int.reduceLE, Nat.reduceLT, Nat.reduceAdd, Nat.reduceSub, Nat.reduceMul, Nat.reduceEqDiff, Nat.reduceLeDiff, Nat.reduceBEq, reduceIte, reduceCtorEq]
    refine call_w (num15_c 0) [] (by simp (maxSteps := 4000000) only [push_cast, Int.reduceEq, Int.reduceBNe, Int.reduceBEq, Int.reduceAdd, Int.reduceSub, Int.reduceMul, Int.reduceNeg, Int.reduceLT, Int.reduceLE, Nat.reduceLT, Nat.reduceAdd, Nat.reduceSub, Nat.reduceMul, Nat.reduceEqDiff, Nat.reduceLeDiff, Nat.reduceBEq, reduceIte, reduceCtorEq]) ?_
    rintro sv post ⟨rfl, rfl⟩
    simp (maxSteps := 4000000) only [push_cast, Int.reduceEq, Int.reduceBNe, Int.reduceBEq, Int.reduceAdd, Int.reduceSub, Int.reduceMul, Int.reduceNeg, Int.reduceLT, Int.reduceLE, Nat.reduceLT, Nat.reduceAdd, Nat.reduceSub, Nat.reduceMul, Nat.reduceEqDiff, Nat.reduceLeDiff, Nat.reduceBEq, reduceIte, reduceCtorEq]
    refine call_w (num15_c (mayV m s)) [] (by simp (maxSteps := 4000000) only [push_cast, Int.reduceEq, Int.reduceBNe, Int.reduceBEq, Int.reduceAdd, Int.reduceSub, Int.reduceMul, Int.reduceNeg, Int.reduceLT, Int.reduceLE, Nat.reduceLT, Nat.reduceAdd, Nat.reduceSub, Nat.reduceMul, Nat.reduceEqDiff, Nat.reduceLeDiff, Nat.reduceBEq, reduceIte, reduceCtorEq]) ?_
    rintro sv post ⟨rfl, rfl⟩
    simp (maxSteps := 4000000) only [push_cast, Int.reduceEq, Int.reduceBNe, Int.reduceBEq, Int.reduceAdd, Int.reduceSub, Int.reduceMul, Int.reduceNeg, Int.reduceLT, Int.reduceLE, Nat.reduceLT, Nat.reduceAdd, Nat.reduceSub, Nat.reduceMul, Nat.reduceEqDiff, Nat.reduceLeDiff, Nat.reduceBEq, reduceIte, reduceCtorEq]
    refine ⟨fun h => Fin.nil rfl (psv := .b true) rfl ⟨rfl, rfl⟩, fun hm => ?_⟩
    have e0 := newSt_ok true false hm
    have hreads := new_reads text b false hm
    have hF := reader_feeds text b
    have hR := readerM_rd text b hlen
    obtain ⟨q1, q2⟩ := lim_rng limit 90 (by omega) (by omega)
    generalize IntKind.i64.wrap (1 + (IntKind.i64.wrap (limit.tmod 90 + 90)).tmod 90) = lim at q1 q2 ⊢
    refine CodeOK.sub (Sub.tokFr 17 rfl) ?_
    simp (maxSteps := 4000000) only [push_cast, Int.reduceEq, Int.reduceBNe, Int.reduceBEq, Int.reduceAdd, Int.reduceSub, Int.reduceMul, Int.reduceNeg, Int.reduceLT, Int.reduceLE, Nat.reduceLT, Nat.reduceAdd, Nat.reduceSub, Nat.reduceMul, Nat.reduceEqDiff, Nat.reduceLeDiff, Nat.reduceBEq, reduceIte, reduceCtorEq]
    have hsplit : text = line ++ 10 :: rest := by rw [← htext]; simp
    refine loop_ok (ι := {q : Nat × St × Int × List Int // q.1 ≤ q.2.2.2.length ∧ Reads (readerM text b) (fun p => text.drop p.toNat) q.2.1 q.2.2.1 ∧ q.2.2.2 ++ left (readerM text b) (fun p => text.drop p.toNat) q.2.1 q.2.2.1 = text ∧ ∀ c, c ∈ q.2.2.2 → c ≠ 10})
      (fun q => ⟨[.ints .u8 .old line, .any, .i .i64 lim, .any, .any, .any, .any, .any, .any, .any, .any, .any, .any, .raw (.pointer (some ⟨b, 0, none⟩)), .any, .ptr 0 0, .any, .ints .u8 (.tok 1 true) q.1.2.2.2, .i .i64 q.1.1] ++ List.replicate 108 .any, [(0, 42, q.1.2.1.cells .old .old .old)], [1], [(2, (readerS text q.1.2.2.1).res b)], 3, 0, []⟩)
      (fun q => line.length + 1 - q.1.1) ⟨(0, newSt true false m s, 0, []), by simp, hreads, by rw [e0]; simp [left], by simp⟩ ?_ ?_
    · refine Sub.w [6, 7, 5] ?_
      simp (maxSteps := 4000000) only [push_cast, Int.reduceEq, Int.reduceBNe, Int.reduceBEq, Int.reduceAdd, Int.reduceSub, Int.reduceMul, Int.reduceNeg, Int.reduceLT, Int.reduceLE, Nat.reduceLT, Nat.reduceAdd, Nat.reduceSub, Nat.reduceMul, Nat.reduceEqDiff, Nat.reduceLeDiff, Nat.reduceBEq, reduceIte, reduceCtorEq, e0, St.cells]
    · rintro ⟨⟨j, x, p, got⟩, hj, hx, ha, hn⟩
      simp only at hj hx ha hn
      have hgl : got.length ≤ line.length := no_long got line _ rest hn (by rw [ha, hsplit])
      obtain ⟨r1, r2, r3⟩ := until_feeds hR hF 10 lim q1 (by omega) hx
      refine evCode_sound Γok _ _ _ ?_
      simp (maxSteps := 4000000) only [push_cast, Int.reduceEq, Int.reduceBNe, Int.reduceBEq, Int.reduceAdd, Int.reduceSub, Int.reduceMul, Int.reduceNeg, Int.reduceLT, Int.reduceLE, Nat.reduceLT, Nat.reduceAdd, Nat.reduceSub, Nat.reduceMul, Nat.reduceEqDiff, Nat.reduceLeDiff, Nat.reduceBEq, reduceIte, reduceCtorEq, St.cells, rg11]
      refine ⟨fun h1 => ?_, fun h1 => by omega⟩
      refine call_w (LineR_c (readerM text b) hR x hx.fits p hx.ok lim) [2] (by simp (maxSteps := 4000000) only [push_cast, Int.reduceEq, Int.reduceBNe, Int.reduceBEq, Int.reduceAdd, Int.reduceSub, Int.reduceMul, Int.reduceNeg, Int.reduceLT, Int.reduceLE, Nat.reduceLT, Nat.reduceAdd, Nat.reduceSub, Nat.reduceMul, Nat.reduceEqDiff, Nat.reduceLeDiff, Nat.reduceBEq, reduceIte, reduceCtorEq, St.sv, St.cells, RawM.v, readerM]) ?_
      rintro sv post ⟨rfl, rfl⟩
      obtain ⟨x', p', out, e, hU⟩ : ∃ x' p' out e, x.Until (readerM text b) p 10 lim = (x', p', out, e) := ⟨_, _, _, _, rfl⟩
      rw [hU] at r1 r2 r3 ⊢
      simp only at r1 r2 r3
      simp (maxSteps := 4000000) only [push_cast, Int.reduceEq, Int.reduceBNe, Int.reduceBEq, Int.reduceAdd, Int.reduceSub, Int.reduceMul, Int.reduceNeg, Int.reduceLT, Int.reduceLE, Nat.reduceLT, Nat.reduceAdd, Nat.reduceSub, Nat.reduceMul, Nat.reduceEqDiff, Nat.reduceLeDiff, Nat.reduceBEq, reduceIte, reduceCtorEq, St.sv, St.cells, rg11]
      refine call_w (num15_c e) [] (by simp (maxSteps := 4000000) only [push_cast, Int.reduceEq, Int.reduceBNe, Int.reduceBEq, Int.reduceAdd, Int.reduceSub, Int.reduceMul, Int.reduceNeg, Int.reduceLT, Int.reduceLE, Nat.reduceLT, Nat.reduceAdd, Nat.reduceSub, Nat.reduceMul, Nat.reduceEqDiff, Nat.reduceLeDiff, Nat.reduceBEq, reduceIte, reduceCtorEq]) ?_
      rintro sv post ⟨rfl, rfl⟩
      simp (maxSteps := 4000000) only [push_cast, Int.reduceEq, Int.reduceBNe, Int.reduceBEq, Int.reduceAdd, Int.reduceSub, Int.reduceMul, Int.reduceNeg, Int.reduceLT, Int.reduceLE, Nat.reduceLT, Nat.reduceAdd, Nat.reduceSub, Nat.reduceMul, Nat.reduceEqDiff, Nat.reduceLeDiff, Nat.reduceBEq, reduceIte, reduceCtorEq]
      rcases r3 with ⟨rfl, hL, hne⟩ | ⟨rfl, rfl, hl0, hl0'⟩
      · have hpos : 0 < out.length := List.length_pos_iff.2 hne
        have happ := hL.app
        have hlen2 := hL.len
        have hlo : out.length ≤ 1048576 := by
          have e := congrArg List.length happ
          have e' := congrArg List.length ha
          simp only [List.length_append] at e e'
          omega
        have hlast : out.dropLast ++ [out.getLast hne] = out := List.dropLast_concat_getLast hne
        refine ⟨fun h2 => by omega, fun h2 => ⟨by omega, ?_⟩⟩
        rw [wrap64 (n := (out.length : Int) - 1) (by omega) (by omega), show ((out.length : Int) - 1).toNat = out.length - 1 by omega, last_get hne, wrap64 (n := (line.length : Int) + 1) (by omega) (by omega)]
        refine ⟨⟨by omega, by omega⟩, fun h3 => ?_, fun h3 => ⟨⟨(j + 1, x', p', got ++ out), ?_, r1, ?_, ?_⟩, ?_, ?_⟩⟩
        · have hgo : got ++ out = line ++ [10] := by
            have hp : got ++ out.dropLast = line := by
              refine split_at _ _ (left (readerM text b) (fun p => text.drop p.toNat) x' p') rest (fun c hc => ?_) hno ?_
              · rcases List.mem_append.1 hc with hc | hc
                · exact hn c hc
                · exact hL.inner c hc
              · rw [← hsplit]
                refine Eq.trans ?_ ha
                rw [← happ]
                conv => rhs; rw [← hlast, h3]
                simp
            rw [← hp, ← h3, List.append_assoc, hlast]
          have hgl2 : ((got ++ out).length : Int) = line.length + 1 := by rw [hgo]; simp
          refine ⟨fun _ => ⟨by omega, by omega⟩, fun _ => ⟨hgl2, ?_⟩, fun h => absurd hgl2 h⟩
          rw [hgo, Int.toNat_natCast, List.take_left]
          refine call_w (sameBytes_c line line) [] (by simp (maxSteps := 4000000) only [push_cast, Int.reduceEq, Int.reduceBNe, Int.reduceBEq, Int.reduceAdd, Int.reduceSub, Int.reduceMul, Int.reduceNeg, Int.reduceLT, Int.reduceLE, Nat.reduceLT, Nat.reduceAdd, Nat.reduceSub, Nat.reduceMul, Nat.reduceEqDiff, Nat.reduceLeDiff, Nat.reduceBEq, reduceIte, reduceCtorEq]) ?_
          rintro sv post ⟨rfl, rfl⟩
          simp (maxSteps := 4000000) only [push_cast, Int.reduceEq, Int.reduceBNe, Int.reduceBEq, Int.reduceAdd, Int.reduceSub, Int.reduceMul, Int.reduceNeg, Int.reduceLT, Int.reduceLE, Nat.reduceLT, Nat.reduceAdd, Nat.reduceSub, Nat.reduceMul, Nat.reduceEqDiff, Nat.reduceLeDiff, Nat.reduceBEq, reduceIte, reduceCtorEq, beq_self_eq_true]
          rw [show (((line ++ [10] : List Int).length : Nat) : Int) = line.length + 1 by simp]
          simp (maxSteps := 4000000) only [push_cast, Int.reduceEq, Int.reduceBNe, Int.reduceBEq, Int.reduceAdd, Int.reduceSub, Int.reduceMul, Int.reduceNeg, Int.reduceLT, Int.reduceLE, Nat.reduceLT, Nat.reduceAdd, Nat.reduceSub, Nat.reduceMul, Nat.reduceEqDiff, Nat.reduceLeDiff, Nat.reduceBEq, reduceIte, reduceCtorEq, beq_self_eq_true]
          exact Fin.nil rfl (psv := .b true) rfl ⟨rfl, rfl⟩
        · simp only [List.length_append]; omega
        · exact (List.append_assoc ..).trans ((congrArg _ happ).trans ha)
        · intro c hc
          rcases List.mem_append.1 hc with hc | hc
          · exact hn c hc
          · rw [← hlast] at hc
            rcases List.mem_append.1 hc with hc | hc
            · exact hL.inner c hc
            · rw [List.mem_singleton.1 hc]; exact h3
        · simp only; omega
        · refine Sub.w [0, 4, 2] ?_
          simp (maxSteps := 4000000) only [push_cast, Int.reduceEq, Int.reduceBNe, Int.reduceBEq, Int.reduceAdd, Int.reduceSub, Int.reduceMul, Int.reduceNeg, Int.reduceLT, Int.reduceLE, Nat.reduceLT, Nat.reduceAdd, Nat.reduceSub, Nat.reduceMul, Nat.reduceEqDiff, Nat.reduceLeDiff, Nat.reduceBEq, reduceIte, reduceCtorEq, St.cells]
          exact ⟨(wrap64 (n := (j : Int) + 1) (by omega) (by omega)).symm, rfl⟩
      · exfalso
        rw [hl0, List.append_nil] at ha
        refine hn 10 ?_ rfl
        rw [ha, hsplit]
        simp
end Go.Proofs.Ytdbhgnjpjpmioaa
