/- BlocksWhole: the elements that are told are whole, the bytes are the file's. -/
import Derived.Test.YtdbhgnjpjpmioaaMc
namespace Go.Proofs.Ytdbhgnjpjpmioaa
open Go Go.Eng
set_option linter.unusedSimpArgs false
set_option linter.unusedVariables false
set_option maxRecDepth 100000

theorem tmod_rng' (x n : Int) (hn : 0 < n) (hn2 : n ≤ 1000000) : 0 ≤ (IntKind.i64.wrap (x.tmod n + n)).tmod n ∧ (IntKind.i64.wrap (x.tmod n + n)).tmod n < n := by
  have h1 : -n < x.tmod n := by
    have := Int.tmod_lt_of_pos (-x) hn
    rw [Int.neg_tmod] at this
    omega
  have h2 := Int.tmod_lt_of_pos x hn
  rw [wrap64 (n := x.tmod n + n) (by omega) (by omega)]
  exact ⟨Int.tmod_nonneg n (a := x.tmod n + n) (by omega), Int.tmod_lt_of_pos (x.tmod n + n) hn⟩
theorem lim_rng' (x n : Int) (hn : 0 < n) (hn2 : n ≤ 1000000) : 1 ≤ IntKind.i64.wrap (1 + (IntKind.i64.wrap (x.tmod n + n)).tmod n) ∧ IntKind.i64.wrap (1 + (IntKind.i64.wrap (x.tmod n + n)).tmod n) ≤ n := by
  obtain ⟨h1, h2⟩ := tmod_rng' x n hn hn2
  rw [wrap64 (n := 1 + _) (by omega) (by omega)]
  omega

theorem read_whole (text : List Int) (hlen : text.length ≤ 1048576) (b : Nat) {m s : Int} (hm : mayV m s = 0) (sz cn : Int) (h1 : 1 ≤ sz) (h2 : 0 ≤ cn) (h3 : sz * cn ≤ 1048576) :
    ∃ x' p', (newSt true false m s).Read (readerM text b) (0 : Int) sz cn = (x', p', text.take (sz * cn).toNat, (((min (sz * cn).toNat text.length : Nat) : Int)).tdiv sz, if sz * cn ≤ text.length then 0 else 111) := by
  have hmay := newSt_may true false hm
  have hcl : (newSt true false m s).cl = false := by rw [newSt_ok true false hm]
  have h0 := Int.mul_nonneg (show 0 ≤ sz by omega) h2
  have ha : (newSt true false m s).asks sz cn = (sz * cn, 0) := by
    unfold St.asks bytesV
    rw [if_pos hmay, hcl, if_neg (by simp), if_neg (by omega)]
  unfold St.Read
  rw [ha]
  by_cases hz : sz * cn = 0
  · rw [if_pos (.inr hz), hz]
    exact ⟨newSt true false m s, (0 : Int), by simp [Int.zero_tdiv]⟩
  · rw [if_neg (by simp [hz])]
    obtain ⟨e1, e2⟩ := readGo_feeds (readerM_rd text b hlen) (reader_feeds text b) (sz * cn).toNat _ _ [] (new_reads text b false hm)
    have el : left (readerM text b) (fun p => text.drop p.toNat) (newSt true false m s) (0 : Int) = text := by
      rw [newSt_ok true false hm]; simp [left]
    rw [el] at e1 e2
    obtain ⟨x', p', o', e', hq⟩ : ∃ x' p' o' e', readGo (readerM text b) (sz * cn).toNat (newSt true false m s) (0 : Int) [] = (x', p', o', e') := ⟨_, _, _, _, rfl⟩
    rw [hq] at e1 e2
    simp only [List.nil_append] at e1 e2
    subst e1 e2
    refine ⟨x', p', ?_⟩
    dsimp only
    rw [hq, List.length_take]
    simp only [show (sz * cn).toNat ≤ text.length ↔ sz * cn ≤ (text.length : Int) by omega]

set_option maxHeartbeats 2000000 in
theorem blocksWhole_c (text : List Int) (size count m s : Int) : Contract Try.prog 9 nilSS [.ints .u8 .old text, .i .i64 size, .i .i64 count, .i .i64 m, .i .i64 s] (fun sv post => sv = .b true ∧ post = nilSS) := by
  refine contract_ev Γok Try.func9 rfl rfl [] ?_
  simp (maxSteps := 4000000) only [push_cast, Int.reduceEq, Int.reduceBNe, Int.reduceBEq, Int.reduceAdd, Int.reduceSub, Int.reduceMul, Int.reduceNeg, Int.reduceLT, Int.reduceLE, Nat.reduceLT, Nat.reduceAdd, Nat.reduceSub, Nat.reduceMul, Nat.reduceEqDiff, Nat.reduceLeDiff, Nat.reduceBEq, reduceIte, reduceCtorEq, Try.f9]
  refine call_w alive16_c [] (by simp (maxSteps := 4000000) only [push_cast, Int.reduceEq, Int.reduceBNe, Int.reduceBEq, Int.reduceAdd, Int.reduceSub, Int.reduceMul, Int.reduceNeg, Int.reduceLT, Int.reduceLE, Nat.reduceLT, Nat.reduceAdd, Nat.reduceSub, Nat.reduceMul, Nat.reduceEqDiff, Nat.reduceLeDiff, Nat.reduceBEq, reduceIte, reduceCtorEq]) ?_
  rintro sv post ⟨rfl, rfl⟩
  simp (maxSteps := 4000000) only [push_cast, Int.reduceEq, Int.reduceBNe, Int.reduceBEq, Int.reduceAdd, Int.reduceSub, Int.reduceMul, Int.reduceNeg, Int.reduceLT, Int.reduceLE, Nat.reduceLT, Nat.reduceAdd, Nat.reduceSub, Nat.reduceMul, Nat.reduceEqDiff, Nat.reduceLeDiff, Nat.reduceBEq, reduceIte, reduceCtorEq]
  by_cases hlen : text.length ≤ 1048576
  case neg =>
    refine call_w (newReaderLong_c text (by omega)) [] (by simp (maxSteps := 4000000) only [push_cast, Int.reduceEq, Int.reduceBNe, Int.reduceBEq, Int.reduceAdd, Int.reduceSub, Int.reduceMul, Int.reduceNeg, Int.reduceLT, Int.reduceLE, Nat.reduceLT, Nat.reduceAdd, Nat.reduceSub, Nat.reduceMul, Nat.reduceEqDiff, Nat.reduceLeDiff, Nat.reduceBEq, reduceIte, reduceCtorEq]) ?_
    rintro sv post ⟨rfl, rfl⟩
    simp (maxSteps := 4000000) only [push_cast, Int.reduceEq, Int.reduceBNe, Int.reduceBEq, Int.reduceAdd, Int.reduceSub, Int.reduceMul, Int.reduceNeg, Int.reduceLT, Int.reduceLE, Nat.reduceLT, Nat.reduceAdd, Nat.reduceSub, Nat.reduceMul, Nat.reduceEqDiff, Nat.reduceLeDiff, Nat.reduceBEq, reduceIte, reduceCtorEq]
    refine call_w (newS_c _ _ _ _ _ _ _ _ openR_c m s) [] (by simp (maxSteps := 4000000) only [push_cast, Int.reduceEq, Int.reduceBNe, Int.reduceBEq, Int.reduceAdd, Int.reduceSub, Int.reduceMul, Int.reduceNeg, Int.reduceLT, Int.reduceLE, Nat.reduceLT, Nat.reduceAdd, Nat.reduceSub, Nat.reduceMul, Nat.reduceEqDiff, Nat.reduceLeDiff, Nat.reduceBEq, reduceIte, reduceCtorEq, modeV]) ?_
    rintro sv post ⟨rfl, rfl⟩
    simp (maxSteps := 4000000) only [push_cast, Int.reduceEq, Int.reduceBNe, Int.reduceBEq, Int.reduceAdd, Int.reduceSub, Int.reduceMul, Int.reduceNeg, Int.reduceLT, Int.reduceLE, Nat.reduceLT, Nat.reduceAdd, Nat.reduceSub, Nat.reduceMul, Nat.reduceEqDiff, Nat.reduceLeDiff, Nat.reduceBEq, reduceIte, reduceCtorEq, St.sv, St.cells]
    refine call_w (num16_c 5) [] (by simp (maxSteps := 4000000) only [push_cast, Int.reduceEq, Int.reduceBNe, Int.reduceBEq, Int.reduceAdd, Int.reduceSub, Int.reduceMul, Int.reduceNeg, Int.reduceLT, Int.reduceLE, Nat.reduceLT, Nat.reduceAdd, Nat.reduceSub, Nat.reduceMul, Nat.reduceEqDiff, Nat.reduceLeDiff, Nat.reduceBEq, reduceIte, reduceCtorEq]) ?_
    rintro sv post ⟨rfl, rfl⟩
    simp (maxSteps := 4000000) only [push_cast, Int.reduceEq, Int.reduceBNe, Int.reduceBEq, Int.reduceAdd, Int.reduceSub, Int.reduceMul, Int.reduceNeg, Int.reduceLT, Int.reduceLE, Nat.reduceLT, Nat.reduceAdd, Nat.reduceSub, Nat.reduceMul, Nat.reduceEqDiff, Nat.reduceLeDiff, Nat.reduceBEq, reduceIte, reduceCtorEq]
    exact Fin.nil rfl (psv := .b true) rfl ⟨rfl, rfl⟩
  refine call_w (newReader_c text hlen) [] (by simp (maxSteps := 4000000) only [push_cast, Int.reduceEq, Int.reduceBNe, Int.reduceBEq, Int.reduceAdd, Int.reduceSub, Int.reduceMul, Int.reduceNeg, Int.reduceLT, Int.reduceLE, Nat.reduceLT, Nat.reduceAdd, Nat.reduceSub, Nat.reduceMul, Nat.reduceEqDiff, Nat.reduceLeDiff, Nat.reduceBEq, reduceIte, reduceCtorEq]) ?_
  rintro sv post ⟨b, rfl, rfl⟩
  simp (maxSteps := 4000000) only [push_cast, Int.reduceEq, Int.reduceBNe, Int.reduceBEq, Int.reduceAdd, Int.reduceSub, Int.reduceMul, Int.reduceNeg, Int.reduceLT, Int.reduceLE, Nat.reduceLT, Nat.reduceAdd, Nat.reduceSub, Nat.reduceMul, Nat.reduceEqDiff, Nat.reduceLeDiff, Nat.reduceBEq, reduceIte, reduceCtorEq]
  refine call_w (newS_c _ _ _ _ _ _ _ _ openR_c m s) [] (by simp (maxSteps := 4000000) only [push_cast, Int.reduceEq, Int.reduceBNe, Int.reduceBEq, Int.reduceAdd, Int.reduceSub, Int.reduceMul, Int.reduceNeg, Int.reduceLT, Int.reduceLE, Nat.reduceLT, Nat.reduceAdd, Nat.reduceSub, Nat.reduceMul, Nat.reduceEqDiff, Nat.reduceLeDiff, Nat.reduceBEq, reduceIte, reduceCtorEq, modeV]) ?_
  rintro sv post ⟨rfl, rfl⟩
  simp (maxSteps := 4000000) only [push_cast, Int.reduceEq, Int.reduceBNe, Int.reduceBEq, Int.reduceAdd, Int.reduceSub, Int.reduceMul, Int.reduceNeg, Int.reduceLT, Int.reduceLE, Nat.reduceLT, Nat.reduceAdd, Nat.reduceSub, Nat.reduceMul, Nat.reduceEqDiff, Nat.reduceLeDiff, Nat.reduceBEq, reduceIte, reduceCtorEq, St.sv, St.cells]
  refine call_w (num16_c 0) [] (by simp (maxSteps := 4000000) only [push_cast, Int.reduceEq, Int.reduceBNe, Int.reduceBEq, Int.reduceAdd, Int.reduceSub, Int.reduceMul, Int.reduceNeg, Int.reduceLT, Int.reduceLE, Nat.reduceLT, Nat.reduceAdd, Nat.reduceSub, Nat.reduceMul, Nat.reduceEqDiff, Nat.reduceLeDiff, Nat.reduceBEq, reduceIte, reduceCtorEq]) ?_
  rintro sv post ⟨rfl, rfl⟩
  simp (maxSteps := 4000000) only [push_cast, Int.reduceEq, Int.reduceBNe, Int.reduceBEq, Int.reduceAdd, Int.reduceSub, Int.reduceMul, Int.reduceNeg, Int.reduceLT, Int.reduceLE, Nat.reduceLT, Nat.reduceAdd, Nat.reduceSub, Nat.reduceMul, Nat.reduceEqDiff, Nat.reduceLeDiff, Nat.reduceBEq, reduceIte, reduceCtorEq]
  refine call_w (num16_c (mayV m s)) [] (by simp (maxSteps := 4000000) only [push_cast, Int.reduceEq, Int.reduceBNe, Int.reduceBEq, Int.reduceAdd, Int.reduceSub, Int.reduceMul, Int.reduceNeg, Int.reduceLT, Int.reduceLE, Nat.reduceLT, Nat.reduceAdd, Nat.reduceSub, Nat.reduceMul, Nat.reduceEqDiff, Nat.reduceLeDiff, Nat.reduceBEq, reduceIte, reduceCtorEq]) ?_
  rintro sv post ⟨rfl, rfl⟩
  simp (maxSteps := 4000000) only [push_cast, Int.reduceEq, Int.reduceBNe, Int.reduceBEq, Int.reduceAdd, Int.reduceSub, Int.reduceMul, Int.reduceNeg, Int.reduceLT, Int.reduceLE, Nat.reduceLT, Nat.reduceAdd, Nat.reduceSub, Nat.reduceMul, Nat.reduceEqDiff, Nat.reduceLeDiff, Nat.reduceBEq, reduceIte, reduceCtorEq]
  refine ⟨fun h => Fin.nil rfl (psv := .b true) rfl ⟨rfl, rfl⟩, fun h => ?_⟩
  obtain ⟨hm, hl3⟩ := h
  have e0 := newSt_ok true false hm
  have hreads := new_reads text b false hm
  have hF := reader_feeds text b
  have hR := readerM_rd text b hlen
  obtain ⟨q1, q2⟩ := lim_rng' size 40 (by omega) (by omega)
  obtain ⟨q3, q4⟩ := tmod_rng' count 200 (by omega) (by omega)
  generalize IntKind.i64.wrap (1 + (IntKind.i64.wrap (size.tmod 40 + 40)).tmod 40) = sz at q1 q2 ⊢
  generalize (IntKind.i64.wrap (count.tmod 200 + 200)).tmod 200 = cn at q3 q4 ⊢
  have q5 : 0 ≤ sz * cn := Int.mul_nonneg (by omega) q3
  have q6 : sz * cn ≤ 40 * 199 := Int.mul_le_mul q2 (by omega) q3 (by omega)
  refine call_w (ReadB_c (readerM text b) hR (newSt true false m s) (newSt_fits true false m s) (0 : Int) hreads.ok sz cn (by omega) (by omega)) [1] (by simp (maxSteps := 4000000) only [push_cast, Int.reduceEq, Int.reduceBNe, Int.reduceBEq, Int.reduceAdd, Int.reduceSub, Int.reduceMul, Int.reduceNeg, Int.reduceLT, Int.reduceLE, Nat.reduceLT, Nat.reduceAdd, Nat.reduceSub, Nat.reduceMul, Nat.reduceEqDiff, Nat.reduceLeDiff, Nat.reduceBEq, reduceIte, reduceCtorEq, St.sv, St.cells, RawM.v, readerM]) ?_
  rintro sv post ⟨rfl, rfl⟩
  obtain ⟨x', p', hr⟩ := read_whole text hlen b hm sz cn q1 q3 (by omega)
  rw [hr]
  simp (maxSteps := 4000000) only [push_cast, Int.reduceEq, Int.reduceBNe, Int.reduceBEq, Int.reduceAdd, Int.reduceSub, Int.reduceMul, Int.reduceNeg, Int.reduceLT, Int.reduceLE, Nat.reduceLT, Nat.reduceAdd, Nat.reduceSub, Nat.reduceMul, Nat.reduceEqDiff, Nat.reduceLeDiff, Nat.reduceBEq, reduceIte, reduceCtorEq, St.sv, St.cells, rg11]
  have hk : minI (IntKind.i64.wrap (sz * cn)) text.length = ((min (sz * cn).toNat text.length : Nat) : Int) := by
    rw [wrap64 (by omega) (by omega)]
    unfold minI
    split <;> omega
  have ht : text.take ((min (sz * cn).toNat text.length : Nat) : Int).toNat = text.take (sz * cn).toNat := by
    rw [Int.toNat_natCast]
    by_cases h : (sz * cn).toNat ≤ text.length
    · rw [Nat.min_eq_left h]
    · rw [Nat.min_eq_right (by omega), List.take_length, List.take_of_length_le (by omega)]
  rw [hk, ht]
  refine ⟨⟨by omega, by omega⟩, ?_⟩
  refine call_w (sameBytes_c (text.take (sz * cn).toNat) (text.take (sz * cn).toNat)) [] (by simp (maxSteps := 4000000) only [push_cast, Int.reduceEq, Int.reduceBNe, Int.reduceBEq, Int.reduceAdd, Int.reduceSub, Int.reduceMul, Int.reduceNeg, Int.reduceLT, Int.reduceLE, Nat.reduceLT, Nat.reduceAdd, Nat.reduceSub, Nat.reduceMul, Nat.reduceEqDiff, Nat.reduceLeDiff, Nat.reduceBEq, reduceIte, reduceCtorEq]) ?_
  rintro sv post ⟨rfl, rfl⟩
  simp (maxSteps := 4000000) only [push_cast, Int.reduceEq, Int.reduceBNe, Int.reduceBEq, Int.reduceAdd, Int.reduceSub, Int.reduceMul, Int.reduceNeg, Int.reduceLT, Int.reduceLE, Nat.reduceLT, Nat.reduceAdd, Nat.reduceSub, Nat.reduceMul, Nat.reduceEqDiff, Nat.reduceLeDiff, Nat.reduceBEq, reduceIte, reduceCtorEq, beq_self_eq_true]
  have hk2 := quo64 (min (sz * cn).toNat text.length) sz (by omega) (by omega)
  have hc : (((min (sz * cn).toNat text.length : Nat) : Int)).tdiv sz < cn ↔ ¬ sz * cn ≤ text.length := by
    rw [Int.tdiv_eq_ediv_of_nonneg (by omega), Int.ediv_lt_iff_lt_mul (by omega), Int.mul_comm cn sz]
    omega
  refine ⟨by omega, fun h => absurd hk2.symm h, fun _ => ⟨fun h => ?_, fun h => ?_⟩⟩
  · rw [if_neg (hc.1 h)]
    refine call_w (num16_c 111) [] (by simp (maxSteps := 4000000) only [push_cast, Int.reduceEq, Int.reduceBNe, Int.reduceBEq, Int.reduceAdd, Int.reduceSub, Int.reduceMul, Int.reduceNeg, Int.reduceLT, Int.reduceLE, Nat.reduceLT, Nat.reduceAdd, Nat.reduceSub, Nat.reduceMul, Nat.reduceEqDiff, Nat.reduceLeDiff, Nat.reduceBEq, reduceIte, reduceCtorEq]) ?_
    rintro sv post ⟨rfl, rfl⟩
    simp (maxSteps := 4000000) only [push_cast, Int.reduceEq, Int.reduceBNe, Int.reduceBEq, Int.reduceAdd, Int.reduceSub, Int.reduceMul, Int.reduceNeg, Int.reduceLT, Int.reduceLE, Nat.reduceLT, Nat.reduceAdd, Nat.reduceSub, Nat.reduceMul, Nat.reduceEqDiff, Nat.reduceLeDiff, Nat.reduceBEq, reduceIte, reduceCtorEq]
    exact Fin.nil rfl (psv := .b true) rfl ⟨rfl, rfl⟩
  · rw [if_pos (by have := hc.2; omega)]
    refine call_w (num16_c 0) [] (by simp (maxSteps := 4000000) only [push_cast, Int.reduceEq, Int.reduceBNe, Int.reduceBEq, Int.reduceAdd, Int.reduceSub, Int.reduceMul, Int.reduceNeg, Int.reduceLT, Int.reduceLE, Nat.reduceLT, Nat.reduceAdd, Nat.reduceSub, Nat.reduceMul, Nat.reduceEqDiff, Nat.reduceLeDiff, Nat.reduceBEq, reduceIte, reduceCtorEq]) ?_
    rintro sv post ⟨rfl, rfl⟩
    simp (maxSteps := 4000000) only [push_cast, Int.reduceEq, Int.reduceBNe, Int.reduceBEq, Int.reduceAdd, Int.reduceSub, Int.reduceMul, Int.reduceNeg, Int.reduceLT, Int.reduceLE, Nat.reduceLT, Nat.reduceAdd, Nat.reduceSub, Nat.reduceMul, Nat.reduceEqDiff, Nat.reduceLeDiff, Nat.reduceBEq, reduceIte, reduceCtorEq]
    exact Fin.nil rfl (psv := .b true) rfl ⟨rfl, rfl⟩
end Go.Proofs.Ytdbhgnjpjpmioaa
