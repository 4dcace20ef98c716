/- Texts joined, in order: La, Ka, Kb. -/
import Derived.Test.YtlgpcngfcglanaaGreatZSbRl
/- Lines: the law's small functions. -/
namespace Go.Proofs.YtlgpcngfcglanaaGreat
open Go Go.Eng
set_option maxHeartbeats 4000000
set_option linter.unusedSimpArgs false
set_option linter.unusedVariables false
set_option maxRecDepth 100000

theorem sameBytes_c (l m : List Int) : Contract Tryz.prog 25 nilSS [.ints .u8 .old l, .ints .u8 .old m] (fun sv post => sv = .b (l == m) ∧ post = nilSS) := by
  refine contract_len 0 rfl fun hlen => ?_
  refine contract_ev Γok Tryz.func25 rfl rfl [] ?_
  simp (maxSteps := 4000000) only [push_cast, Int.reduceEq, Int.reduceBNe, Int.reduceBEq, Int.reduceAdd, Int.reduceSub, Int.reduceMul, Int.reduceNeg, Int.reduceLT, Int.reduceLE, Int.reduceToNat, Nat.reduceLT, Nat.reduceAdd, Nat.reduceSub, Nat.reduceMul, Nat.reduceEqDiff, Nat.reduceLeDiff, Nat.reduceBEq, reduceIte, reduceCtorEq, Tryz.f25]
  have no : ∀ (S : SS), S.k = 0 → l ≠ m → Fin (fun sv post => sv = .b (l == m) ∧ post = nilSS) (.b false) S := fun S hS h => Fin.nil hS (psv := .b false) rfl ⟨by rw [beq_eq_false_iff_ne.2 h], rfl⟩
  refine ⟨fun h1 => no _ rfl (by rintro rfl; exact h1 rfl), fun h1 => ?_⟩
  have hl : l.length = m.length := by omega
  refine loop_ok (ι := {i : Nat // i ≤ l.length ∧ l.take i = m.take i}) (fun i => ⟨[.ints .u8 .old l, .ints .u8 .old m, .any, .any, .any, .i .i64 i.1] ++ List.replicate 20 .any, [], [], [], 0, 0, []⟩) (fun i => l.length - i.1) ⟨0, by simp, by simp⟩ ?_ ?_
  · refine Sub.w [] ?_
    simp (maxSteps := 4000000) only [push_cast, Int.reduceEq, Int.reduceBNe, Int.reduceBEq, Int.reduceAdd, Int.reduceSub, Int.reduceMul, Int.reduceNeg, Int.reduceLT, Int.reduceLE, Int.reduceToNat, Nat.reduceLT, Nat.reduceAdd, Nat.reduceSub, Nat.reduceMul, Nat.reduceEqDiff, Nat.reduceLeDiff, Nat.reduceBEq, reduceIte, reduceCtorEq]
  · rintro ⟨i, hi, hp⟩
    refine evCode_sound Γok _ _ _ ?_
    simp (maxSteps := 4000000) only [push_cast, Int.reduceEq, Int.reduceBNe, Int.reduceBEq, Int.reduceAdd, Int.reduceSub, Int.reduceMul, Int.reduceNeg, Int.reduceLT, Int.reduceLE, Int.reduceToNat, Nat.reduceLT, Nat.reduceAdd, Nat.reduceSub, Nat.reduceMul, Nat.reduceEqDiff, Nat.reduceLeDiff, Nat.reduceBEq, reduceIte, reduceCtorEq]
    refine ⟨fun h2 => ?_, fun h2 => ?_⟩
    · have hi2 : i < l.length := by omega
      refine (region_plan rfl Γok mixed (.pure 0 (.pure 1 (.pure 2 (.pure 3 (.pure 4 (.pure 5 (.pure 6 (.pure 7 (.pure 8 .done))))))))) 26 rfl (by kernel_rfl) ?_)
      simp (maxSteps := 4000000) only [push_cast, Int.reduceEq, Int.reduceBNe, Int.reduceBEq, Int.reduceAdd, Int.reduceSub, Int.reduceMul, Int.reduceNeg, Int.reduceLT, Int.reduceLE, Int.reduceToNat, Nat.reduceLT, Nat.reduceAdd, Nat.reduceSub, Nat.reduceMul, Nat.reduceEqDiff, Nat.reduceLeDiff, Nat.reduceBEq, reduceIte, reduceCtorEq]
      have e1 : l.getD (i : Int).toNat 0 = l[i] := by simp [List.getD, hi2]
      have e2 : m.getD (i : Int).toNat 0 = m[i] := by simp [List.getD, hl ▸ hi2]
      rw [e1, e2]
      refine ⟨by omega, by omega, fun h3 => no _ rfl (by rintro rfl; exact h3 rfl), fun h3 => ⟨⟨i + 1, hi2, ?_⟩, ?_, Sub.w [] ?_⟩⟩
      · rw [List.take_succ_eq_append_getElem hi2, List.take_succ_eq_append_getElem (hl ▸ hi2), hp, h3]
      · simp only; omega
      · simp (maxSteps := 4000000) only [push_cast, Int.reduceEq, Int.reduceBNe, Int.reduceBEq, Int.reduceAdd, Int.reduceSub, Int.reduceMul, Int.reduceNeg, Int.reduceLT, Int.reduceLE, Int.reduceToNat, Nat.reduceLT, Nat.reduceAdd, Nat.reduceSub, Nat.reduceMul, Nat.reduceEqDiff, Nat.reduceLeDiff, Nat.reduceBEq, reduceIte, reduceCtorEq]
        rw [wrap64 (by omega) (by omega)]
    · have hi2 : i = l.length := by omega
      refine Fin.nil rfl (psv := .b true) rfl ⟨?_, rfl⟩
      subst hi2
      rw [List.take_length, hl, List.take_length] at hp
      simp [hp]

theorem newSt_ok (r w : Bool) {m s : Int} (h : mayV m s = 0) : newSt r w m s = ⟨r, w, m, s, [], [], [], 0, false, false, false⟩ := if_pos h
theorem newSt_may (r w : Bool) {m s : Int} (h : mayV m s = 0) : (newSt r w m s).May := by
  obtain ⟨h1, h2, h3, h4⟩ := may_zero' h
  rw [newSt_ok r w h]
  exact ⟨h, by simp; omega, .inr rfl, by simp, by simp, .inl rfl, .inl ⟨rfl, rfl, rfl, rfl⟩⟩
theorem newSt_fits (r w : Bool) (m s : Int) : (newSt r w m s).fits := by
  unfold newSt
  split <;> exact ⟨by simp, by simp, by simp⟩

/-- A reader feeds a stream. -/
theorem reader_feeds (data : List Int) (b : Nat) : Feeds (readerM data b) (fun p => data.drop p.toNat) := by
  refine ⟨fun (p : Int) n ⟨h0, h0'⟩ h1 h2 => ?_⟩
  have hl := readV_len data p n h0 h0' (by omega)
  have e : someV (readerM data b) p n = (p + (readV data p n).length, readV data p n, 0) := by
    unfold someV
    refine (RawM.some.eq_2 (readerM data b) n p 8191).trans ?_
    rw [if_neg (by simp [readerM]), if_neg (by simp [readerM]), if_neg (by simp only [readerM]; omega)]
    rfl
  rw [e]
  refine ⟨rfl, ?_, fun h => ?_⟩
  · show readV data p n ++ data.drop (p + (readV data p n).length).toNat = data.drop p.toNat
    have : (p + (readV data p n).length).toNat = p.toNat + (readV data p n).length := by omega
    rw [this, ← List.drop_drop]
    unfold readV
    rw [List.length_take]
    by_cases hc : n.toNat ≤ (data.drop p.toNat).length
    · rw [Nat.min_eq_left hc]; exact List.take_append_drop _ _
    · rw [Nat.min_eq_right (by omega), List.take_of_length_le (by omega), List.drop_length, List.append_nil]
  · have h' : readV data p n = [] := h
    unfold readV at h'
    rw [List.take_eq_nil_iff] at h'
    rcases h' with h' | h'
    · omega
    · exact h'
theorem new_reads (data : List Int) (b : Nat) (w : Bool) {m s : Int} (h : mayV m s = 0) : Reads (readerM data b) (fun p => data.drop p.toNat) (newSt true w m s) (0 : Int) := by
  have e := newSt_ok true w h
  exact ⟨newSt_may true w h, by rw [e], by rw [e], by rw [e]; simp, by rw [e], by rw [e], by rw [e]; simp, ⟨by simp, by simp⟩⟩

/-- Where the examples lead. -/
def exSt (i : List Int) (en : Bool) : St := ⟨true, false, 3, 4, [], i, [], 1, en, false, false⟩
theorem ex1 (b : Nat) : (newSt true false 3 4).Until (readerM [97, 98, 10, 99, 100] b) (0 : Int) 10 9 = (exSt [99] false, (4 : Int), [97, 98, 10], 0) := by kernel_rfl
theorem ex2 (b : Nat) : (exSt [99] false).Until (readerM [97, 98, 10, 99, 100] b) (4 : Int) 10 1 = (exSt [] false, (4 : Int), [99], 0) := by kernel_rfl
theorem ex3 (b : Nat) : (exSt [] false).Until (readerM [97, 98, 10, 99, 100] b) (4 : Int) 10 9 = (exSt [] true, (5 : Int), [100], 0) := by kernel_rfl
theorem ex4 (b : Nat) : (exSt [] true).Until (readerM [97, 98, 10, 99, 100] b) (5 : Int) 10 9 = (exSt [] true, (5 : Int), [], 111) := by kernel_rfl
end Go.Proofs.YtlgpcngfcglanaaGreat
/- A Counter as a Raw: one that is written, one that is read. -/
namespace Go.Proofs.YtlgpcngfcglanaaGreat
open Go Go.Eng
set_option maxHeartbeats 4000000
set_option linter.unusedSimpArgs false
set_option linter.unusedVariables false
set_option maxRecDepth 100000

theorem nilOK_of {P : Program} {t : TypeId} {name : String} {f : FuncId} (h : methodB P t name f = true) (y : Value) : NilOK P name (.ifc t (.raw y)) := by
  intro E v hv
  simp only [Den] at hv
  obtain ⟨y', rfl, rfl⟩ := hv
  refine ⟨t, _, rfl, fun w => ?_⟩
  unfold methodB at h
  rw [Bool.and_eq_true] at h
  obtain ⟨h1, h2⟩ := h
  split at h1
  · rename_i i hi
    split at h1
    · rename_i m hm
      rw [Bool.and_eq_true] at h1
      obtain ⟨h3, h4⟩ := h1
      split at h4
      · rename_i g hg
        have hp : m.path.toList = [] := by simpa using h3
        rw [show P.types.size + Made.depth = (P.types.size + (Made.depth - 1)) + 1 by unfold Made.depth; omega]
        simp only [Go.nilAhead, Sem.run_bind]
        have h5 : (typeInfo t).run P w = .ok i w := by simp [typeInfo, hi]
        rw [h5]
        simp only [Result.andThen_ok, hm, Sem.run_bind, hp, Go.followBlind, Sem.run_pure, hg]
      · cases h4
    · cases h1
  · cases h1

end Go.Proofs.YtlgpcngfcglanaaGreat
/- Memory that grows. -/
namespace Go.Proofs.YtlgpcngfcglanaaGreat
open Go Go.Eng
set_option maxHeartbeats 4000000
set_option linter.unusedSimpArgs false
set_option linter.unusedVariables false
set_option maxRecDepth 100000

/-- A piece of a slice shows what it is a piece of. -/
theorem shows_cut {p : Option Addr} {c : Nat} {l : List Int} {i n : Nat} (h : i + n ≤ l.length) (hc : l.length ≤ c) : Shows (cutp p c i) n p l i := by
  refine ⟨h, ?_⟩
  unfold cutp
  split
  · left; omega
  · right; rfl

theorem bcloneR_c (p : Option Addr) (c : Nat) (l : List Int) (q : Option Addr) (n cc i : Nat) (hs : Shows q n p l i) (hl : n ≤ 140737488355328) : Contract Tryz.prog 51 ⟨[], [], [], [(0, RowR .u8 p c l)], 1, 1, []⟩ [.raw (.slice q n cc)]
    (fun sv post => sv = .ints .u8 (.tok 1 true) ((l.drop i).take n) ∧ post = ⟨[], [], [1], [(0, RowR .u8 p c l)], 2, 1, []⟩) := by
  refine contract_row 0 rfl fun hc hp => ?_
  have hlen : ((l.drop i).take n).length = n := by have := hs.1; simp; omega
  refine contract_ev Γok Tryz.func51 rfl rfl [] ?_
  simp (maxSteps := 4000000) only [push_cast, Int.reduceEq, Int.reduceBNe, Int.reduceBEq, Int.reduceAdd, Int.reduceSub, Int.reduceMul, Int.reduceNeg, Int.reduceLT, Int.reduceLE, Int.reduceToNat, Nat.reduceLT, Nat.reduceAdd, Nat.reduceSub, Nat.reduceMul, Nat.reduceEqDiff, Nat.reduceLeDiff, Nat.reduceBEq, reduceIte, reduceCtorEq, Tryz.f51]
  refine ⟨fun h => ?_, fun h => ?_⟩
  · have hn : n = 0 := by
      rcases hs.2 with h0 | h0
      · exact h0
      · rw [h] at h0
        cases p with
        | none =>
          have : c = 0 := by
            by_cases hc0 : c = 0
            · exact hc0
            · exact absurd rfl (hp hc0)
          have := hs.1
          omega
        | some a => cases h0
    subst hn
    exact Fin.wt [0, 1] (.ints .u8 (.tok 1 true) []) ⟨[], [], [1], [(0, RowR .u8 p c l)], 2, 1, []⟩ (by simp (maxSteps := 4000000) only [push_cast, Int.reduceEq, Int.reduceBNe, Int.reduceBEq, Int.reduceAdd, Int.reduceSub, Int.reduceMul, Int.reduceNeg, Int.reduceLT, Int.reduceLE, Int.reduceToNat, Nat.reduceLT, Nat.reduceAdd, Nat.reduceSub, Nat.reduceMul, Nat.reduceEqDiff, Nat.reduceLeDiff, Nat.reduceBEq, reduceIte, reduceCtorEq]) ⟨rfl, rfl⟩
  · refine ⟨.u8, (l.drop i).take n, ⟨0, p, c, l, i, by simp, hs, rfl⟩, ?_⟩
    simp (maxSteps := 4000000) only [push_cast, Int.reduceEq, Int.reduceBNe, Int.reduceBEq, Int.reduceAdd, Int.reduceSub, Int.reduceMul, Int.reduceNeg, Int.reduceLT, Int.reduceLE, Int.reduceToNat, Nat.reduceLT, Nat.reduceAdd, Nat.reduceSub, Nat.reduceMul, Nat.reduceEqDiff, Nat.reduceLeDiff, Nat.reduceBEq, reduceIte, reduceCtorEq]
    rw [hlen]
    exact ⟨by omega, Fin.w [0, 2] (.ints .u8 (.tok 1 true) ((l.drop i).take n)) _ (by simp (maxSteps := 4000000) only [push_cast, Int.reduceEq, Int.reduceBNe, Int.reduceBEq, Int.reduceAdd, Int.reduceSub, Int.reduceMul, Int.reduceNeg, Int.reduceLT, Int.reduceLE, Int.reduceToNat, Nat.reduceLT, Nat.reduceAdd, Nat.reduceSub, Nat.reduceMul, Nat.reduceEqDiff, Nat.reduceLeDiff, Nat.reduceBEq, reduceIte, reduceCtorEq]) ⟨rfl, rfl⟩⟩

theorem bcloneRow_c (l : List Int) (hl : l.length ≤ 140737488355328) : Contract Tryz.prog 51 nilSS [.ints .u8 .old l] (fun sv post => ∃ p c, sv = .raw (.slice p l.length c) ∧ post = ⟨[], [], [], [(0, RowR .u8 p c l)], 1, 0, []⟩) :=
  (bclone_c l hl).thaw fun E Z hZ vs => old_args E Z hZ vs

theorem kept2_c (l : List Int) (room : Int) (hl : l.length ≤ 140737488355328) : Contract Tryz.prog 50 nilSS [.ints .u8 .old l, .i .i64 room] (fun sv post => ∃ p c, sv = .agg [.b true, .raw (.slice p l.length c), .i .i64 room, .i .i64 0] ∧ post = ⟨[], [], [], [(0, RowR .u8 p c l)], 1, 0, []⟩) := by
  refine contract_ev Γok Tryz.func50 rfl rfl [] ?_
  simp (maxSteps := 4000000) only [push_cast, Int.reduceEq, Int.reduceBNe, Int.reduceBEq, Int.reduceAdd, Int.reduceSub, Int.reduceMul, Int.reduceNeg, Int.reduceLT, Int.reduceLE, Int.reduceToNat, Nat.reduceLT, Nat.reduceAdd, Nat.reduceSub, Nat.reduceMul, Nat.reduceEqDiff, Nat.reduceLeDiff, Nat.reduceBEq, reduceIte, reduceCtorEq, Tryz.f50]
  refine call_w (bcloneRow_c l hl) [] (by simp (maxSteps := 4000000) only [push_cast, Int.reduceEq, Int.reduceBNe, Int.reduceBEq, Int.reduceAdd, Int.reduceSub, Int.reduceMul, Int.reduceNeg, Int.reduceLT, Int.reduceLE, Int.reduceToNat, Nat.reduceLT, Nat.reduceAdd, Nat.reduceSub, Nat.reduceMul, Nat.reduceEqDiff, Nat.reduceLeDiff, Nat.reduceBEq, reduceIte, reduceCtorEq]) ?_
  rintro sv post ⟨p, c, rfl, rfl⟩
  simp (maxSteps := 4000000) only [push_cast, Int.reduceEq, Int.reduceBNe, Int.reduceBEq, Int.reduceAdd, Int.reduceSub, Int.reduceMul, Int.reduceNeg, Int.reduceLT, Int.reduceLE, Int.reduceToNat, Nat.reduceLT, Nat.reduceAdd, Nat.reduceSub, Nat.reduceMul, Nat.reduceEqDiff, Nat.reduceLeDiff, Nat.reduceBEq, reduceIte, reduceCtorEq]
  exact Fin.w [1] (.agg [.b true, .raw (.slice p l.length c), .i .i64 room, .i .i64 0]) ⟨[], [], [], [(0, RowR .u8 p c l)], 1, 0, []⟩ (by simp (maxSteps := 4000000) only [push_cast, Int.reduceEq, Int.reduceBNe, Int.reduceBEq, Int.reduceAdd, Int.reduceSub, Int.reduceMul, Int.reduceNeg, Int.reduceLT, Int.reduceLE, Int.reduceToNat, Nat.reduceLT, Nat.reduceAdd, Nat.reduceSub, Nat.reduceMul, Nat.reduceEqDiff, Nat.reduceLeDiff, Nat.reduceBEq, reduceIte, reduceCtorEq]) ⟨p, c, rfl, rfl⟩

/-- Memory, of a type, whose row is its own. -/
def storeS (T : TypeId) (p : Option Addr) (c : Nat) (data : List Int) (room at_ : Int) : SS := ⟨[], [(0, T, [.b true, .raw (.slice p data.length c), .i .i64 room, .i .i64 at_])], [], [(1, RowR .u8 p c data)], 2, 1, []⟩
/-- The same as one resource, wherever its row lies. -/
def storeR (T : TypeId) (b : Nat) (data : List Int) (room at_ : Int) : Res := exR fun pc : Option Addr × Nat => (storeS T pc.1 pc.2 data room at_).res b

theorem storeReadR_c (T : TypeId) (p : Option Addr) (c : Nat) (data : List Int) (room at_ n : Int) (h0 : 0 ≤ at_) (h0' : at_ ≤ 1048576) (hd : data.length ≤ 1048576) (h1 : 0 ≤ n) (h2 : n ≤ 1048576) (hT : T < 1000000 := by decide) :
    Contract Tryz.prog 176 (storeS T p c data room at_) [.ptr 0 0, .i .i64 n]
    (fun sv post => sv = .tup [.ints .u8 .new (readV data at_ n), .i .i64 0] ∧ post = storeS T p c data room (at_ + (readV data at_ n).length)) := by
  refine contract_row 1 rfl fun hc hp => ?_
  refine contract_ev Γok Tryz.func176 rfl rfl [] ?_
  simp (maxSteps := 4000000) only [push_cast, Int.reduceEq, Int.reduceBNe, Int.reduceBEq, Int.reduceAdd, Int.reduceSub, Int.reduceMul, Int.reduceNeg, Int.reduceLT, Int.reduceLE, Int.reduceToNat, Nat.reduceLT, Nat.reduceAdd, Nat.reduceSub, Nat.reduceMul, Nat.reduceEqDiff, Nat.reduceLeDiff, Nat.reduceBEq, reduceIte, reduceCtorEq, hT, Tryz.f176, storeS]
  refine ⟨fun h3 => by omega, fun h3 => ?_⟩
  refine (region_plan rfl Γok mixed (.pure 0 (.pure 1 (.pure 2 (.pure 3 (.pure 4 (.pure 5 (.pure 6 (.pure 7 (.pure 8 (.pure 9 (.pure 10 .done))))))))))) 57 rfl (by kernel_rfl) ?_)
  simp (maxSteps := 4000000) only [push_cast, Int.reduceEq, Int.reduceBNe, Int.reduceBEq, Int.reduceAdd, Int.reduceSub, Int.reduceMul, Int.reduceNeg, Int.reduceLT, Int.reduceLE, Int.reduceToNat, Nat.reduceLT, Nat.reduceAdd, Nat.reduceSub, Nat.reduceMul, Nat.reduceEqDiff, Nat.reduceLeDiff, Nat.reduceBEq, reduceIte, reduceCtorEq, hT]
  refine (region_plan rfl Γok mixed (.pure 0 (.pure 1 (.pure 2 (.pure 3 (.pure 4 (.pure 5 (.pure 6 (.pure 7 (.pure 8 (.pure 9 (.pure 10 (.pure 11 (.pure 12 (.pure 13 (.pure 14 (.eff (.cons 15 [] (.pure 16 .done) .nil))))))))))))))))) 57 rfl (by kernel_rfl) ?_)
  simp (maxSteps := 4000000) only [push_cast, Int.reduceEq, Int.reduceBNe, Int.reduceBEq, Int.reduceAdd, Int.reduceSub, Int.reduceMul, Int.reduceNeg, Int.reduceLT, Int.reduceLE, Int.reduceToNat, Nat.reduceLT, Nat.reduceAdd, Nat.reduceSub, Nat.reduceMul, Nat.reduceEqDiff, Nat.reduceLeDiff, Nat.reduceBEq, reduceIte, reduceCtorEq, hT]
  have em : 0 ≤ minI at_ data.length ∧ minI at_ data.length ≤ data.length ∧ minI at_ data.length ≤ at_ := by unfold minI; split <;> omega
  rw [wrap64 (n := minI at_ data.length + n) (by omega) (by omega)]
  have e2 : 0 ≤ minI (minI at_ data.length + n) data.length ∧ minI at_ data.length ≤ minI (minI at_ data.length + n) data.length ∧ minI (minI at_ data.length + n) data.length ≤ data.length := by
    generalize minI at_ data.length = u at em ⊢
    unfold minI; split <;> omega
  have e3 : (data.drop (minI at_ data.length).toNat).take ((minI (minI at_ data.length + n) data.length).toNat - (minI at_ data.length).toNat) = readV data at_ n := by
    unfold readV
    by_cases ha : (data.length : Int) < at_
    · have : minI at_ data.length = data.length := by unfold minI; rw [if_pos ha]
      rw [this, List.drop_of_length_le (by simp), List.drop_of_length_le (by omega)]
      simp
    · have : minI at_ data.length = at_ := by unfold minI; rw [if_neg ha]
      rw [this]
      by_cases hc : (data.length : Int) < at_ + n
      · have : minI (at_ + n) data.length = data.length := by unfold minI; rw [if_pos hc]
        rw [this, List.take_of_length_le (by simp), List.take_of_length_le (by simp; omega)]
      · have : minI (at_ + n) data.length = at_ + n := by unfold minI; rw [if_neg hc]
        rw [this]
        congr 1
        omega
  have e4 : (readV data at_ n).length ≤ 1048576 := by unfold readV; simp; omega
  have hsh : Shows (cutp p c (minI at_ data.length).toNat) ((minI (minI at_ data.length + n) data.length).toNat - (minI at_ data.length).toNat) p data (minI at_ data.length).toNat := shows_cut (by omega) hc
  refine ⟨⟨⟨by omega, by omega, by omega⟩, hc⟩, call_w (bcloneR_c p c data _ _ (c - (minI at_ data.length).toNat) _ hsh (by omega)) [1] (by simp (maxSteps := 4000000) only [push_cast, Int.reduceEq, Int.reduceBNe, Int.reduceBEq, Int.reduceAdd, Int.reduceSub, Int.reduceMul, Int.reduceNeg, Int.reduceLT, Int.reduceLE, Int.reduceToNat, Nat.reduceLT, Nat.reduceAdd, Nat.reduceSub, Nat.reduceMul, Nat.reduceEqDiff, Nat.reduceLeDiff, Nat.reduceBEq, reduceIte, reduceCtorEq, hT]) ?_⟩
  rintro sv post ⟨rfl, rfl⟩
  rw [e3]
  simp (maxSteps := 4000000) only [push_cast, Int.reduceEq, Int.reduceBNe, Int.reduceBEq, Int.reduceAdd, Int.reduceSub, Int.reduceMul, Int.reduceNeg, Int.reduceLT, Int.reduceLE, Int.reduceToNat, Nat.reduceLT, Nat.reduceAdd, Nat.reduceSub, Nat.reduceMul, Nat.reduceEqDiff, Nat.reduceLeDiff, Nat.reduceBEq, reduceIte, reduceCtorEq, hT]
  rw [wrap64 (by omega) (by omega)]
  exact Fin.w [0, 1] (.tup [.ints .u8 .new (readV data at_ n), .i .i64 0]) _ (by simp (maxSteps := 4000000) only [push_cast, Int.reduceEq, Int.reduceBNe, Int.reduceBEq, Int.reduceAdd, Int.reduceSub, Int.reduceMul, Int.reduceNeg, Int.reduceLT, Int.reduceLE, Int.reduceToNat, Nat.reduceLT, Nat.reduceAdd, Nat.reduceSub, Nat.reduceMul, Nat.reduceEqDiff, Nat.reduceLeDiff, Nat.reduceBEq, reduceIte, reduceCtorEq, hT, storeS]) ⟨rfl, rfl⟩

/-- What stands in a memory behind a write of m at i. -/
def wrote (data : List Int) (i : Nat) (m : List Int) : List Int := (data ++ List.replicate (i + m.length - data.length) 0).take i ++ m ++ data.drop (i + m.length)
def gW (room : Int) (data : List Int) (at_ : Int) (b : List Int) : (List Int × Int) × Int × Int :=
  if room ≤ at_ then ((data, at_), 0, 31) else ((wrote data at_.toNat (b.take (room - at_).toNat), at_ + (b.take (room - at_).toNat).length), (b.take (room - at_).toNat).length, 0)

theorem storeWriteR_c (T : TypeId) (p : Option Addr) (c : Nat) (data : List Int) (room at_ : Int) (b : List Int) (h0 : 0 ≤ at_) (h1 : at_ ≤ room) (h2 : room ≤ 1048576) (hd : data.length ≤ room) (hb : b.length ≤ 1048576) (hne : b ≠ []) (hT : T < 1000000 := by decide) :
    Contract Tryz.prog 178 (storeS T p c data room at_) [.ptr 0 0, .ints .u8 .old b]
    (fun sv post => ∃ p' c', sv = .tup [.i .i64 (gW room data at_ b).2.1, .i .i64 (gW room data at_ b).2.2] ∧ post = storeS T p' c' (gW room data at_ b).1.1 room (gW room data at_ b).1.2) := by
  refine contract_row 1 rfl fun hc hp => ?_
  have hpos := List.length_pos_iff.2 hne
  refine contract_ev Γok Tryz.func178 rfl rfl [] ?_
  simp (maxSteps := 4000000) only [push_cast, Int.reduceEq, Int.reduceBNe, Int.reduceBEq, Int.reduceAdd, Int.reduceSub, Int.reduceMul, Int.reduceNeg, Int.reduceLT, Int.reduceLE, Int.reduceToNat, Nat.reduceLT, Nat.reduceAdd, Nat.reduceSub, Nat.reduceMul, Nat.reduceEqDiff, Nat.reduceLeDiff, Nat.reduceBEq, reduceIte, reduceCtorEq, hT, Tryz.f178, storeS]
  refine ⟨fun h3 => by omega, fun h3 => ⟨fun h4 => by omega, fun h4 => ?_⟩⟩
  refine (region_plan rfl Γok mixed (.pure 0 (.pure 1 (.pure 2 (.pure 3 (.pure 4 (.pure 5 (.pure 6 (.pure 7 (.pure 8 (.pure 9 .done)))))))))) 93 rfl (by kernel_rfl) ?_)
  simp (maxSteps := 4000000) only [push_cast, Int.reduceEq, Int.reduceBNe, Int.reduceBEq, Int.reduceAdd, Int.reduceSub, Int.reduceMul, Int.reduceNeg, Int.reduceLT, Int.reduceLE, Int.reduceToNat, Nat.reduceLT, Nat.reduceAdd, Nat.reduceSub, Nat.reduceMul, Nat.reduceEqDiff, Nat.reduceLeDiff, Nat.reduceBEq, reduceIte, reduceCtorEq, hT]
  unfold gW
  refine ⟨fun h5 => ?_, fun h5 => ?_⟩
  · rw [if_pos h5]
    exact Fin.w [0, 1] (.tup [.i .i64 0, .i .i64 31]) _ (by simp (maxSteps := 4000000) only [push_cast, Int.reduceEq, Int.reduceBNe, Int.reduceBEq, Int.reduceAdd, Int.reduceSub, Int.reduceMul, Int.reduceNeg, Int.reduceLT, Int.reduceLE, Int.reduceToNat, Nat.reduceLT, Nat.reduceAdd, Nat.reduceSub, Nat.reduceMul, Nat.reduceEqDiff, Nat.reduceLeDiff, Nat.reduceBEq, reduceIte, reduceCtorEq, hT, storeS]) ⟨p, c, rfl, rfl⟩
  rw [if_neg (by omega)]
  refine (region_plan rfl Γok mixed (.pure 0 (.pure 1 (.pure 2 (.pure 3 (.pure 4 (.pure 5 (.pure 6 (.pure 7 (.pure 8 (.pure 9 (.pure 10 (.pure 11 (.pure 12 .done))))))))))))) 93 rfl (by kernel_rfl) ?_)
  simp (maxSteps := 4000000) only [push_cast, Int.reduceEq, Int.reduceBNe, Int.reduceBEq, Int.reduceAdd, Int.reduceSub, Int.reduceMul, Int.reduceNeg, Int.reduceLT, Int.reduceLE, Int.reduceToNat, Nat.reduceLT, Nat.reduceAdd, Nat.reduceSub, Nat.reduceMul, Nat.reduceEqDiff, Nat.reduceLeDiff, Nat.reduceBEq, reduceIte, reduceCtorEq, hT]
  rw [wrap64 (n := room - at_) (by omega) (by omega)]
  have hm : minI (b.length : Int) (room - at_) = ((b.take (room - at_).toNat).length : Nat) := by unfold minI; rw [List.length_take]; split <;> omega
  have hm2 : (b.take (room - at_).toNat).length ≤ b.length ∧ ((b.take (room - at_).toNat).length : Int) ≤ room - at_ := by rw [List.length_take]; omega
  have hm3 : b.take ((b.take (room - at_).toNat).length : Int).toNat = b.take (room - at_).toNat := by
    rw [Int.toNat_natCast, List.length_take]
    rcases Nat.le_total (room - at_).toNat b.length with h | h
    · rw [Nat.min_eq_left h]
    · rw [Nat.min_eq_right h, List.take_length, List.take_of_length_le h]
  rw [hm, wrap64 (n := at_ + _) (by omega) (by omega)]
  generalize b.take (room - at_).toNat = m at hm hm2 hm3 ⊢
  refine ⟨fun h6 => ?_, fun h6 => ?_⟩
  · refine (region_plan rfl Γok mixed (.pure 0 (.pure 1 (.pure 2 (.pure 3 (.pure 4 (.pure 5 (.pure 6 (.pure 7 (.pure 8 (.pure 9 (.pure 10 (.pure 11 (.eff (.cons 12 [] (.pure 13 (.pure 14 (.eff (.cons 15 [] .done .nil)))) .nil)))))))))))))) 93 rfl (by kernel_rfl) ?_)
    simp (maxSteps := 4000000) only [push_cast, Int.reduceEq, Int.reduceBNe, Int.reduceBEq, Int.reduceAdd, Int.reduceSub, Int.reduceMul, Int.reduceNeg, Int.reduceLT, Int.reduceLE, Int.reduceToNat, Nat.reduceLT, Nat.reduceAdd, Nat.reduceSub, Nat.reduceMul, Nat.reduceEqDiff, Nat.reduceLeDiff, Nat.reduceBEq, reduceIte, reduceCtorEq, hT]
    rw [wrap64 (n := at_ + m.length - data.length) (by omega) (by omega)]
    refine ⟨1, .u8, data, .i64, .inl rfl, rfl, rfl, by omega, by omega, rfl, fun p' c' => ?_⟩
    simp (maxSteps := 4000000) only [push_cast, Int.reduceEq, Int.reduceBNe, Int.reduceBEq, Int.reduceAdd, Int.reduceSub, Int.reduceMul, Int.reduceNeg, Int.reduceLT, Int.reduceLE, Int.reduceToNat, Nat.reduceLT, Nat.reduceAdd, Nat.reduceSub, Nat.reduceMul, Nat.reduceEqDiff, Nat.reduceLeDiff, Nat.reduceBEq, reduceIte, reduceCtorEq, hT]
    have hz : (at_ + (m.length : Int) - data.length).toNat = at_.toNat + m.length - data.length := by omega
    have hl1 : data.length + (at_.toNat + m.length - data.length) = (data ++ List.replicate (at_.toNat + m.length - data.length) (0 : Int)).length := by simp
    rw [hz, hl1]
    have hl2 : (data ++ List.replicate (at_.toNat + m.length - data.length) (0 : Int)).length = at_.toNat + m.length := by simp; omega
    have hw : wrote data at_.toNat m = (data ++ List.replicate (at_.toNat + m.length - data.length) (0 : Int)).take at_.toNat ++ m ++ (data ++ List.replicate (at_.toNat + m.length - data.length) (0 : Int)).drop (at_.toNat + m.length) := by
      unfold wrote
      congr 1
      rw [List.drop_of_length_le (by omega), List.drop_of_length_le (by omega)]
    rw [hw]
    generalize data ++ List.replicate (at_.toNat + m.length - data.length) (0 : Int) = d1 at hl2 ⊢
    refine code_row 1 rfl fun hc' hp' => ?_
    refine (region_plan rfl Γok mixed (.pure 0 (.pure 1 (.pure 2 (.pure 3 (.pure 4 (.pure 5 (.pure 6 (.pure 7 (.pure 8 (.pure 9 (.pure 10 (.pure 11 (.pure 12 (.pure 13 (.pure 14 (.pure 15 (.eff (.cons 16 [3] (.pure 17 (.pure 18 (.pure 19 (.eff (.cons 20 [] .done .nil))))) .nil)))))))))))))))))) 93 rfl (by kernel_rfl) ?_)
    simp (maxSteps := 4000000) only [push_cast, Int.reduceEq, Int.reduceBNe, Int.reduceBEq, Int.reduceAdd, Int.reduceSub, Int.reduceMul, Int.reduceNeg, Int.reduceLT, Int.reduceLE, Int.reduceToNat, Nat.reduceLT, Nat.reduceAdd, Nat.reduceSub, Nat.reduceMul, Nat.reduceEqDiff, Nat.reduceLeDiff, Nat.reduceBEq, reduceIte, reduceCtorEq, hT]
    rw [hm3]
    refine ⟨⟨⟨by omega, by omega⟩, hc'⟩, ⟨by omega, by omega⟩, 1, .u8, p', c', d1, at_.toNat, m, _, .r, .inl rfl, (shows_cut (by omega) hc').within hc', rfl, rfl, ?_⟩
    have ht : m.take (d1.length - at_.toNat) = m := List.take_of_length_le (by omega)
    simp (maxSteps := 4000000) only [push_cast, Int.reduceEq, Int.reduceBNe, Int.reduceBEq, Int.reduceAdd, Int.reduceSub, Int.reduceMul, Int.reduceNeg, Int.reduceLT, Int.reduceLE, Int.reduceToNat, Nat.reduceLT, Nat.reduceAdd, Nat.reduceSub, Nat.reduceMul, Nat.reduceEqDiff, Nat.reduceLeDiff, Nat.reduceBEq, reduceIte, reduceCtorEq, hT]
    rw [ht, wrap64 (n := at_ + (m.length : Int)) (by omega) (by omega)]
    refine Fin.w [0, 1] (.tup [.i .i64 (m.length : Nat), .i .i64 0]) (storeS T p' c' (d1.take at_.toNat ++ m ++ d1.drop (at_.toNat + m.length)) room (at_ + (m.length : Nat))) ?_ ⟨p', c', rfl, rfl⟩
    simp (maxSteps := 4000000) only [push_cast, Int.reduceEq, Int.reduceBNe, Int.reduceBEq, Int.reduceAdd, Int.reduceSub, Int.reduceMul, Int.reduceNeg, Int.reduceLT, Int.reduceLE, Int.reduceToNat, Nat.reduceLT, Nat.reduceAdd, Nat.reduceSub, Nat.reduceMul, Nat.reduceEqDiff, Nat.reduceLeDiff, Nat.reduceBEq, reduceIte, reduceCtorEq, hT, storeS]
    simp
    omega
  · have hw : wrote data at_.toNat m = data.take at_.toNat ++ m ++ data.drop (at_.toNat + m.length) := by
      unfold wrote
      rw [show at_.toNat + m.length - data.length = 0 by omega, List.replicate_zero, List.append_nil]
    rw [hw]
    refine (region_plan rfl Γok mixed (.pure 0 (.pure 1 (.pure 2 (.pure 3 (.pure 4 (.pure 5 (.pure 6 (.pure 7 (.pure 8 (.pure 9 (.pure 10 (.pure 11 (.pure 12 (.pure 13 (.pure 14 (.pure 15 (.eff (.cons 16 [3] (.pure 17 (.pure 18 (.pure 19 (.eff (.cons 20 [] .done .nil))))) .nil)))))))))))))))))) 93 rfl (by kernel_rfl) ?_)
    simp (maxSteps := 4000000) only [push_cast, Int.reduceEq, Int.reduceBNe, Int.reduceBEq, Int.reduceAdd, Int.reduceSub, Int.reduceMul, Int.reduceNeg, Int.reduceLT, Int.reduceLE, Int.reduceToNat, Nat.reduceLT, Nat.reduceAdd, Nat.reduceSub, Nat.reduceMul, Nat.reduceEqDiff, Nat.reduceLeDiff, Nat.reduceBEq, reduceIte, reduceCtorEq, hT]
    rw [hm3]
    refine ⟨⟨⟨by omega, by omega⟩, hc⟩, ⟨by omega, by omega⟩, 1, .u8, p, c, data, at_.toNat, m, _, .r, .inl rfl, (shows_cut (by omega) hc).within hc, rfl, rfl, ?_⟩
    have ht : m.take (data.length - at_.toNat) = m := List.take_of_length_le (by omega)
    simp (maxSteps := 4000000) only [push_cast, Int.reduceEq, Int.reduceBNe, Int.reduceBEq, Int.reduceAdd, Int.reduceSub, Int.reduceMul, Int.reduceNeg, Int.reduceLT, Int.reduceLE, Int.reduceToNat, Nat.reduceLT, Nat.reduceAdd, Nat.reduceSub, Nat.reduceMul, Nat.reduceEqDiff, Nat.reduceLeDiff, Nat.reduceBEq, reduceIte, reduceCtorEq, hT]
    rw [ht, wrap64 (n := at_ + (m.length : Int)) (by omega) (by omega)]
    refine Fin.w [0, 1] (.tup [.i .i64 (m.length : Nat), .i .i64 0]) (storeS T p c (data.take at_.toNat ++ m ++ data.drop (at_.toNat + m.length)) room (at_ + (m.length : Nat))) ?_ ⟨p, c, rfl, rfl⟩
    simp (maxSteps := 4000000) only [push_cast, Int.reduceEq, Int.reduceBNe, Int.reduceBEq, Int.reduceAdd, Int.reduceSub, Int.reduceMul, Int.reduceNeg, Int.reduceLT, Int.reduceLE, Int.reduceToNat, Nat.reduceLT, Nat.reduceAdd, Nat.reduceSub, Nat.reduceMul, Nat.reduceEqDiff, Nat.reduceLeDiff, Nat.reduceBEq, reduceIte, reduceCtorEq, hT, storeS]
    simp
    omega

/-- A place is sought. -/
def gK (room : Int) (data : List Int) (at_ off w : Int) : (List Int × Int) × Int × Int :=
  if w < 0 ∨ 2 < w then ((data, at_), 0, 1)
  else if off < -(if w = 0 then 0 else if w = 1 then at_ else data.length) ∨ room - (if w = 0 then 0 else if w = 1 then at_ else data.length) < off then ((data, at_), 0, 4)
  else ((data, (if w = 0 then 0 else if w = 1 then at_ else data.length) + off), (if w = 0 then 0 else if w = 1 then at_ else data.length) + off, 0)

theorem storeSeekR_c (T : TypeId) (p : Option Addr) (c : Nat) (data : List Int) (room at_ off w : Int) (h0 : 0 ≤ at_) (h1 : at_ ≤ room) (h2 : room ≤ 1048576) (hd : data.length ≤ room) (hT : T < 1000000 := by decide) :
    Contract Tryz.prog 177 (storeS T p c data room at_) [.ptr 0 0, .i .i64 off, .i .i64 w]
    (fun sv post => sv = .tup [.i .i64 (gK room data at_ off w).2.1, .i .i64 (gK room data at_ off w).2.2] ∧ post = storeS T p c data room (gK room data at_ off w).1.2) := by
  refine contract_row 1 rfl fun hc hp => ?_
  refine contract_ev Γok Tryz.func177 rfl rfl [] ?_
  simp (maxSteps := 4000000) only [push_cast, Int.reduceEq, Int.reduceBNe, Int.reduceBEq, Int.reduceAdd, Int.reduceSub, Int.reduceMul, Int.reduceNeg, Int.reduceLT, Int.reduceLE, Int.reduceToNat, Nat.reduceLT, Nat.reduceAdd, Nat.reduceSub, Nat.reduceMul, Nat.reduceEqDiff, Nat.reduceLeDiff, Nat.reduceBEq, reduceIte, reduceCtorEq, hT, Tryz.f177, storeS]
  unfold gK
  refine ⟨fun h3 => ?_, fun h3 => ?_⟩
  · rw [if_pos h3]
    exact Fin.w [0, 1] (.tup [.i .i64 0, .i .i64 1]) _ (by simp (maxSteps := 4000000) only [push_cast, Int.reduceEq, Int.reduceBNe, Int.reduceBEq, Int.reduceAdd, Int.reduceSub, Int.reduceMul, Int.reduceNeg, Int.reduceLT, Int.reduceLE, Int.reduceToNat, Nat.reduceLT, Nat.reduceAdd, Nat.reduceSub, Nat.reduceMul, Nat.reduceEqDiff, Nat.reduceLeDiff, Nat.reduceBEq, reduceIte, reduceCtorEq, hT, storeS]) ⟨rfl, rfl⟩
  rw [if_neg (by omega)]
  have hw : w = 0 ∨ w = 1 ∨ w = 2 := by omega
  rcases hw with rfl | rfl | rfl
  · refine (region_plan rfl Γok mixed (.pure 0 (.pure 1 (.pure 2 (.pure 3 (.pure 4 (.pure 5 (.pure 6 (.pure 7 (.pure 8 (.pure 9 (.pure 10 (.pure 11 (.pure 12 .done))))))))))))) 58 rfl (by kernel_rfl) ?_)
    simp (maxSteps := 4000000) only [push_cast, Int.reduceEq, Int.reduceBNe, Int.reduceBEq, Int.reduceAdd, Int.reduceSub, Int.reduceMul, Int.reduceNeg, Int.reduceLT, Int.reduceLE, Int.reduceToNat, Nat.reduceLT, Nat.reduceAdd, Nat.reduceSub, Nat.reduceMul, Nat.reduceEqDiff, Nat.reduceLeDiff, Nat.reduceBEq, reduceIte, reduceCtorEq, hT, Int.toNat_zero]
    rw [wrap64 (n := room - 0) (by omega) (by omega)]
    refine ⟨fun h4 => ?_, fun h4 => ?_⟩
    · rw [if_pos (by rcases h4 with h4 | h4 <;> omega)]
      exact Fin.w [0, 1] (.tup [.i .i64 0, .i .i64 4]) _ (by simp (maxSteps := 4000000) only [push_cast, Int.reduceEq, Int.reduceBNe, Int.reduceBEq, Int.reduceAdd, Int.reduceSub, Int.reduceMul, Int.reduceNeg, Int.reduceLT, Int.reduceLE, Int.reduceToNat, Nat.reduceLT, Nat.reduceAdd, Nat.reduceSub, Nat.reduceMul, Nat.reduceEqDiff, Nat.reduceLeDiff, Nat.reduceBEq, reduceIte, reduceCtorEq, hT, storeS]) ⟨rfl, rfl⟩
    · rw [if_neg (by omega), wrap64 (n := 0 + off) (by omega) (by omega)]
      exact Fin.w [0, 1] (.tup [.i .i64 (0 + off), .i .i64 0]) _ (by simp (maxSteps := 4000000) only [push_cast, Int.reduceEq, Int.reduceBNe, Int.reduceBEq, Int.reduceAdd, Int.reduceSub, Int.reduceMul, Int.reduceNeg, Int.reduceLT, Int.reduceLE, Int.reduceToNat, Nat.reduceLT, Nat.reduceAdd, Nat.reduceSub, Nat.reduceMul, Nat.reduceEqDiff, Nat.reduceLeDiff, Nat.reduceBEq, reduceIte, reduceCtorEq, hT, storeS]) ⟨rfl, rfl⟩
  · refine (region_plan rfl Γok mixed (.pure 0 (.pure 1 (.pure 2 (.pure 3 (.pure 4 (.pure 5 (.pure 6 (.pure 7 (.pure 8 (.pure 9 (.pure 10 (.pure 11 (.pure 12 .done))))))))))))) 58 rfl (by kernel_rfl) ?_)
    simp (maxSteps := 4000000) only [push_cast, Int.reduceEq, Int.reduceBNe, Int.reduceBEq, Int.reduceAdd, Int.reduceSub, Int.reduceMul, Int.reduceNeg, Int.reduceLT, Int.reduceLE, Int.reduceToNat, Nat.reduceLT, Nat.reduceAdd, Nat.reduceSub, Nat.reduceMul, Nat.reduceEqDiff, Nat.reduceLeDiff, Nat.reduceBEq, reduceIte, reduceCtorEq, hT]
    rw [wrap64 (n := 0 - at_) (by omega) (by omega), wrap64 (n := room - at_) (by omega) (by omega)]
    refine ⟨fun h4 => ?_, fun h4 => ?_⟩
    · rw [if_pos (by rcases h4 with h4 | h4 <;> omega)]
      exact Fin.w [0, 1] (.tup [.i .i64 0, .i .i64 4]) _ (by simp (maxSteps := 4000000) only [push_cast, Int.reduceEq, Int.reduceBNe, Int.reduceBEq, Int.reduceAdd, Int.reduceSub, Int.reduceMul, Int.reduceNeg, Int.reduceLT, Int.reduceLE, Int.reduceToNat, Nat.reduceLT, Nat.reduceAdd, Nat.reduceSub, Nat.reduceMul, Nat.reduceEqDiff, Nat.reduceLeDiff, Nat.reduceBEq, reduceIte, reduceCtorEq, hT, storeS]) ⟨rfl, rfl⟩
    · rw [if_neg (by omega), wrap64 (n := at_ + off) (by omega) (by omega)]
      exact Fin.w [0, 1] (.tup [.i .i64 (at_ + off), .i .i64 0]) _ (by simp (maxSteps := 4000000) only [push_cast, Int.reduceEq, Int.reduceBNe, Int.reduceBEq, Int.reduceAdd, Int.reduceSub, Int.reduceMul, Int.reduceNeg, Int.reduceLT, Int.reduceLE, Int.reduceToNat, Nat.reduceLT, Nat.reduceAdd, Nat.reduceSub, Nat.reduceMul, Nat.reduceEqDiff, Nat.reduceLeDiff, Nat.reduceBEq, reduceIte, reduceCtorEq, hT, storeS]) ⟨rfl, rfl⟩
  · refine (region_plan rfl Γok mixed (.pure 0 (.pure 1 (.pure 2 (.pure 3 (.pure 4 (.pure 5 (.pure 6 (.pure 7 (.pure 8 (.pure 9 (.pure 10 (.pure 11 (.pure 12 .done))))))))))))) 58 rfl (by kernel_rfl) ?_)
    simp (maxSteps := 4000000) only [push_cast, Int.reduceEq, Int.reduceBNe, Int.reduceBEq, Int.reduceAdd, Int.reduceSub, Int.reduceMul, Int.reduceNeg, Int.reduceLT, Int.reduceLE, Int.reduceToNat, Nat.reduceLT, Nat.reduceAdd, Nat.reduceSub, Nat.reduceMul, Nat.reduceEqDiff, Nat.reduceLeDiff, Nat.reduceBEq, reduceIte, reduceCtorEq, hT]
    rw [wrap64 (n := 0 - (data.length : Int)) (by omega) (by omega), wrap64 (n := room - (data.length : Int)) (by omega) (by omega)]
    refine ⟨fun h4 => ?_, fun h4 => ?_⟩
    · rw [if_pos (by rcases h4 with h4 | h4 <;> omega)]
      exact Fin.w [0, 1] (.tup [.i .i64 0, .i .i64 4]) _ (by simp (maxSteps := 4000000) only [push_cast, Int.reduceEq, Int.reduceBNe, Int.reduceBEq, Int.reduceAdd, Int.reduceSub, Int.reduceMul, Int.reduceNeg, Int.reduceLT, Int.reduceLE, Int.reduceToNat, Nat.reduceLT, Nat.reduceAdd, Nat.reduceSub, Nat.reduceMul, Nat.reduceEqDiff, Nat.reduceLeDiff, Nat.reduceBEq, reduceIte, reduceCtorEq, hT, storeS]) ⟨rfl, rfl⟩
    · rw [if_neg (by omega), wrap64 (n := (data.length : Int) + off) (by omega) (by omega)]
      exact Fin.w [0, 1] (.tup [.i .i64 ((data.length : Int) + off), .i .i64 0]) _ (by simp (maxSteps := 4000000) only [push_cast, Int.reduceEq, Int.reduceBNe, Int.reduceBEq, Int.reduceAdd, Int.reduceSub, Int.reduceMul, Int.reduceNeg, Int.reduceLT, Int.reduceLE, Int.reduceToNat, Nat.reduceLT, Nat.reduceAdd, Nat.reduceSub, Nat.reduceMul, Nat.reduceEqDiff, Nat.reduceLeDiff, Nat.reduceBEq, reduceIte, reduceCtorEq, hT, storeS]) ⟨rfl, rfl⟩

/-! Growing. -/
def growS (p : Option Addr) (c : Nat) (data : List Int) (at_ : Int) : SS := storeS 126 p c data 1048576 at_
def growR (b : Nat) (data : List Int) (at_ : Int) : Res := storeR 126 b data 1048576 at_

theorem growRead_c (p : Option Addr) (c : Nat) (data : List Int) (at_ n : Int) (h0 : 0 ≤ at_) (h0' : at_ ≤ 1048576) (hd : data.length ≤ 1048576) (h1 : 0 ≤ n) (h2 : n ≤ 1048576) :
    Contract Tryz.prog 179 (growS p c data at_) [.ptr 0 0, .i .i64 n]
    (fun sv post => sv = .tup [.ints .u8 .new (readV data at_ n), .i .i64 0] ∧ post = growS p c data (at_ + (readV data at_ n).length)) := by
  refine contract_ev Γok Tryz.func179 rfl rfl [] ?_
  simp (maxSteps := 4000000) only [push_cast, Int.reduceEq, Int.reduceBNe, Int.reduceBEq, Int.reduceAdd, Int.reduceSub, Int.reduceMul, Int.reduceNeg, Int.reduceLT, Int.reduceLE, Int.reduceToNat, Nat.reduceLT, Nat.reduceAdd, Nat.reduceSub, Nat.reduceMul, Nat.reduceEqDiff, Nat.reduceLeDiff, Nat.reduceBEq, reduceIte, reduceCtorEq, Tryz.f179, growS, storeS]
  refine call_w (storeReadR_c 126 p c data 1048576 at_ n h0 h0' hd h1 h2) [0, 1] (by simp (maxSteps := 4000000) only [push_cast, Int.reduceEq, Int.reduceBNe, Int.reduceBEq, Int.reduceAdd, Int.reduceSub, Int.reduceMul, Int.reduceNeg, Int.reduceLT, Int.reduceLE, Int.reduceToNat, Nat.reduceLT, Nat.reduceAdd, Nat.reduceSub, Nat.reduceMul, Nat.reduceEqDiff, Nat.reduceLeDiff, Nat.reduceBEq, reduceIte, reduceCtorEq, storeS]) ?_
  rintro sv post ⟨rfl, rfl⟩
  simp (maxSteps := 4000000) only [push_cast, Int.reduceEq, Int.reduceBNe, Int.reduceBEq, Int.reduceAdd, Int.reduceSub, Int.reduceMul, Int.reduceNeg, Int.reduceLT, Int.reduceLE, Int.reduceToNat, Nat.reduceLT, Nat.reduceAdd, Nat.reduceSub, Nat.reduceMul, Nat.reduceEqDiff, Nat.reduceLeDiff, Nat.reduceBEq, reduceIte, reduceCtorEq, storeS]
  exact Fin.w [0, 2] (.tup [.ints .u8 .new (readV data at_ n), .i .i64 0]) _ (by simp (maxSteps := 4000000) only [push_cast, Int.reduceEq, Int.reduceBNe, Int.reduceBEq, Int.reduceAdd, Int.reduceSub, Int.reduceMul, Int.reduceNeg, Int.reduceLT, Int.reduceLE, Int.reduceToNat, Nat.reduceLT, Nat.reduceAdd, Nat.reduceSub, Nat.reduceMul, Nat.reduceEqDiff, Nat.reduceLeDiff, Nat.reduceBEq, reduceIte, reduceCtorEq, growS, storeS]) ⟨rfl, rfl⟩

theorem growWrite_c (p : Option Addr) (c : Nat) (data : List Int) (at_ : Int) (b : List Int) (h0 : 0 ≤ at_) (h1 : at_ ≤ 1048576) (hd : data.length ≤ 1048576) (hb : b.length ≤ 1048576) (hne : b ≠ []) :
    Contract Tryz.prog 181 (growS p c data at_) [.ptr 0 0, .ints .u8 .old b]
    (fun sv post => ∃ p' c', sv = .tup [.i .i64 (gW 1048576 data at_ b).2.1, .i .i64 (gW 1048576 data at_ b).2.2] ∧ post = growS p' c' (gW 1048576 data at_ b).1.1 (gW 1048576 data at_ b).1.2) := by
  refine contract_ev Γok Tryz.func181 rfl rfl [] ?_
  simp (maxSteps := 4000000) only [push_cast, Int.reduceEq, Int.reduceBNe, Int.reduceBEq, Int.reduceAdd, Int.reduceSub, Int.reduceMul, Int.reduceNeg, Int.reduceLT, Int.reduceLE, Int.reduceToNat, Nat.reduceLT, Nat.reduceAdd, Nat.reduceSub, Nat.reduceMul, Nat.reduceEqDiff, Nat.reduceLeDiff, Nat.reduceBEq, reduceIte, reduceCtorEq, Tryz.f181, growS, storeS]
  refine call_w (storeWriteR_c 126 p c data 1048576 at_ b h0 h1 (by omega) (by omega) hb hne) [0, 1] (by simp (maxSteps := 4000000) only [push_cast, Int.reduceEq, Int.reduceBNe, Int.reduceBEq, Int.reduceAdd, Int.reduceSub, Int.reduceMul, Int.reduceNeg, Int.reduceLT, Int.reduceLE, Int.reduceToNat, Nat.reduceLT, Nat.reduceAdd, Nat.reduceSub, Nat.reduceMul, Nat.reduceEqDiff, Nat.reduceLeDiff, Nat.reduceBEq, reduceIte, reduceCtorEq, storeS]) ?_
  rintro sv post ⟨p', c', rfl, rfl⟩
  simp (maxSteps := 4000000) only [push_cast, Int.reduceEq, Int.reduceBNe, Int.reduceBEq, Int.reduceAdd, Int.reduceSub, Int.reduceMul, Int.reduceNeg, Int.reduceLT, Int.reduceLE, Int.reduceToNat, Nat.reduceLT, Nat.reduceAdd, Nat.reduceSub, Nat.reduceMul, Nat.reduceEqDiff, Nat.reduceLeDiff, Nat.reduceBEq, reduceIte, reduceCtorEq, storeS]
  exact Fin.w [0, 2] (.tup [.i .i64 (gW 1048576 data at_ b).2.1, .i .i64 (gW 1048576 data at_ b).2.2]) (growS p' c' (gW 1048576 data at_ b).1.1 (gW 1048576 data at_ b).1.2) (by simp (maxSteps := 4000000) only [push_cast, Int.reduceEq, Int.reduceBNe, Int.reduceBEq, Int.reduceAdd, Int.reduceSub, Int.reduceMul, Int.reduceNeg, Int.reduceLT, Int.reduceLE, Int.reduceToNat, Nat.reduceLT, Nat.reduceAdd, Nat.reduceSub, Nat.reduceMul, Nat.reduceEqDiff, Nat.reduceLeDiff, Nat.reduceBEq, reduceIte, reduceCtorEq, growS, storeS]) ⟨p', c', rfl, rfl⟩

theorem growSeek_c (p : Option Addr) (c : Nat) (data : List Int) (at_ off w : Int) (h0 : 0 ≤ at_) (h1 : at_ ≤ 1048576) (hd : data.length ≤ 1048576) :
    Contract Tryz.prog 180 (growS p c data at_) [.ptr 0 0, .i .i64 off, .i .i64 w]
    (fun sv post => sv = .tup [.i .i64 (gK 1048576 data at_ off w).2.1, .i .i64 (gK 1048576 data at_ off w).2.2] ∧ post = growS p c data (gK 1048576 data at_ off w).1.2) := by
  refine contract_ev Γok Tryz.func180 rfl rfl [] ?_
  simp (maxSteps := 4000000) only [push_cast, Int.reduceEq, Int.reduceBNe, Int.reduceBEq, Int.reduceAdd, Int.reduceSub, Int.reduceMul, Int.reduceNeg, Int.reduceLT, Int.reduceLE, Int.reduceToNat, Nat.reduceLT, Nat.reduceAdd, Nat.reduceSub, Nat.reduceMul, Nat.reduceEqDiff, Nat.reduceLeDiff, Nat.reduceBEq, reduceIte, reduceCtorEq, Tryz.f180, growS, storeS]
  refine call_w (storeSeekR_c 126 p c data 1048576 at_ off w h0 h1 (by omega) (by omega)) [0, 1] (by simp (maxSteps := 4000000) only [push_cast, Int.reduceEq, Int.reduceBNe, Int.reduceBEq, Int.reduceAdd, Int.reduceSub, Int.reduceMul, Int.reduceNeg, Int.reduceLT, Int.reduceLE, Int.reduceToNat, Nat.reduceLT, Nat.reduceAdd, Nat.reduceSub, Nat.reduceMul, Nat.reduceEqDiff, Nat.reduceLeDiff, Nat.reduceBEq, reduceIte, reduceCtorEq, storeS]) ?_
  rintro sv post ⟨rfl, rfl⟩
  simp (maxSteps := 4000000) only [push_cast, Int.reduceEq, Int.reduceBNe, Int.reduceBEq, Int.reduceAdd, Int.reduceSub, Int.reduceMul, Int.reduceNeg, Int.reduceLT, Int.reduceLE, Int.reduceToNat, Nat.reduceLT, Nat.reduceAdd, Nat.reduceSub, Nat.reduceMul, Nat.reduceEqDiff, Nat.reduceLeDiff, Nat.reduceBEq, reduceIte, reduceCtorEq, storeS]
  exact Fin.w [0, 2] (.tup [.i .i64 (gK 1048576 data at_ off w).2.1, .i .i64 (gK 1048576 data at_ off w).2.2]) (growS p c data (gK 1048576 data at_ off w).1.2) (by simp (maxSteps := 4000000) only [push_cast, Int.reduceEq, Int.reduceBNe, Int.reduceBEq, Int.reduceAdd, Int.reduceSub, Int.reduceMul, Int.reduceNeg, Int.reduceLT, Int.reduceLE, Int.reduceToNat, Nat.reduceLT, Nat.reduceAdd, Nat.reduceSub, Nat.reduceMul, Nat.reduceEqDiff, Nat.reduceLeDiff, Nat.reduceBEq, reduceIte, reduceCtorEq, growS, storeS]) ⟨rfl, rfl⟩

theorem growBytes0_c (p : Option Addr) (c : Nat) (data : List Int) (at_ : Int) (hd : data.length ≤ 1048576) :
    Contract Tryz.prog 27 (growS p c data at_) [.ptr 0 0]
    (fun sv post => sv = .ints .u8 .new data ∧ post = growS p c data at_) := by
  refine contract_row 1 rfl fun hc hp => ?_
  refine contract_ev Γok Tryz.func27 rfl rfl [] ?_
  simp (maxSteps := 4000000) only [push_cast, Int.reduceEq, Int.reduceBNe, Int.reduceBEq, Int.reduceAdd, Int.reduceSub, Int.reduceMul, Int.reduceNeg, Int.reduceLT, Int.reduceLE, Int.reduceToNat, Nat.reduceLT, Nat.reduceAdd, Nat.reduceSub, Nat.reduceMul, Nat.reduceEqDiff, Nat.reduceLeDiff, Nat.reduceBEq, reduceIte, reduceCtorEq, Tryz.f27, growS, storeS]
  refine call_w (bcloneR_c p c data p data.length c 0 ⟨by omega, .inr (by cases p <;> simp [Addr.add])⟩ (by omega)) [1] (by simp (maxSteps := 4000000) only [push_cast, Int.reduceEq, Int.reduceBNe, Int.reduceBEq, Int.reduceAdd, Int.reduceSub, Int.reduceMul, Int.reduceNeg, Int.reduceLT, Int.reduceLE, Int.reduceToNat, Nat.reduceLT, Nat.reduceAdd, Nat.reduceSub, Nat.reduceMul, Nat.reduceEqDiff, Nat.reduceLeDiff, Nat.reduceBEq, reduceIte, reduceCtorEq]) ?_
  rintro sv post ⟨rfl, rfl⟩
  have e : (data.drop 0).take data.length = data := by simp
  rw [e]
  simp (maxSteps := 4000000) only [push_cast, Int.reduceEq, Int.reduceBNe, Int.reduceBEq, Int.reduceAdd, Int.reduceSub, Int.reduceMul, Int.reduceNeg, Int.reduceLT, Int.reduceLE, Int.reduceToNat, Nat.reduceLT, Nat.reduceAdd, Nat.reduceSub, Nat.reduceMul, Nat.reduceEqDiff, Nat.reduceLeDiff, Nat.reduceBEq, reduceIte, reduceCtorEq]
  exact Fin.w [0, 1] (.ints .u8 .new data) _ (by simp (maxSteps := 4000000) only [push_cast, Int.reduceEq, Int.reduceBNe, Int.reduceBEq, Int.reduceAdd, Int.reduceSub, Int.reduceMul, Int.reduceNeg, Int.reduceLT, Int.reduceLE, Int.reduceToNat, Nat.reduceLT, Nat.reduceAdd, Nat.reduceSub, Nat.reduceMul, Nat.reduceEqDiff, Nat.reduceLeDiff, Nat.reduceBEq, reduceIte, reduceCtorEq, growS, storeS]) ⟨rfl, rfl⟩
theorem growBytes_c (b : Nat) (data : List Int) (at_ : Int) (hd : data.length ≤ 1048576) : Contract Tryz.prog 27 (preR (growR b data at_)) [.raw (.pointer (some ⟨b, 0, none⟩))]
    (fun sv post => sv = .ints .u8 .new data ∧ post = preR (growR b data at_)) := by
  refine Contract.ex fun pc => Contract.post (contract_res b (R := fun sv post => sv = .ints .u8 .new data ∧ post = preR ((growS pc.1 pc.2 data at_).res b)) (by simp [growS, storeS]) (by simp [growS, storeS]) (growBytes0_c pc.1 pc.2 data at_ hd) (by simp [NNL]) ?_) ?_
  · rintro sv post ⟨rfl, rfl⟩
    exact ⟨growS pc.1 pc.2 data at_, [0, 1], _, by simp (maxSteps := 4000000) only [push_cast, Int.reduceEq, Int.reduceBNe, Int.reduceBEq, Int.reduceAdd, Int.reduceSub, Int.reduceMul, Int.reduceNeg, Int.reduceLT, Int.reduceLE, Int.reduceToNat, Nat.reduceLT, Nat.reduceAdd, Nat.reduceSub, Nat.reduceMul, Nat.reduceEqDiff, Nat.reduceLeDiff, Nat.reduceBEq, reduceIte, reduceCtorEq, growS, storeS], rfl, (by simp (maxSteps := 4000000) only [push_cast, Int.reduceEq, Int.reduceBNe, Int.reduceBEq, Int.reduceAdd, Int.reduceSub, Int.reduceMul, Int.reduceNeg, Int.reduceLT, Int.reduceLE, Int.reduceToNat, Nat.reduceLT, Nat.reduceAdd, Nat.reduceSub, Nat.reduceMul, Nat.reduceEqDiff, Nat.reduceLeDiff, Nat.reduceBEq, reduceIte, reduceCtorEq] : W false (fun n => n) (.ints .u8 .new data) _), by simp [NN, NNT], rfl, rfl⟩
  · rintro sv post ⟨rfl, rfl⟩
    exact ⟨_, SSLe.pre (f := fun pc : Option Addr × Nat => (storeS 126 pc.1 pc.2 data 1048576 at_).res b) pc, rfl, rfl⟩

theorem growReadM : MethodIs Tryz.prog 47 "Read" 179 := methodIs_of (by kernel_rfl)
theorem growWriteM : MethodIs Tryz.prog 47 "Write" 181 := methodIs_of (by kernel_rfl)
theorem growSeekM : MethodIs Tryz.prog 47 "Seek" 180 := methodIs_of (by kernel_rfl)
def growM (b : Nat) : RawM where
  σ := List Int × Int
  t := 47
  y := .pointer (some ⟨b, 0, none⟩)
  res s := growR b s.1 s.2
  ok s := 0 ≤ s.2 ∧ s.2 ≤ 1048576 ∧ s.1.length ≤ 1048576
  rd s n := ((s.1, s.2 + (readV s.1 s.2 n).length), readV s.1 s.2 n, 0)
  wr s l := gW 1048576 s.1 s.2 l
  sk s o w := gK 1048576 s.1 s.2 o w

theorem wrote_len (data : List Int) (i : Nat) (m : List Int) : (wrote data i m).length = max data.length (i + m.length) := by
  unfold wrote
  simp only [List.length_append, List.length_take, List.length_replicate, List.length_drop]
  omega
theorem growM_rd (b : Nat) : (growM b).Rd := by
  refine ⟨fun (s : List Int × Int) n ⟨h0, h0', hd⟩ h1 h2 => ?_, fun (s : List Int × Int) n ⟨h0, h0', hd⟩ h1 h2 => ?_⟩
  · simp only [growM]
    refine ⟨by omega, ?_, hd⟩
    unfold readV
    rw [List.length_take, List.length_drop]
    omega
  · refine InvC.ex fun pc => InvC.post (R := fun sv post => sv = .tup [.ints .u8 .old (readV s.1 s.2 n), .i .i64 0] ∧ post = preR ((growS pc.1 pc.2 s.1 (s.2 + (readV s.1 s.2 n).length)).res b)) (invC_of growReadM (contract_res b (by simp [growS, storeS]) (by simp [growS, storeS]) (growRead_c pc.1 pc.2 s.1 s.2 n h0 h0' hd (by omega) h2) (by simp [NNL, NN]) ?_)) ?_
    · rintro sv post ⟨rfl, rfl⟩
      exact ⟨growS pc.1 pc.2 s.1 (s.2 + (readV s.1 s.2 n).length), [0, 1], _, by simp (maxSteps := 4000000) only [push_cast, Int.reduceEq, Int.reduceBNe, Int.reduceBEq, Int.reduceAdd, Int.reduceSub, Int.reduceMul, Int.reduceNeg, Int.reduceLT, Int.reduceLE, Int.reduceToNat, Nat.reduceLT, Nat.reduceAdd, Nat.reduceSub, Nat.reduceMul, Nat.reduceEqDiff, Nat.reduceLeDiff, Nat.reduceBEq, reduceIte, reduceCtorEq, growS, storeS], rfl, (by simp (maxSteps := 4000000) only [push_cast, Int.reduceEq, Int.reduceBNe, Int.reduceBEq, Int.reduceAdd, Int.reduceSub, Int.reduceMul, Int.reduceNeg, Int.reduceLT, Int.reduceLE, Int.reduceToNat, Nat.reduceLT, Nat.reduceAdd, Nat.reduceSub, Nat.reduceMul, Nat.reduceEqDiff, Nat.reduceLeDiff, Nat.reduceBEq, reduceIte, reduceCtorEq] : W false (fun n => n) (.tup [.ints .u8 .old (readV s.1 s.2 n), .i .i64 0]) _), by simp [NN, NNL, NNT], rfl, rfl⟩
    · rintro sv post ⟨rfl, rfl⟩
      exact ⟨_, SSLe.pre (f := fun pc : Option Addr × Nat => (storeS 126 pc.1 pc.2 s.1 1048576 (s.2 + (readV s.1 s.2 n).length)).res b) pc, rfl, rfl⟩
theorem growM_wr (b : Nat) : (growM b).Wr := by
  refine ⟨?_, fun (s : List Int × Int) l ⟨h0, h0', hd⟩ h1 h2 h3 => ⟨?_, ?_⟩, fun (s : List Int × Int) l ⟨h0, h0', hd⟩ h1 h2 h3 => ?_⟩
  · exact nilOK_of (f := 181) (by kernel_rfl) _
  · simp only [growM]
    unfold gW
    split
    · exact ⟨h0, h0', hd⟩
    · dsimp only
      refine ⟨by omega, by rw [List.length_take]; omega, ?_⟩
      rw [wrote_len, List.length_take]
      omega
  · exact Nat.le_add_right _ _
  · refine InvC.ex fun pc => InvC.post (R := fun sv post => ∃ p' c', sv = .tup [.i .i64 (gW 1048576 s.1 s.2 l).2.1, .i .i64 (gW 1048576 s.1 s.2 l).2.2] ∧ post = preR ((growS p' c' (gW 1048576 s.1 s.2 l).1.1 (gW 1048576 s.1 s.2 l).1.2).res b)) (invC_of growWriteM (contract_res b (by simp [growS, storeS]) (by simp [growS, storeS]) (growWrite_c pc.1 pc.2 s.1 s.2 l h0 h0' hd h2 h1) (by simp [NNL, NN, NNT]) ?_)) ?_
    · rintro sv post ⟨p', c', rfl, rfl⟩
      exact ⟨growS p' c' (gW 1048576 s.1 s.2 l).1.1 (gW 1048576 s.1 s.2 l).1.2, [0, 1], _, by simp (maxSteps := 4000000) only [push_cast, Int.reduceEq, Int.reduceBNe, Int.reduceBEq, Int.reduceAdd, Int.reduceSub, Int.reduceMul, Int.reduceNeg, Int.reduceLT, Int.reduceLE, Int.reduceToNat, Nat.reduceLT, Nat.reduceAdd, Nat.reduceSub, Nat.reduceMul, Nat.reduceEqDiff, Nat.reduceLeDiff, Nat.reduceBEq, reduceIte, reduceCtorEq, growS, storeS], rfl, (by simp (maxSteps := 4000000) only [push_cast, Int.reduceEq, Int.reduceBNe, Int.reduceBEq, Int.reduceAdd, Int.reduceSub, Int.reduceMul, Int.reduceNeg, Int.reduceLT, Int.reduceLE, Int.reduceToNat, Nat.reduceLT, Nat.reduceAdd, Nat.reduceSub, Nat.reduceMul, Nat.reduceEqDiff, Nat.reduceLeDiff, Nat.reduceBEq, reduceIte, reduceCtorEq] : W false (fun n => n) (.tup [.i .i64 (gW 1048576 s.1 s.2 l).2.1, .i .i64 (gW 1048576 s.1 s.2 l).2.2]) _), by simp [NN, NNL, NNT], p', c', rfl, rfl⟩
    · rintro sv post ⟨p', c', rfl, rfl⟩
      exact ⟨_, SSLe.pre (f := fun pc : Option Addr × Nat => (storeS 126 pc.1 pc.2 (gW 1048576 s.1 s.2 l).1.1 1048576 (gW 1048576 s.1 s.2 l).1.2).res b) (p', c'), rfl, rfl⟩
theorem gK_ok {data : List Int} {at_ o w : Int} (h0 : 0 ≤ at_) (h1 : at_ ≤ 1048576) (hd : data.length ≤ 1048576) : (gK 1048576 data at_ o w).1.1 = data ∧ 0 ≤ (gK 1048576 data at_ o w).1.2 ∧ (gK 1048576 data at_ o w).1.2 ≤ 1048576 := by
  unfold gK
  split
  · exact ⟨rfl, h0, h1⟩
  · generalize (if w = 0 then (0 : Int) else if w = 1 then at_ else data.length) = base
    split
    · exact ⟨rfl, h0, h1⟩
    · exact ⟨rfl, by dsimp only; omega, by dsimp only; omega⟩
theorem growM_sk (b : Nat) : (growM b).Sk := by
  refine ⟨fun (s : List Int × Int) o w ⟨h0, h0', hd⟩ => ?_, fun (s : List Int × Int) o w ⟨h0, h0', hd⟩ => ?_⟩
  · obtain ⟨e1, e2, e3⟩ := gK_ok (o := o) (w := w) h0 h0' hd
    exact ⟨e2, e3, by show (gK 1048576 s.1 s.2 o w).1.1.length ≤ _; rw [e1]; exact hd⟩
  · obtain ⟨e1, e2, e3⟩ := gK_ok (o := o) (w := w) h0 h0' hd
    refine InvC.ex fun pc => InvC.post (R := fun sv post => sv = .tup [.i .i64 (gK 1048576 s.1 s.2 o w).2.1, .i .i64 (gK 1048576 s.1 s.2 o w).2.2] ∧ post = preR ((growS pc.1 pc.2 s.1 (gK 1048576 s.1 s.2 o w).1.2).res b)) (invC_of growSeekM (contract_res b (by simp [growS, storeS]) (by simp [growS, storeS]) (growSeek_c pc.1 pc.2 s.1 s.2 o w h0 h0' hd) (by simp [NNL, NN]) ?_)) ?_
    · rintro sv post ⟨rfl, rfl⟩
      exact ⟨growS pc.1 pc.2 s.1 (gK 1048576 s.1 s.2 o w).1.2, [0, 1], _, by simp (maxSteps := 4000000) only [push_cast, Int.reduceEq, Int.reduceBNe, Int.reduceBEq, Int.reduceAdd, Int.reduceSub, Int.reduceMul, Int.reduceNeg, Int.reduceLT, Int.reduceLE, Int.reduceToNat, Nat.reduceLT, Nat.reduceAdd, Nat.reduceSub, Nat.reduceMul, Nat.reduceEqDiff, Nat.reduceLeDiff, Nat.reduceBEq, reduceIte, reduceCtorEq, growS, storeS], rfl, (by simp (maxSteps := 4000000) only [push_cast, Int.reduceEq, Int.reduceBNe, Int.reduceBEq, Int.reduceAdd, Int.reduceSub, Int.reduceMul, Int.reduceNeg, Int.reduceLT, Int.reduceLE, Int.reduceToNat, Nat.reduceLT, Nat.reduceAdd, Nat.reduceSub, Nat.reduceMul, Nat.reduceEqDiff, Nat.reduceLeDiff, Nat.reduceBEq, reduceIte, reduceCtorEq] : W false (fun n => n) (.tup [.i .i64 (gK 1048576 s.1 s.2 o w).2.1, .i .i64 (gK 1048576 s.1 s.2 o w).2.2]) _), by simp [NN, NNL, NNT], rfl, rfl⟩
    · rintro sv post ⟨rfl, rfl⟩
      refine ⟨_, SSLe.pre (f := fun pc : Option Addr × Nat => (storeS 126 pc.1 pc.2 s.1 1048576 (gK 1048576 s.1 s.2 o w).1.2).res b) pc, rfl, ?_⟩
      show preR _ = preR (growR b (gK 1048576 s.1 s.2 o w).1.1 (gK 1048576 s.1 s.2 o w).1.2)
      rw [e1]
      rfl

/-- New memory that grows, as a resource at some block. -/
def isGrow (l : List Int) (sv : SV) (post : SS) : Prop := ∃ b, sv = .tup [.raw (.pointer (some ⟨b, 0, none⟩)), .i .i64 0] ∧ post = ⟨[], [], [], [(2, growR b l 0)], 3, 0, []⟩
theorem newGrow_c (l : List Int) (hl : l.length ≤ 1048576) : Contract Tryz.prog 26 nilSS [.ints .u8 .old l] (isGrow l) := by
  refine Contract.post (contract_new (R' := fun sv post => ∃ p c, sv = .tup [.ptr 0 0, .i .i64 0] ∧ post = { growS p c l 0 with k := 0 }) (R := fun sv post => ∃ b p c, sv = .tup [.raw (.pointer (some ⟨b, 0, none⟩)), .i .i64 0] ∧ post = ⟨[], [], [], [(2, (growS p c l 0).res b)], 3, 0, []⟩) ?_ ?_) ?_
  · refine contract_ev Γok Tryz.func26 rfl rfl [] ?_
    simp (maxSteps := 4000000) only [push_cast, Int.reduceEq, Int.reduceBNe, Int.reduceBEq, Int.reduceAdd, Int.reduceSub, Int.reduceMul, Int.reduceNeg, Int.reduceLT, Int.reduceLE, Int.reduceToNat, Nat.reduceLT, Nat.reduceAdd, Nat.reduceSub, Nat.reduceMul, Nat.reduceEqDiff, Nat.reduceLeDiff, Nat.reduceBEq, reduceIte, reduceCtorEq, Tryz.f26]
    refine ⟨fun h => by omega, fun h => ?_⟩
    refine call_w (kept2_c l 1048576 (by omega)) [] (by simp (maxSteps := 4000000) only [push_cast, Int.reduceEq, Int.reduceBNe, Int.reduceBEq, Int.reduceAdd, Int.reduceSub, Int.reduceMul, Int.reduceNeg, Int.reduceLT, Int.reduceLE, Int.reduceToNat, Nat.reduceLT, Nat.reduceAdd, Nat.reduceSub, Nat.reduceMul, Nat.reduceEqDiff, Nat.reduceLeDiff, Nat.reduceBEq, reduceIte, reduceCtorEq]) ?_
    rintro sv post ⟨p, c, rfl, rfl⟩
    simp (maxSteps := 4000000) only [push_cast, Int.reduceEq, Int.reduceBNe, Int.reduceBEq, Int.reduceAdd, Int.reduceSub, Int.reduceMul, Int.reduceNeg, Int.reduceLT, Int.reduceLE, Int.reduceToNat, Nat.reduceLT, Nat.reduceAdd, Nat.reduceSub, Nat.reduceMul, Nat.reduceEqDiff, Nat.reduceLeDiff, Nat.reduceBEq, reduceIte, reduceCtorEq]
    exact Fin.w [1, 0] (.tup [.ptr 0 0, .i .i64 0]) { growS p c l 0 with k := 0 } (by simp (maxSteps := 4000000) only [push_cast, Int.reduceEq, Int.reduceBNe, Int.reduceBEq, Int.reduceAdd, Int.reduceSub, Int.reduceMul, Int.reduceNeg, Int.reduceLT, Int.reduceLE, Int.reduceToNat, Nat.reduceLT, Nat.reduceAdd, Nat.reduceSub, Nat.reduceMul, Nat.reduceEqDiff, Nat.reduceLeDiff, Nat.reduceBEq, reduceIte, reduceCtorEq, growS, storeS]) ⟨p, c, rfl, rfl⟩
  · rintro sv post ⟨p, c, rfl, rfl⟩
    refine ⟨growS p c l 0, [0, 1], 126, _, by simp (maxSteps := 4000000) only [push_cast, Int.reduceEq, Int.reduceBNe, Int.reduceBEq, Int.reduceAdd, Int.reduceSub, Int.reduceMul, Int.reduceNeg, Int.reduceLT, Int.reduceLE, Int.reduceToNat, Nat.reduceLT, Nat.reduceAdd, Nat.reduceSub, Nat.reduceMul, Nat.reduceEqDiff, Nat.reduceLeDiff, Nat.reduceBEq, reduceIte, reduceCtorEq, growS, storeS], rfl, fun b => ⟨b, p, c, ?_, ?_⟩⟩
    · simp (maxSteps := 4000000) only [push_cast, Int.reduceEq, Int.reduceBNe, Int.reduceBEq, Int.reduceAdd, Int.reduceSub, Int.reduceMul, Int.reduceNeg, Int.reduceLT, Int.reduceLE, Int.reduceToNat, Nat.reduceLT, Nat.reduceAdd, Nat.reduceSub, Nat.reduceMul, Nat.reduceEqDiff, Nat.reduceLeDiff, Nat.reduceBEq, reduceIte, reduceCtorEq, growS, storeS]
    · simp (maxSteps := 4000000) only [push_cast, Int.reduceEq, Int.reduceBNe, Int.reduceBEq, Int.reduceAdd, Int.reduceSub, Int.reduceMul, Int.reduceNeg, Int.reduceLT, Int.reduceLE, Int.reduceToNat, Nat.reduceLT, Nat.reduceAdd, Nat.reduceSub, Nat.reduceMul, Nat.reduceEqDiff, Nat.reduceLeDiff, Nat.reduceBEq, reduceIte, reduceCtorEq, growS, storeS]
  · rintro sv post ⟨b, p, c, rfl, rfl⟩
    refine ⟨_, SSLe.ex (f := fun pc : Option Addr × Nat => (storeS 126 pc.1 pc.2 l 1048576 0).res b) 2 (p, c) (by simp [growS]), b, rfl, rfl⟩
theorem newGrowLong_c (l : List Int) (hl : 1048576 < l.length) : Contract Tryz.prog 26 nilSS [.ints .u8 .old l] (fun sv post => sv = .tup [.nilp, .i .i64 5] ∧ post = nilSS) := by
  refine contract_ev Γok Tryz.func26 rfl rfl [] ?_
  simp (maxSteps := 4000000) only [push_cast, Int.reduceEq, Int.reduceBNe, Int.reduceBEq, Int.reduceAdd, Int.reduceSub, Int.reduceMul, Int.reduceNeg, Int.reduceLT, Int.reduceLE, Int.reduceToNat, Nat.reduceLT, Nat.reduceAdd, Nat.reduceSub, Nat.reduceMul, Nat.reduceEqDiff, Nat.reduceLeDiff, Nat.reduceBEq, reduceIte, reduceCtorEq, Tryz.f26]
  refine ⟨fun h => ?_, fun h => by omega⟩
  exact Fin.nil rfl (psv := .tup [.nilp, .i .i64 5]) (by simp (maxSteps := 4000000) only [push_cast, Int.reduceEq, Int.reduceBNe, Int.reduceBEq, Int.reduceAdd, Int.reduceSub, Int.reduceMul, Int.reduceNeg, Int.reduceLT, Int.reduceLE, Int.reduceToNat, Nat.reduceLT, Nat.reduceAdd, Nat.reduceSub, Nat.reduceMul, Nat.reduceEqDiff, Nat.reduceLeDiff, Nat.reduceBEq, reduceIte, reduceCtorEq]) ⟨rfl, rfl⟩
end Go.Proofs.YtlgpcngfcglanaaGreat
