/- Texts joined, in order: La, Ka, Kb, Oa, Od. -/
import Derived.Test.YtbbbmoldmoianaaGreatZEmGb
import Derived.Test.YtbbbmoldmoianaaGreatZGeTab
import Derived.Test.YtbbbmoldmoianaaGreatZSbRl
import Derived.ChangeSlices
import Derived.SizedLaws
/- Lines: the law's small functions. -/
namespace Go.Proofs.YtbbbmoldmoianaaGreat
open Go Go.Eng
set_option maxHeartbeats 4000000
set_option linter.unusedSimpArgs false
set_option linter.unusedVariables false
set_option maxRecDepth 100000

theorem sameBytes_c (l m : List Int) : Contract Tryz.prog 31 nilSS [.ints .u8 .old l, .ints .u8 .old m] (fun sv post => sv = .b (l == m) ∧ post = nilSS) := by
  refine contract_len 0 rfl fun hlen => ?_
  refine contract_ev Γok Tryz.func31 rfl rfl [] ?_
  simp (maxSteps := 4000000) only [push_cast, Int.reduceEq, Int.reduceBNe, Int.reduceBEq, Int.reduceAdd, Int.reduceSub, Int.reduceMul, Int.reduceNeg, Int.reduceLT, Int.reduceLE, Int.reduceToNat, Nat.reduceLT, Nat.reduceAdd, Nat.reduceSub, Nat.reduceMul, Nat.reduceEqDiff, Nat.reduceLeDiff, Nat.reduceBEq, reduceIte, reduceCtorEq, Tryz.f31]
  have no : ∀ (S : SS), S.k = 0 → l ≠ m → Fin (fun sv post => sv = .b (l == m) ∧ post = nilSS) (.b false) S := fun S hS h => Fin.nil hS (psv := .b false) rfl ⟨by rw [beq_eq_false_iff_ne.2 h], rfl⟩
  refine ⟨fun h1 => no _ rfl (by rintro rfl; exact h1 rfl), fun h1 => ?_⟩
  have hl : l.length = m.length := by omega
  refine loop_ok (ι := {i : Nat // i ≤ l.length ∧ l.take i = m.take i}) (fun i => ⟨[.ints .u8 .old l, .ints .u8 .old m, .any, .any, .any, .i .i64 i.1] ++ List.replicate 20 .any, [], [], [], 0, 0, []⟩) (fun i => l.length - i.1) ⟨0, by simp, by simp⟩ ?_ ?_
  · refine Sub.w [] ?_
    simp (maxSteps := 4000000) only [push_cast, Int.reduceEq, Int.reduceBNe, Int.reduceBEq, Int.reduceAdd, Int.reduceSub, Int.reduceMul, Int.reduceNeg, Int.reduceLT, Int.reduceLE, Int.reduceToNat, Nat.reduceLT, Nat.reduceAdd, Nat.reduceSub, Nat.reduceMul, Nat.reduceEqDiff, Nat.reduceLeDiff, Nat.reduceBEq, reduceIte, reduceCtorEq]
  · rintro ⟨i, hi, hp⟩
    refine evCode_sound Γok _ _ _ ?_
    simp (maxSteps := 4000000) only [push_cast, Int.reduceEq, Int.reduceBNe, Int.reduceBEq, Int.reduceAdd, Int.reduceSub, Int.reduceMul, Int.reduceNeg, Int.reduceLT, Int.reduceLE, Int.reduceToNat, Nat.reduceLT, Nat.reduceAdd, Nat.reduceSub, Nat.reduceMul, Nat.reduceEqDiff, Nat.reduceLeDiff, Nat.reduceBEq, reduceIte, reduceCtorEq]
    refine ⟨fun h2 => ?_, fun h2 => ?_⟩
    · have hi2 : i < l.length := by omega
      refine (region_plan rfl Γok mixed (.pure 0 (.pure 1 (.pure 2 (.pure 3 (.pure 4 (.pure 5 (.pure 6 (.pure 7 (.pure 8 .done))))))))) 26 rfl (by kernel_rfl) ?_)
      simp (maxSteps := 4000000) only [push_cast, Int.reduceEq, Int.reduceBNe, Int.reduceBEq, Int.reduceAdd, Int.reduceSub, Int.reduceMul, Int.reduceNeg, Int.reduceLT, Int.reduceLE, Int.reduceToNat, Nat.reduceLT, Nat.reduceAdd, Nat.reduceSub, Nat.reduceMul, Nat.reduceEqDiff, Nat.reduceLeDiff, Nat.reduceBEq, reduceIte, reduceCtorEq]
      have e1 : l.getD (i : Int).toNat 0 = l[i] := by simp [List.getD, hi2]
      have e2 : m.getD (i : Int).toNat 0 = m[i] := by simp [List.getD, hl ▸ hi2]
      rw [e1, e2]
      refine ⟨by omega, by omega, fun h3 => no _ rfl (by rintro rfl; exact h3 rfl), fun h3 => ⟨⟨i + 1, hi2, ?_⟩, ?_, Sub.w [] ?_⟩⟩
      · rw [List.take_succ_eq_append_getElem hi2, List.take_succ_eq_append_getElem (hl ▸ hi2), hp, h3]
      · simp only; omega
      · simp (maxSteps := 4000000) only [push_cast, Int.reduceEq, Int.reduceBNe, Int.reduceBEq, Int.reduceAdd, Int.reduceSub, Int.reduceMul, Int.reduceNeg, Int.reduceLT, Int.reduceLE, Int.reduceToNat, Nat.reduceLT, Nat.reduceAdd, Nat.reduceSub, Nat.reduceMul, Nat.reduceEqDiff, Nat.reduceLeDiff, Nat.reduceBEq, reduceIte, reduceCtorEq]
        rw [wrap64 (by omega) (by omega)]
    · have hi2 : i = l.length := by omega
      refine Fin.nil rfl (psv := .b true) rfl ⟨?_, rfl⟩
      subst hi2
      rw [List.take_length, hl, List.take_length] at hp
      simp [hp]

theorem num15_c (m : Int) : Contract Tryz.prog 32 nilSS [.i .i64 m] (fun sv post => sv = .i .i64 m ∧ post = nilSS) := by
  refine contract_ev Γok Tryz.func32 rfl rfl [] ?_
  simp (maxSteps := 4000000) only [push_cast, Int.reduceEq, Int.reduceBNe, Int.reduceBEq, Int.reduceAdd, Int.reduceSub, Int.reduceMul, Int.reduceNeg, Int.reduceLT, Int.reduceLE, Int.reduceToNat, Nat.reduceLT, Nat.reduceAdd, Nat.reduceSub, Nat.reduceMul, Nat.reduceEqDiff, Nat.reduceLeDiff, Nat.reduceBEq, reduceIte, reduceCtorEq, Tryz.f32]
  exact Fin.nil rfl (psv := .i .i64 _) ⟨rfl, rfl⟩ ⟨rfl, rfl⟩

theorem newSt_ok (r w : Bool) {m s : Int} (h : mayV m s = 0) : newSt r w m s = ⟨r, w, m, s, [], [], [], 0, false, false, false⟩ := if_pos h
theorem newSt_may (r w : Bool) {m s : Int} (h : mayV m s = 0) : (newSt r w m s).May := by
  obtain ⟨h1, h2, h3, h4⟩ := may_zero' h
  rw [newSt_ok r w h]
  exact ⟨h, by simp; omega, .inr rfl, by simp, by simp, .inl rfl, .inl ⟨rfl, rfl, rfl, rfl⟩⟩
theorem newSt_fits (r w : Bool) (m s : Int) : (newSt r w m s).fits := by
  unfold newSt
  split <;> exact ⟨by simp, by simp, by simp⟩

/-- A reader feeds a stream. -/
theorem reader_feeds (data : List Int) (b : Nat) : Feeds (readerM data b) (fun p => data.drop p.toNat) := by
  refine ⟨fun (p : Int) n ⟨h0, h0'⟩ h1 h2 => ?_⟩
  have hl := readV_len data p n h0 h0' (by omega)
  have e : someV (readerM data b) p n = (p + (readV data p n).length, readV data p n, 0) := by
    unfold someV
    refine (RawM.some.eq_2 (readerM data b) n p 8191).trans ?_
    rw [if_neg (by simp [readerM]), if_neg (by simp [readerM]), if_neg (by simp only [readerM]; omega)]
    rfl
  rw [e]
  refine ⟨rfl, ?_, fun h => ?_⟩
  · show readV data p n ++ data.drop (p + (readV data p n).length).toNat = data.drop p.toNat
    have : (p + (readV data p n).length).toNat = p.toNat + (readV data p n).length := by omega
    rw [this, ← List.drop_drop]
    unfold readV
    rw [List.length_take]
    by_cases hc : n.toNat ≤ (data.drop p.toNat).length
    · rw [Nat.min_eq_left hc]; exact List.take_append_drop _ _
    · rw [Nat.min_eq_right (by omega), List.take_of_length_le (by omega), List.drop_length, List.append_nil]
  · have h' : readV data p n = [] := h
    unfold readV at h'
    rw [List.take_eq_nil_iff] at h'
    rcases h' with h' | h'
    · omega
    · exact h'
theorem new_reads (data : List Int) (b : Nat) (w : Bool) {m s : Int} (h : mayV m s = 0) : Reads (readerM data b) (fun p => data.drop p.toNat) (newSt true w m s) (0 : Int) := by
  have e := newSt_ok true w h
  exact ⟨newSt_may true w h, by rw [e], by rw [e], by rw [e]; simp, by rw [e], by rw [e], by rw [e]; simp, ⟨by simp, by simp⟩⟩

/-- Where the examples lead. -/
def exSt (i : List Int) (en : Bool) : St := ⟨true, false, 3, 4, [], i, [], 1, en, false, false⟩
theorem ex1 (b : Nat) : (newSt true false 3 4).Until (readerM [97, 98, 10, 99, 100] b) (0 : Int) 10 9 = (exSt [99] false, (4 : Int), [97, 98, 10], 0) := by kernel_rfl
theorem ex2 (b : Nat) : (exSt [99] false).Until (readerM [97, 98, 10, 99, 100] b) (4 : Int) 10 1 = (exSt [] false, (4 : Int), [99], 0) := by kernel_rfl
theorem ex3 (b : Nat) : (exSt [] false).Until (readerM [97, 98, 10, 99, 100] b) (4 : Int) 10 9 = (exSt [] true, (5 : Int), [100], 0) := by kernel_rfl
theorem ex4 (b : Nat) : (exSt [] true).Until (readerM [97, 98, 10, 99, 100] b) (5 : Int) 10 9 = (exSt [] true, (5 : Int), [], 111) := by kernel_rfl
end Go.Proofs.YtbbbmoldmoianaaGreat
/- A Counter as a Raw: one that is written, one that is read. -/
namespace Go.Proofs.YtbbbmoldmoianaaGreat
open Go Go.Eng
set_option maxHeartbeats 4000000
set_option linter.unusedSimpArgs false
set_option linter.unusedVariables false
set_option maxRecDepth 100000

theorem nilOK_of {P : Program} {t : TypeId} {name : String} {f : FuncId} (h : methodB P t name f = true) (y : Value) : NilOK P name (.ifc t (.raw y)) := by
  intro E v hv
  simp only [Den] at hv
  obtain ⟨y', rfl, rfl⟩ := hv
  refine ⟨t, _, rfl, fun w => ?_⟩
  unfold methodB at h
  rw [Bool.and_eq_true] at h
  obtain ⟨h1, h2⟩ := h
  split at h1
  · rename_i i hi
    split at h1
    · rename_i m hm
      rw [Bool.and_eq_true] at h1
      obtain ⟨h3, h4⟩ := h1
      split at h4
      · rename_i g hg
        have hp : m.path.toList = [] := by simpa using h3
        rw [show P.types.size + Made.depth = (P.types.size + (Made.depth - 1)) + 1 by unfold Made.depth; omega]
        simp only [Go.nilAhead, Sem.run_bind]
        have h5 : (typeInfo t).run P w = .ok i w := by simp [typeInfo, hi]
        rw [h5]
        simp only [Result.andThen_ok, hm, Sem.run_bind, hp, Go.followBlind, Sem.run_pure, hg]
      · cases h4
    · cases h1
  · cases h1

end Go.Proofs.YtbbbmoldmoianaaGreat
/- Memory that grows. -/
namespace Go.Proofs.YtbbbmoldmoianaaGreat
open Go Go.Eng
set_option maxHeartbeats 4000000
set_option linter.unusedSimpArgs false
set_option linter.unusedVariables false
set_option maxRecDepth 100000

/-- A piece of a slice shows what it is a piece of. -/
theorem shows_cut {p : Option Addr} {c : Nat} {l : List Int} {i n : Nat} (h : i + n ≤ l.length) (hc : l.length ≤ c) : Shows (cutp p c i) n p l i := by
  refine ⟨h, ?_⟩
  unfold cutp
  split
  · left; omega
  · right; rfl

theorem bcloneR_c (p : Option Addr) (c : Nat) (l : List Int) (q : Option Addr) (n cc i : Nat) (hs : Shows q n p l i) (hl : n ≤ 140737488355328) : Contract Tryz.prog 76 ⟨[], [], [], [(0, RowR .u8 p c l)], 1, 1, []⟩ [.raw (.slice q n cc)]
    (fun sv post => sv = .ints .u8 (.tok 1 true) ((l.drop i).take n) ∧ post = ⟨[], [], [1], [(0, RowR .u8 p c l)], 2, 1, []⟩) := by
  refine contract_row 0 rfl fun hc hp => ?_
  have hlen : ((l.drop i).take n).length = n := by have := hs.1; simp; omega
  refine contract_ev Γok Tryz.func76 rfl rfl [] ?_
  simp (maxSteps := 4000000) only [push_cast, Int.reduceEq, Int.reduceBNe, Int.reduceBEq, Int.reduceAdd, Int.reduceSub, Int.reduceMul, Int.reduceNeg, Int.reduceLT, Int.reduceLE, Int.reduceToNat, Nat.reduceLT, Nat.reduceAdd, Nat.reduceSub, Nat.reduceMul, Nat.reduceEqDiff, Nat.reduceLeDiff, Nat.reduceBEq, reduceIte, reduceCtorEq, Tryz.f76]
  refine ⟨fun h => ?_, fun h => ?_⟩
  · have hn : n = 0 := by
      rcases hs.2 with h0 | h0
      · exact h0
      · rw [h] at h0
        cases p with
        | none =>
          have : c = 0 := by
            by_cases hc0 : c = 0
            · exact hc0
            · exact absurd rfl (hp hc0)
          have := hs.1
          omega
        | some a => cases h0
    subst hn
    exact Fin.wt [0, 1] (.ints .u8 (.tok 1 true) []) ⟨[], [], [1], [(0, RowR .u8 p c l)], 2, 1, []⟩ (by simp (maxSteps := 4000000) only [push_cast, Int.reduceEq, Int.reduceBNe, Int.reduceBEq, Int.reduceAdd, Int.reduceSub, Int.reduceMul, Int.reduceNeg, Int.reduceLT, Int.reduceLE, Int.reduceToNat, Nat.reduceLT, Nat.reduceAdd, Nat.reduceSub, Nat.reduceMul, Nat.reduceEqDiff, Nat.reduceLeDiff, Nat.reduceBEq, reduceIte, reduceCtorEq]) ⟨rfl, rfl⟩
  · refine ⟨.u8, (l.drop i).take n, ⟨0, p, c, l, i, by simp, hs, rfl⟩, ?_⟩
    simp (maxSteps := 4000000) only [push_cast, Int.reduceEq, Int.reduceBNe, Int.reduceBEq, Int.reduceAdd, Int.reduceSub, Int.reduceMul, Int.reduceNeg, Int.reduceLT, Int.reduceLE, Int.reduceToNat, Nat.reduceLT, Nat.reduceAdd, Nat.reduceSub, Nat.reduceMul, Nat.reduceEqDiff, Nat.reduceLeDiff, Nat.reduceBEq, reduceIte, reduceCtorEq]
    rw [hlen]
    exact ⟨by omega, Fin.w [0, 2] (.ints .u8 (.tok 1 true) ((l.drop i).take n)) _ (by simp (maxSteps := 4000000) only [push_cast, Int.reduceEq, Int.reduceBNe, Int.reduceBEq, Int.reduceAdd, Int.reduceSub, Int.reduceMul, Int.reduceNeg, Int.reduceLT, Int.reduceLE, Int.reduceToNat, Nat.reduceLT, Nat.reduceAdd, Nat.reduceSub, Nat.reduceMul, Nat.reduceEqDiff, Nat.reduceLeDiff, Nat.reduceBEq, reduceIte, reduceCtorEq]) ⟨rfl, rfl⟩⟩

theorem bcloneRow_c (l : List Int) (hl : l.length ≤ 140737488355328) : Contract Tryz.prog 76 nilSS [.ints .u8 .old l] (fun sv post => ∃ p c, sv = .raw (.slice p l.length c) ∧ post = ⟨[], [], [], [(0, RowR .u8 p c l)], 1, 0, []⟩) :=
  (bclone_c l hl).thaw fun E Z hZ vs => old_args E Z hZ vs

theorem kept2_c (l : List Int) (room : Int) (hl : l.length ≤ 140737488355328) : Contract Tryz.prog 75 nilSS [.ints .u8 .old l, .i .i64 room] (fun sv post => ∃ p c, sv = .agg [.b true, .raw (.slice p l.length c), .i .i64 room, .i .i64 0] ∧ post = ⟨[], [], [], [(0, RowR .u8 p c l)], 1, 0, []⟩) := by
  refine contract_ev Γok Tryz.func75 rfl rfl [] ?_
  simp (maxSteps := 4000000) only [push_cast, Int.reduceEq, Int.reduceBNe, Int.reduceBEq, Int.reduceAdd, Int.reduceSub, Int.reduceMul, Int.reduceNeg, Int.reduceLT, Int.reduceLE, Int.reduceToNat, Nat.reduceLT, Nat.reduceAdd, Nat.reduceSub, Nat.reduceMul, Nat.reduceEqDiff, Nat.reduceLeDiff, Nat.reduceBEq, reduceIte, reduceCtorEq, Tryz.f75]
  refine call_w (bcloneRow_c l hl) [] (by simp (maxSteps := 4000000) only [push_cast, Int.reduceEq, Int.reduceBNe, Int.reduceBEq, Int.reduceAdd, Int.reduceSub, Int.reduceMul, Int.reduceNeg, Int.reduceLT, Int.reduceLE, Int.reduceToNat, Nat.reduceLT, Nat.reduceAdd, Nat.reduceSub, Nat.reduceMul, Nat.reduceEqDiff, Nat.reduceLeDiff, Nat.reduceBEq, reduceIte, reduceCtorEq]) ?_
  rintro sv post ⟨p, c, rfl, rfl⟩
  simp (maxSteps := 4000000) only [push_cast, Int.reduceEq, Int.reduceBNe, Int.reduceBEq, Int.reduceAdd, Int.reduceSub, Int.reduceMul, Int.reduceNeg, Int.reduceLT, Int.reduceLE, Int.reduceToNat, Nat.reduceLT, Nat.reduceAdd, Nat.reduceSub, Nat.reduceMul, Nat.reduceEqDiff, Nat.reduceLeDiff, Nat.reduceBEq, reduceIte, reduceCtorEq]
  exact Fin.w [1] (.agg [.b true, .raw (.slice p l.length c), .i .i64 room, .i .i64 0]) ⟨[], [], [], [(0, RowR .u8 p c l)], 1, 0, []⟩ (by simp (maxSteps := 4000000) only [push_cast, Int.reduceEq, Int.reduceBNe, Int.reduceBEq, Int.reduceAdd, Int.reduceSub, Int.reduceMul, Int.reduceNeg, Int.reduceLT, Int.reduceLE, Int.reduceToNat, Nat.reduceLT, Nat.reduceAdd, Nat.reduceSub, Nat.reduceMul, Nat.reduceEqDiff, Nat.reduceLeDiff, Nat.reduceBEq, reduceIte, reduceCtorEq]) ⟨p, c, rfl, rfl⟩

/-- Memory, of a type, whose row is its own. -/
def storeS (T : TypeId) (p : Option Addr) (c : Nat) (data : List Int) (room at_ : Int) : SS := ⟨[], [(0, T, [.b true, .raw (.slice p data.length c), .i .i64 room, .i .i64 at_])], [], [(1, RowR .u8 p c data)], 2, 1, []⟩
/-- The same as one resource, wherever its row lies. -/
def storeR (T : TypeId) (b : Nat) (data : List Int) (room at_ : Int) : Res := exR fun pc : Option Addr × Nat => (storeS T pc.1 pc.2 data room at_).res b

theorem storeReadR_c (T : TypeId) (p : Option Addr) (c : Nat) (data : List Int) (room at_ n : Int) (h0 : 0 ≤ at_) (h0' : at_ ≤ 1048576) (hd : data.length ≤ 1048576) (h1 : 0 ≤ n) (h2 : n ≤ 1048576) :
    Contract Tryz.prog 206 (storeS T p c data room at_) [.ptr 0 0, .i .i64 n]
    (fun sv post => sv = .tup [.ints .u8 .new (readV data at_ n), .i .i64 0] ∧ post = storeS T p c data room (at_ + (readV data at_ n).length)) := by
  refine contract_row 1 rfl fun hc hp => ?_
  refine contract_ev Γok Tryz.func206 rfl rfl [] ?_
  simp (maxSteps := 4000000) only [push_cast, Int.reduceEq, Int.reduceBNe, Int.reduceBEq, Int.reduceAdd, Int.reduceSub, Int.reduceMul, Int.reduceNeg, Int.reduceLT, Int.reduceLE, Int.reduceToNat, Nat.reduceLT, Nat.reduceAdd, Nat.reduceSub, Nat.reduceMul, Nat.reduceEqDiff, Nat.reduceLeDiff, Nat.reduceBEq, reduceIte, reduceCtorEq, Tryz.f206, storeS]
  refine ⟨fun h3 => by omega, fun h3 => ?_⟩
  refine (region_plan rfl Γok mixed (.pure 0 (.pure 1 (.pure 2 (.pure 3 (.pure 4 (.pure 5 (.pure 6 (.pure 7 (.pure 8 (.pure 9 (.pure 10 .done))))))))))) 57 rfl (by kernel_rfl) ?_)
  simp (maxSteps := 4000000) only [push_cast, Int.reduceEq, Int.reduceBNe, Int.reduceBEq, Int.reduceAdd, Int.reduceSub, Int.reduceMul, Int.reduceNeg, Int.reduceLT, Int.reduceLE, Int.reduceToNat, Nat.reduceLT, Nat.reduceAdd, Nat.reduceSub, Nat.reduceMul, Nat.reduceEqDiff, Nat.reduceLeDiff, Nat.reduceBEq, reduceIte, reduceCtorEq]
  refine (region_plan rfl Γok mixed (.pure 0 (.pure 1 (.pure 2 (.pure 3 (.pure 4 (.pure 5 (.pure 6 (.pure 7 (.pure 8 (.pure 9 (.pure 10 (.pure 11 (.pure 12 (.pure 13 (.pure 14 (.eff (.cons 15 [] (.pure 16 .done) .nil))))))))))))))))) 57 rfl (by kernel_rfl) ?_)
  simp (maxSteps := 4000000) only [push_cast, Int.reduceEq, Int.reduceBNe, Int.reduceBEq, Int.reduceAdd, Int.reduceSub, Int.reduceMul, Int.reduceNeg, Int.reduceLT, Int.reduceLE, Int.reduceToNat, Nat.reduceLT, Nat.reduceAdd, Nat.reduceSub, Nat.reduceMul, Nat.reduceEqDiff, Nat.reduceLeDiff, Nat.reduceBEq, reduceIte, reduceCtorEq]
  have em : 0 ≤ minI at_ data.length ∧ minI at_ data.length ≤ data.length ∧ minI at_ data.length ≤ at_ := by unfold minI; split <;> omega
  rw [wrap64 (n := minI at_ data.length + n) (by omega) (by omega)]
  have e2 : 0 ≤ minI (minI at_ data.length + n) data.length ∧ minI at_ data.length ≤ minI (minI at_ data.length + n) data.length ∧ minI (minI at_ data.length + n) data.length ≤ data.length := by
    generalize minI at_ data.length = u at em ⊢
    unfold minI; split <;> omega
  have e3 : (data.drop (minI at_ data.length).toNat).take ((minI (minI at_ data.length + n) data.length).toNat - (minI at_ data.length).toNat) = readV data at_ n := by
    unfold readV
    by_cases ha : (data.length : Int) < at_
    · have : minI at_ data.length = data.length := by unfold minI; rw [if_pos ha]
      rw [this, List.drop_of_length_le (by simp), List.drop_of_length_le (by omega)]
      simp
    · have : minI at_ data.length = at_ := by unfold minI; rw [if_neg ha]
      rw [this]
      by_cases hc : (data.length : Int) < at_ + n
      · have : minI (at_ + n) data.length = data.length := by unfold minI; rw [if_pos hc]
        rw [this, List.take_of_length_le (by simp), List.take_of_length_le (by simp; omega)]
      · have : minI (at_ + n) data.length = at_ + n := by unfold minI; rw [if_neg hc]
        rw [this]
        congr 1
        omega
  have e4 : (readV data at_ n).length ≤ 1048576 := by unfold readV; simp; omega
  have hsh : Shows (cutp p c (minI at_ data.length).toNat) ((minI (minI at_ data.length + n) data.length).toNat - (minI at_ data.length).toNat) p data (minI at_ data.length).toNat := shows_cut (by omega) hc
  refine ⟨⟨⟨by omega, by omega, by omega⟩, hc⟩, call_w (bcloneR_c p c data _ _ (c - (minI at_ data.length).toNat) _ hsh (by omega)) [1] (by simp (maxSteps := 4000000) only [push_cast, Int.reduceEq, Int.reduceBNe, Int.reduceBEq, Int.reduceAdd, Int.reduceSub, Int.reduceMul, Int.reduceNeg, Int.reduceLT, Int.reduceLE, Int.reduceToNat, Nat.reduceLT, Nat.reduceAdd, Nat.reduceSub, Nat.reduceMul, Nat.reduceEqDiff, Nat.reduceLeDiff, Nat.reduceBEq, reduceIte, reduceCtorEq]) ?_⟩
  rintro sv post ⟨rfl, rfl⟩
  rw [e3]
  simp (maxSteps := 4000000) only [push_cast, Int.reduceEq, Int.reduceBNe, Int.reduceBEq, Int.reduceAdd, Int.reduceSub, Int.reduceMul, Int.reduceNeg, Int.reduceLT, Int.reduceLE, Int.reduceToNat, Nat.reduceLT, Nat.reduceAdd, Nat.reduceSub, Nat.reduceMul, Nat.reduceEqDiff, Nat.reduceLeDiff, Nat.reduceBEq, reduceIte, reduceCtorEq]
  rw [wrap64 (by omega) (by omega)]
  exact Fin.w [0, 1] (.tup [.ints .u8 .new (readV data at_ n), .i .i64 0]) _ (by simp (maxSteps := 4000000) only [push_cast, Int.reduceEq, Int.reduceBNe, Int.reduceBEq, Int.reduceAdd, Int.reduceSub, Int.reduceMul, Int.reduceNeg, Int.reduceLT, Int.reduceLE, Int.reduceToNat, Nat.reduceLT, Nat.reduceAdd, Nat.reduceSub, Nat.reduceMul, Nat.reduceEqDiff, Nat.reduceLeDiff, Nat.reduceBEq, reduceIte, reduceCtorEq, storeS]) ⟨rfl, rfl⟩

/-- What stands in a memory behind a write of m at i. -/
def wrote (data : List Int) (i : Nat) (m : List Int) : List Int := (data ++ List.replicate (i + m.length - data.length) 0).take i ++ m ++ data.drop (i + m.length)
def gW (room : Int) (data : List Int) (at_ : Int) (b : List Int) : (List Int × Int) × Int × Int :=
  if room ≤ at_ then ((data, at_), 0, 31) else ((wrote data at_.toNat (b.take (room - at_).toNat), at_ + (b.take (room - at_).toNat).length), (b.take (room - at_).toNat).length, 0)

theorem storeWriteR_c (T : TypeId) (p : Option Addr) (c : Nat) (data : List Int) (room at_ : Int) (b : List Int) (h0 : 0 ≤ at_) (h1 : at_ ≤ room) (h2 : room ≤ 1048576) (hd : data.length ≤ room) (hb : b.length ≤ 1048576) (hne : b ≠ []) :
    Contract Tryz.prog 208 (storeS T p c data room at_) [.ptr 0 0, .ints .u8 .old b]
    (fun sv post => ∃ p' c', sv = .tup [.i .i64 (gW room data at_ b).2.1, .i .i64 (gW room data at_ b).2.2] ∧ post = storeS T p' c' (gW room data at_ b).1.1 room (gW room data at_ b).1.2) := by
  refine contract_row 1 rfl fun hc hp => ?_
  have hpos := List.length_pos_iff.2 hne
  refine contract_ev Γok Tryz.func208 rfl rfl [] ?_
  simp (maxSteps := 4000000) only [push_cast, Int.reduceEq, Int.reduceBNe, Int.reduceBEq, Int.reduceAdd, Int.reduceSub, Int.reduceMul, Int.reduceNeg, Int.reduceLT, Int.reduceLE, Int.reduceToNat, Nat.reduceLT, Nat.reduceAdd, Nat.reduceSub, Nat.reduceMul, Nat.reduceEqDiff, Nat.reduceLeDiff, Nat.reduceBEq, reduceIte, reduceCtorEq, Tryz.f208, storeS]
  refine ⟨fun h3 => by omega, fun h3 => ⟨fun h4 => by omega, fun h4 => ?_⟩⟩
  refine (region_plan rfl Γok mixed (.pure 0 (.pure 1 (.pure 2 (.pure 3 (.pure 4 (.pure 5 (.pure 6 (.pure 7 (.pure 8 (.pure 9 .done)))))))))) 93 rfl (by kernel_rfl) ?_)
  simp (maxSteps := 4000000) only [push_cast, Int.reduceEq, Int.reduceBNe, Int.reduceBEq, Int.reduceAdd, Int.reduceSub, Int.reduceMul, Int.reduceNeg, Int.reduceLT, Int.reduceLE, Int.reduceToNat, Nat.reduceLT, Nat.reduceAdd, Nat.reduceSub, Nat.reduceMul, Nat.reduceEqDiff, Nat.reduceLeDiff, Nat.reduceBEq, reduceIte, reduceCtorEq]
  unfold gW
  refine ⟨fun h5 => ?_, fun h5 => ?_⟩
  · rw [if_pos h5]
    exact Fin.w [0, 1] (.tup [.i .i64 0, .i .i64 31]) _ (by simp (maxSteps := 4000000) only [push_cast, Int.reduceEq, Int.reduceBNe, Int.reduceBEq, Int.reduceAdd, Int.reduceSub, Int.reduceMul, Int.reduceNeg, Int.reduceLT, Int.reduceLE, Int.reduceToNat, Nat.reduceLT, Nat.reduceAdd, Nat.reduceSub, Nat.reduceMul, Nat.reduceEqDiff, Nat.reduceLeDiff, Nat.reduceBEq, reduceIte, reduceCtorEq, storeS]) ⟨p, c, rfl, rfl⟩
  rw [if_neg (by omega)]
  refine (region_plan rfl Γok mixed (.pure 0 (.pure 1 (.pure 2 (.pure 3 (.pure 4 (.pure 5 (.pure 6 (.pure 7 (.pure 8 (.pure 9 (.pure 10 (.pure 11 (.pure 12 .done))))))))))))) 93 rfl (by kernel_rfl) ?_)
  simp (maxSteps := 4000000) only [push_cast, Int.reduceEq, Int.reduceBNe, Int.reduceBEq, Int.reduceAdd, Int.reduceSub, Int.reduceMul, Int.reduceNeg, Int.reduceLT, Int.reduceLE, Int.reduceToNat, Nat.reduceLT, Nat.reduceAdd, Nat.reduceSub, Nat.reduceMul, Nat.reduceEqDiff, Nat.reduceLeDiff, Nat.reduceBEq, reduceIte, reduceCtorEq]
  rw [wrap64 (n := room - at_) (by omega) (by omega)]
  have hm : minI (b.length : Int) (room - at_) = ((b.take (room - at_).toNat).length : Nat) := by unfold minI; rw [List.length_take]; split <;> omega
  have hm2 : (b.take (room - at_).toNat).length ≤ b.length ∧ ((b.take (room - at_).toNat).length : Int) ≤ room - at_ := by rw [List.length_take]; omega
  have hm3 : b.take ((b.take (room - at_).toNat).length : Int).toNat = b.take (room - at_).toNat := by
    rw [Int.toNat_natCast, List.length_take]
    rcases Nat.le_total (room - at_).toNat b.length with h | h
    · rw [Nat.min_eq_left h]
    · rw [Nat.min_eq_right h, List.take_length, List.take_of_length_le h]
  rw [hm, wrap64 (n := at_ + _) (by omega) (by omega)]
  generalize b.take (room - at_).toNat = m at hm hm2 hm3 ⊢
  refine ⟨fun h6 => ?_, fun h6 => ?_⟩
  · refine (region_plan rfl Γok mixed (.pure 0 (.pure 1 (.pure 2 (.pure 3 (.pure 4 (.pure 5 (.pure 6 (.pure 7 (.pure 8 (.pure 9 (.pure 10 (.pure 11 (.eff (.cons 12 [] (.pure 13 (.pure 14 (.eff (.cons 15 [] .done .nil)))) .nil)))))))))))))) 93 rfl (by kernel_rfl) ?_)
    simp (maxSteps := 4000000) only [push_cast, Int.reduceEq, Int.reduceBNe, Int.reduceBEq, Int.reduceAdd, Int.reduceSub, Int.reduceMul, Int.reduceNeg, Int.reduceLT, Int.reduceLE, Int.reduceToNat, Nat.reduceLT, Nat.reduceAdd, Nat.reduceSub, Nat.reduceMul, Nat.reduceEqDiff, Nat.reduceLeDiff, Nat.reduceBEq, reduceIte, reduceCtorEq]
    rw [wrap64 (n := at_ + m.length - data.length) (by omega) (by omega)]
    refine ⟨1, .u8, data, .i64, .inl rfl, rfl, rfl, by omega, by omega, rfl, fun p' c' => ?_⟩
    simp (maxSteps := 4000000) only [push_cast, Int.reduceEq, Int.reduceBNe, Int.reduceBEq, Int.reduceAdd, Int.reduceSub, Int.reduceMul, Int.reduceNeg, Int.reduceLT, Int.reduceLE, Int.reduceToNat, Nat.reduceLT, Nat.reduceAdd, Nat.reduceSub, Nat.reduceMul, Nat.reduceEqDiff, Nat.reduceLeDiff, Nat.reduceBEq, reduceIte, reduceCtorEq]
    have hz : (at_ + (m.length : Int) - data.length).toNat = at_.toNat + m.length - data.length := by omega
    have hl1 : data.length + (at_.toNat + m.length - data.length) = (data ++ List.replicate (at_.toNat + m.length - data.length) (0 : Int)).length := by simp
    rw [hz, hl1]
    have hl2 : (data ++ List.replicate (at_.toNat + m.length - data.length) (0 : Int)).length = at_.toNat + m.length := by simp; omega
    have hw : wrote data at_.toNat m = (data ++ List.replicate (at_.toNat + m.length - data.length) (0 : Int)).take at_.toNat ++ m ++ (data ++ List.replicate (at_.toNat + m.length - data.length) (0 : Int)).drop (at_.toNat + m.length) := by
      unfold wrote
      congr 1
      rw [List.drop_of_length_le (by omega), List.drop_of_length_le (by omega)]
    rw [hw]
    generalize data ++ List.replicate (at_.toNat + m.length - data.length) (0 : Int) = d1 at hl2 ⊢
    refine code_row 1 rfl fun hc' hp' => ?_
    refine (region_plan rfl Γok mixed (.pure 0 (.pure 1 (.pure 2 (.pure 3 (.pure 4 (.pure 5 (.pure 6 (.pure 7 (.pure 8 (.pure 9 (.pure 10 (.pure 11 (.pure 12 (.pure 13 (.pure 14 (.pure 15 (.eff (.cons 16 [3] (.pure 17 (.pure 18 (.pure 19 (.eff (.cons 20 [] .done .nil))))) .nil)))))))))))))))))) 93 rfl (by kernel_rfl) ?_)
    simp (maxSteps := 4000000) only [push_cast, Int.reduceEq, Int.reduceBNe, Int.reduceBEq, Int.reduceAdd, Int.reduceSub, Int.reduceMul, Int.reduceNeg, Int.reduceLT, Int.reduceLE, Int.reduceToNat, Nat.reduceLT, Nat.reduceAdd, Nat.reduceSub, Nat.reduceMul, Nat.reduceEqDiff, Nat.reduceLeDiff, Nat.reduceBEq, reduceIte, reduceCtorEq]
    rw [hm3]
    refine ⟨⟨⟨by omega, by omega⟩, hc'⟩, ⟨by omega, by omega⟩, 1, .u8, p', c', d1, at_.toNat, m, _, .r, .inl rfl, (shows_cut (by omega) hc').within hc', rfl, rfl, ?_⟩
    have ht : m.take (d1.length - at_.toNat) = m := List.take_of_length_le (by omega)
    simp (maxSteps := 4000000) only [push_cast, Int.reduceEq, Int.reduceBNe, Int.reduceBEq, Int.reduceAdd, Int.reduceSub, Int.reduceMul, Int.reduceNeg, Int.reduceLT, Int.reduceLE, Int.reduceToNat, Nat.reduceLT, Nat.reduceAdd, Nat.reduceSub, Nat.reduceMul, Nat.reduceEqDiff, Nat.reduceLeDiff, Nat.reduceBEq, reduceIte, reduceCtorEq]
    rw [ht, wrap64 (n := at_ + (m.length : Int)) (by omega) (by omega)]
    refine Fin.w [0, 1] (.tup [.i .i64 (m.length : Nat), .i .i64 0]) (storeS T p' c' (d1.take at_.toNat ++ m ++ d1.drop (at_.toNat + m.length)) room (at_ + (m.length : Nat))) ?_ ⟨p', c', rfl, rfl⟩
    simp (maxSteps := 4000000) only [push_cast, Int.reduceEq, Int.reduceBNe, Int.reduceBEq, Int.reduceAdd, Int.reduceSub, Int.reduceMul, Int.reduceNeg, Int.reduceLT, Int.reduceLE, Int.reduceToNat, Nat.reduceLT, Nat.reduceAdd, Nat.reduceSub, Nat.reduceMul, Nat.reduceEqDiff, Nat.reduceLeDiff, Nat.reduceBEq, reduceIte, reduceCtorEq, storeS]
    simp
    omega
  · have hw : wrote data at_.toNat m = data.take at_.toNat ++ m ++ data.drop (at_.toNat + m.length) := by
      unfold wrote
      rw [show at_.toNat + m.length - data.length = 0 by omega, List.replicate_zero, List.append_nil]
    rw [hw]
    refine (region_plan rfl Γok mixed (.pure 0 (.pure 1 (.pure 2 (.pure 3 (.pure 4 (.pure 5 (.pure 6 (.pure 7 (.pure 8 (.pure 9 (.pure 10 (.pure 11 (.pure 12 (.pure 13 (.pure 14 (.pure 15 (.eff (.cons 16 [3] (.pure 17 (.pure 18 (.pure 19 (.eff (.cons 20 [] .done .nil))))) .nil)))))))))))))))))) 93 rfl (by kernel_rfl) ?_)
    simp (maxSteps := 4000000) only [push_cast, Int.reduceEq, Int.reduceBNe, Int.reduceBEq, Int.reduceAdd, Int.reduceSub, Int.reduceMul, Int.reduceNeg, Int.reduceLT, Int.reduceLE, Int.reduceToNat, Nat.reduceLT, Nat.reduceAdd, Nat.reduceSub, Nat.reduceMul, Nat.reduceEqDiff, Nat.reduceLeDiff, Nat.reduceBEq, reduceIte, reduceCtorEq]
    rw [hm3]
    refine ⟨⟨⟨by omega, by omega⟩, hc⟩, ⟨by omega, by omega⟩, 1, .u8, p, c, data, at_.toNat, m, _, .r, .inl rfl, (shows_cut (by omega) hc).within hc, rfl, rfl, ?_⟩
    have ht : m.take (data.length - at_.toNat) = m := List.take_of_length_le (by omega)
    simp (maxSteps := 4000000) only [push_cast, Int.reduceEq, Int.reduceBNe, Int.reduceBEq, Int.reduceAdd, Int.reduceSub, Int.reduceMul, Int.reduceNeg, Int.reduceLT, Int.reduceLE, Int.reduceToNat, Nat.reduceLT, Nat.reduceAdd, Nat.reduceSub, Nat.reduceMul, Nat.reduceEqDiff, Nat.reduceLeDiff, Nat.reduceBEq, reduceIte, reduceCtorEq]
    rw [ht, wrap64 (n := at_ + (m.length : Int)) (by omega) (by omega)]
    refine Fin.w [0, 1] (.tup [.i .i64 (m.length : Nat), .i .i64 0]) (storeS T p c (data.take at_.toNat ++ m ++ data.drop (at_.toNat + m.length)) room (at_ + (m.length : Nat))) ?_ ⟨p, c, rfl, rfl⟩
    simp (maxSteps := 4000000) only [push_cast, Int.reduceEq, Int.reduceBNe, Int.reduceBEq, Int.reduceAdd, Int.reduceSub, Int.reduceMul, Int.reduceNeg, Int.reduceLT, Int.reduceLE, Int.reduceToNat, Nat.reduceLT, Nat.reduceAdd, Nat.reduceSub, Nat.reduceMul, Nat.reduceEqDiff, Nat.reduceLeDiff, Nat.reduceBEq, reduceIte, reduceCtorEq, storeS]
    simp
    omega

/-- A place is sought. -/
def gK (room : Int) (data : List Int) (at_ off w : Int) : (List Int × Int) × Int × Int :=
  if w < 0 ∨ 2 < w then ((data, at_), 0, 1)
  else if off < -(if w = 0 then 0 else if w = 1 then at_ else data.length) ∨ room - (if w = 0 then 0 else if w = 1 then at_ else data.length) < off then ((data, at_), 0, 4)
  else ((data, (if w = 0 then 0 else if w = 1 then at_ else data.length) + off), (if w = 0 then 0 else if w = 1 then at_ else data.length) + off, 0)

theorem storeSeekR_c (T : TypeId) (p : Option Addr) (c : Nat) (data : List Int) (room at_ off w : Int) (h0 : 0 ≤ at_) (h1 : at_ ≤ room) (h2 : room ≤ 1048576) (hd : data.length ≤ room) :
    Contract Tryz.prog 207 (storeS T p c data room at_) [.ptr 0 0, .i .i64 off, .i .i64 w]
    (fun sv post => sv = .tup [.i .i64 (gK room data at_ off w).2.1, .i .i64 (gK room data at_ off w).2.2] ∧ post = storeS T p c data room (gK room data at_ off w).1.2) := by
  refine contract_row 1 rfl fun hc hp => ?_
  refine contract_ev Γok Tryz.func207 rfl rfl [] ?_
  simp (maxSteps := 4000000) only [push_cast, Int.reduceEq, Int.reduceBNe, Int.reduceBEq, Int.reduceAdd, Int.reduceSub, Int.reduceMul, Int.reduceNeg, Int.reduceLT, Int.reduceLE, Int.reduceToNat, Nat.reduceLT, Nat.reduceAdd, Nat.reduceSub, Nat.reduceMul, Nat.reduceEqDiff, Nat.reduceLeDiff, Nat.reduceBEq, reduceIte, reduceCtorEq, Tryz.f207, storeS]
  unfold gK
  refine ⟨fun h3 => ?_, fun h3 => ?_⟩
  · rw [if_pos h3]
    exact Fin.w [0, 1] (.tup [.i .i64 0, .i .i64 1]) _ (by simp (maxSteps := 4000000) only [push_cast, Int.reduceEq, Int.reduceBNe, Int.reduceBEq, Int.reduceAdd, Int.reduceSub, Int.reduceMul, Int.reduceNeg, Int.reduceLT, Int.reduceLE, Int.reduceToNat, Nat.reduceLT, Nat.reduceAdd, Nat.reduceSub, Nat.reduceMul, Nat.reduceEqDiff, Nat.reduceLeDiff, Nat.reduceBEq, reduceIte, reduceCtorEq, storeS]) ⟨rfl, rfl⟩
  rw [if_neg (by omega)]
  have hw : w = 0 ∨ w = 1 ∨ w = 2 := by omega
  rcases hw with rfl | rfl | rfl
  · refine (region_plan rfl Γok mixed (.pure 0 (.pure 1 (.pure 2 (.pure 3 (.pure 4 (.pure 5 (.pure 6 (.pure 7 (.pure 8 (.pure 9 (.pure 10 (.pure 11 (.pure 12 .done))))))))))))) 58 rfl (by kernel_rfl) ?_)
    simp (maxSteps := 4000000) only [push_cast, Int.reduceEq, Int.reduceBNe, Int.reduceBEq, Int.reduceAdd, Int.reduceSub, Int.reduceMul, Int.reduceNeg, Int.reduceLT, Int.reduceLE, Int.reduceToNat, Nat.reduceLT, Nat.reduceAdd, Nat.reduceSub, Nat.reduceMul, Nat.reduceEqDiff, Nat.reduceLeDiff, Nat.reduceBEq, reduceIte, reduceCtorEq, Int.toNat_zero]
    rw [wrap64 (n := room - 0) (by omega) (by omega)]
    refine ⟨fun h4 => ?_, fun h4 => ?_⟩
    · rw [if_pos (by rcases h4 with h4 | h4 <;> omega)]
      exact Fin.w [0, 1] (.tup [.i .i64 0, .i .i64 4]) _ (by simp (maxSteps := 4000000) only [push_cast, Int.reduceEq, Int.reduceBNe, Int.reduceBEq, Int.reduceAdd, Int.reduceSub, Int.reduceMul, Int.reduceNeg, Int.reduceLT, Int.reduceLE, Int.reduceToNat, Nat.reduceLT, Nat.reduceAdd, Nat.reduceSub, Nat.reduceMul, Nat.reduceEqDiff, Nat.reduceLeDiff, Nat.reduceBEq, reduceIte, reduceCtorEq, storeS]) ⟨rfl, rfl⟩
    · rw [if_neg (by omega), wrap64 (n := 0 + off) (by omega) (by omega)]
      exact Fin.w [0, 1] (.tup [.i .i64 (0 + off), .i .i64 0]) _ (by simp (maxSteps := 4000000) only [push_cast, Int.reduceEq, Int.reduceBNe, Int.reduceBEq, Int.reduceAdd, Int.reduceSub, Int.reduceMul, Int.reduceNeg, Int.reduceLT, Int.reduceLE, Int.reduceToNat, Nat.reduceLT, Nat.reduceAdd, Nat.reduceSub, Nat.reduceMul, Nat.reduceEqDiff, Nat.reduceLeDiff, Nat.reduceBEq, reduceIte, reduceCtorEq, storeS]) ⟨rfl, rfl⟩
  · refine (region_plan rfl Γok mixed (.pure 0 (.pure 1 (.pure 2 (.pure 3 (.pure 4 (.pure 5 (.pure 6 (.pure 7 (.pure 8 (.pure 9 (.pure 10 (.pure 11 (.pure 12 .done))))))))))))) 58 rfl (by kernel_rfl) ?_)
    simp (maxSteps := 4000000) only [push_cast, Int.reduceEq, Int.reduceBNe, Int.reduceBEq, Int.reduceAdd, Int.reduceSub, Int.reduceMul, Int.reduceNeg, Int.reduceLT, Int.reduceLE, Int.reduceToNat, Nat.reduceLT, Nat.reduceAdd, Nat.reduceSub, Nat.reduceMul, Nat.reduceEqDiff, Nat.reduceLeDiff, Nat.reduceBEq, reduceIte, reduceCtorEq]
    rw [wrap64 (n := 0 - at_) (by omega) (by omega), wrap64 (n := room - at_) (by omega) (by omega)]
    refine ⟨fun h4 => ?_, fun h4 => ?_⟩
    · rw [if_pos (by rcases h4 with h4 | h4 <;> omega)]
      exact Fin.w [0, 1] (.tup [.i .i64 0, .i .i64 4]) _ (by simp (maxSteps := 4000000) only [push_cast, Int.reduceEq, Int.reduceBNe, Int.reduceBEq, Int.reduceAdd, Int.reduceSub, Int.reduceMul, Int.reduceNeg, Int.reduceLT, Int.reduceLE, Int.reduceToNat, Nat.reduceLT, Nat.reduceAdd, Nat.reduceSub, Nat.reduceMul, Nat.reduceEqDiff, Nat.reduceLeDiff, Nat.reduceBEq, reduceIte, reduceCtorEq, storeS]) ⟨rfl, rfl⟩
    · rw [if_neg (by omega), wrap64 (n := at_ + off) (by omega) (by omega)]
      exact Fin.w [0, 1] (.tup [.i .i64 (at_ + off), .i .i64 0]) _ (by simp (maxSteps := 4000000) only [push_cast, Int.reduceEq, Int.reduceBNe, Int.reduceBEq, Int.reduceAdd, Int.reduceSub, Int.reduceMul, Int.reduceNeg, Int.reduceLT, Int.reduceLE, Int.reduceToNat, Nat.reduceLT, Nat.reduceAdd, Nat.reduceSub, Nat.reduceMul, Nat.reduceEqDiff, Nat.reduceLeDiff, Nat.reduceBEq, reduceIte, reduceCtorEq, storeS]) ⟨rfl, rfl⟩
  · refine (region_plan rfl Γok mixed (.pure 0 (.pure 1 (.pure 2 (.pure 3 (.pure 4 (.pure 5 (.pure 6 (.pure 7 (.pure 8 (.pure 9 (.pure 10 (.pure 11 (.pure 12 .done))))))))))))) 58 rfl (by kernel_rfl) ?_)
    simp (maxSteps := 4000000) only [push_cast, Int.reduceEq, Int.reduceBNe, Int.reduceBEq, Int.reduceAdd, Int.reduceSub, Int.reduceMul, Int.reduceNeg, Int.reduceLT, Int.reduceLE, Int.reduceToNat, Nat.reduceLT, Nat.reduceAdd, Nat.reduceSub, Nat.reduceMul, Nat.reduceEqDiff, Nat.reduceLeDiff, Nat.reduceBEq, reduceIte, reduceCtorEq]
    rw [wrap64 (n := 0 - (data.length : Int)) (by omega) (by omega), wrap64 (n := room - (data.length : Int)) (by omega) (by omega)]
    refine ⟨fun h4 => ?_, fun h4 => ?_⟩
    · rw [if_pos (by rcases h4 with h4 | h4 <;> omega)]
      exact Fin.w [0, 1] (.tup [.i .i64 0, .i .i64 4]) _ (by simp (maxSteps := 4000000) only [push_cast, Int.reduceEq, Int.reduceBNe, Int.reduceBEq, Int.reduceAdd, Int.reduceSub, Int.reduceMul, Int.reduceNeg, Int.reduceLT, Int.reduceLE, Int.reduceToNat, Nat.reduceLT, Nat.reduceAdd, Nat.reduceSub, Nat.reduceMul, Nat.reduceEqDiff, Nat.reduceLeDiff, Nat.reduceBEq, reduceIte, reduceCtorEq, storeS]) ⟨rfl, rfl⟩
    · rw [if_neg (by omega), wrap64 (n := (data.length : Int) + off) (by omega) (by omega)]
      exact Fin.w [0, 1] (.tup [.i .i64 ((data.length : Int) + off), .i .i64 0]) _ (by simp (maxSteps := 4000000) only [push_cast, Int.reduceEq, Int.reduceBNe, Int.reduceBEq, Int.reduceAdd, Int.reduceSub, Int.reduceMul, Int.reduceNeg, Int.reduceLT, Int.reduceLE, Int.reduceToNat, Nat.reduceLT, Nat.reduceAdd, Nat.reduceSub, Nat.reduceMul, Nat.reduceEqDiff, Nat.reduceLeDiff, Nat.reduceBEq, reduceIte, reduceCtorEq, storeS]) ⟨rfl, rfl⟩

/-! Growing. -/
def growS (p : Option Addr) (c : Nat) (data : List Int) (at_ : Int) : SS := storeS 152 p c data 1048576 at_
def growR (b : Nat) (data : List Int) (at_ : Int) : Res := storeR 152 b data 1048576 at_

theorem growRead_c (p : Option Addr) (c : Nat) (data : List Int) (at_ n : Int) (h0 : 0 ≤ at_) (h0' : at_ ≤ 1048576) (hd : data.length ≤ 1048576) (h1 : 0 ≤ n) (h2 : n ≤ 1048576) :
    Contract Tryz.prog 209 (growS p c data at_) [.ptr 0 0, .i .i64 n]
    (fun sv post => sv = .tup [.ints .u8 .new (readV data at_ n), .i .i64 0] ∧ post = growS p c data (at_ + (readV data at_ n).length)) := by
  refine contract_ev Γok Tryz.func209 rfl rfl [] ?_
  simp (maxSteps := 4000000) only [push_cast, Int.reduceEq, Int.reduceBNe, Int.reduceBEq, Int.reduceAdd, Int.reduceSub, Int.reduceMul, Int.reduceNeg, Int.reduceLT, Int.reduceLE, Int.reduceToNat, Nat.reduceLT, Nat.reduceAdd, Nat.reduceSub, Nat.reduceMul, Nat.reduceEqDiff, Nat.reduceLeDiff, Nat.reduceBEq, reduceIte, reduceCtorEq, Tryz.f209, growS, storeS]
  refine call_w (storeReadR_c 152 p c data 1048576 at_ n h0 h0' hd h1 h2) [0, 1] (by simp (maxSteps := 4000000) only [push_cast, Int.reduceEq, Int.reduceBNe, Int.reduceBEq, Int.reduceAdd, Int.reduceSub, Int.reduceMul, Int.reduceNeg, Int.reduceLT, Int.reduceLE, Int.reduceToNat, Nat.reduceLT, Nat.reduceAdd, Nat.reduceSub, Nat.reduceMul, Nat.reduceEqDiff, Nat.reduceLeDiff, Nat.reduceBEq, reduceIte, reduceCtorEq, storeS]) ?_
  rintro sv post ⟨rfl, rfl⟩
  simp (maxSteps := 4000000) only [push_cast, Int.reduceEq, Int.reduceBNe, Int.reduceBEq, Int.reduceAdd, Int.reduceSub, Int.reduceMul, Int.reduceNeg, Int.reduceLT, Int.reduceLE, Int.reduceToNat, Nat.reduceLT, Nat.reduceAdd, Nat.reduceSub, Nat.reduceMul, Nat.reduceEqDiff, Nat.reduceLeDiff, Nat.reduceBEq, reduceIte, reduceCtorEq, storeS]
  exact Fin.w [0, 2] (.tup [.ints .u8 .new (readV data at_ n), .i .i64 0]) _ (by simp (maxSteps := 4000000) only [push_cast, Int.reduceEq, Int.reduceBNe, Int.reduceBEq, Int.reduceAdd, Int.reduceSub, Int.reduceMul, Int.reduceNeg, Int.reduceLT, Int.reduceLE, Int.reduceToNat, Nat.reduceLT, Nat.reduceAdd, Nat.reduceSub, Nat.reduceMul, Nat.reduceEqDiff, Nat.reduceLeDiff, Nat.reduceBEq, reduceIte, reduceCtorEq, growS, storeS]) ⟨rfl, rfl⟩

theorem growWrite_c (p : Option Addr) (c : Nat) (data : List Int) (at_ : Int) (b : List Int) (h0 : 0 ≤ at_) (h1 : at_ ≤ 1048576) (hd : data.length ≤ 1048576) (hb : b.length ≤ 1048576) (hne : b ≠ []) :
    Contract Tryz.prog 211 (growS p c data at_) [.ptr 0 0, .ints .u8 .old b]
    (fun sv post => ∃ p' c', sv = .tup [.i .i64 (gW 1048576 data at_ b).2.1, .i .i64 (gW 1048576 data at_ b).2.2] ∧ post = growS p' c' (gW 1048576 data at_ b).1.1 (gW 1048576 data at_ b).1.2) := by
  refine contract_ev Γok Tryz.func211 rfl rfl [] ?_
  simp (maxSteps := 4000000) only [push_cast, Int.reduceEq, Int.reduceBNe, Int.reduceBEq, Int.reduceAdd, Int.reduceSub, Int.reduceMul, Int.reduceNeg, Int.reduceLT, Int.reduceLE, Int.reduceToNat, Nat.reduceLT, Nat.reduceAdd, Nat.reduceSub, Nat.reduceMul, Nat.reduceEqDiff, Nat.reduceLeDiff, Nat.reduceBEq, reduceIte, reduceCtorEq, Tryz.f211, growS, storeS]
  refine call_w (storeWriteR_c 152 p c data 1048576 at_ b h0 h1 (by omega) (by omega) hb hne) [0, 1] (by simp (maxSteps := 4000000) only [push_cast, Int.reduceEq, Int.reduceBNe, Int.reduceBEq, Int.reduceAdd, Int.reduceSub, Int.reduceMul, Int.reduceNeg, Int.reduceLT, Int.reduceLE, Int.reduceToNat, Nat.reduceLT, Nat.reduceAdd, Nat.reduceSub, Nat.reduceMul, Nat.reduceEqDiff, Nat.reduceLeDiff, Nat.reduceBEq, reduceIte, reduceCtorEq, storeS]) ?_
  rintro sv post ⟨p', c', rfl, rfl⟩
  simp (maxSteps := 4000000) only [push_cast, Int.reduceEq, Int.reduceBNe, Int.reduceBEq, Int.reduceAdd, Int.reduceSub, Int.reduceMul, Int.reduceNeg, Int.reduceLT, Int.reduceLE, Int.reduceToNat, Nat.reduceLT, Nat.reduceAdd, Nat.reduceSub, Nat.reduceMul, Nat.reduceEqDiff, Nat.reduceLeDiff, Nat.reduceBEq, reduceIte, reduceCtorEq, storeS]
  exact Fin.w [0, 2] (.tup [.i .i64 (gW 1048576 data at_ b).2.1, .i .i64 (gW 1048576 data at_ b).2.2]) (growS p' c' (gW 1048576 data at_ b).1.1 (gW 1048576 data at_ b).1.2) (by simp (maxSteps := 4000000) only [push_cast, Int.reduceEq, Int.reduceBNe, Int.reduceBEq, Int.reduceAdd, Int.reduceSub, Int.reduceMul, Int.reduceNeg, Int.reduceLT, Int.reduceLE, Int.reduceToNat, Nat.reduceLT, Nat.reduceAdd, Nat.reduceSub, Nat.reduceMul, Nat.reduceEqDiff, Nat.reduceLeDiff, Nat.reduceBEq, reduceIte, reduceCtorEq, growS, storeS]) ⟨p', c', rfl, rfl⟩

theorem growSeek_c (p : Option Addr) (c : Nat) (data : List Int) (at_ off w : Int) (h0 : 0 ≤ at_) (h1 : at_ ≤ 1048576) (hd : data.length ≤ 1048576) :
    Contract Tryz.prog 210 (growS p c data at_) [.ptr 0 0, .i .i64 off, .i .i64 w]
    (fun sv post => sv = .tup [.i .i64 (gK 1048576 data at_ off w).2.1, .i .i64 (gK 1048576 data at_ off w).2.2] ∧ post = growS p c data (gK 1048576 data at_ off w).1.2) := by
  refine contract_ev Γok Tryz.func210 rfl rfl [] ?_
  simp (maxSteps := 4000000) only [push_cast, Int.reduceEq, Int.reduceBNe, Int.reduceBEq, Int.reduceAdd, Int.reduceSub, Int.reduceMul, Int.reduceNeg, Int.reduceLT, Int.reduceLE, Int.reduceToNat, Nat.reduceLT, Nat.reduceAdd, Nat.reduceSub, Nat.reduceMul, Nat.reduceEqDiff, Nat.reduceLeDiff, Nat.reduceBEq, reduceIte, reduceCtorEq, Tryz.f210, growS, storeS]
  refine call_w (storeSeekR_c 152 p c data 1048576 at_ off w h0 h1 (by omega) (by omega)) [0, 1] (by simp (maxSteps := 4000000) only [push_cast, Int.reduceEq, Int.reduceBNe, Int.reduceBEq, Int.reduceAdd, Int.reduceSub, Int.reduceMul, Int.reduceNeg, Int.reduceLT, Int.reduceLE, Int.reduceToNat, Nat.reduceLT, Nat.reduceAdd, Nat.reduceSub, Nat.reduceMul, Nat.reduceEqDiff, Nat.reduceLeDiff, Nat.reduceBEq, reduceIte, reduceCtorEq, storeS]) ?_
  rintro sv post ⟨rfl, rfl⟩
  simp (maxSteps := 4000000) only [push_cast, Int.reduceEq, Int.reduceBNe, Int.reduceBEq, Int.reduceAdd, Int.reduceSub, Int.reduceMul, Int.reduceNeg, Int.reduceLT, Int.reduceLE, Int.reduceToNat, Nat.reduceLT, Nat.reduceAdd, Nat.reduceSub, Nat.reduceMul, Nat.reduceEqDiff, Nat.reduceLeDiff, Nat.reduceBEq, reduceIte, reduceCtorEq, storeS]
  exact Fin.w [0, 2] (.tup [.i .i64 (gK 1048576 data at_ off w).2.1, .i .i64 (gK 1048576 data at_ off w).2.2]) (growS p c data (gK 1048576 data at_ off w).1.2) (by simp (maxSteps := 4000000) only [push_cast, Int.reduceEq, Int.reduceBNe, Int.reduceBEq, Int.reduceAdd, Int.reduceSub, Int.reduceMul, Int.reduceNeg, Int.reduceLT, Int.reduceLE, Int.reduceToNat, Nat.reduceLT, Nat.reduceAdd, Nat.reduceSub, Nat.reduceMul, Nat.reduceEqDiff, Nat.reduceLeDiff, Nat.reduceBEq, reduceIte, reduceCtorEq, growS, storeS]) ⟨rfl, rfl⟩

theorem growBytes0_c (p : Option Addr) (c : Nat) (data : List Int) (at_ : Int) (hd : data.length ≤ 1048576) :
    Contract Tryz.prog 55 (growS p c data at_) [.ptr 0 0]
    (fun sv post => sv = .ints .u8 .new data ∧ post = growS p c data at_) := by
  refine contract_row 1 rfl fun hc hp => ?_
  refine contract_ev Γok Tryz.func55 rfl rfl [] ?_
  simp (maxSteps := 4000000) only [push_cast, Int.reduceEq, Int.reduceBNe, Int.reduceBEq, Int.reduceAdd, Int.reduceSub, Int.reduceMul, Int.reduceNeg, Int.reduceLT, Int.reduceLE, Int.reduceToNat, Nat.reduceLT, Nat.reduceAdd, Nat.reduceSub, Nat.reduceMul, Nat.reduceEqDiff, Nat.reduceLeDiff, Nat.reduceBEq, reduceIte, reduceCtorEq, Tryz.f55, growS, storeS]
  refine call_w (bcloneR_c p c data p data.length c 0 ⟨by omega, .inr (by cases p <;> simp [Addr.add])⟩ (by omega)) [1] (by simp (maxSteps := 4000000) only [push_cast, Int.reduceEq, Int.reduceBNe, Int.reduceBEq, Int.reduceAdd, Int.reduceSub, Int.reduceMul, Int.reduceNeg, Int.reduceLT, Int.reduceLE, Int.reduceToNat, Nat.reduceLT, Nat.reduceAdd, Nat.reduceSub, Nat.reduceMul, Nat.reduceEqDiff, Nat.reduceLeDiff, Nat.reduceBEq, reduceIte, reduceCtorEq]) ?_
  rintro sv post ⟨rfl, rfl⟩
  have e : (data.drop 0).take data.length = data := by simp
  rw [e]
  simp (maxSteps := 4000000) only [push_cast, Int.reduceEq, Int.reduceBNe, Int.reduceBEq, Int.reduceAdd, Int.reduceSub, Int.reduceMul, Int.reduceNeg, Int.reduceLT, Int.reduceLE, Int.reduceToNat, Nat.reduceLT, Nat.reduceAdd, Nat.reduceSub, Nat.reduceMul, Nat.reduceEqDiff, Nat.reduceLeDiff, Nat.reduceBEq, reduceIte, reduceCtorEq]
  exact Fin.w [0, 1] (.ints .u8 .new data) _ (by simp (maxSteps := 4000000) only [push_cast, Int.reduceEq, Int.reduceBNe, Int.reduceBEq, Int.reduceAdd, Int.reduceSub, Int.reduceMul, Int.reduceNeg, Int.reduceLT, Int.reduceLE, Int.reduceToNat, Nat.reduceLT, Nat.reduceAdd, Nat.reduceSub, Nat.reduceMul, Nat.reduceEqDiff, Nat.reduceLeDiff, Nat.reduceBEq, reduceIte, reduceCtorEq, growS, storeS]) ⟨rfl, rfl⟩
theorem growBytes_c (b : Nat) (data : List Int) (at_ : Int) (hd : data.length ≤ 1048576) : Contract Tryz.prog 55 (preR (growR b data at_)) [.raw (.pointer (some ⟨b, 0, none⟩))]
    (fun sv post => sv = .ints .u8 .new data ∧ post = preR (growR b data at_)) := by
  refine Contract.ex fun pc => Contract.post (contract_res b (R := fun sv post => sv = .ints .u8 .new data ∧ post = preR ((growS pc.1 pc.2 data at_).res b)) (by simp [growS, storeS]) (by simp [growS, storeS]) (growBytes0_c pc.1 pc.2 data at_ hd) (by simp [NNL]) ?_) ?_
  · rintro sv post ⟨rfl, rfl⟩
    exact ⟨growS pc.1 pc.2 data at_, [0, 1], _, by simp (maxSteps := 4000000) only [push_cast, Int.reduceEq, Int.reduceBNe, Int.reduceBEq, Int.reduceAdd, Int.reduceSub, Int.reduceMul, Int.reduceNeg, Int.reduceLT, Int.reduceLE, Int.reduceToNat, Nat.reduceLT, Nat.reduceAdd, Nat.reduceSub, Nat.reduceMul, Nat.reduceEqDiff, Nat.reduceLeDiff, Nat.reduceBEq, reduceIte, reduceCtorEq, growS, storeS], rfl, (by simp (maxSteps := 4000000) only [push_cast, Int.reduceEq, Int.reduceBNe, Int.reduceBEq, Int.reduceAdd, Int.reduceSub, Int.reduceMul, Int.reduceNeg, Int.reduceLT, Int.reduceLE, Int.reduceToNat, Nat.reduceLT, Nat.reduceAdd, Nat.reduceSub, Nat.reduceMul, Nat.reduceEqDiff, Nat.reduceLeDiff, Nat.reduceBEq, reduceIte, reduceCtorEq] : W false (fun n => n) (.ints .u8 .new data) _), by simp [NN, NNT], rfl, rfl⟩
  · rintro sv post ⟨rfl, rfl⟩
    exact ⟨_, SSLe.pre (f := fun pc : Option Addr × Nat => (storeS 152 pc.1 pc.2 data 1048576 at_).res b) pc, rfl, rfl⟩

theorem growReadM : MethodIs Tryz.prog 51 "Read" 209 := methodIs_of (by kernel_rfl)
theorem growWriteM : MethodIs Tryz.prog 51 "Write" 211 := methodIs_of (by kernel_rfl)
theorem growSeekM : MethodIs Tryz.prog 51 "Seek" 210 := methodIs_of (by kernel_rfl)
def growM (b : Nat) : RawM where
  σ := List Int × Int
  t := 51
  y := .pointer (some ⟨b, 0, none⟩)
  res s := growR b s.1 s.2
  ok s := 0 ≤ s.2 ∧ s.2 ≤ 1048576 ∧ s.1.length ≤ 1048576
  rd s n := ((s.1, s.2 + (readV s.1 s.2 n).length), readV s.1 s.2 n, 0)
  wr s l := gW 1048576 s.1 s.2 l
  sk s o w := gK 1048576 s.1 s.2 o w

theorem wrote_len (data : List Int) (i : Nat) (m : List Int) : (wrote data i m).length = max data.length (i + m.length) := by
  unfold wrote
  simp only [List.length_append, List.length_take, List.length_replicate, List.length_drop]
  omega
theorem growM_rd (b : Nat) : (growM b).Rd := by
  refine ⟨fun (s : List Int × Int) n ⟨h0, h0', hd⟩ h1 h2 => ?_, fun (s : List Int × Int) n ⟨h0, h0', hd⟩ h1 h2 => ?_⟩
  · simp only [growM]
    refine ⟨by omega, ?_, hd⟩
    unfold readV
    rw [List.length_take, List.length_drop]
    omega
  · refine InvC.ex fun pc => InvC.post (R := fun sv post => sv = .tup [.ints .u8 .old (readV s.1 s.2 n), .i .i64 0] ∧ post = preR ((growS pc.1 pc.2 s.1 (s.2 + (readV s.1 s.2 n).length)).res b)) (invC_of growReadM (contract_res b (by simp [growS, storeS]) (by simp [growS, storeS]) (growRead_c pc.1 pc.2 s.1 s.2 n h0 h0' hd (by omega) h2) (by simp [NNL, NN]) ?_)) ?_
    · rintro sv post ⟨rfl, rfl⟩
      exact ⟨growS pc.1 pc.2 s.1 (s.2 + (readV s.1 s.2 n).length), [0, 1], _, by simp (maxSteps := 4000000) only [push_cast, Int.reduceEq, Int.reduceBNe, Int.reduceBEq, Int.reduceAdd, Int.reduceSub, Int.reduceMul, Int.reduceNeg, Int.reduceLT, Int.reduceLE, Int.reduceToNat, Nat.reduceLT, Nat.reduceAdd, Nat.reduceSub, Nat.reduceMul, Nat.reduceEqDiff, Nat.reduceLeDiff, Nat.reduceBEq, reduceIte, reduceCtorEq, growS, storeS], rfl, (by simp (maxSteps := 4000000) only [push_cast, Int.reduceEq, Int.reduceBNe, Int.reduceBEq, Int.reduceAdd, Int.reduceSub, Int.reduceMul, Int.reduceNeg, Int.reduceLT, Int.reduceLE, Int.reduceToNat, Nat.reduceLT, Nat.reduceAdd, Nat.reduceSub, Nat.reduceMul, Nat.reduceEqDiff, Nat.reduceLeDiff, Nat.reduceBEq, reduceIte, reduceCtorEq] : W false (fun n => n) (.tup [.ints .u8 .old (readV s.1 s.2 n), .i .i64 0]) _), by simp [NN, NNL, NNT], rfl, rfl⟩
    · rintro sv post ⟨rfl, rfl⟩
      exact ⟨_, SSLe.pre (f := fun pc : Option Addr × Nat => (storeS 152 pc.1 pc.2 s.1 1048576 (s.2 + (readV s.1 s.2 n).length)).res b) pc, rfl, rfl⟩
theorem growM_wr (b : Nat) : (growM b).Wr := by
  refine ⟨?_, fun (s : List Int × Int) l ⟨h0, h0', hd⟩ h1 h2 h3 => ⟨?_, ?_⟩, fun (s : List Int × Int) l ⟨h0, h0', hd⟩ h1 h2 h3 => ?_⟩
  · exact nilOK_of (f := 211) (by kernel_rfl) _
  · simp only [growM]
    unfold gW
    split
    · exact ⟨h0, h0', hd⟩
    · dsimp only
      refine ⟨by omega, by rw [List.length_take]; omega, ?_⟩
      rw [wrote_len, List.length_take]
      omega
  · exact Nat.le_add_right _ _
  · refine InvC.ex fun pc => InvC.post (R := fun sv post => ∃ p' c', sv = .tup [.i .i64 (gW 1048576 s.1 s.2 l).2.1, .i .i64 (gW 1048576 s.1 s.2 l).2.2] ∧ post = preR ((growS p' c' (gW 1048576 s.1 s.2 l).1.1 (gW 1048576 s.1 s.2 l).1.2).res b)) (invC_of growWriteM (contract_res b (by simp [growS, storeS]) (by simp [growS, storeS]) (growWrite_c pc.1 pc.2 s.1 s.2 l h0 h0' hd h2 h1) (by simp [NNL, NN, NNT]) ?_)) ?_
    · rintro sv post ⟨p', c', rfl, rfl⟩
      exact ⟨growS p' c' (gW 1048576 s.1 s.2 l).1.1 (gW 1048576 s.1 s.2 l).1.2, [0, 1], _, by simp (maxSteps := 4000000) only [push_cast, Int.reduceEq, Int.reduceBNe, Int.reduceBEq, Int.reduceAdd, Int.reduceSub, Int.reduceMul, Int.reduceNeg, Int.reduceLT, Int.reduceLE, Int.reduceToNat, Nat.reduceLT, Nat.reduceAdd, Nat.reduceSub, Nat.reduceMul, Nat.reduceEqDiff, Nat.reduceLeDiff, Nat.reduceBEq, reduceIte, reduceCtorEq, growS, storeS], rfl, (by simp (maxSteps := 4000000) only [push_cast, Int.reduceEq, Int.reduceBNe, Int.reduceBEq, Int.reduceAdd, Int.reduceSub, Int.reduceMul, Int.reduceNeg, Int.reduceLT, Int.reduceLE, Int.reduceToNat, Nat.reduceLT, Nat.reduceAdd, Nat.reduceSub, Nat.reduceMul, Nat.reduceEqDiff, Nat.reduceLeDiff, Nat.reduceBEq, reduceIte, reduceCtorEq] : W false (fun n => n) (.tup [.i .i64 (gW 1048576 s.1 s.2 l).2.1, .i .i64 (gW 1048576 s.1 s.2 l).2.2]) _), by simp [NN, NNL, NNT], p', c', rfl, rfl⟩
    · rintro sv post ⟨p', c', rfl, rfl⟩
      exact ⟨_, SSLe.pre (f := fun pc : Option Addr × Nat => (storeS 152 pc.1 pc.2 (gW 1048576 s.1 s.2 l).1.1 1048576 (gW 1048576 s.1 s.2 l).1.2).res b) (p', c'), rfl, rfl⟩
theorem gK_ok {data : List Int} {at_ o w : Int} (h0 : 0 ≤ at_) (h1 : at_ ≤ 1048576) (hd : data.length ≤ 1048576) : (gK 1048576 data at_ o w).1.1 = data ∧ 0 ≤ (gK 1048576 data at_ o w).1.2 ∧ (gK 1048576 data at_ o w).1.2 ≤ 1048576 := by
  unfold gK
  split
  · exact ⟨rfl, h0, h1⟩
  · generalize (if w = 0 then (0 : Int) else if w = 1 then at_ else data.length) = base
    split
    · exact ⟨rfl, h0, h1⟩
    · exact ⟨rfl, by dsimp only; omega, by dsimp only; omega⟩
theorem growM_sk (b : Nat) : (growM b).Sk := by
  refine ⟨fun (s : List Int × Int) o w ⟨h0, h0', hd⟩ => ?_, fun (s : List Int × Int) o w ⟨h0, h0', hd⟩ => ?_⟩
  · obtain ⟨e1, e2, e3⟩ := gK_ok (o := o) (w := w) h0 h0' hd
    exact ⟨e2, e3, by show (gK 1048576 s.1 s.2 o w).1.1.length ≤ _; rw [e1]; exact hd⟩
  · obtain ⟨e1, e2, e3⟩ := gK_ok (o := o) (w := w) h0 h0' hd
    refine InvC.ex fun pc => InvC.post (R := fun sv post => sv = .tup [.i .i64 (gK 1048576 s.1 s.2 o w).2.1, .i .i64 (gK 1048576 s.1 s.2 o w).2.2] ∧ post = preR ((growS pc.1 pc.2 s.1 (gK 1048576 s.1 s.2 o w).1.2).res b)) (invC_of growSeekM (contract_res b (by simp [growS, storeS]) (by simp [growS, storeS]) (growSeek_c pc.1 pc.2 s.1 s.2 o w h0 h0' hd) (by simp [NNL, NN]) ?_)) ?_
    · rintro sv post ⟨rfl, rfl⟩
      exact ⟨growS pc.1 pc.2 s.1 (gK 1048576 s.1 s.2 o w).1.2, [0, 1], _, by simp (maxSteps := 4000000) only [push_cast, Int.reduceEq, Int.reduceBNe, Int.reduceBEq, Int.reduceAdd, Int.reduceSub, Int.reduceMul, Int.reduceNeg, Int.reduceLT, Int.reduceLE, Int.reduceToNat, Nat.reduceLT, Nat.reduceAdd, Nat.reduceSub, Nat.reduceMul, Nat.reduceEqDiff, Nat.reduceLeDiff, Nat.reduceBEq, reduceIte, reduceCtorEq, growS, storeS], rfl, (by simp (maxSteps := 4000000) only [push_cast, Int.reduceEq, Int.reduceBNe, Int.reduceBEq, Int.reduceAdd, Int.reduceSub, Int.reduceMul, Int.reduceNeg, Int.reduceLT, Int.reduceLE, Int.reduceToNat, Nat.reduceLT, Nat.reduceAdd, Nat.reduceSub, Nat.reduceMul, Nat.reduceEqDiff, Nat.reduceLeDiff, Nat.reduceBEq, reduceIte, reduceCtorEq] : W false (fun n => n) (.tup [.i .i64 (gK 1048576 s.1 s.2 o w).2.1, .i .i64 (gK 1048576 s.1 s.2 o w).2.2]) _), by simp [NN, NNL, NNT], rfl, rfl⟩
    · rintro sv post ⟨rfl, rfl⟩
      refine ⟨_, SSLe.pre (f := fun pc : Option Addr × Nat => (storeS 152 pc.1 pc.2 s.1 1048576 (gK 1048576 s.1 s.2 o w).1.2).res b) pc, rfl, ?_⟩
      show preR _ = preR (growR b (gK 1048576 s.1 s.2 o w).1.1 (gK 1048576 s.1 s.2 o w).1.2)
      rw [e1]
      rfl

/-- New memory that grows, as a resource at some block. -/
def isGrow (l : List Int) (sv : SV) (post : SS) : Prop := ∃ b, sv = .tup [.raw (.pointer (some ⟨b, 0, none⟩)), .i .i64 0] ∧ post = ⟨[], [], [], [(2, growR b l 0)], 3, 0, []⟩
theorem newGrow_c (l : List Int) (hl : l.length ≤ 1048576) : Contract Tryz.prog 43 nilSS [.ints .u8 .old l] (isGrow l) := by
  refine Contract.post (contract_new (R' := fun sv post => ∃ p c, sv = .tup [.ptr 0 0, .i .i64 0] ∧ post = { growS p c l 0 with k := 0 }) (R := fun sv post => ∃ b p c, sv = .tup [.raw (.pointer (some ⟨b, 0, none⟩)), .i .i64 0] ∧ post = ⟨[], [], [], [(2, (growS p c l 0).res b)], 3, 0, []⟩) ?_ ?_) ?_
  · refine contract_ev Γok Tryz.func43 rfl rfl [] ?_
    simp (maxSteps := 4000000) only [push_cast, Int.reduceEq, Int.reduceBNe, Int.reduceBEq, Int.reduceAdd, Int.reduceSub, Int.reduceMul, Int.reduceNeg, Int.reduceLT, Int.reduceLE, Int.reduceToNat, Nat.reduceLT, Nat.reduceAdd, Nat.reduceSub, Nat.reduceMul, Nat.reduceEqDiff, Nat.reduceLeDiff, Nat.reduceBEq, reduceIte, reduceCtorEq, Tryz.f43]
    refine ⟨fun h => by omega, fun h => ?_⟩
    refine call_w (kept2_c l 1048576 (by omega)) [] (by simp (maxSteps := 4000000) only [push_cast, Int.reduceEq, Int.reduceBNe, Int.reduceBEq, Int.reduceAdd, Int.reduceSub, Int.reduceMul, Int.reduceNeg, Int.reduceLT, Int.reduceLE, Int.reduceToNat, Nat.reduceLT, Nat.reduceAdd, Nat.reduceSub, Nat.reduceMul, Nat.reduceEqDiff, Nat.reduceLeDiff, Nat.reduceBEq, reduceIte, reduceCtorEq]) ?_
    rintro sv post ⟨p, c, rfl, rfl⟩
    simp (maxSteps := 4000000) only [push_cast, Int.reduceEq, Int.reduceBNe, Int.reduceBEq, Int.reduceAdd, Int.reduceSub, Int.reduceMul, Int.reduceNeg, Int.reduceLT, Int.reduceLE, Int.reduceToNat, Nat.reduceLT, Nat.reduceAdd, Nat.reduceSub, Nat.reduceMul, Nat.reduceEqDiff, Nat.reduceLeDiff, Nat.reduceBEq, reduceIte, reduceCtorEq]
    exact Fin.w [1, 0] (.tup [.ptr 0 0, .i .i64 0]) { growS p c l 0 with k := 0 } (by simp (maxSteps := 4000000) only [push_cast, Int.reduceEq, Int.reduceBNe, Int.reduceBEq, Int.reduceAdd, Int.reduceSub, Int.reduceMul, Int.reduceNeg, Int.reduceLT, Int.reduceLE, Int.reduceToNat, Nat.reduceLT, Nat.reduceAdd, Nat.reduceSub, Nat.reduceMul, Nat.reduceEqDiff, Nat.reduceLeDiff, Nat.reduceBEq, reduceIte, reduceCtorEq, growS, storeS]) ⟨p, c, rfl, rfl⟩
  · rintro sv post ⟨p, c, rfl, rfl⟩
    refine ⟨growS p c l 0, [0, 1], 152, _, by simp (maxSteps := 4000000) only [push_cast, Int.reduceEq, Int.reduceBNe, Int.reduceBEq, Int.reduceAdd, Int.reduceSub, Int.reduceMul, Int.reduceNeg, Int.reduceLT, Int.reduceLE, Int.reduceToNat, Nat.reduceLT, Nat.reduceAdd, Nat.reduceSub, Nat.reduceMul, Nat.reduceEqDiff, Nat.reduceLeDiff, Nat.reduceBEq, reduceIte, reduceCtorEq, growS, storeS], rfl, fun b => ⟨b, p, c, ?_, ?_⟩⟩
    · simp (maxSteps := 4000000) only [push_cast, Int.reduceEq, Int.reduceBNe, Int.reduceBEq, Int.reduceAdd, Int.reduceSub, Int.reduceMul, Int.reduceNeg, Int.reduceLT, Int.reduceLE, Int.reduceToNat, Nat.reduceLT, Nat.reduceAdd, Nat.reduceSub, Nat.reduceMul, Nat.reduceEqDiff, Nat.reduceLeDiff, Nat.reduceBEq, reduceIte, reduceCtorEq, growS, storeS]
    · simp (maxSteps := 4000000) only [push_cast, Int.reduceEq, Int.reduceBNe, Int.reduceBEq, Int.reduceAdd, Int.reduceSub, Int.reduceMul, Int.reduceNeg, Int.reduceLT, Int.reduceLE, Int.reduceToNat, Nat.reduceLT, Nat.reduceAdd, Nat.reduceSub, Nat.reduceMul, Nat.reduceEqDiff, Nat.reduceLeDiff, Nat.reduceBEq, reduceIte, reduceCtorEq, growS, storeS]
  · rintro sv post ⟨b, p, c, rfl, rfl⟩
    refine ⟨_, SSLe.ex (f := fun pc : Option Addr × Nat => (storeS 152 pc.1 pc.2 l 1048576 0).res b) 2 (p, c) (by simp [growS]), b, rfl, rfl⟩
theorem newGrowLong_c (l : List Int) (hl : 1048576 < l.length) : Contract Tryz.prog 43 nilSS [.ints .u8 .old l] (fun sv post => sv = .tup [.nilp, .i .i64 5] ∧ post = nilSS) := by
  refine contract_ev Γok Tryz.func43 rfl rfl [] ?_
  simp (maxSteps := 4000000) only [push_cast, Int.reduceEq, Int.reduceBNe, Int.reduceBEq, Int.reduceAdd, Int.reduceSub, Int.reduceMul, Int.reduceNeg, Int.reduceLT, Int.reduceLE, Int.reduceToNat, Nat.reduceLT, Nat.reduceAdd, Nat.reduceSub, Nat.reduceMul, Nat.reduceEqDiff, Nat.reduceLeDiff, Nat.reduceBEq, reduceIte, reduceCtorEq, Tryz.f43]
  refine ⟨fun h => ?_, fun h => by omega⟩
  exact Fin.nil rfl (psv := .tup [.nilp, .i .i64 5]) (by simp (maxSteps := 4000000) only [push_cast, Int.reduceEq, Int.reduceBNe, Int.reduceBEq, Int.reduceAdd, Int.reduceSub, Int.reduceMul, Int.reduceNeg, Int.reduceLT, Int.reduceLE, Int.reduceToNat, Nat.reduceLT, Nat.reduceAdd, Nat.reduceSub, Nat.reduceMul, Nat.reduceEqDiff, Nat.reduceLeDiff, Nat.reduceBEq, reduceIte, reduceCtorEq]) ⟨rfl, rfl⟩
end Go.Proofs.YtbbbmoldmoianaaGreat
/- Memory of one's own: the laws' small functions. -/
namespace Go.Proofs.YtbbbmoldmoianaaGreat
open Go Go.Eng
set_option maxHeartbeats 4000000
set_option linter.unusedSimpArgs false
set_option linter.unusedVariables false
set_option maxRecDepth 100000

theorem copied_c (l : List Int) (hl : l.length ≤ 140737488355328) : Contract Tryz.prog 86 nilSS [.ints .u8 .old l] (fun sv post => sv = .ints .u8 (.tok 0 true) l ∧ post = ⟨[], [], [0], [], 1, 0, []⟩) := by
  refine contract_ev Γok Tryz.func86 rfl rfl [] ?_
  simp (maxSteps := 4000000) only [push_cast, Int.reduceEq, Int.reduceBNe, Int.reduceBEq, Int.reduceAdd, Int.reduceSub, Int.reduceMul, Int.reduceNeg, Int.reduceLT, Int.reduceLE, Int.reduceToNat, Nat.reduceLT, Nat.reduceAdd, Nat.reduceSub, Nat.reduceMul, Nat.reduceEqDiff, Nat.reduceLeDiff, Nat.reduceBEq, reduceIte, reduceCtorEq, Tryz.f86]
  exact ⟨by omega, Fin.w [0] (.ints .u8 (.tok 0 true) l) _ (by simp (maxSteps := 4000000) only [push_cast, Int.reduceEq, Int.reduceBNe, Int.reduceBEq, Int.reduceAdd, Int.reduceSub, Int.reduceMul, Int.reduceNeg, Int.reduceLT, Int.reduceLE, Int.reduceToNat, Nat.reduceLT, Nat.reduceAdd, Nat.reduceSub, Nat.reduceMul, Nat.reduceEqDiff, Nat.reduceLeDiff, Nat.reduceBEq, reduceIte, reduceCtorEq]) ⟨rfl, rfl⟩⟩

def isOwn (x : St) (sv : SV) (post : SS) : Prop := sv = .agg (x.cells (.tok 0 true) (.tok 1 true) (.tok 2 true)) ∧ post = ⟨[], [], [0, 1, 2], [], 3, 0, []⟩
theorem own_c (x : St) (hx : x.fits) : Contract Tryz.prog 51 nilSS [x.sv .old] (isOwn x) := by
  obtain ⟨ho, hi, hk⟩ := hx
  refine contract_ev Γok Tryz.func51 rfl rfl [] ?_
  simp (maxSteps := 4000000) only [push_cast, Int.reduceEq, Int.reduceBNe, Int.reduceBEq, Int.reduceAdd, Int.reduceSub, Int.reduceMul, Int.reduceNeg, Int.reduceLT, Int.reduceLE, Int.reduceToNat, Nat.reduceLT, Nat.reduceAdd, Nat.reduceSub, Nat.reduceMul, Nat.reduceEqDiff, Nat.reduceLeDiff, Nat.reduceBEq, reduceIte, reduceCtorEq, Tryz.f51, St.sv, St.cells]
  refine (region_plan rfl Γok mixed (.pure 0 (.pure 1 (.pure 3 (.pure 4 (.pure 6 (.pure 7 (.eff (.cons 2 [4, 7] (.pure 9 (.eff (.cons 5 [7] (.eff (.cons 8 [] (.eff (.cons 10 [] (.pure 11 (.eff (.cons 12 [] (.pure 13 (.eff (.cons 14 [] .done .nil))) .nil))) .nil)) .nil)) .nil))) .nil)))))))) 16 rfl (by kernel_rfl) ?_)
  simp (maxSteps := 4000000) only [push_cast, Int.reduceEq, Int.reduceBNe, Int.reduceBEq, Int.reduceAdd, Int.reduceSub, Int.reduceMul, Int.reduceNeg, Int.reduceLT, Int.reduceLE, Int.reduceToNat, Nat.reduceLT, Nat.reduceAdd, Nat.reduceSub, Nat.reduceMul, Nat.reduceEqDiff, Nat.reduceLeDiff, Nat.reduceBEq, reduceIte, reduceCtorEq]
  refine call_w (copied_c x.o ho) [] (by simp (maxSteps := 4000000) only [push_cast, Int.reduceEq, Int.reduceBNe, Int.reduceBEq, Int.reduceAdd, Int.reduceSub, Int.reduceMul, Int.reduceNeg, Int.reduceLT, Int.reduceLE, Int.reduceToNat, Nat.reduceLT, Nat.reduceAdd, Nat.reduceSub, Nat.reduceMul, Nat.reduceEqDiff, Nat.reduceLeDiff, Nat.reduceBEq, reduceIte, reduceCtorEq]) ?_
  rintro sv post ⟨rfl, rfl⟩
  simp (maxSteps := 4000000) only [push_cast, Int.reduceEq, Int.reduceBNe, Int.reduceBEq, Int.reduceAdd, Int.reduceSub, Int.reduceMul, Int.reduceNeg, Int.reduceLT, Int.reduceLE, Int.reduceToNat, Nat.reduceLT, Nat.reduceAdd, Nat.reduceSub, Nat.reduceMul, Nat.reduceEqDiff, Nat.reduceLeDiff, Nat.reduceBEq, reduceIte, reduceCtorEq]
  refine call_w (copied_c x.i hi) [] (by simp (maxSteps := 4000000) only [push_cast, Int.reduceEq, Int.reduceBNe, Int.reduceBEq, Int.reduceAdd, Int.reduceSub, Int.reduceMul, Int.reduceNeg, Int.reduceLT, Int.reduceLE, Int.reduceToNat, Nat.reduceLT, Nat.reduceAdd, Nat.reduceSub, Nat.reduceMul, Nat.reduceEqDiff, Nat.reduceLeDiff, Nat.reduceBEq, reduceIte, reduceCtorEq]) ?_
  rintro sv post ⟨rfl, rfl⟩
  simp (maxSteps := 4000000) only [push_cast, Int.reduceEq, Int.reduceBNe, Int.reduceBEq, Int.reduceAdd, Int.reduceSub, Int.reduceMul, Int.reduceNeg, Int.reduceLT, Int.reduceLE, Int.reduceToNat, Nat.reduceLT, Nat.reduceAdd, Nat.reduceSub, Nat.reduceMul, Nat.reduceEqDiff, Nat.reduceLeDiff, Nat.reduceBEq, reduceIte, reduceCtorEq]
  refine call_w (copied_c x.k hk) [] (by simp (maxSteps := 4000000) only [push_cast, Int.reduceEq, Int.reduceBNe, Int.reduceBEq, Int.reduceAdd, Int.reduceSub, Int.reduceMul, Int.reduceNeg, Int.reduceLT, Int.reduceLE, Int.reduceToNat, Nat.reduceLT, Nat.reduceAdd, Nat.reduceSub, Nat.reduceMul, Nat.reduceEqDiff, Nat.reduceLeDiff, Nat.reduceBEq, reduceIte, reduceCtorEq]) ?_
  rintro sv post ⟨rfl, rfl⟩
  simp (maxSteps := 4000000) only [push_cast, Int.reduceEq, Int.reduceBNe, Int.reduceBEq, Int.reduceAdd, Int.reduceSub, Int.reduceMul, Int.reduceNeg, Int.reduceLT, Int.reduceLE, Int.reduceToNat, Nat.reduceLT, Nat.reduceAdd, Nat.reduceSub, Nat.reduceMul, Nat.reduceEqDiff, Nat.reduceLeDiff, Nat.reduceBEq, reduceIte, reduceCtorEq]
  exact Fin.w [2, 3, 4] (.agg (x.cells (.tok 0 true) (.tok 1 true) (.tok 2 true))) ⟨[], [], [0, 1, 2], [], 3, 0, []⟩ (by simp (maxSteps := 4000000) only [push_cast, Int.reduceEq, Int.reduceBNe, Int.reduceBEq, Int.reduceAdd, Int.reduceSub, Int.reduceMul, Int.reduceNeg, Int.reduceLT, Int.reduceLE, Int.reduceToNat, Nat.reduceLT, Nat.reduceAdd, Nat.reduceSub, Nat.reduceMul, Nat.reduceEqDiff, Nat.reduceLeDiff, Nat.reduceBEq, reduceIte, reduceCtorEq, St.cells]) ⟨rfl, rfl⟩
theorem given_c (x : St) (hx : x.fits) : Contract Tryz.prog 12 nilSS [x.sv .old] (isOwn x) := by
  refine contract_ev Γok Tryz.func12 rfl rfl [] ?_
  simp (maxSteps := 4000000) only [push_cast, Int.reduceEq, Int.reduceBNe, Int.reduceBEq, Int.reduceAdd, Int.reduceSub, Int.reduceMul, Int.reduceNeg, Int.reduceLT, Int.reduceLE, Int.reduceToNat, Nat.reduceLT, Nat.reduceAdd, Nat.reduceSub, Nat.reduceMul, Nat.reduceEqDiff, Nat.reduceLeDiff, Nat.reduceBEq, reduceIte, reduceCtorEq, Tryz.f12, St.sv, St.cells]
  refine call_w (own_c x hx) [] (by simp (maxSteps := 4000000) only [push_cast, Int.reduceEq, Int.reduceBNe, Int.reduceBEq, Int.reduceAdd, Int.reduceSub, Int.reduceMul, Int.reduceNeg, Int.reduceLT, Int.reduceLE, Int.reduceToNat, Nat.reduceLT, Nat.reduceAdd, Nat.reduceSub, Nat.reduceMul, Nat.reduceEqDiff, Nat.reduceLeDiff, Nat.reduceBEq, reduceIte, reduceCtorEq, St.sv, St.cells]) ?_
  rintro sv post ⟨rfl, rfl⟩
  simp (maxSteps := 4000000) only [push_cast, Int.reduceEq, Int.reduceBNe, Int.reduceBEq, Int.reduceAdd, Int.reduceSub, Int.reduceMul, Int.reduceNeg, Int.reduceLT, Int.reduceLE, Int.reduceToNat, Nat.reduceLT, Nat.reduceAdd, Nat.reduceSub, Nat.reduceMul, Nat.reduceEqDiff, Nat.reduceLeDiff, Nat.reduceBEq, reduceIte, reduceCtorEq, St.cells]
  exact Fin.w [2, 3, 4] (.agg (x.cells (.tok 0 true) (.tok 1 true) (.tok 2 true))) ⟨[], [], [0, 1, 2], [], 3, 0, []⟩ (by simp (maxSteps := 4000000) only [push_cast, Int.reduceEq, Int.reduceBNe, Int.reduceBEq, Int.reduceAdd, Int.reduceSub, Int.reduceMul, Int.reduceNeg, Int.reduceLT, Int.reduceLE, Int.reduceToNat, Nat.reduceLT, Nat.reduceAdd, Nat.reduceSub, Nat.reduceMul, Nat.reduceEqDiff, Nat.reduceLeDiff, Nat.reduceBEq, reduceIte, reduceCtorEq, St.cells]) ⟨rfl, rfl⟩

theorem spoil_c (p : Option Addr) (c : Nat) (l : List Int) : Contract Tryz.prog 14 (preR (RowR .u8 p c l)) [.raw (.slice p l.length c)] (fun sv post => sv = .tup [] ∧ ∃ m, m.length = l.length ∧ post = preR (RowR .u8 p c m)) := by
  refine contract_row 0 rfl fun hlc hpn => ?_
  refine contract_rowb 0 rfl fun hcb => ?_
  refine contract_ev Γok Tryz.func14 rfl rfl [] ?_
  simp (maxSteps := 4000000) only [push_cast, Int.reduceEq, Int.reduceBNe, Int.reduceBEq, Int.reduceAdd, Int.reduceSub, Int.reduceMul, Int.reduceNeg, Int.reduceLT, Int.reduceLE, Int.reduceToNat, Nat.reduceLT, Nat.reduceAdd, Nat.reduceSub, Nat.reduceMul, Nat.reduceEqDiff, Nat.reduceLeDiff, Nat.reduceBEq, reduceIte, reduceCtorEq, Tryz.f14]
  refine loop_ok (ι := {q : Nat × List Int // q.2.length = l.length ∧ q.1 ≤ l.length})
    (fun q => ⟨[.raw (.slice p l.length c), .any, .i .i64 q.1.1] ++ List.replicate 12 .any, [], [], [(0, RowR .u8 p c q.1.2)], 1, 1, []⟩) (fun q => l.length - q.1.1) ⟨(0, l), rfl, Nat.zero_le _⟩ ?_ ?_
  · refine Sub.w [0] ?_
    simp (maxSteps := 4000000) only [push_cast, Int.reduceEq, Int.reduceBNe, Int.reduceBEq, Int.reduceAdd, Int.reduceSub, Int.reduceMul, Int.reduceNeg, Int.reduceLT, Int.reduceLE, Int.reduceToNat, Nat.reduceLT, Nat.reduceAdd, Nat.reduceSub, Nat.reduceMul, Nat.reduceEqDiff, Nat.reduceLeDiff, Nat.reduceBEq, reduceIte, reduceCtorEq]
  · rintro ⟨⟨i, m⟩, hm, hi⟩
    simp only at hm hi
    refine evCode_sound Γok _ _ _ ?_
    simp (maxSteps := 4000000) only [push_cast, Int.reduceEq, Int.reduceBNe, Int.reduceBEq, Int.reduceAdd, Int.reduceSub, Int.reduceMul, Int.reduceNeg, Int.reduceLT, Int.reduceLE, Int.reduceToNat, Nat.reduceLT, Nat.reduceAdd, Nat.reduceSub, Nat.reduceMul, Nat.reduceEqDiff, Nat.reduceLeDiff, Nat.reduceBEq, reduceIte, reduceCtorEq]
    refine ⟨fun h1 => ⟨⟨by omega, by omega, hpn (by omega)⟩, 0, .u8, p, c, m, i, .inl rfl, by omega, by simp, ?_⟩, fun h1 => ?_⟩
    · simp (maxSteps := 4000000) only [push_cast, Int.reduceEq, Int.reduceBNe, Int.reduceBEq, Int.reduceAdd, Int.reduceSub, Int.reduceMul, Int.reduceNeg, Int.reduceLT, Int.reduceLE, Int.reduceToNat, Nat.reduceLT, Nat.reduceAdd, Nat.reduceSub, Nat.reduceMul, Nat.reduceEqDiff, Nat.reduceLeDiff, Nat.reduceBEq, reduceIte, reduceCtorEq]
      refine ⟨⟨by omega, by omega, hpn (by omega)⟩, 0, .u8, p, c, m, i, _, .inl rfl, by omega, by simp, rfl, ?_⟩
      refine ⟨⟨(i + 1, m.set i (xorI .u8 (m.getD i 0) 85)), by simp [hm], by simp only; omega⟩, by simp only; omega, Sub.w [0] ?_⟩
      simp (maxSteps := 4000000) only [push_cast, Int.reduceEq, Int.reduceBNe, Int.reduceBEq, Int.reduceAdd, Int.reduceSub, Int.reduceMul, Int.reduceNeg, Int.reduceLT, Int.reduceLE, Int.reduceToNat, Nat.reduceLT, Nat.reduceAdd, Nat.reduceSub, Nat.reduceMul, Nat.reduceEqDiff, Nat.reduceLeDiff, Nat.reduceBEq, reduceIte, reduceCtorEq]
      exact (wrap64 (n := (i : Int) + 1) (by omega) (by omega)).symm
    · exact Fin.w [0] (.tup []) (preR (RowR .u8 p c m)) (by simp (maxSteps := 4000000) only [push_cast, Int.reduceEq, Int.reduceBNe, Int.reduceBEq, Int.reduceAdd, Int.reduceSub, Int.reduceMul, Int.reduceNeg, Int.reduceLT, Int.reduceLE, Int.reduceToNat, Nat.reduceLT, Nat.reduceAdd, Nat.reduceSub, Nat.reduceMul, Nat.reduceEqDiff, Nat.reduceLeDiff, Nat.reduceBEq, reduceIte, reduceCtorEq, preR]) ⟨rfl, m, hm, rfl⟩

/-- Two states that are the same. -/
theorem same_c (x : St) : Contract Tryz.prog 15 nilSS [x.sv .old, x.sv .old] (fun sv post => sv = .b true ∧ post = nilSS) := by
  refine contract_ev Γok Tryz.func15 rfl rfl [] ?_
  simp (maxSteps := 4000000) only [push_cast, Int.reduceEq, Int.reduceBNe, Int.reduceBEq, Int.reduceAdd, Int.reduceSub, Int.reduceMul, Int.reduceNeg, Int.reduceLT, Int.reduceLE, Int.reduceToNat, Nat.reduceLT, Nat.reduceAdd, Nat.reduceSub, Nat.reduceMul, Nat.reduceEqDiff, Nat.reduceLeDiff, Nat.reduceBEq, reduceIte, reduceCtorEq, Tryz.f15, St.sv, St.cells, List.append_eq]
  refine call_w (sameBytes_c x.o x.o) [] (by simp (maxSteps := 4000000) only [push_cast, Int.reduceEq, Int.reduceBNe, Int.reduceBEq, Int.reduceAdd, Int.reduceSub, Int.reduceMul, Int.reduceNeg, Int.reduceLT, Int.reduceLE, Int.reduceToNat, Nat.reduceLT, Nat.reduceAdd, Nat.reduceSub, Nat.reduceMul, Nat.reduceEqDiff, Nat.reduceLeDiff, Nat.reduceBEq, reduceIte, reduceCtorEq]) ?_
  rintro sv post ⟨rfl, rfl⟩
  simp (maxSteps := 4000000) only [push_cast, Int.reduceEq, Int.reduceBNe, Int.reduceBEq, Int.reduceAdd, Int.reduceSub, Int.reduceMul, Int.reduceNeg, Int.reduceLT, Int.reduceLE, Int.reduceToNat, Nat.reduceLT, Nat.reduceAdd, Nat.reduceSub, Nat.reduceMul, Nat.reduceEqDiff, Nat.reduceLeDiff, Nat.reduceBEq, reduceIte, reduceCtorEq, beq_self_eq_true, List.append_eq]
  refine call_w (sameBytes_c x.i x.i) [] (by simp (maxSteps := 4000000) only [push_cast, Int.reduceEq, Int.reduceBNe, Int.reduceBEq, Int.reduceAdd, Int.reduceSub, Int.reduceMul, Int.reduceNeg, Int.reduceLT, Int.reduceLE, Int.reduceToNat, Nat.reduceLT, Nat.reduceAdd, Nat.reduceSub, Nat.reduceMul, Nat.reduceEqDiff, Nat.reduceLeDiff, Nat.reduceBEq, reduceIte, reduceCtorEq]) ?_
  rintro sv post ⟨rfl, rfl⟩
  simp (maxSteps := 4000000) only [push_cast, Int.reduceEq, Int.reduceBNe, Int.reduceBEq, Int.reduceAdd, Int.reduceSub, Int.reduceMul, Int.reduceNeg, Int.reduceLT, Int.reduceLE, Int.reduceToNat, Nat.reduceLT, Nat.reduceAdd, Nat.reduceSub, Nat.reduceMul, Nat.reduceEqDiff, Nat.reduceLeDiff, Nat.reduceBEq, reduceIte, reduceCtorEq, beq_self_eq_true, List.append_eq]
  refine call_w (sameBytes_c x.k x.k) [] (by simp (maxSteps := 4000000) only [push_cast, Int.reduceEq, Int.reduceBNe, Int.reduceBEq, Int.reduceAdd, Int.reduceSub, Int.reduceMul, Int.reduceNeg, Int.reduceLT, Int.reduceLE, Int.reduceToNat, Nat.reduceLT, Nat.reduceAdd, Nat.reduceSub, Nat.reduceMul, Nat.reduceEqDiff, Nat.reduceLeDiff, Nat.reduceBEq, reduceIte, reduceCtorEq]) ?_
  rintro sv post ⟨rfl, rfl⟩
  simp (maxSteps := 4000000) only [push_cast, Int.reduceEq, Int.reduceBNe, Int.reduceBEq, Int.reduceAdd, Int.reduceSub, Int.reduceMul, Int.reduceNeg, Int.reduceLT, Int.reduceLE, Int.reduceToNat, Nat.reduceLT, Nat.reduceAdd, Nat.reduceSub, Nat.reduceMul, Nat.reduceEqDiff, Nat.reduceLeDiff, Nat.reduceBEq, reduceIte, reduceCtorEq, beq_self_eq_true, List.append_eq]
  exact Fin.nil rfl (psv := .b true) (by simp (maxSteps := 4000000) only [push_cast, Int.reduceEq, Int.reduceBNe, Int.reduceBEq, Int.reduceAdd, Int.reduceSub, Int.reduceMul, Int.reduceNeg, Int.reduceLT, Int.reduceLE, Int.reduceToNat, Nat.reduceLT, Nat.reduceAdd, Nat.reduceSub, Nat.reduceMul, Nat.reduceEqDiff, Nat.reduceLeDiff, Nat.reduceBEq, reduceIte, reduceCtorEq]) ⟨rfl, rfl⟩

/-- A state whose slices are told by their places. -/
def St.rawv (x : St) (vo vi vk : Value) : SV := .agg [.b x.r, .b x.w, .i .i64 x.m, .i .i64 x.s, .raw vo, .raw vi, .raw vk, .i .i64 x.d, .b x.en, .b x.bad, .b x.cl]
theorem St.rawv_den {E : Env} {x : St} {vo vi vk v : Value} (ho : Den E (.ints .u8 .old x.o) vo) (hi : Den E (.ints .u8 .old x.i) vi) (hk : Den E (.ints .u8 .old x.k) vk) (h : Den E (x.rawv vo vi vk) v) : Den E (x.sv .old) v := by
  unfold St.rawv at h
  unfold St.sv St.cells
  rw [Den] at h ⊢
  obtain ⟨cs, rfl, h⟩ := h
  refine ⟨cs, rfl, ?_⟩
  obtain ⟨v1, r1, rfl, h1, h⟩ := denL_cons h
  obtain ⟨v2, r2, rfl, h2, h⟩ := denL_cons h
  obtain ⟨v3, r3, rfl, h3, h⟩ := denL_cons h
  obtain ⟨v4, r4, rfl, h4, h⟩ := denL_cons h
  obtain ⟨v5, r5, rfl, h5, h⟩ := denL_cons h
  obtain ⟨v6, r6, rfl, h6, h⟩ := denL_cons h
  obtain ⟨v7, r7, rfl, h7, h⟩ := denL_cons h
  rw [show v5 = vo by simpa only [Den] using h5, show v6 = vi by simpa only [Den] using h6, show v7 = vk by simpa only [Den] using h7]
  simp only [DenL]
  exact ⟨h1, h2, h3, h4, ho, hi, hk, h⟩
end Go.Proofs.YtbbbmoldmoianaaGreat
/- A state that came in. -/
namespace Go.Proofs.YtbbbmoldmoianaaGreat
open Go Go.Eng Go.RowKit
set_option linter.unusedSimpArgs false
set_option linter.unusedVariables false
set_option maxRecDepth 100000

theorem den_bytesO {W : World} {k : IntKind} {a : Addr} {len cap : Nat} {zs : List Int} (h1 : len ≤ cap) (h2 : cap ≤ maxLen) (h3 : len ≤ zs.length) (h4 : ∀ i, i < zs.length → W.cell? (a.add i) = some (.int k (zs.getD i 0))) :
    Den (env0 W) (.ints k .old (zs.take len)) (.slice (some a) len cap) := by
  simp only [Den]
  have hl : (zs.take len).length = len := by simp; omega
  refine ⟨some a, cap, by rw [hl], by omega, by unfold maxLen at h2; omega, fun i y hy => ?_, trivial⟩
  rw [List.getElem?_take] at hy
  split at hy
  · have hi : i < zs.length := by omega
    have hc := h4 i hi
    obtain ⟨b, off, spot⟩ := a
    have hspot : spot = none := by
      cases spot with
      | none => rfl
      | some s =>
        have := World.cell?_spot (h4 0 (by omega))
        simp [Addr.add] at this
    subst hspot
    refine ⟨b, off, rfl, ?_⟩
    have : zs.getD i 0 = y := by simp [List.getD, hy]
    rw [this, addr_add] at hc
    exact hc
  · cases hy
theorem den_bytesO0 {W : World} {k : IntKind} : Den (env0 W) (.ints k .old []) (.slice none 0 0) := by
  simp only [Den]
  exact ⟨none, 0, by simp, by simp, by simp, fun i x hx => by simp at hx, trivial⟩

theorem trod_parts {H : Type} {enc : TypeId × Value → H} {P : Program} {W : World} {base : Nat} {sp : Nat → Bool} {held : Bool} {t : TypeId} {fs : Array Field} {fuel : Nat} {cs : List Value} {x : DataW H × List MemPlace} (ht : P.underlying t = some (.struct fs)) (hone : ∀ i (f : Field), fs[i]? = some f → f.offset = i ∧ P.cellsOf f.type = 1) (hn : P.cellsOf t = fs.size)
    (h : DataW.trod enc P W base sp held fuel t cs = some x) : ∃ xs : List (DataW H × List MemPlace), x.1 = .agg (xs.map (·.1)) ∧ cs.length = fs.size ∧ ∀ (i : Nat) (f : Field), fs[i]? = some f → ∃ v y n, cs[i]? = some v ∧ xs[i]? = some y ∧ DataW.trod enc P W base sp held n f.type [v] = some y := by
  obtain ⟨xs, n, _, rfl, hl, hx, hf⟩ := DataW.trod_struct ht h
  refine ⟨xs, rfl, hl.trans hn, fun i f hfi => ?_⟩
  have h1 := hf i f hfi
  obtain ⟨h2, h3⟩ := hone i f hfi
  have hi : i < fs.size := by
    rcases Nat.lt_or_ge i fs.size with h | h
    · exact h
    · rw [Array.getElem?_eq_none h] at hfi; cases hfi
  have hc : i < cs.length := by rw [hl, hn]; exact hi
  rw [h2, h3] at h1
  have h4 : (cs.drop i).take 1 = [cs[i]] := by
    rw [List.drop_eq_getElem_cons hc, List.take_succ_cons, List.take_zero]
  rw [h4, List.getElem?_eq_getElem (by omega)] at h1
  exact ⟨cs[i], _, n, List.getElem?_eq_getElem hc, List.getElem?_eq_getElem (by omega), h1⟩

theorem bytes_of {H : Type} {enc : TypeId × Value → H} {W : World} {base : Nat} {sp : Nat → Bool} {held : Bool} {n : Nat} {v : Value} {y : DataW H × List MemPlace}
    (h : DataW.trod enc Tryz.prog W base sp held n 22 [v] = some y) (hz : ∀ k, k ∈ y.1.weights Tryz.prog 22 → k ≤ reachBytes) : ∃ l : List Int, l.length ≤ 140737488355328 ∧ Den (env0 W) (.ints .u8 .old l) v := by
  have hb : Tryz.prog.bytesOf 5 = 1 := by kernel_rfl
  have hs : Tryz.prog.underlying 22 = some (.slice 5) := by kernel_rfl
  rcases Go.ChangeShapes.open_ints hs (by kernel_rfl : Tryz.prog.underlying 5 = some (.int .u8)) (by kernel_rfl) h with ⟨e, _⟩ | ⟨a, len, cap, zs, e, _, q1, q2, q3, q5, q4, _⟩
  · injection e with e _
    subst e
    exact ⟨[], by simp, den_bytesO0⟩
  · injection e with e _
    subst e
    refine ⟨zs.take len, ?_, den_bytesO q1 q2 (by rw [q3]; split <;> omega) q4⟩
    have hw := hz (((Go.ChangeShapes.lits (H := H) .u8 (zs.take len)).length + (Go.ChangeShapes.lits (H := H) .u8 (zs.drop len)).length) * Tryz.prog.bytesOf 5) (by rw [q5]; simp [DataW.weights, hs])
    rw [hb] at hw
    simp only [Go.ChangeShapes.lits, List.length_map, reachBytes] at hw
    omega

def StateIn (W : World) (v : Value) : Prop := ∃ x : St, x.fits ∧ Den (env0 W) (x.sv .old) v
theorem StateIn_in {H : Type} {enc : TypeId × Value → H} {W : World} {base : Nat} {sp : Nat → Bool} {held : Bool} {v : Value} {d : DataW H} {ps : List MemPlace} (h : DataW.Trod enc Tryz.prog W base sp held 24 v d ps) (hv : ∃ cs, v = .agg cs)
    (hz : ∀ k, k ∈ d.weights Tryz.prog 24 → k ≤ reachBytes) : StateIn W v := by
  obtain ⟨fuel, h⟩ := h
  obtain ⟨cs0, rfl⟩ := hv
  have hs : ∃ f0 f1 f2 f3 f4 f5 f6 f7 f8 f9 f10 : Field, Tryz.prog.underlying 24 = some (.struct #[f0, f1, f2, f3, f4, f5, f6, f7, f8, f9, f10]) ∧ (f0.offset = 0 ∧ f0.type = 4) ∧ (f1.offset = 1 ∧ f1.type = 4) ∧ (f2.offset = 2 ∧ f2.type = 3) ∧ (f3.offset = 3 ∧ f3.type = 3) ∧ (f4.offset = 4 ∧ f4.type = 22) ∧ (f5.offset = 5 ∧ f5.type = 22) ∧ (f6.offset = 6 ∧ f6.type = 22) ∧ (f7.offset = 7 ∧ f7.type = 3) ∧ (f8.offset = 8 ∧ f8.type = 4) ∧ (f9.offset = 9 ∧ f9.type = 4) ∧ (f10.offset = 10 ∧ f10.type = 4) := ⟨_, _, _, _, _, _, _, _, _, _, _, Tryz.underlying24, ⟨rfl, rfl⟩, ⟨rfl, rfl⟩, ⟨rfl, rfl⟩, ⟨rfl, rfl⟩, ⟨rfl, rfl⟩, ⟨rfl, rfl⟩, ⟨rfl, rfl⟩, ⟨rfl, rfl⟩, ⟨rfl, rfl⟩, ⟨rfl, rfl⟩, ⟨rfl, rfl⟩⟩
  obtain ⟨f0, f1, f2, f3, f4, f5, f6, f7, f8, f9, f10, hs, ⟨o0, t0⟩, ⟨o1, t1⟩, ⟨o2, t2⟩, ⟨o3, t3⟩, ⟨o4, t4⟩, ⟨o5, t5⟩, ⟨o6, t6⟩, ⟨o7, t7⟩, ⟨o8, t8⟩, ⟨o9, t9⟩, ⟨o10, t10⟩⟩ := hs
  have hb : Tryz.prog.underlying 4 = some .bool := by kernel_rfl
  have hi : Tryz.prog.underlying 3 = some (.int .i64) := by kernel_rfl
  have cb : Tryz.prog.cellsOf 4 = 1 := by kernel_rfl
  have ci : Tryz.prog.cellsOf 3 = 1 := by kernel_rfl
  have cl : Tryz.prog.cellsOf 22 = 1 := by kernel_rfl
  have hc : Tryz.prog.cellsOf 24 = 11 := by kernel_rfl
  obtain ⟨xs, hx, hlen, hf⟩ := trod_parts hs (fun i f hf => by
    match i with
    | 0 => simp at hf; subst hf; exact ⟨o0, by rw [t0]; exact cb⟩
    | 1 => simp at hf; subst hf; exact ⟨o1, by rw [t1]; exact cb⟩
    | 2 => simp at hf; subst hf; exact ⟨o2, by rw [t2]; exact ci⟩
    | 3 => simp at hf; subst hf; exact ⟨o3, by rw [t3]; exact ci⟩
    | 4 => simp at hf; subst hf; exact ⟨o4, by rw [t4]; exact cl⟩
    | 5 => simp at hf; subst hf; exact ⟨o5, by rw [t5]; exact cl⟩
    | 6 => simp at hf; subst hf; exact ⟨o6, by rw [t6]; exact cl⟩
    | 7 => simp at hf; subst hf; exact ⟨o7, by rw [t7]; exact ci⟩
    | 8 => simp at hf; subst hf; exact ⟨o8, by rw [t8]; exact cb⟩
    | 9 => simp at hf; subst hf; exact ⟨o9, by rw [t9]; exact cb⟩
    | 10 => simp at hf; subst hf; exact ⟨o10, by rw [t10]; exact cb⟩
    | i + 11 => simp at hf) hc h
  obtain ⟨u0, y0, n0, c0, x0, r0⟩ := hf 0 f0 rfl
  rw [t0] at r0
  obtain ⟨u1, y1, n1, c1, x1, r1⟩ := hf 1 f1 rfl
  rw [t1] at r1
  obtain ⟨u2, y2, n2, c2, x2, r2⟩ := hf 2 f2 rfl
  rw [t2] at r2
  obtain ⟨u3, y3, n3, c3, x3, r3⟩ := hf 3 f3 rfl
  rw [t3] at r3
  obtain ⟨u4, y4, n4, c4, x4, r4⟩ := hf 4 f4 rfl
  rw [t4] at r4
  obtain ⟨u5, y5, n5, c5, x5, r5⟩ := hf 5 f5 rfl
  rw [t5] at r5
  obtain ⟨u6, y6, n6, c6, x6, r6⟩ := hf 6 f6 rfl
  rw [t6] at r6
  obtain ⟨u7, y7, n7, c7, x7, r7⟩ := hf 7 f7 rfl
  rw [t7] at r7
  obtain ⟨u8, y8, n8, c8, x8, r8⟩ := hf 8 f8 rfl
  rw [t8] at r8
  obtain ⟨u9, y9, n9, c9, x9, r9⟩ := hf 9 f9 rfl
  rw [t9] at r9
  obtain ⟨u10, y10, n10, c10, x10, r10⟩ := hf 10 f10 rfl
  rw [t10] at r10
  simp only at hx
  subst hx
  have hw : ∀ (i : Nat) (f : Field) (y : DataW H × List MemPlace), (#[f0, f1, f2, f3, f4, f5, f6, f7, f8, f9, f10] : Array Field)[i]? = some f → xs[i]? = some y → ∀ k, k ∈ y.1.weights Tryz.prog f.type → k ≤ reachBytes := by
    intro i f y h1 h2 k hk
    refine hz k ?_
    simp only [DataW.weights, hs]
    exact DataW.weights_mem_each (t := f.type) (j := i) (by simp only [List.getElem?_map]; rw [← Array.getElem?_toList] at h1; rw [h1]; rfl) (by rw [List.getElem?_map, h2]; rfl) k hk
  obtain ⟨a0, e0, _⟩ := DataW.trod_bool hb r0
  obtain ⟨a1, e1, _⟩ := DataW.trod_bool hb r1
  obtain ⟨a2, e2, _⟩ := DataW.trod_int hi r2
  obtain ⟨a3, e3, _⟩ := DataW.trod_int hi r3
  obtain ⟨a4, l4, e4⟩ := bytes_of r4 (by have := hw 4 f4 y4 rfl x4; rw [t4] at this; exact this)
  obtain ⟨a5, l5, e5⟩ := bytes_of r5 (by have := hw 5 f5 y5 rfl x5; rw [t5] at this; exact this)
  obtain ⟨a6, l6, e6⟩ := bytes_of r6 (by have := hw 6 f6 y6 rfl x6; rw [t6] at this; exact this)
  obtain ⟨a7, e7, _⟩ := DataW.trod_int hi r7
  obtain ⟨a8, e8, _⟩ := DataW.trod_bool hb r8
  obtain ⟨a9, e9, _⟩ := DataW.trod_bool hb r9
  obtain ⟨a10, e10, _⟩ := DataW.trod_bool hb r10
  have hl : cs0.toList = [u0, u1, u2, u3, u4, u5, u6, u7, u8, u9, u10] := by
    have c : (Value.agg cs0).cells = cs0 := rfl
    rw [c] at c0 c1 c2 c3 c4 c5 c6 c7 c8 c9 c10 hlen
    clear hz h hf
    generalize cs0.toList = L at c0 c1 c2 c3 c4 c5 c6 c7 c8 c9 c10 hlen ⊢
    match L, hlen with
    | [b0, b1, b2, b3, b4, b5, b6, b7, b8, b9, b10], _ =>
      simp only [List.getElem?_cons_zero, List.getElem?_cons_succ, Option.some.injEq] at c0 c1 c2 c3 c4 c5 c6 c7 c8 c9 c10
      simp only [c0, c1, c2, c3, c4, c5, c6, c7, c8, c9, c10]
  refine ⟨⟨a0, a1, a2, a3, a4, a5, a6, a7, a8, a9, a10⟩, ⟨l4, l5, l6⟩, ?_⟩
  unfold St.sv St.cells
  rw [Den]
  refine ⟨cs0.toList, by simp, ?_⟩
  rw [hl]
  injection e0 with e0 _
  subst e0
  injection e1 with e1 _
  subst e1
  injection e2 with e2 _
  subst e2
  injection e3 with e3 _
  subst e3
  injection e7 with e7 _
  subst e7
  injection e8 with e8 _
  subst e8
  injection e9 with e9 _
  subst e9
  injection e10 with e10 _
  subst e10
  simp only [DenL]
  exact ⟨by simp only [Den], by simp only [Den], by simp only [Den], by simp only [Den], e4, e5, e6, by simp only [Den], by simp only [Den], by simp only [Den], by simp only [Den], trivial⟩
end Go.Proofs.YtbbbmoldmoianaaGreat
