/- Texts joined, in order: Kb, Kc, Sn, Pa, Pb, Pc. -/
import Derived.Test.YtbhkpefjnomncaaZCaRl
import Derived.Test.YtbhkpefjnomncaaZLaKa
import Derived.Test.YtbhkpefjnomncaaZBaCe
import Derived.Lib.Bytealg
/- Memory that grows. -/
namespace Go.Proofs.Ytbhkpefjnomncaa
open Go Go.Eng
set_option maxHeartbeats 4000000
set_option linter.unusedSimpArgs false
set_option linter.unusedVariables false
set_option maxRecDepth 100000

/-- A piece of a slice shows what it is a piece of. -/
theorem shows_cut {p : Option Addr} {c : Nat} {l : List Int} {i n : Nat} (h : i + n ≤ l.length) (hc : l.length ≤ c) : Shows (cutp p c i) n p l i := by
  refine ⟨h, ?_⟩
  unfold cutp
  split
  · left; omega
  · right; rfl

theorem bcloneR_c (p : Option Addr) (c : Nat) (l : List Int) (q : Option Addr) (n cc i : Nat) (hs : Shows q n p l i) (hl : n ≤ 140737488355328) : Contract Try.prog 64 ⟨[], [], [], [(0, RowR .u8 p c l)], 1, 1, []⟩ [.raw (.slice q n cc)]
    (fun sv post => sv = .ints .u8 (.tok 1 true) ((l.drop i).take n) ∧ post = ⟨[], [], [1], [(0, RowR .u8 p c l)], 2, 1, []⟩) := by
  refine contract_row 0 rfl fun hc hp => ?_
  have hlen : ((l.drop i).take n).length = n := by have := hs.1; simp; omega
  refine contract_ev Γok Try.func64 rfl rfl [] ?_
  simp (maxSteps := 4000000) only [push_cast, Int.reduceEq, Int.reduceBNe, Int.reduceBEq, Int.reduceAdd, Int.reduceSub, Int.reduceMul, Int.reduceNeg, Int.reduceLT, Int.reduceLE, Int.reduceToNat, Nat.reduceLT, Nat.reduceAdd, Nat.reduceSub, Nat.reduceMul, Nat.reduceEqDiff, Nat.reduceLeDiff, Nat.reduceBEq, reduceIte, reduceCtorEq, Try.f64]
  refine ⟨fun h => ?_, fun h => ?_⟩
  · have hn : n = 0 := by
      rcases hs.2 with h0 | h0
      · exact h0
      · rw [h] at h0
        cases p with
        | none =>
          have : c = 0 := by
            by_cases hc0 : c = 0
            · exact hc0
            · exact absurd rfl (hp hc0)
          have := hs.1
          omega
        | some a => cases h0
    subst hn
    exact Fin.wt [0, 1] (.ints .u8 (.tok 1 true) []) ⟨[], [], [1], [(0, RowR .u8 p c l)], 2, 1, []⟩ (by simp (maxSteps := 4000000) only [push_cast, Int.reduceEq, Int.reduceBNe, Int.reduceBEq, Int.reduceAdd, Int.reduceSub, Int.reduceMul, Int.reduceNeg, Int.reduceLT, Int.reduceLE, Int.reduceToNat, Nat.reduceLT, Nat.reduceAdd, Nat.reduceSub, Nat.reduceMul, Nat.reduceEqDiff, Nat.reduceLeDiff, Nat.reduceBEq, reduceIte, reduceCtorEq]) ⟨rfl, rfl⟩
  · refine ⟨.u8, (l.drop i).take n, ⟨0, p, c, l, i, by simp, hs, rfl⟩, ?_⟩
    simp (maxSteps := 4000000) only [push_cast, Int.reduceEq, Int.reduceBNe, Int.reduceBEq, Int.reduceAdd, Int.reduceSub, Int.reduceMul, Int.reduceNeg, Int.reduceLT, Int.reduceLE, Int.reduceToNat, Nat.reduceLT, Nat.reduceAdd, Nat.reduceSub, Nat.reduceMul, Nat.reduceEqDiff, Nat.reduceLeDiff, Nat.reduceBEq, reduceIte, reduceCtorEq]
    rw [hlen]
    exact ⟨by omega, Fin.w [0, 2] (.ints .u8 (.tok 1 true) ((l.drop i).take n)) _ (by simp (maxSteps := 4000000) only [push_cast, Int.reduceEq, Int.reduceBNe, Int.reduceBEq, Int.reduceAdd, Int.reduceSub, Int.reduceMul, Int.reduceNeg, Int.reduceLT, Int.reduceLE, Int.reduceToNat, Nat.reduceLT, Nat.reduceAdd, Nat.reduceSub, Nat.reduceMul, Nat.reduceEqDiff, Nat.reduceLeDiff, Nat.reduceBEq, reduceIte, reduceCtorEq]) ⟨rfl, rfl⟩⟩

theorem bcloneRow_c (l : List Int) (hl : l.length ≤ 140737488355328) : Contract Try.prog 64 nilSS [.ints .u8 .old l] (fun sv post => ∃ p c, sv = .raw (.slice p l.length c) ∧ post = ⟨[], [], [], [(0, RowR .u8 p c l)], 1, 0, []⟩) :=
  (bclone_c l hl).thaw fun E Z hZ vs => old_args E Z hZ vs

theorem kept2_c (l : List Int) (room : Int) (hl : l.length ≤ 140737488355328) : Contract Try.prog 60 nilSS [.ints .u8 .old l, .i .i64 room] (fun sv post => ∃ p c, sv = .agg [.b true, .raw (.slice p l.length c), .i .i64 room, .i .i64 0] ∧ post = ⟨[], [], [], [(0, RowR .u8 p c l)], 1, 0, []⟩) := by
  refine contract_ev Γok Try.func60 rfl rfl [] ?_
  simp (maxSteps := 4000000) only [push_cast, Int.reduceEq, Int.reduceBNe, Int.reduceBEq, Int.reduceAdd, Int.reduceSub, Int.reduceMul, Int.reduceNeg, Int.reduceLT, Int.reduceLE, Int.reduceToNat, Nat.reduceLT, Nat.reduceAdd, Nat.reduceSub, Nat.reduceMul, Nat.reduceEqDiff, Nat.reduceLeDiff, Nat.reduceBEq, reduceIte, reduceCtorEq, Try.f60]
  refine call_w (bcloneRow_c l hl) [] (by simp (maxSteps := 4000000) only [push_cast, Int.reduceEq, Int.reduceBNe, Int.reduceBEq, Int.reduceAdd, Int.reduceSub, Int.reduceMul, Int.reduceNeg, Int.reduceLT, Int.reduceLE, Int.reduceToNat, Nat.reduceLT, Nat.reduceAdd, Nat.reduceSub, Nat.reduceMul, Nat.reduceEqDiff, Nat.reduceLeDiff, Nat.reduceBEq, reduceIte, reduceCtorEq]) ?_
  rintro sv post ⟨p, c, rfl, rfl⟩
  simp (maxSteps := 4000000) only [push_cast, Int.reduceEq, Int.reduceBNe, Int.reduceBEq, Int.reduceAdd, Int.reduceSub, Int.reduceMul, Int.reduceNeg, Int.reduceLT, Int.reduceLE, Int.reduceToNat, Nat.reduceLT, Nat.reduceAdd, Nat.reduceSub, Nat.reduceMul, Nat.reduceEqDiff, Nat.reduceLeDiff, Nat.reduceBEq, reduceIte, reduceCtorEq]
  exact Fin.w [1] (.agg [.b true, .raw (.slice p l.length c), .i .i64 room, .i .i64 0]) ⟨[], [], [], [(0, RowR .u8 p c l)], 1, 0, []⟩ (by simp (maxSteps := 4000000) only [push_cast, Int.reduceEq, Int.reduceBNe, Int.reduceBEq, Int.reduceAdd, Int.reduceSub, Int.reduceMul, Int.reduceNeg, Int.reduceLT, Int.reduceLE, Int.reduceToNat, Nat.reduceLT, Nat.reduceAdd, Nat.reduceSub, Nat.reduceMul, Nat.reduceEqDiff, Nat.reduceLeDiff, Nat.reduceBEq, reduceIte, reduceCtorEq]) ⟨p, c, rfl, rfl⟩

/-- Memory, of a type, whose row is its own. -/
def storeS (T : TypeId) (p : Option Addr) (c : Nat) (data : List Int) (room at_ : Int) : SS := ⟨[], [(0, T, [.b true, .raw (.slice p data.length c), .i .i64 room, .i .i64 at_])], [], [(1, RowR .u8 p c data)], 2, 1, []⟩
/-- The same as one resource, wherever its row lies. -/
def storeR (T : TypeId) (b : Nat) (data : List Int) (room at_ : Int) : Res := exR fun pc : Option Addr × Nat => (storeS T pc.1 pc.2 data room at_).res b

theorem storeReadR_c (T : TypeId) (p : Option Addr) (c : Nat) (data : List Int) (room at_ n : Int) (h0 : 0 ≤ at_) (h0' : at_ ≤ 1048576) (hd : data.length ≤ 1048576) (h1 : 0 ≤ n) (h2 : n ≤ 1048576) :
    Contract Try.prog 117 (storeS T p c data room at_) [.ptr 0 0, .i .i64 n]
    (fun sv post => sv = .tup [.ints .u8 .new (readV data at_ n), .i .i64 0] ∧ post = storeS T p c data room (at_ + (readV data at_ n).length)) := by
  refine contract_row 1 rfl fun hc hp => ?_
  refine contract_ev Γok Try.func117 rfl rfl [] ?_
  simp (maxSteps := 4000000) only [push_cast, Int.reduceEq, Int.reduceBNe, Int.reduceBEq, Int.reduceAdd, Int.reduceSub, Int.reduceMul, Int.reduceNeg, Int.reduceLT, Int.reduceLE, Int.reduceToNat, Nat.reduceLT, Nat.reduceAdd, Nat.reduceSub, Nat.reduceMul, Nat.reduceEqDiff, Nat.reduceLeDiff, Nat.reduceBEq, reduceIte, reduceCtorEq, Try.f117, storeS]
  refine ⟨fun h3 => by omega, fun h3 => ?_⟩
  refine (region_plan rfl Γok mixed (.pure 0 (.pure 1 (.pure 2 (.pure 3 (.pure 4 (.pure 5 (.pure 6 (.pure 7 (.pure 8 (.pure 9 (.pure 10 .done))))))))))) 57 rfl (by kernel_rfl) ?_)
  simp (maxSteps := 4000000) only [push_cast, Int.reduceEq, Int.reduceBNe, Int.reduceBEq, Int.reduceAdd, Int.reduceSub, Int.reduceMul, Int.reduceNeg, Int.reduceLT, Int.reduceLE, Int.reduceToNat, Nat.reduceLT, Nat.reduceAdd, Nat.reduceSub, Nat.reduceMul, Nat.reduceEqDiff, Nat.reduceLeDiff, Nat.reduceBEq, reduceIte, reduceCtorEq]
  refine (region_plan rfl Γok mixed (.pure 0 (.pure 1 (.pure 2 (.pure 3 (.pure 4 (.pure 5 (.pure 6 (.pure 7 (.pure 8 (.pure 9 (.pure 10 (.pure 11 (.pure 12 (.pure 13 (.pure 14 (.eff (.cons 15 [] (.pure 16 .done) .nil))))))))))))))))) 57 rfl (by kernel_rfl) ?_)
  simp (maxSteps := 4000000) only [push_cast, Int.reduceEq, Int.reduceBNe, Int.reduceBEq, Int.reduceAdd, Int.reduceSub, Int.reduceMul, Int.reduceNeg, Int.reduceLT, Int.reduceLE, Int.reduceToNat, Nat.reduceLT, Nat.reduceAdd, Nat.reduceSub, Nat.reduceMul, Nat.reduceEqDiff, Nat.reduceLeDiff, Nat.reduceBEq, reduceIte, reduceCtorEq]
  have em : 0 ≤ minI at_ data.length ∧ minI at_ data.length ≤ data.length ∧ minI at_ data.length ≤ at_ := by unfold minI; split <;> omega
  rw [wrap64 (n := minI at_ data.length + n) (by omega) (by omega)]
  have e2 : 0 ≤ minI (minI at_ data.length + n) data.length ∧ minI at_ data.length ≤ minI (minI at_ data.length + n) data.length ∧ minI (minI at_ data.length + n) data.length ≤ data.length := by
    generalize minI at_ data.length = u at em ⊢
    unfold minI; split <;> omega
  have e3 : (data.drop (minI at_ data.length).toNat).take ((minI (minI at_ data.length + n) data.length).toNat - (minI at_ data.length).toNat) = readV data at_ n := by
    unfold readV
    by_cases ha : (data.length : Int) < at_
    · have : minI at_ data.length = data.length := by unfold minI; rw [if_pos ha]
      rw [this, List.drop_of_length_le (by simp), List.drop_of_length_le (by omega)]
      simp
    · have : minI at_ data.length = at_ := by unfold minI; rw [if_neg ha]
      rw [this]
      by_cases hc : (data.length : Int) < at_ + n
      · have : minI (at_ + n) data.length = data.length := by unfold minI; rw [if_pos hc]
        rw [this, List.take_of_length_le (by simp), List.take_of_length_le (by simp; omega)]
      · have : minI (at_ + n) data.length = at_ + n := by unfold minI; rw [if_neg hc]
        rw [this]
        congr 1
        omega
  have e4 : (readV data at_ n).length ≤ 1048576 := by unfold readV; simp; omega
  have hsh : Shows (cutp p c (minI at_ data.length).toNat) ((minI (minI at_ data.length + n) data.length).toNat - (minI at_ data.length).toNat) p data (minI at_ data.length).toNat := shows_cut (by omega) hc
  refine ⟨⟨⟨by omega, by omega, by omega⟩, hc⟩, call_w (bcloneR_c p c data _ _ (c - (minI at_ data.length).toNat) _ hsh (by omega)) [1] (by simp (maxSteps := 4000000) only [push_cast, Int.reduceEq, Int.reduceBNe, Int.reduceBEq, Int.reduceAdd, Int.reduceSub, Int.reduceMul, Int.reduceNeg, Int.reduceLT, Int.reduceLE, Int.reduceToNat, Nat.reduceLT, Nat.reduceAdd, Nat.reduceSub, Nat.reduceMul, Nat.reduceEqDiff, Nat.reduceLeDiff, Nat.reduceBEq, reduceIte, reduceCtorEq]) ?_⟩
  rintro sv post ⟨rfl, rfl⟩
  rw [e3]
  simp (maxSteps := 4000000) only [push_cast, Int.reduceEq, Int.reduceBNe, Int.reduceBEq, Int.reduceAdd, Int.reduceSub, Int.reduceMul, Int.reduceNeg, Int.reduceLT, Int.reduceLE, Int.reduceToNat, Nat.reduceLT, Nat.reduceAdd, Nat.reduceSub, Nat.reduceMul, Nat.reduceEqDiff, Nat.reduceLeDiff, Nat.reduceBEq, reduceIte, reduceCtorEq]
  rw [wrap64 (by omega) (by omega)]
  exact Fin.w [0, 1] (.tup [.ints .u8 .new (readV data at_ n), .i .i64 0]) _ (by simp (maxSteps := 4000000) only [push_cast, Int.reduceEq, Int.reduceBNe, Int.reduceBEq, Int.reduceAdd, Int.reduceSub, Int.reduceMul, Int.reduceNeg, Int.reduceLT, Int.reduceLE, Int.reduceToNat, Nat.reduceLT, Nat.reduceAdd, Nat.reduceSub, Nat.reduceMul, Nat.reduceEqDiff, Nat.reduceLeDiff, Nat.reduceBEq, reduceIte, reduceCtorEq, storeS]) ⟨rfl, rfl⟩

/-- What stands in a memory behind a write of m at i. -/
def wrote (data : List Int) (i : Nat) (m : List Int) : List Int := (data ++ List.replicate (i + m.length - data.length) 0).take i ++ m ++ data.drop (i + m.length)
def gW (room : Int) (data : List Int) (at_ : Int) (b : List Int) : (List Int × Int) × Int × Int :=
  if room ≤ at_ then ((data, at_), 0, 31) else ((wrote data at_.toNat (b.take (room - at_).toNat), at_ + (b.take (room - at_).toNat).length), (b.take (room - at_).toNat).length, 0)

theorem storeWriteR_c (T : TypeId) (p : Option Addr) (c : Nat) (data : List Int) (room at_ : Int) (b : List Int) (h0 : 0 ≤ at_) (h1 : at_ ≤ room) (h2 : room ≤ 1048576) (hd : data.length ≤ room) (hb : b.length ≤ 1048576) (hne : b ≠ []) :
    Contract Try.prog 119 (storeS T p c data room at_) [.ptr 0 0, .ints .u8 .old b]
    (fun sv post => ∃ p' c', sv = .tup [.i .i64 (gW room data at_ b).2.1, .i .i64 (gW room data at_ b).2.2] ∧ post = storeS T p' c' (gW room data at_ b).1.1 room (gW room data at_ b).1.2) := by
  refine contract_row 1 rfl fun hc hp => ?_
  have hpos := List.length_pos_iff.2 hne
  refine contract_ev Γok Try.func119 rfl rfl [] ?_
  simp (maxSteps := 4000000) only [push_cast, Int.reduceEq, Int.reduceBNe, Int.reduceBEq, Int.reduceAdd, Int.reduceSub, Int.reduceMul, Int.reduceNeg, Int.reduceLT, Int.reduceLE, Int.reduceToNat, Nat.reduceLT, Nat.reduceAdd, Nat.reduceSub, Nat.reduceMul, Nat.reduceEqDiff, Nat.reduceLeDiff, Nat.reduceBEq, reduceIte, reduceCtorEq, Try.f119, storeS]
  refine ⟨fun h3 => by omega, fun h3 => ⟨fun h4 => by omega, fun h4 => ?_⟩⟩
  refine (region_plan rfl Γok mixed (.pure 0 (.pure 1 (.pure 2 (.pure 3 (.pure 4 (.pure 5 (.pure 6 (.pure 7 (.pure 8 (.pure 9 .done)))))))))) 93 rfl (by kernel_rfl) ?_)
  simp (maxSteps := 4000000) only [push_cast, Int.reduceEq, Int.reduceBNe, Int.reduceBEq, Int.reduceAdd, Int.reduceSub, Int.reduceMul, Int.reduceNeg, Int.reduceLT, Int.reduceLE, Int.reduceToNat, Nat.reduceLT, Nat.reduceAdd, Nat.reduceSub, Nat.reduceMul, Nat.reduceEqDiff, Nat.reduceLeDiff, Nat.reduceBEq, reduceIte, reduceCtorEq]
  unfold gW
  refine ⟨fun h5 => ?_, fun h5 => ?_⟩
  · rw [if_pos h5]
    exact Fin.w [0, 1] (.tup [.i .i64 0, .i .i64 31]) _ (by simp (maxSteps := 4000000) only [push_cast, Int.reduceEq, Int.reduceBNe, Int.reduceBEq, Int.reduceAdd, Int.reduceSub, Int.reduceMul, Int.reduceNeg, Int.reduceLT, Int.reduceLE, Int.reduceToNat, Nat.reduceLT, Nat.reduceAdd, Nat.reduceSub, Nat.reduceMul, Nat.reduceEqDiff, Nat.reduceLeDiff, Nat.reduceBEq, reduceIte, reduceCtorEq, storeS]) ⟨p, c, rfl, rfl⟩
  rw [if_neg (by omega)]
  refine (region_plan rfl Γok mixed (.pure 0 (.pure 1 (.pure 2 (.pure 3 (.pure 4 (.pure 5 (.pure 6 (.pure 7 (.pure 8 (.pure 9 (.pure 10 (.pure 11 (.pure 12 .done))))))))))))) 93 rfl (by kernel_rfl) ?_)
  simp (maxSteps := 4000000) only [push_cast, Int.reduceEq, Int.reduceBNe, Int.reduceBEq, Int.reduceAdd, Int.reduceSub, Int.reduceMul, Int.reduceNeg, Int.reduceLT, Int.reduceLE, Int.reduceToNat, Nat.reduceLT, Nat.reduceAdd, Nat.reduceSub, Nat.reduceMul, Nat.reduceEqDiff, Nat.reduceLeDiff, Nat.reduceBEq, reduceIte, reduceCtorEq]
  rw [wrap64 (n := room - at_) (by omega) (by omega)]
  have hm : minI (b.length : Int) (room - at_) = ((b.take (room - at_).toNat).length : Nat) := by unfold minI; rw [List.length_take]; split <;> omega
  have hm2 : (b.take (room - at_).toNat).length ≤ b.length ∧ ((b.take (room - at_).toNat).length : Int) ≤ room - at_ := by rw [List.length_take]; omega
  have hm3 : b.take ((b.take (room - at_).toNat).length : Int).toNat = b.take (room - at_).toNat := by
    rw [Int.toNat_natCast, List.length_take]
    rcases Nat.le_total (room - at_).toNat b.length with h | h
    · rw [Nat.min_eq_left h]
    · rw [Nat.min_eq_right h, List.take_length, List.take_of_length_le h]
  rw [hm, wrap64 (n := at_ + _) (by omega) (by omega)]
  generalize b.take (room - at_).toNat = m at hm hm2 hm3 ⊢
  refine ⟨fun h6 => ?_, fun h6 => ?_⟩
  · refine (region_plan rfl Γok mixed (.pure 0 (.pure 1 (.pure 2 (.pure 3 (.pure 4 (.pure 5 (.pure 6 (.pure 7 (.pure 8 (.pure 9 (.pure 10 (.pure 11 (.eff (.cons 12 [] (.pure 13 (.pure 14 (.eff (.cons 15 [] .done .nil)))) .nil)))))))))))))) 93 rfl (by kernel_rfl) ?_)
    simp (maxSteps := 4000000) only [push_cast, Int.reduceEq, Int.reduceBNe, Int.reduceBEq, Int.reduceAdd, Int.reduceSub, Int.reduceMul, Int.reduceNeg, Int.reduceLT, Int.reduceLE, Int.reduceToNat, Nat.reduceLT, Nat.reduceAdd, Nat.reduceSub, Nat.reduceMul, Nat.reduceEqDiff, Nat.reduceLeDiff, Nat.reduceBEq, reduceIte, reduceCtorEq]
    rw [wrap64 (n := at_ + m.length - data.length) (by omega) (by omega)]
    refine ⟨1, .u8, data, .i64, .inl rfl, rfl, rfl, by omega, by omega, rfl, fun p' c' => ?_⟩
    simp (maxSteps := 4000000) only [push_cast, Int.reduceEq, Int.reduceBNe, Int.reduceBEq, Int.reduceAdd, Int.reduceSub, Int.reduceMul, Int.reduceNeg, Int.reduceLT, Int.reduceLE, Int.reduceToNat, Nat.reduceLT, Nat.reduceAdd, Nat.reduceSub, Nat.reduceMul, Nat.reduceEqDiff, Nat.reduceLeDiff, Nat.reduceBEq, reduceIte, reduceCtorEq]
    have hz : (at_ + (m.length : Int) - data.length).toNat = at_.toNat + m.length - data.length := by omega
    have hl1 : data.length + (at_.toNat + m.length - data.length) = (data ++ List.replicate (at_.toNat + m.length - data.length) (0 : Int)).length := by simp
    rw [hz, hl1]
    have hl2 : (data ++ List.replicate (at_.toNat + m.length - data.length) (0 : Int)).length = at_.toNat + m.length := by simp; omega
    have hw : wrote data at_.toNat m = (data ++ List.replicate (at_.toNat + m.length - data.length) (0 : Int)).take at_.toNat ++ m ++ (data ++ List.replicate (at_.toNat + m.length - data.length) (0 : Int)).drop (at_.toNat + m.length) := by
      unfold wrote
      congr 1
      rw [List.drop_of_length_le (by omega), List.drop_of_length_le (by omega)]
    rw [hw]
    generalize data ++ List.replicate (at_.toNat + m.length - data.length) (0 : Int) = d1 at hl2 ⊢
    refine code_row 1 rfl fun hc' hp' => ?_
    refine (region_plan rfl Γok mixed (.pure 0 (.pure 1 (.pure 2 (.pure 3 (.pure 4 (.pure 5 (.pure 6 (.pure 7 (.pure 8 (.pure 9 (.pure 10 (.pure 11 (.pure 12 (.pure 13 (.pure 14 (.pure 15 (.eff (.cons 16 [3] (.pure 17 (.pure 18 (.pure 19 (.eff (.cons 20 [] .done .nil))))) .nil)))))))))))))))))) 93 rfl (by kernel_rfl) ?_)
    simp (maxSteps := 4000000) only [push_cast, Int.reduceEq, Int.reduceBNe, Int.reduceBEq, Int.reduceAdd, Int.reduceSub, Int.reduceMul, Int.reduceNeg, Int.reduceLT, Int.reduceLE, Int.reduceToNat, Nat.reduceLT, Nat.reduceAdd, Nat.reduceSub, Nat.reduceMul, Nat.reduceEqDiff, Nat.reduceLeDiff, Nat.reduceBEq, reduceIte, reduceCtorEq]
    rw [hm3]
    refine ⟨⟨⟨by omega, by omega⟩, hc'⟩, ⟨by omega, by omega⟩, 1, .u8, p', c', d1, at_.toNat, m, .inl rfl, shows_cut (by omega) hc', rfl, rfl, ?_⟩
    have ht : m.take (d1.length - at_.toNat) = m := List.take_of_length_le (by omega)
    simp (maxSteps := 4000000) only [push_cast, Int.reduceEq, Int.reduceBNe, Int.reduceBEq, Int.reduceAdd, Int.reduceSub, Int.reduceMul, Int.reduceNeg, Int.reduceLT, Int.reduceLE, Int.reduceToNat, Nat.reduceLT, Nat.reduceAdd, Nat.reduceSub, Nat.reduceMul, Nat.reduceEqDiff, Nat.reduceLeDiff, Nat.reduceBEq, reduceIte, reduceCtorEq]
    rw [ht, wrap64 (n := at_ + (m.length : Int)) (by omega) (by omega)]
    refine Fin.w [0, 1] (.tup [.i .i64 (m.length : Nat), .i .i64 0]) (storeS T p' c' (d1.take at_.toNat ++ m ++ d1.drop (at_.toNat + m.length)) room (at_ + (m.length : Nat))) ?_ ⟨p', c', rfl, rfl⟩
    simp (maxSteps := 4000000) only [push_cast, Int.reduceEq, Int.reduceBNe, Int.reduceBEq, Int.reduceAdd, Int.reduceSub, Int.reduceMul, Int.reduceNeg, Int.reduceLT, Int.reduceLE, Int.reduceToNat, Nat.reduceLT, Nat.reduceAdd, Nat.reduceSub, Nat.reduceMul, Nat.reduceEqDiff, Nat.reduceLeDiff, Nat.reduceBEq, reduceIte, reduceCtorEq, storeS]
    simp
    omega
  · have hw : wrote data at_.toNat m = data.take at_.toNat ++ m ++ data.drop (at_.toNat + m.length) := by
      unfold wrote
      rw [show at_.toNat + m.length - data.length = 0 by omega, List.replicate_zero, List.append_nil]
    rw [hw]
    refine (region_plan rfl Γok mixed (.pure 0 (.pure 1 (.pure 2 (.pure 3 (.pure 4 (.pure 5 (.pure 6 (.pure 7 (.pure 8 (.pure 9 (.pure 10 (.pure 11 (.pure 12 (.pure 13 (.pure 14 (.pure 15 (.eff (.cons 16 [3] (.pure 17 (.pure 18 (.pure 19 (.eff (.cons 20 [] .done .nil))))) .nil)))))))))))))))))) 93 rfl (by kernel_rfl) ?_)
    simp (maxSteps := 4000000) only [push_cast, Int.reduceEq, Int.reduceBNe, Int.reduceBEq, Int.reduceAdd, Int.reduceSub, Int.reduceMul, Int.reduceNeg, Int.reduceLT, Int.reduceLE, Int.reduceToNat, Nat.reduceLT, Nat.reduceAdd, Nat.reduceSub, Nat.reduceMul, Nat.reduceEqDiff, Nat.reduceLeDiff, Nat.reduceBEq, reduceIte, reduceCtorEq]
    rw [hm3]
    refine ⟨⟨⟨by omega, by omega⟩, hc⟩, ⟨by omega, by omega⟩, 1, .u8, p, c, data, at_.toNat, m, .inl rfl, shows_cut (by omega) hc, rfl, rfl, ?_⟩
    have ht : m.take (data.length - at_.toNat) = m := List.take_of_length_le (by omega)
    simp (maxSteps := 4000000) only [push_cast, Int.reduceEq, Int.reduceBNe, Int.reduceBEq, Int.reduceAdd, Int.reduceSub, Int.reduceMul, Int.reduceNeg, Int.reduceLT, Int.reduceLE, Int.reduceToNat, Nat.reduceLT, Nat.reduceAdd, Nat.reduceSub, Nat.reduceMul, Nat.reduceEqDiff, Nat.reduceLeDiff, Nat.reduceBEq, reduceIte, reduceCtorEq]
    rw [ht, wrap64 (n := at_ + (m.length : Int)) (by omega) (by omega)]
    refine Fin.w [0, 1] (.tup [.i .i64 (m.length : Nat), .i .i64 0]) (storeS T p c (data.take at_.toNat ++ m ++ data.drop (at_.toNat + m.length)) room (at_ + (m.length : Nat))) ?_ ⟨p, c, rfl, rfl⟩
    simp (maxSteps := 4000000) only [push_cast, Int.reduceEq, Int.reduceBNe, Int.reduceBEq, Int.reduceAdd, Int.reduceSub, Int.reduceMul, Int.reduceNeg, Int.reduceLT, Int.reduceLE, Int.reduceToNat, Nat.reduceLT, Nat.reduceAdd, Nat.reduceSub, Nat.reduceMul, Nat.reduceEqDiff, Nat.reduceLeDiff, Nat.reduceBEq, reduceIte, reduceCtorEq, storeS]
    simp
    omega

/-- A place is sought. -/
def gK (room : Int) (data : List Int) (at_ off w : Int) : (List Int × Int) × Int × Int :=
  if w < 0 ∨ 2 < w then ((data, at_), 0, 1)
  else if off < -(if w = 0 then 0 else if w = 1 then at_ else data.length) ∨ room - (if w = 0 then 0 else if w = 1 then at_ else data.length) < off then ((data, at_), 0, 4)
  else ((data, (if w = 0 then 0 else if w = 1 then at_ else data.length) + off), (if w = 0 then 0 else if w = 1 then at_ else data.length) + off, 0)

theorem storeSeekR_c (T : TypeId) (p : Option Addr) (c : Nat) (data : List Int) (room at_ off w : Int) (h0 : 0 ≤ at_) (h1 : at_ ≤ room) (h2 : room ≤ 1048576) (hd : data.length ≤ room) :
    Contract Try.prog 118 (storeS T p c data room at_) [.ptr 0 0, .i .i64 off, .i .i64 w]
    (fun sv post => sv = .tup [.i .i64 (gK room data at_ off w).2.1, .i .i64 (gK room data at_ off w).2.2] ∧ post = storeS T p c data room (gK room data at_ off w).1.2) := by
  refine contract_row 1 rfl fun hc hp => ?_
  refine contract_ev Γok Try.func118 rfl rfl [] ?_
  simp (maxSteps := 4000000) only [push_cast, Int.reduceEq, Int.reduceBNe, Int.reduceBEq, Int.reduceAdd, Int.reduceSub, Int.reduceMul, Int.reduceNeg, Int.reduceLT, Int.reduceLE, Int.reduceToNat, Nat.reduceLT, Nat.reduceAdd, Nat.reduceSub, Nat.reduceMul, Nat.reduceEqDiff, Nat.reduceLeDiff, Nat.reduceBEq, reduceIte, reduceCtorEq, Try.f118, storeS]
  unfold gK
  refine ⟨fun h3 => ?_, fun h3 => ?_⟩
  · rw [if_pos h3]
    exact Fin.w [0, 1] (.tup [.i .i64 0, .i .i64 1]) _ (by simp (maxSteps := 4000000) only [push_cast, Int.reduceEq, Int.reduceBNe, Int.reduceBEq, Int.reduceAdd, Int.reduceSub, Int.reduceMul, Int.reduceNeg, Int.reduceLT, Int.reduceLE, Int.reduceToNat, Nat.reduceLT, Nat.reduceAdd, Nat.reduceSub, Nat.reduceMul, Nat.reduceEqDiff, Nat.reduceLeDiff, Nat.reduceBEq, reduceIte, reduceCtorEq, storeS]) ⟨rfl, rfl⟩
  rw [if_neg (by omega)]
  have hw : w = 0 ∨ w = 1 ∨ w = 2 := by omega
  rcases hw with rfl | rfl | rfl
  · refine (region_plan rfl Γok mixed (.pure 0 (.pure 1 (.pure 2 (.pure 3 (.pure 4 (.pure 5 (.pure 6 (.pure 7 (.pure 8 (.pure 9 (.pure 10 (.pure 11 (.pure 12 .done))))))))))))) 58 rfl (by kernel_rfl) ?_)
    simp (maxSteps := 4000000) only [push_cast, Int.reduceEq, Int.reduceBNe, Int.reduceBEq, Int.reduceAdd, Int.reduceSub, Int.reduceMul, Int.reduceNeg, Int.reduceLT, Int.reduceLE, Int.reduceToNat, Nat.reduceLT, Nat.reduceAdd, Nat.reduceSub, Nat.reduceMul, Nat.reduceEqDiff, Nat.reduceLeDiff, Nat.reduceBEq, reduceIte, reduceCtorEq, Int.toNat_zero]
    rw [wrap64 (n := room - 0) (by omega) (by omega)]
    refine ⟨fun h4 => ?_, fun h4 => ?_⟩
    · rw [if_pos (by rcases h4 with h4 | h4 <;> omega)]
      exact Fin.w [0, 1] (.tup [.i .i64 0, .i .i64 4]) _ (by simp (maxSteps := 4000000) only [push_cast, Int.reduceEq, Int.reduceBNe, Int.reduceBEq, Int.reduceAdd, Int.reduceSub, Int.reduceMul, Int.reduceNeg, Int.reduceLT, Int.reduceLE, Int.reduceToNat, Nat.reduceLT, Nat.reduceAdd, Nat.reduceSub, Nat.reduceMul, Nat.reduceEqDiff, Nat.reduceLeDiff, Nat.reduceBEq, reduceIte, reduceCtorEq, storeS]) ⟨rfl, rfl⟩
    · rw [if_neg (by omega), wrap64 (n := 0 + off) (by omega) (by omega)]
      exact Fin.w [0, 1] (.tup [.i .i64 (0 + off), .i .i64 0]) _ (by simp (maxSteps := 4000000) only [push_cast, Int.reduceEq, Int.reduceBNe, Int.reduceBEq, Int.reduceAdd, Int.reduceSub, Int.reduceMul, Int.reduceNeg, Int.reduceLT, Int.reduceLE, Int.reduceToNat, Nat.reduceLT, Nat.reduceAdd, Nat.reduceSub, Nat.reduceMul, Nat.reduceEqDiff, Nat.reduceLeDiff, Nat.reduceBEq, reduceIte, reduceCtorEq, storeS]) ⟨rfl, rfl⟩
  · refine (region_plan rfl Γok mixed (.pure 0 (.pure 1 (.pure 2 (.pure 3 (.pure 4 (.pure 5 (.pure 6 (.pure 7 (.pure 8 (.pure 9 (.pure 10 (.pure 11 (.pure 12 .done))))))))))))) 58 rfl (by kernel_rfl) ?_)
    simp (maxSteps := 4000000) only [push_cast, Int.reduceEq, Int.reduceBNe, Int.reduceBEq, Int.reduceAdd, Int.reduceSub, Int.reduceMul, Int.reduceNeg, Int.reduceLT, Int.reduceLE, Int.reduceToNat, Nat.reduceLT, Nat.reduceAdd, Nat.reduceSub, Nat.reduceMul, Nat.reduceEqDiff, Nat.reduceLeDiff, Nat.reduceBEq, reduceIte, reduceCtorEq]
    rw [wrap64 (n := 0 - at_) (by omega) (by omega), wrap64 (n := room - at_) (by omega) (by omega)]
    refine ⟨fun h4 => ?_, fun h4 => ?_⟩
    · rw [if_pos (by rcases h4 with h4 | h4 <;> omega)]
      exact Fin.w [0, 1] (.tup [.i .i64 0, .i .i64 4]) _ (by simp (maxSteps := 4000000) only [push_cast, Int.reduceEq, Int.reduceBNe, Int.reduceBEq, Int.reduceAdd, Int.reduceSub, Int.reduceMul, Int.reduceNeg, Int.reduceLT, Int.reduceLE, Int.reduceToNat, Nat.reduceLT, Nat.reduceAdd, Nat.reduceSub, Nat.reduceMul, Nat.reduceEqDiff, Nat.reduceLeDiff, Nat.reduceBEq, reduceIte, reduceCtorEq, storeS]) ⟨rfl, rfl⟩
    · rw [if_neg (by omega), wrap64 (n := at_ + off) (by omega) (by omega)]
      exact Fin.w [0, 1] (.tup [.i .i64 (at_ + off), .i .i64 0]) _ (by simp (maxSteps := 4000000) only [push_cast, Int.reduceEq, Int.reduceBNe, Int.reduceBEq, Int.reduceAdd, Int.reduceSub, Int.reduceMul, Int.reduceNeg, Int.reduceLT, Int.reduceLE, Int.reduceToNat, Nat.reduceLT, Nat.reduceAdd, Nat.reduceSub, Nat.reduceMul, Nat.reduceEqDiff, Nat.reduceLeDiff, Nat.reduceBEq, reduceIte, reduceCtorEq, storeS]) ⟨rfl, rfl⟩
  · refine (region_plan rfl Γok mixed (.pure 0 (.pure 1 (.pure 2 (.pure 3 (.pure 4 (.pure 5 (.pure 6 (.pure 7 (.pure 8 (.pure 9 (.pure 10 (.pure 11 (.pure 12 .done))))))))))))) 58 rfl (by kernel_rfl) ?_)
    simp (maxSteps := 4000000) only [push_cast, Int.reduceEq, Int.reduceBNe, Int.reduceBEq, Int.reduceAdd, Int.reduceSub, Int.reduceMul, Int.reduceNeg, Int.reduceLT, Int.reduceLE, Int.reduceToNat, Nat.reduceLT, Nat.reduceAdd, Nat.reduceSub, Nat.reduceMul, Nat.reduceEqDiff, Nat.reduceLeDiff, Nat.reduceBEq, reduceIte, reduceCtorEq]
    rw [wrap64 (n := 0 - (data.length : Int)) (by omega) (by omega), wrap64 (n := room - (data.length : Int)) (by omega) (by omega)]
    refine ⟨fun h4 => ?_, fun h4 => ?_⟩
    · rw [if_pos (by rcases h4 with h4 | h4 <;> omega)]
      exact Fin.w [0, 1] (.tup [.i .i64 0, .i .i64 4]) _ (by simp (maxSteps := 4000000) only [push_cast, Int.reduceEq, Int.reduceBNe, Int.reduceBEq, Int.reduceAdd, Int.reduceSub, Int.reduceMul, Int.reduceNeg, Int.reduceLT, Int.reduceLE, Int.reduceToNat, Nat.reduceLT, Nat.reduceAdd, Nat.reduceSub, Nat.reduceMul, Nat.reduceEqDiff, Nat.reduceLeDiff, Nat.reduceBEq, reduceIte, reduceCtorEq, storeS]) ⟨rfl, rfl⟩
    · rw [if_neg (by omega), wrap64 (n := (data.length : Int) + off) (by omega) (by omega)]
      exact Fin.w [0, 1] (.tup [.i .i64 ((data.length : Int) + off), .i .i64 0]) _ (by simp (maxSteps := 4000000) only [push_cast, Int.reduceEq, Int.reduceBNe, Int.reduceBEq, Int.reduceAdd, Int.reduceSub, Int.reduceMul, Int.reduceNeg, Int.reduceLT, Int.reduceLE, Int.reduceToNat, Nat.reduceLT, Nat.reduceAdd, Nat.reduceSub, Nat.reduceMul, Nat.reduceEqDiff, Nat.reduceLeDiff, Nat.reduceBEq, reduceIte, reduceCtorEq, storeS]) ⟨rfl, rfl⟩

/-! Growing. -/
def growS (p : Option Addr) (c : Nat) (data : List Int) (at_ : Int) : SS := storeS 105 p c data 1048576 at_
def growR (b : Nat) (data : List Int) (at_ : Int) : Res := storeR 105 b data 1048576 at_

theorem growRead_c (p : Option Addr) (c : Nat) (data : List Int) (at_ n : Int) (h0 : 0 ≤ at_) (h0' : at_ ≤ 1048576) (hd : data.length ≤ 1048576) (h1 : 0 ≤ n) (h2 : n ≤ 1048576) :
    Contract Try.prog 114 (growS p c data at_) [.ptr 0 0, .i .i64 n]
    (fun sv post => sv = .tup [.ints .u8 .new (readV data at_ n), .i .i64 0] ∧ post = growS p c data (at_ + (readV data at_ n).length)) := by
  refine contract_ev Γok Try.func114 rfl rfl [] ?_
  simp (maxSteps := 4000000) only [push_cast, Int.reduceEq, Int.reduceBNe, Int.reduceBEq, Int.reduceAdd, Int.reduceSub, Int.reduceMul, Int.reduceNeg, Int.reduceLT, Int.reduceLE, Int.reduceToNat, Nat.reduceLT, Nat.reduceAdd, Nat.reduceSub, Nat.reduceMul, Nat.reduceEqDiff, Nat.reduceLeDiff, Nat.reduceBEq, reduceIte, reduceCtorEq, Try.f114, growS, storeS]
  refine call_w (storeReadR_c 105 p c data 1048576 at_ n h0 h0' hd h1 h2) [0, 1] (by simp (maxSteps := 4000000) only [push_cast, Int.reduceEq, Int.reduceBNe, Int.reduceBEq, Int.reduceAdd, Int.reduceSub, Int.reduceMul, Int.reduceNeg, Int.reduceLT, Int.reduceLE, Int.reduceToNat, Nat.reduceLT, Nat.reduceAdd, Nat.reduceSub, Nat.reduceMul, Nat.reduceEqDiff, Nat.reduceLeDiff, Nat.reduceBEq, reduceIte, reduceCtorEq, storeS]) ?_
  rintro sv post ⟨rfl, rfl⟩
  simp (maxSteps := 4000000) only [push_cast, Int.reduceEq, Int.reduceBNe, Int.reduceBEq, Int.reduceAdd, Int.reduceSub, Int.reduceMul, Int.reduceNeg, Int.reduceLT, Int.reduceLE, Int.reduceToNat, Nat.reduceLT, Nat.reduceAdd, Nat.reduceSub, Nat.reduceMul, Nat.reduceEqDiff, Nat.reduceLeDiff, Nat.reduceBEq, reduceIte, reduceCtorEq, storeS]
  exact Fin.w [0, 2] (.tup [.ints .u8 .new (readV data at_ n), .i .i64 0]) _ (by simp (maxSteps := 4000000) only [push_cast, Int.reduceEq, Int.reduceBNe, Int.reduceBEq, Int.reduceAdd, Int.reduceSub, Int.reduceMul, Int.reduceNeg, Int.reduceLT, Int.reduceLE, Int.reduceToNat, Nat.reduceLT, Nat.reduceAdd, Nat.reduceSub, Nat.reduceMul, Nat.reduceEqDiff, Nat.reduceLeDiff, Nat.reduceBEq, reduceIte, reduceCtorEq, growS, storeS]) ⟨rfl, rfl⟩

theorem growWrite_c (p : Option Addr) (c : Nat) (data : List Int) (at_ : Int) (b : List Int) (h0 : 0 ≤ at_) (h1 : at_ ≤ 1048576) (hd : data.length ≤ 1048576) (hb : b.length ≤ 1048576) (hne : b ≠ []) :
    Contract Try.prog 116 (growS p c data at_) [.ptr 0 0, .ints .u8 .old b]
    (fun sv post => ∃ p' c', sv = .tup [.i .i64 (gW 1048576 data at_ b).2.1, .i .i64 (gW 1048576 data at_ b).2.2] ∧ post = growS p' c' (gW 1048576 data at_ b).1.1 (gW 1048576 data at_ b).1.2) := by
  refine contract_ev Γok Try.func116 rfl rfl [] ?_
  simp (maxSteps := 4000000) only [push_cast, Int.reduceEq, Int.reduceBNe, Int.reduceBEq, Int.reduceAdd, Int.reduceSub, Int.reduceMul, Int.reduceNeg, Int.reduceLT, Int.reduceLE, Int.reduceToNat, Nat.reduceLT, Nat.reduceAdd, Nat.reduceSub, Nat.reduceMul, Nat.reduceEqDiff, Nat.reduceLeDiff, Nat.reduceBEq, reduceIte, reduceCtorEq, Try.f116, growS, storeS]
  refine call_w (storeWriteR_c 105 p c data 1048576 at_ b h0 h1 (by omega) (by omega) hb hne) [0, 1] (by simp (maxSteps := 4000000) only [push_cast, Int.reduceEq, Int.reduceBNe, Int.reduceBEq, Int.reduceAdd, Int.reduceSub, Int.reduceMul, Int.reduceNeg, Int.reduceLT, Int.reduceLE, Int.reduceToNat, Nat.reduceLT, Nat.reduceAdd, Nat.reduceSub, Nat.reduceMul, Nat.reduceEqDiff, Nat.reduceLeDiff, Nat.reduceBEq, reduceIte, reduceCtorEq, storeS]) ?_
  rintro sv post ⟨p', c', rfl, rfl⟩
  simp (maxSteps := 4000000) only [push_cast, Int.reduceEq, Int.reduceBNe, Int.reduceBEq, Int.reduceAdd, Int.reduceSub, Int.reduceMul, Int.reduceNeg, Int.reduceLT, Int.reduceLE, Int.reduceToNat, Nat.reduceLT, Nat.reduceAdd, Nat.reduceSub, Nat.reduceMul, Nat.reduceEqDiff, Nat.reduceLeDiff, Nat.reduceBEq, reduceIte, reduceCtorEq, storeS]
  exact Fin.w [0, 2] (.tup [.i .i64 (gW 1048576 data at_ b).2.1, .i .i64 (gW 1048576 data at_ b).2.2]) (growS p' c' (gW 1048576 data at_ b).1.1 (gW 1048576 data at_ b).1.2) (by simp (maxSteps := 4000000) only [push_cast, Int.reduceEq, Int.reduceBNe, Int.reduceBEq, Int.reduceAdd, Int.reduceSub, Int.reduceMul, Int.reduceNeg, Int.reduceLT, Int.reduceLE, Int.reduceToNat, Nat.reduceLT, Nat.reduceAdd, Nat.reduceSub, Nat.reduceMul, Nat.reduceEqDiff, Nat.reduceLeDiff, Nat.reduceBEq, reduceIte, reduceCtorEq, growS, storeS]) ⟨p', c', rfl, rfl⟩

theorem growSeek_c (p : Option Addr) (c : Nat) (data : List Int) (at_ off w : Int) (h0 : 0 ≤ at_) (h1 : at_ ≤ 1048576) (hd : data.length ≤ 1048576) :
    Contract Try.prog 115 (growS p c data at_) [.ptr 0 0, .i .i64 off, .i .i64 w]
    (fun sv post => sv = .tup [.i .i64 (gK 1048576 data at_ off w).2.1, .i .i64 (gK 1048576 data at_ off w).2.2] ∧ post = growS p c data (gK 1048576 data at_ off w).1.2) := by
  refine contract_ev Γok Try.func115 rfl rfl [] ?_
  simp (maxSteps := 4000000) only [push_cast, Int.reduceEq, Int.reduceBNe, Int.reduceBEq, Int.reduceAdd, Int.reduceSub, Int.reduceMul, Int.reduceNeg, Int.reduceLT, Int.reduceLE, Int.reduceToNat, Nat.reduceLT, Nat.reduceAdd, Nat.reduceSub, Nat.reduceMul, Nat.reduceEqDiff, Nat.reduceLeDiff, Nat.reduceBEq, reduceIte, reduceCtorEq, Try.f115, growS, storeS]
  refine call_w (storeSeekR_c 105 p c data 1048576 at_ off w h0 h1 (by omega) (by omega)) [0, 1] (by simp (maxSteps := 4000000) only [push_cast, Int.reduceEq, Int.reduceBNe, Int.reduceBEq, Int.reduceAdd, Int.reduceSub, Int.reduceMul, Int.reduceNeg, Int.reduceLT, Int.reduceLE, Int.reduceToNat, Nat.reduceLT, Nat.reduceAdd, Nat.reduceSub, Nat.reduceMul, Nat.reduceEqDiff, Nat.reduceLeDiff, Nat.reduceBEq, reduceIte, reduceCtorEq, storeS]) ?_
  rintro sv post ⟨rfl, rfl⟩
  simp (maxSteps := 4000000) only [push_cast, Int.reduceEq, Int.reduceBNe, Int.reduceBEq, Int.reduceAdd, Int.reduceSub, Int.reduceMul, Int.reduceNeg, Int.reduceLT, Int.reduceLE, Int.reduceToNat, Nat.reduceLT, Nat.reduceAdd, Nat.reduceSub, Nat.reduceMul, Nat.reduceEqDiff, Nat.reduceLeDiff, Nat.reduceBEq, reduceIte, reduceCtorEq, storeS]
  exact Fin.w [0, 2] (.tup [.i .i64 (gK 1048576 data at_ off w).2.1, .i .i64 (gK 1048576 data at_ off w).2.2]) (growS p c data (gK 1048576 data at_ off w).1.2) (by simp (maxSteps := 4000000) only [push_cast, Int.reduceEq, Int.reduceBNe, Int.reduceBEq, Int.reduceAdd, Int.reduceSub, Int.reduceMul, Int.reduceNeg, Int.reduceLT, Int.reduceLE, Int.reduceToNat, Nat.reduceLT, Nat.reduceAdd, Nat.reduceSub, Nat.reduceMul, Nat.reduceEqDiff, Nat.reduceLeDiff, Nat.reduceBEq, reduceIte, reduceCtorEq, growS, storeS]) ⟨rfl, rfl⟩

theorem growBytes0_c (p : Option Addr) (c : Nat) (data : List Int) (at_ : Int) (hd : data.length ≤ 1048576) :
    Contract Try.prog 39 (growS p c data at_) [.ptr 0 0]
    (fun sv post => sv = .ints .u8 .new data ∧ post = growS p c data at_) := by
  refine contract_row 1 rfl fun hc hp => ?_
  refine contract_ev Γok Try.func39 rfl rfl [] ?_
  simp (maxSteps := 4000000) only [push_cast, Int.reduceEq, Int.reduceBNe, Int.reduceBEq, Int.reduceAdd, Int.reduceSub, Int.reduceMul, Int.reduceNeg, Int.reduceLT, Int.reduceLE, Int.reduceToNat, Nat.reduceLT, Nat.reduceAdd, Nat.reduceSub, Nat.reduceMul, Nat.reduceEqDiff, Nat.reduceLeDiff, Nat.reduceBEq, reduceIte, reduceCtorEq, Try.f39, growS, storeS]
  refine call_w (bcloneR_c p c data p data.length c 0 ⟨by omega, .inr (by cases p <;> simp [Addr.add])⟩ (by omega)) [1] (by simp (maxSteps := 4000000) only [push_cast, Int.reduceEq, Int.reduceBNe, Int.reduceBEq, Int.reduceAdd, Int.reduceSub, Int.reduceMul, Int.reduceNeg, Int.reduceLT, Int.reduceLE, Int.reduceToNat, Nat.reduceLT, Nat.reduceAdd, Nat.reduceSub, Nat.reduceMul, Nat.reduceEqDiff, Nat.reduceLeDiff, Nat.reduceBEq, reduceIte, reduceCtorEq]) ?_
  rintro sv post ⟨rfl, rfl⟩
  have e : (data.drop 0).take data.length = data := by simp
  rw [e]
  simp (maxSteps := 4000000) only [push_cast, Int.reduceEq, Int.reduceBNe, Int.reduceBEq, Int.reduceAdd, Int.reduceSub, Int.reduceMul, Int.reduceNeg, Int.reduceLT, Int.reduceLE, Int.reduceToNat, Nat.reduceLT, Nat.reduceAdd, Nat.reduceSub, Nat.reduceMul, Nat.reduceEqDiff, Nat.reduceLeDiff, Nat.reduceBEq, reduceIte, reduceCtorEq]
  exact Fin.w [0, 1] (.ints .u8 .new data) _ (by simp (maxSteps := 4000000) only [push_cast, Int.reduceEq, Int.reduceBNe, Int.reduceBEq, Int.reduceAdd, Int.reduceSub, Int.reduceMul, Int.reduceNeg, Int.reduceLT, Int.reduceLE, Int.reduceToNat, Nat.reduceLT, Nat.reduceAdd, Nat.reduceSub, Nat.reduceMul, Nat.reduceEqDiff, Nat.reduceLeDiff, Nat.reduceBEq, reduceIte, reduceCtorEq, growS, storeS]) ⟨rfl, rfl⟩
theorem growBytes_c (b : Nat) (data : List Int) (at_ : Int) (hd : data.length ≤ 1048576) : Contract Try.prog 39 (preR (growR b data at_)) [.raw (.pointer (some ⟨b, 0, none⟩))]
    (fun sv post => sv = .ints .u8 .new data ∧ post = preR (growR b data at_)) := by
  refine Contract.ex fun pc => Contract.post (contract_res b (R := fun sv post => sv = .ints .u8 .new data ∧ post = preR ((growS pc.1 pc.2 data at_).res b)) (by simp [growS, storeS]) (by simp [growS, storeS]) (growBytes0_c pc.1 pc.2 data at_ hd) (by simp [NNL]) ?_) ?_
  · rintro sv post ⟨rfl, rfl⟩
    exact ⟨growS pc.1 pc.2 data at_, [0, 1], _, by simp (maxSteps := 4000000) only [push_cast, Int.reduceEq, Int.reduceBNe, Int.reduceBEq, Int.reduceAdd, Int.reduceSub, Int.reduceMul, Int.reduceNeg, Int.reduceLT, Int.reduceLE, Int.reduceToNat, Nat.reduceLT, Nat.reduceAdd, Nat.reduceSub, Nat.reduceMul, Nat.reduceEqDiff, Nat.reduceLeDiff, Nat.reduceBEq, reduceIte, reduceCtorEq, growS, storeS], rfl, (by simp (maxSteps := 4000000) only [push_cast, Int.reduceEq, Int.reduceBNe, Int.reduceBEq, Int.reduceAdd, Int.reduceSub, Int.reduceMul, Int.reduceNeg, Int.reduceLT, Int.reduceLE, Int.reduceToNat, Nat.reduceLT, Nat.reduceAdd, Nat.reduceSub, Nat.reduceMul, Nat.reduceEqDiff, Nat.reduceLeDiff, Nat.reduceBEq, reduceIte, reduceCtorEq] : W false (fun n => n) (.ints .u8 .new data) _), by simp [NN, NNT], rfl, rfl⟩
  · rintro sv post ⟨rfl, rfl⟩
    exact ⟨_, SSLe.pre (f := fun pc : Option Addr × Nat => (storeS 105 pc.1 pc.2 data 1048576 at_).res b) pc, rfl, rfl⟩

theorem growReadM : MethodIs Try.prog 62 "Read" 114 := methodIs_of (by kernel_rfl)
theorem growWriteM : MethodIs Try.prog 62 "Write" 116 := methodIs_of (by kernel_rfl)
theorem growSeekM : MethodIs Try.prog 62 "Seek" 115 := methodIs_of (by kernel_rfl)
def growM (b : Nat) : RawM where
  σ := List Int × Int
  t := 62
  y := .pointer (some ⟨b, 0, none⟩)
  res s := growR b s.1 s.2
  ok s := 0 ≤ s.2 ∧ s.2 ≤ 1048576 ∧ s.1.length ≤ 1048576
  rd s n := ((s.1, s.2 + (readV s.1 s.2 n).length), readV s.1 s.2 n, 0)
  wr s l := gW 1048576 s.1 s.2 l
  sk s o w := gK 1048576 s.1 s.2 o w

theorem wrote_len (data : List Int) (i : Nat) (m : List Int) : (wrote data i m).length = max data.length (i + m.length) := by
  unfold wrote
  simp only [List.length_append, List.length_take, List.length_replicate, List.length_drop]
  omega
theorem growM_rd (b : Nat) : (growM b).Rd := by
  refine ⟨fun (s : List Int × Int) n ⟨h0, h0', hd⟩ h1 h2 => ?_, fun (s : List Int × Int) n ⟨h0, h0', hd⟩ h1 h2 => ?_⟩
  · simp only [growM]
    refine ⟨by omega, ?_, hd⟩
    unfold readV
    rw [List.length_take, List.length_drop]
    omega
  · refine InvC.ex fun pc => InvC.post (R := fun sv post => sv = .tup [.ints .u8 .old (readV s.1 s.2 n), .i .i64 0] ∧ post = preR ((growS pc.1 pc.2 s.1 (s.2 + (readV s.1 s.2 n).length)).res b)) (invC_of growReadM (contract_res b (by simp [growS, storeS]) (by simp [growS, storeS]) (growRead_c pc.1 pc.2 s.1 s.2 n h0 h0' hd (by omega) h2) (by simp [NNL, NN]) ?_)) ?_
    · rintro sv post ⟨rfl, rfl⟩
      exact ⟨growS pc.1 pc.2 s.1 (s.2 + (readV s.1 s.2 n).length), [0, 1], _, by simp (maxSteps := 4000000) only [push_cast, Int.reduceEq, Int.reduceBNe, Int.reduceBEq, Int.reduceAdd, Int.reduceSub, Int.reduceMul, Int.reduceNeg, Int.reduceLT, Int.reduceLE, Int.reduceToNat, Nat.reduceLT, Nat.reduceAdd, Nat.reduceSub, Nat.reduceMul, Nat.reduceEqDiff, Nat.reduceLeDiff, Nat.reduceBEq, reduceIte, reduceCtorEq, growS, storeS], rfl, (by simp (maxSteps := 4000000) only [push_cast, Int.reduceEq, Int.reduceBNe, Int.reduceBEq, Int.reduceAdd, Int.reduceSub, Int.reduceMul, Int.reduceNeg, Int.reduceLT, Int.reduceLE, Int.reduceToNat, Nat.reduceLT, Nat.reduceAdd, Nat.reduceSub, Nat.reduceMul, Nat.reduceEqDiff, Nat.reduceLeDiff, Nat.reduceBEq, reduceIte, reduceCtorEq] : W false (fun n => n) (.tup [.ints .u8 .old (readV s.1 s.2 n), .i .i64 0]) _), by simp [NN, NNL, NNT], rfl, rfl⟩
    · rintro sv post ⟨rfl, rfl⟩
      exact ⟨_, SSLe.pre (f := fun pc : Option Addr × Nat => (storeS 105 pc.1 pc.2 s.1 1048576 (s.2 + (readV s.1 s.2 n).length)).res b) pc, rfl, rfl⟩
theorem growM_wr (b : Nat) : (growM b).Wr := by
  refine ⟨?_, fun (s : List Int × Int) l ⟨h0, h0', hd⟩ h1 h2 h3 => ⟨?_, ?_⟩, fun (s : List Int × Int) l ⟨h0, h0', hd⟩ h1 h2 h3 => ?_⟩
  · exact nilOK_of (f := 116) (by kernel_rfl) _
  · simp only [growM]
    unfold gW
    split
    · exact ⟨h0, h0', hd⟩
    · dsimp only
      refine ⟨by omega, by rw [List.length_take]; omega, ?_⟩
      rw [wrote_len, List.length_take]
      omega
  · exact Nat.le_add_right _ _
  · refine InvC.ex fun pc => InvC.post (R := fun sv post => ∃ p' c', sv = .tup [.i .i64 (gW 1048576 s.1 s.2 l).2.1, .i .i64 (gW 1048576 s.1 s.2 l).2.2] ∧ post = preR ((growS p' c' (gW 1048576 s.1 s.2 l).1.1 (gW 1048576 s.1 s.2 l).1.2).res b)) (invC_of growWriteM (contract_res b (by simp [growS, storeS]) (by simp [growS, storeS]) (growWrite_c pc.1 pc.2 s.1 s.2 l h0 h0' hd h2 h1) (by simp [NNL, NN, NNT]) ?_)) ?_
    · rintro sv post ⟨p', c', rfl, rfl⟩
      exact ⟨growS p' c' (gW 1048576 s.1 s.2 l).1.1 (gW 1048576 s.1 s.2 l).1.2, [0, 1], _, by simp (maxSteps := 4000000) only [push_cast, Int.reduceEq, Int.reduceBNe, Int.reduceBEq, Int.reduceAdd, Int.reduceSub, Int.reduceMul, Int.reduceNeg, Int.reduceLT, Int.reduceLE, Int.reduceToNat, Nat.reduceLT, Nat.reduceAdd, Nat.reduceSub, Nat.reduceMul, Nat.reduceEqDiff, Nat.reduceLeDiff, Nat.reduceBEq, reduceIte, reduceCtorEq, growS, storeS], rfl, (by simp (maxSteps := 4000000) only [push_cast, Int.reduceEq, Int.reduceBNe, Int.reduceBEq, Int.reduceAdd, Int.reduceSub, Int.reduceMul, Int.reduceNeg, Int.reduceLT, Int.reduceLE, Int.reduceToNat, Nat.reduceLT, Nat.reduceAdd, Nat.reduceSub, Nat.reduceMul, Nat.reduceEqDiff, Nat.reduceLeDiff, Nat.reduceBEq, reduceIte, reduceCtorEq] : W false (fun n => n) (.tup [.i .i64 (gW 1048576 s.1 s.2 l).2.1, .i .i64 (gW 1048576 s.1 s.2 l).2.2]) _), by simp [NN, NNL, NNT], p', c', rfl, rfl⟩
    · rintro sv post ⟨p', c', rfl, rfl⟩
      exact ⟨_, SSLe.pre (f := fun pc : Option Addr × Nat => (storeS 105 pc.1 pc.2 (gW 1048576 s.1 s.2 l).1.1 1048576 (gW 1048576 s.1 s.2 l).1.2).res b) (p', c'), rfl, rfl⟩
theorem gK_ok {data : List Int} {at_ o w : Int} (h0 : 0 ≤ at_) (h1 : at_ ≤ 1048576) (hd : data.length ≤ 1048576) : (gK 1048576 data at_ o w).1.1 = data ∧ 0 ≤ (gK 1048576 data at_ o w).1.2 ∧ (gK 1048576 data at_ o w).1.2 ≤ 1048576 := by
  unfold gK
  split
  · exact ⟨rfl, h0, h1⟩
  · generalize (if w = 0 then (0 : Int) else if w = 1 then at_ else data.length) = base
    split
    · exact ⟨rfl, h0, h1⟩
    · exact ⟨rfl, by dsimp only; omega, by dsimp only; omega⟩
theorem growM_sk (b : Nat) : (growM b).Sk := by
  refine ⟨fun (s : List Int × Int) o w ⟨h0, h0', hd⟩ => ?_, fun (s : List Int × Int) o w ⟨h0, h0', hd⟩ => ?_⟩
  · obtain ⟨e1, e2, e3⟩ := gK_ok (o := o) (w := w) h0 h0' hd
    exact ⟨e2, e3, by show (gK 1048576 s.1 s.2 o w).1.1.length ≤ _; rw [e1]; exact hd⟩
  · obtain ⟨e1, e2, e3⟩ := gK_ok (o := o) (w := w) h0 h0' hd
    refine InvC.ex fun pc => InvC.post (R := fun sv post => sv = .tup [.i .i64 (gK 1048576 s.1 s.2 o w).2.1, .i .i64 (gK 1048576 s.1 s.2 o w).2.2] ∧ post = preR ((growS pc.1 pc.2 s.1 (gK 1048576 s.1 s.2 o w).1.2).res b)) (invC_of growSeekM (contract_res b (by simp [growS, storeS]) (by simp [growS, storeS]) (growSeek_c pc.1 pc.2 s.1 s.2 o w h0 h0' hd) (by simp [NNL, NN]) ?_)) ?_
    · rintro sv post ⟨rfl, rfl⟩
      exact ⟨growS pc.1 pc.2 s.1 (gK 1048576 s.1 s.2 o w).1.2, [0, 1], _, by simp (maxSteps := 4000000) only [push_cast, Int.reduceEq, Int.reduceBNe, Int.reduceBEq, Int.reduceAdd, Int.reduceSub, Int.reduceMul, Int.reduceNeg, Int.reduceLT, Int.reduceLE, Int.reduceToNat, Nat.reduceLT, Nat.reduceAdd, Nat.reduceSub, Nat.reduceMul, Nat.reduceEqDiff, Nat.reduceLeDiff, Nat.reduceBEq, reduceIte, reduceCtorEq, growS, storeS], rfl, (by simp (maxSteps := 4000000) only [push_cast, Int.reduceEq, Int.reduceBNe, Int.reduceBEq, Int.reduceAdd, Int.reduceSub, Int.reduceMul, Int.reduceNeg, Int.reduceLT, Int.reduceLE, Int.reduceToNat, Nat.reduceLT, Nat.reduceAdd, Nat.reduceSub, Nat.reduceMul, Nat.reduceEqDiff, Nat.reduceLeDiff, Nat.reduceBEq, reduceIte, reduceCtorEq] : W false (fun n => n) (.tup [.i .i64 (gK 1048576 s.1 s.2 o w).2.1, .i .i64 (gK 1048576 s.1 s.2 o w).2.2]) _), by simp [NN, NNL, NNT], rfl, rfl⟩
    · rintro sv post ⟨rfl, rfl⟩
      refine ⟨_, SSLe.pre (f := fun pc : Option Addr × Nat => (storeS 105 pc.1 pc.2 s.1 1048576 (gK 1048576 s.1 s.2 o w).1.2).res b) pc, rfl, ?_⟩
      show preR _ = preR (growR b (gK 1048576 s.1 s.2 o w).1.1 (gK 1048576 s.1 s.2 o w).1.2)
      rw [e1]
      rfl

/-- New memory that grows, as a resource at some block. -/
def isGrow (l : List Int) (sv : SV) (post : SS) : Prop := ∃ b, sv = .tup [.raw (.pointer (some ⟨b, 0, none⟩)), .i .i64 0] ∧ post = ⟨[], [], [], [(2, growR b l 0)], 3, 0, []⟩
theorem newGrow_c (l : List Int) (hl : l.length ≤ 1048576) : Contract Try.prog 33 nilSS [.ints .u8 .old l] (isGrow l) := by
  refine Contract.post (contract_new (R' := fun sv post => ∃ p c, sv = .tup [.ptr 0 0, .i .i64 0] ∧ post = { growS p c l 0 with k := 0 }) (R := fun sv post => ∃ b p c, sv = .tup [.raw (.pointer (some ⟨b, 0, none⟩)), .i .i64 0] ∧ post = ⟨[], [], [], [(2, (growS p c l 0).res b)], 3, 0, []⟩) ?_ ?_) ?_
  · refine contract_ev Γok Try.func33 rfl rfl [] ?_
    simp (maxSteps := 4000000) only [push_cast, Int.reduceEq, Int.reduceBNe, Int.reduceBEq, Int.reduceAdd, Int.reduceSub, Int.reduceMul, Int.reduceNeg, Int.reduceLT, Int.reduceLE, Int.reduceToNat, Nat.reduceLT, Nat.reduceAdd, Nat.reduceSub, Nat.reduceMul, Nat.reduceEqDiff, Nat.reduceLeDiff, Nat.reduceBEq, reduceIte, reduceCtorEq, Try.f33]
    refine ⟨fun h => by omega, fun h => ?_⟩
    refine call_w (kept2_c l 1048576 (by omega)) [] (by simp (maxSteps := 4000000) only [push_cast, Int.reduceEq, Int.reduceBNe, Int.reduceBEq, Int.reduceAdd, Int.reduceSub, Int.reduceMul, Int.reduceNeg, Int.reduceLT, Int.reduceLE, Int.reduceToNat, Nat.reduceLT, Nat.reduceAdd, Nat.reduceSub, Nat.reduceMul, Nat.reduceEqDiff, Nat.reduceLeDiff, Nat.reduceBEq, reduceIte, reduceCtorEq]) ?_
    rintro sv post ⟨p, c, rfl, rfl⟩
    simp (maxSteps := 4000000) only [push_cast, Int.reduceEq, Int.reduceBNe, Int.reduceBEq, Int.reduceAdd, Int.reduceSub, Int.reduceMul, Int.reduceNeg, Int.reduceLT, Int.reduceLE, Int.reduceToNat, Nat.reduceLT, Nat.reduceAdd, Nat.reduceSub, Nat.reduceMul, Nat.reduceEqDiff, Nat.reduceLeDiff, Nat.reduceBEq, reduceIte, reduceCtorEq]
    exact Fin.w [1, 0] (.tup [.ptr 0 0, .i .i64 0]) { growS p c l 0 with k := 0 } (by simp (maxSteps := 4000000) only [push_cast, Int.reduceEq, Int.reduceBNe, Int.reduceBEq, Int.reduceAdd, Int.reduceSub, Int.reduceMul, Int.reduceNeg, Int.reduceLT, Int.reduceLE, Int.reduceToNat, Nat.reduceLT, Nat.reduceAdd, Nat.reduceSub, Nat.reduceMul, Nat.reduceEqDiff, Nat.reduceLeDiff, Nat.reduceBEq, reduceIte, reduceCtorEq, growS, storeS]) ⟨p, c, rfl, rfl⟩
  · rintro sv post ⟨p, c, rfl, rfl⟩
    refine ⟨growS p c l 0, [0, 1], 105, _, by simp (maxSteps := 4000000) only [push_cast, Int.reduceEq, Int.reduceBNe, Int.reduceBEq, Int.reduceAdd, Int.reduceSub, Int.reduceMul, Int.reduceNeg, Int.reduceLT, Int.reduceLE, Int.reduceToNat, Nat.reduceLT, Nat.reduceAdd, Nat.reduceSub, Nat.reduceMul, Nat.reduceEqDiff, Nat.reduceLeDiff, Nat.reduceBEq, reduceIte, reduceCtorEq, growS, storeS], rfl, fun b => ⟨b, p, c, ?_, ?_⟩⟩
    · simp (maxSteps := 4000000) only [push_cast, Int.reduceEq, Int.reduceBNe, Int.reduceBEq, Int.reduceAdd, Int.reduceSub, Int.reduceMul, Int.reduceNeg, Int.reduceLT, Int.reduceLE, Int.reduceToNat, Nat.reduceLT, Nat.reduceAdd, Nat.reduceSub, Nat.reduceMul, Nat.reduceEqDiff, Nat.reduceLeDiff, Nat.reduceBEq, reduceIte, reduceCtorEq, growS, storeS]
    · simp (maxSteps := 4000000) only [push_cast, Int.reduceEq, Int.reduceBNe, Int.reduceBEq, Int.reduceAdd, Int.reduceSub, Int.reduceMul, Int.reduceNeg, Int.reduceLT, Int.reduceLE, Int.reduceToNat, Nat.reduceLT, Nat.reduceAdd, Nat.reduceSub, Nat.reduceMul, Nat.reduceEqDiff, Nat.reduceLeDiff, Nat.reduceBEq, reduceIte, reduceCtorEq, growS, storeS]
  · rintro sv post ⟨b, p, c, rfl, rfl⟩
    refine ⟨_, SSLe.ex (f := fun pc : Option Addr × Nat => (storeS 105 pc.1 pc.2 l 1048576 0).res b) 2 (p, c) (by simp [growS]), b, rfl, rfl⟩
theorem newGrowLong_c (l : List Int) (hl : 1048576 < l.length) : Contract Try.prog 33 nilSS [.ints .u8 .old l] (fun sv post => sv = .tup [.nilp, .i .i64 5] ∧ post = nilSS) := by
  refine contract_ev Γok Try.func33 rfl rfl [] ?_
  simp (maxSteps := 4000000) only [push_cast, Int.reduceEq, Int.reduceBNe, Int.reduceBEq, Int.reduceAdd, Int.reduceSub, Int.reduceMul, Int.reduceNeg, Int.reduceLT, Int.reduceLE, Int.reduceToNat, Nat.reduceLT, Nat.reduceAdd, Nat.reduceSub, Nat.reduceMul, Nat.reduceEqDiff, Nat.reduceLeDiff, Nat.reduceBEq, reduceIte, reduceCtorEq, Try.f33]
  refine ⟨fun h => ?_, fun h => by omega⟩
  exact Fin.nil rfl (psv := .tup [.nilp, .i .i64 5]) (by simp (maxSteps := 4000000) only [push_cast, Int.reduceEq, Int.reduceBNe, Int.reduceBEq, Int.reduceAdd, Int.reduceSub, Int.reduceMul, Int.reduceNeg, Int.reduceLT, Int.reduceLE, Int.reduceToNat, Nat.reduceLT, Nat.reduceAdd, Nat.reduceSub, Nat.reduceMul, Nat.reduceEqDiff, Nat.reduceLeDiff, Nat.reduceBEq, reduceIte, reduceCtorEq]) ⟨rfl, rfl⟩
end Go.Proofs.Ytbhkpefjnomncaa
/- The page's example of streams. -/
namespace Go.Proofs.Ytbhkpefjnomncaa
open Go Go.Eng
set_option maxHeartbeats 4000000
set_option linter.unusedSimpArgs false
set_option linter.unusedVariables false
set_option maxRecDepth 100000

theorem num11_c (m : Int) : Contract Try.prog 25 nilSS [.i .i64 m] (fun sv post => sv = .i .i64 m ∧ post = nilSS) := by
  refine contract_ev Γok Try.func25 rfl rfl [] ?_
  simp (maxSteps := 4000000) only [push_cast, Int.reduceEq, Int.reduceBNe, Int.reduceBEq, Int.reduceAdd, Int.reduceSub, Int.reduceMul, Int.reduceNeg, Int.reduceLT, Int.reduceLE, Int.reduceToNat, Nat.reduceLT, Nat.reduceAdd, Nat.reduceSub, Nat.reduceMul, Nat.reduceEqDiff, Nat.reduceLeDiff, Nat.reduceBEq, reduceIte, reduceCtorEq, Try.f25]
  exact Fin.nil rfl (psv := .i .i64 _) (by simp (maxSteps := 4000000) only [push_cast, Int.reduceEq, Int.reduceBNe, Int.reduceBEq, Int.reduceAdd, Int.reduceSub, Int.reduceMul, Int.reduceNeg, Int.reduceLT, Int.reduceLE, Int.reduceToNat, Nat.reduceLT, Nat.reduceAdd, Nat.reduceSub, Nat.reduceMul, Nat.reduceEqDiff, Nat.reduceLeDiff, Nat.reduceBEq, reduceIte, reduceCtorEq]) ⟨rfl, rfl⟩

def fewSt (o : List Int) (d : Int) (c : Bool) : St := ⟨false, true, 3, 2, o, [], [], d, false, false, c⟩
theorem few1 (b : Nat) : (fewSt [] 0 false).Put (growM b) (([], 0) : List Int × Int) 97 = (fewSt [97] 2 false, (([], 0) : List Int × Int), 0) := by kernel_rfl
theorem few2 (b : Nat) : (fewSt [97] 2 false).Put (growM b) (([], 0) : List Int × Int) 98 = (fewSt [] 2 false, (([97, 98], 2) : List Int × Int), 0) := by kernel_rfl
theorem few3 (b : Nat) : (fewSt [] 2 false).Put (growM b) (([97, 98], 2) : List Int × Int) 99 = (fewSt [99] 2 false, (([97, 98], 2) : List Int × Int), 0) := by kernel_rfl
theorem few4 (b : Nat) : (fewSt [99] 2 false).Close (growM b) (([97, 98], 2) : List Int × Int) = (fewSt [] 0 true, (([97, 98, 99], 3) : List Int × Int), 0) := by kernel_rfl

theorem alive11_c : Contract Try.prog 24 nilSS [] (fun sv post => sv = .b true ∧ post = nilSS) := by
  have e0 : newSt false true 3 2 = fewSt [] 0 false := rfl
  have may0 : mayV 3 2 = 0 := rfl
  have hv : ∀ b, (growM b).v = .ifc 62 (.raw (.pointer (some ⟨b, 0, none⟩))) := fun b => rfl
  have hr : ∀ b (s : List Int × Int), (growM b).res s = growR b s.1 s.2 := fun b s => rfl
  have q1 : strOf [97, 98, 99] = ⟨#[97, 98, 99]⟩ := rfl
  have q2 : ((⟨#[97, 98, 99]⟩ : ByteArray).toList == (⟨#[97, 98, 99]⟩ : ByteArray).toList) = true := by simp
  have wz : IntKind.i64.wrap 0 = 0 := rfl
  refine contract_ev Γok Try.func24 rfl rfl [] ?_
  simp (maxSteps := 4000000) only [push_cast, Int.reduceEq, Int.reduceBNe, Int.reduceBEq, Int.reduceAdd, Int.reduceSub, Int.reduceMul, Int.reduceNeg, Int.reduceLT, Int.reduceLE, Int.reduceToNat, Nat.reduceLT, Nat.reduceAdd, Nat.reduceSub, Nat.reduceMul, Nat.reduceEqDiff, Nat.reduceLeDiff, Nat.reduceBEq, reduceIte, reduceCtorEq, Try.f24]
  refine call_w (newGrow_c [] (by simp)) [] (by simp (maxSteps := 4000000) only [push_cast, Int.reduceEq, Int.reduceBNe, Int.reduceBEq, Int.reduceAdd, Int.reduceSub, Int.reduceMul, Int.reduceNeg, Int.reduceLT, Int.reduceLE, Int.reduceToNat, Nat.reduceLT, Nat.reduceAdd, Nat.reduceSub, Nat.reduceMul, Nat.reduceEqDiff, Nat.reduceLeDiff, Nat.reduceBEq, reduceIte, reduceCtorEq]) ?_
  rintro sv post ⟨b, rfl, rfl⟩
  simp (maxSteps := 4000000) only [push_cast, Int.reduceEq, Int.reduceBNe, Int.reduceBEq, Int.reduceAdd, Int.reduceSub, Int.reduceMul, Int.reduceNeg, Int.reduceLT, Int.reduceLE, Int.reduceToNat, Nat.reduceLT, Nat.reduceAdd, Nat.reduceSub, Nat.reduceMul, Nat.reduceEqDiff, Nat.reduceLeDiff, Nat.reduceBEq, reduceIte, reduceCtorEq]
  refine call_w (newS_c _ _ _ _ _ _ _ _ openW_c 3 2) [] (by simp (maxSteps := 4000000) only [push_cast, Int.reduceEq, Int.reduceBNe, Int.reduceBEq, Int.reduceAdd, Int.reduceSub, Int.reduceMul, Int.reduceNeg, Int.reduceLT, Int.reduceLE, Int.reduceToNat, Nat.reduceLT, Nat.reduceAdd, Nat.reduceSub, Nat.reduceMul, Nat.reduceEqDiff, Nat.reduceLeDiff, Nat.reduceBEq, reduceIte, reduceCtorEq, modeV]) ?_
  rintro sv post ⟨rfl, rfl⟩
  simp (maxSteps := 4000000) only [push_cast, Int.reduceEq, Int.reduceBNe, Int.reduceBEq, Int.reduceAdd, Int.reduceSub, Int.reduceMul, Int.reduceNeg, Int.reduceLT, Int.reduceLE, Int.reduceToNat, Nat.reduceLT, Nat.reduceAdd, Nat.reduceSub, Nat.reduceMul, Nat.reduceEqDiff, Nat.reduceLeDiff, Nat.reduceBEq, reduceIte, reduceCtorEq, St.sv, St.cells]
  refine call_w (num11_c 0) [] (by simp (maxSteps := 4000000) only [push_cast, Int.reduceEq, Int.reduceBNe, Int.reduceBEq, Int.reduceAdd, Int.reduceSub, Int.reduceMul, Int.reduceNeg, Int.reduceLT, Int.reduceLE, Int.reduceToNat, Nat.reduceLT, Nat.reduceAdd, Nat.reduceSub, Nat.reduceMul, Nat.reduceEqDiff, Nat.reduceLeDiff, Nat.reduceBEq, reduceIte, reduceCtorEq]) ?_
  rintro sv post ⟨rfl, rfl⟩
  simp (maxSteps := 4000000) only [push_cast, Int.reduceEq, Int.reduceBNe, Int.reduceBEq, Int.reduceAdd, Int.reduceSub, Int.reduceMul, Int.reduceNeg, Int.reduceLT, Int.reduceLE, Int.reduceToNat, Nat.reduceLT, Nat.reduceAdd, Nat.reduceSub, Nat.reduceMul, Nat.reduceEqDiff, Nat.reduceLeDiff, Nat.reduceBEq, reduceIte, reduceCtorEq, may0]
  refine call_w (num11_c 0) [] (by simp (maxSteps := 4000000) only [push_cast, Int.reduceEq, Int.reduceBNe, Int.reduceBEq, Int.reduceAdd, Int.reduceSub, Int.reduceMul, Int.reduceNeg, Int.reduceLT, Int.reduceLE, Int.reduceToNat, Nat.reduceLT, Nat.reduceAdd, Nat.reduceSub, Nat.reduceMul, Nat.reduceEqDiff, Nat.reduceLeDiff, Nat.reduceBEq, reduceIte, reduceCtorEq]) ?_
  rintro sv post ⟨rfl, rfl⟩
  simp (maxSteps := 4000000) only [push_cast, Int.reduceEq, Int.reduceBNe, Int.reduceBEq, Int.reduceAdd, Int.reduceSub, Int.reduceMul, Int.reduceNeg, Int.reduceLT, Int.reduceLE, Int.reduceToNat, Nat.reduceLT, Nat.reduceAdd, Nat.reduceSub, Nat.reduceMul, Nat.reduceEqDiff, Nat.reduceLeDiff, Nat.reduceBEq, reduceIte, reduceCtorEq, e0, fewSt, rg11, wz]
  refine call_w (PutR_c (growM b) (growM_wr b) (fewSt [] 0 false) (([], 0) : List Int × Int) (by exact ⟨by decide, by decide, by decide⟩) (by exact ⟨by decide, by decide, by decide⟩) 97 (by simp [fewSt, growM])) [2] (by simp (maxSteps := 4000000) only [push_cast, Int.reduceEq, Int.reduceBNe, Int.reduceBEq, Int.reduceAdd, Int.reduceSub, Int.reduceMul, Int.reduceNeg, Int.reduceLT, Int.reduceLE, Int.reduceToNat, Nat.reduceLT, Nat.reduceAdd, Nat.reduceSub, Nat.reduceMul, Nat.reduceEqDiff, Nat.reduceLeDiff, Nat.reduceBEq, reduceIte, reduceCtorEq, hv, hr, St.sv, St.cells, fewSt]) ?_
  rintro sv post ⟨rfl, rfl⟩
  rw [few1 b]
  simp (maxSteps := 4000000) only [push_cast, Int.reduceEq, Int.reduceBNe, Int.reduceBEq, Int.reduceAdd, Int.reduceSub, Int.reduceMul, Int.reduceNeg, Int.reduceLT, Int.reduceLE, Int.reduceToNat, Nat.reduceLT, Nat.reduceAdd, Nat.reduceSub, Nat.reduceMul, Nat.reduceEqDiff, Nat.reduceLeDiff, Nat.reduceBEq, reduceIte, reduceCtorEq, hv, hr, St.sv, St.cells, fewSt, rg11]
  refine call_w (growBytes_c b [] 0 (by decide)) [2] (by simp (maxSteps := 4000000) only [push_cast, Int.reduceEq, Int.reduceBNe, Int.reduceBEq, Int.reduceAdd, Int.reduceSub, Int.reduceMul, Int.reduceNeg, Int.reduceLT, Int.reduceLE, Int.reduceToNat, Nat.reduceLT, Nat.reduceAdd, Nat.reduceSub, Nat.reduceMul, Nat.reduceEqDiff, Nat.reduceLeDiff, Nat.reduceBEq, reduceIte, reduceCtorEq]) ?_
  rintro sv post ⟨rfl, rfl⟩
  simp (maxSteps := 4000000) only [push_cast, Int.reduceEq, Int.reduceBNe, Int.reduceBEq, Int.reduceAdd, Int.reduceSub, Int.reduceMul, Int.reduceNeg, Int.reduceLT, Int.reduceLE, Int.reduceToNat, Nat.reduceLT, Nat.reduceAdd, Nat.reduceSub, Nat.reduceMul, Nat.reduceEqDiff, Nat.reduceLeDiff, Nat.reduceBEq, reduceIte, reduceCtorEq, rg11]
  refine call_w (PutR_c (growM b) (growM_wr b) (fewSt [97] 2 false) (([], 0) : List Int × Int) (by exact ⟨by decide, by decide, by decide⟩) (by exact ⟨by decide, by decide, by decide⟩) 98 (by simp [fewSt, growM])) [2] (by simp (maxSteps := 4000000) only [push_cast, Int.reduceEq, Int.reduceBNe, Int.reduceBEq, Int.reduceAdd, Int.reduceSub, Int.reduceMul, Int.reduceNeg, Int.reduceLT, Int.reduceLE, Int.reduceToNat, Nat.reduceLT, Nat.reduceAdd, Nat.reduceSub, Nat.reduceMul, Nat.reduceEqDiff, Nat.reduceLeDiff, Nat.reduceBEq, reduceIte, reduceCtorEq, hv, hr, St.sv, St.cells, fewSt]) ?_
  rintro sv post ⟨rfl, rfl⟩
  rw [few2 b]
  simp (maxSteps := 4000000) only [push_cast, Int.reduceEq, Int.reduceBNe, Int.reduceBEq, Int.reduceAdd, Int.reduceSub, Int.reduceMul, Int.reduceNeg, Int.reduceLT, Int.reduceLE, Int.reduceToNat, Nat.reduceLT, Nat.reduceAdd, Nat.reduceSub, Nat.reduceMul, Nat.reduceEqDiff, Nat.reduceLeDiff, Nat.reduceBEq, reduceIte, reduceCtorEq, hv, hr, St.sv, St.cells, fewSt, rg11]
  refine call_w (PutR_c (growM b) (growM_wr b) (fewSt [] 2 false) (([97, 98], 2) : List Int × Int) (by exact ⟨by decide, by decide, by decide⟩) (by exact ⟨by decide, by decide, by decide⟩) 99 (by simp [fewSt, growM])) [2] (by simp (maxSteps := 4000000) only [push_cast, Int.reduceEq, Int.reduceBNe, Int.reduceBEq, Int.reduceAdd, Int.reduceSub, Int.reduceMul, Int.reduceNeg, Int.reduceLT, Int.reduceLE, Int.reduceToNat, Nat.reduceLT, Nat.reduceAdd, Nat.reduceSub, Nat.reduceMul, Nat.reduceEqDiff, Nat.reduceLeDiff, Nat.reduceBEq, reduceIte, reduceCtorEq, hv, hr, St.sv, St.cells, fewSt]) ?_
  rintro sv post ⟨rfl, rfl⟩
  rw [few3 b]
  simp (maxSteps := 4000000) only [push_cast, Int.reduceEq, Int.reduceBNe, Int.reduceBEq, Int.reduceAdd, Int.reduceSub, Int.reduceMul, Int.reduceNeg, Int.reduceLT, Int.reduceLE, Int.reduceToNat, Nat.reduceLT, Nat.reduceAdd, Nat.reduceSub, Nat.reduceMul, Nat.reduceEqDiff, Nat.reduceLeDiff, Nat.reduceBEq, reduceIte, reduceCtorEq, hv, hr, St.sv, St.cells, fewSt, rg11]
  refine call_w (CloseR_c (growM b) (growM_wr b) (fewSt [99] 2 false) (([97, 98], 2) : List Int × Int) (by exact ⟨by decide, by decide, by decide⟩) (by exact ⟨by decide, by decide, by decide⟩) (by simp [fewSt, growM])) [2] (by simp (maxSteps := 4000000) only [push_cast, Int.reduceEq, Int.reduceBNe, Int.reduceBEq, Int.reduceAdd, Int.reduceSub, Int.reduceMul, Int.reduceNeg, Int.reduceLT, Int.reduceLE, Int.reduceToNat, Nat.reduceLT, Nat.reduceAdd, Nat.reduceSub, Nat.reduceMul, Nat.reduceEqDiff, Nat.reduceLeDiff, Nat.reduceBEq, reduceIte, reduceCtorEq, hv, hr, St.sv, St.cells, fewSt]) ?_
  rintro sv post ⟨rfl, rfl⟩
  rw [few4 b]
  simp (maxSteps := 4000000) only [push_cast, Int.reduceEq, Int.reduceBNe, Int.reduceBEq, Int.reduceAdd, Int.reduceSub, Int.reduceMul, Int.reduceNeg, Int.reduceLT, Int.reduceLE, Int.reduceToNat, Nat.reduceLT, Nat.reduceAdd, Nat.reduceSub, Nat.reduceMul, Nat.reduceEqDiff, Nat.reduceLeDiff, Nat.reduceBEq, reduceIte, reduceCtorEq, hv, hr, St.sv, St.cells, fewSt, rg11]
  refine call_w (num11_c 0) [] (by simp (maxSteps := 4000000) only [push_cast, Int.reduceEq, Int.reduceBNe, Int.reduceBEq, Int.reduceAdd, Int.reduceSub, Int.reduceMul, Int.reduceNeg, Int.reduceLT, Int.reduceLE, Int.reduceToNat, Nat.reduceLT, Nat.reduceAdd, Nat.reduceSub, Nat.reduceMul, Nat.reduceEqDiff, Nat.reduceLeDiff, Nat.reduceBEq, reduceIte, reduceCtorEq]) ?_
  rintro sv post ⟨rfl, rfl⟩
  simp (maxSteps := 4000000) only [push_cast, Int.reduceEq, Int.reduceBNe, Int.reduceBEq, Int.reduceAdd, Int.reduceSub, Int.reduceMul, Int.reduceNeg, Int.reduceLT, Int.reduceLE, Int.reduceToNat, Nat.reduceLT, Nat.reduceAdd, Nat.reduceSub, Nat.reduceMul, Nat.reduceEqDiff, Nat.reduceLeDiff, Nat.reduceBEq, reduceIte, reduceCtorEq]
  refine call_w (num11_c 0) [] (by simp (maxSteps := 4000000) only [push_cast, Int.reduceEq, Int.reduceBNe, Int.reduceBEq, Int.reduceAdd, Int.reduceSub, Int.reduceMul, Int.reduceNeg, Int.reduceLT, Int.reduceLE, Int.reduceToNat, Nat.reduceLT, Nat.reduceAdd, Nat.reduceSub, Nat.reduceMul, Nat.reduceEqDiff, Nat.reduceLeDiff, Nat.reduceBEq, reduceIte, reduceCtorEq]) ?_
  rintro sv post ⟨rfl, rfl⟩
  simp (maxSteps := 4000000) only [push_cast, Int.reduceEq, Int.reduceBNe, Int.reduceBEq, Int.reduceAdd, Int.reduceSub, Int.reduceMul, Int.reduceNeg, Int.reduceLT, Int.reduceLE, Int.reduceToNat, Nat.reduceLT, Nat.reduceAdd, Nat.reduceSub, Nat.reduceMul, Nat.reduceEqDiff, Nat.reduceLeDiff, Nat.reduceBEq, reduceIte, reduceCtorEq, wz]
  refine call_w (num11_c 0) [] (by simp (maxSteps := 4000000) only [push_cast, Int.reduceEq, Int.reduceBNe, Int.reduceBEq, Int.reduceAdd, Int.reduceSub, Int.reduceMul, Int.reduceNeg, Int.reduceLT, Int.reduceLE, Int.reduceToNat, Nat.reduceLT, Nat.reduceAdd, Nat.reduceSub, Nat.reduceMul, Nat.reduceEqDiff, Nat.reduceLeDiff, Nat.reduceBEq, reduceIte, reduceCtorEq]) ?_
  rintro sv post ⟨rfl, rfl⟩
  simp (maxSteps := 4000000) only [push_cast, Int.reduceEq, Int.reduceBNe, Int.reduceBEq, Int.reduceAdd, Int.reduceSub, Int.reduceMul, Int.reduceNeg, Int.reduceLT, Int.reduceLE, Int.reduceToNat, Nat.reduceLT, Nat.reduceAdd, Nat.reduceSub, Nat.reduceMul, Nat.reduceEqDiff, Nat.reduceLeDiff, Nat.reduceBEq, reduceIte, reduceCtorEq, wz]
  refine call_w (num11_c 0) [] (by simp (maxSteps := 4000000) only [push_cast, Int.reduceEq, Int.reduceBNe, Int.reduceBEq, Int.reduceAdd, Int.reduceSub, Int.reduceMul, Int.reduceNeg, Int.reduceLT, Int.reduceLE, Int.reduceToNat, Nat.reduceLT, Nat.reduceAdd, Nat.reduceSub, Nat.reduceMul, Nat.reduceEqDiff, Nat.reduceLeDiff, Nat.reduceBEq, reduceIte, reduceCtorEq]) ?_
  rintro sv post ⟨rfl, rfl⟩
  simp (maxSteps := 4000000) only [push_cast, Int.reduceEq, Int.reduceBNe, Int.reduceBEq, Int.reduceAdd, Int.reduceSub, Int.reduceMul, Int.reduceNeg, Int.reduceLT, Int.reduceLE, Int.reduceToNat, Nat.reduceLT, Nat.reduceAdd, Nat.reduceSub, Nat.reduceMul, Nat.reduceEqDiff, Nat.reduceLeDiff, Nat.reduceBEq, reduceIte, reduceCtorEq, wz]
  refine call_w (growBytes_c b [97, 98, 99] 3 (by decide)) [2] (by simp (maxSteps := 4000000) only [push_cast, Int.reduceEq, Int.reduceBNe, Int.reduceBEq, Int.reduceAdd, Int.reduceSub, Int.reduceMul, Int.reduceNeg, Int.reduceLT, Int.reduceLE, Int.reduceToNat, Nat.reduceLT, Nat.reduceAdd, Nat.reduceSub, Nat.reduceMul, Nat.reduceEqDiff, Nat.reduceLeDiff, Nat.reduceBEq, reduceIte, reduceCtorEq]) ?_
  rintro sv post ⟨rfl, rfl⟩
  simp (maxSteps := 4000000) only [push_cast, Int.reduceEq, Int.reduceBNe, Int.reduceBEq, Int.reduceAdd, Int.reduceSub, Int.reduceMul, Int.reduceNeg, Int.reduceLT, Int.reduceLE, Int.reduceToNat, Nat.reduceLT, Nat.reduceAdd, Nat.reduceSub, Nat.reduceMul, Nat.reduceEqDiff, Nat.reduceLeDiff, Nat.reduceBEq, reduceIte, reduceCtorEq, q1, q2]
  exact Fin.nil rfl (psv := .b true) (by simp (maxSteps := 4000000) only [push_cast, Int.reduceEq, Int.reduceBNe, Int.reduceBEq, Int.reduceAdd, Int.reduceSub, Int.reduceMul, Int.reduceNeg, Int.reduceLT, Int.reduceLE, Int.reduceToNat, Nat.reduceLT, Nat.reduceAdd, Nat.reduceSub, Nat.reduceMul, Nat.reduceEqDiff, Nat.reduceLeDiff, Nat.reduceBEq, reduceIte, reduceCtorEq]) ⟨rfl, rfl⟩
end Go.Proofs.Ytbhkpefjnomncaa
/- A byte's place in a text; the mode that reads and writes. -/
namespace Go.Proofs.Ytbhkpefjnomncaa
open Go Go.Eng
set_option maxHeartbeats 4000000
set_option linter.unusedSimpArgs false
set_option linter.unusedVariables false
set_option maxRecDepth 100000

/-- A byte's place in a text; -1: it is not there. -/
def idxB (x : ByteArray) (c : Int) : Int := Go.Lib.indexByte x.data.toList c.toNat.toUInt8
theorem ext_index (x : ByteArray) (c : Int) : ExtPure Try.prog 95 [.s x, .i .u8 c] (.i .i64 (idxB x c)) := by
  intro E w vs hv
  match vs, hv with
  | [a, b], hv =>
    simp only [DenL, Den] at hv
    obtain ⟨rfl, rfl, _⟩ := hv
    refine ⟨.int .i64 (idxB x c), ?_, by simp only [Den]⟩
    rw [run_callFunc_extern Try.func95 (by kernel_rfl) (by kernel_rfl) (by kernel_rfl) (e := Extern.BytealgIndexByte.indexByte) (by kernel_rfl)]
    have := Go.Lib.run_indexByteString (P := Try.prog) x c w
    rw [show ([Value.string x, Value.int IntKind.u8 c] : List Value).toArray = #[Value.string x, Value.int IntKind.u8 c] from rfl, this]
    rfl
  | [], hv => simp only [DenL] at hv
  | [_], hv => simp only [DenL] at hv; exact hv.2.elim
  | _ :: _ :: _ :: _, hv => simp only [DenL] at hv; exact hv.2.2.elim
theorem indexL_c (x : ByteArray) (c : Int) : Contract Try.prog 94 nilSS [.s x, .i .u8 c] (fun sv post => sv = .i .i64 (idxB x c) ∧ post = nilSS) := by
  refine contract_ev Γok Try.func94 rfl rfl [] ?_
  simp (maxSteps := 4000000) only [push_cast, Int.reduceEq, Int.reduceBNe, Int.reduceBEq, Int.reduceAdd, Int.reduceSub, Int.reduceMul, Int.reduceNeg, Int.reduceLT, Int.reduceLE, Int.reduceToNat, Nat.reduceLT, Nat.reduceAdd, Nat.reduceSub, Nat.reduceMul, Nat.reduceEqDiff, Nat.reduceLeDiff, Nat.reduceBEq, reduceIte, reduceCtorEq, Try.f94]
  refine .inr ⟨_, ext_index x c, ?_⟩
  simp (maxSteps := 4000000) only [push_cast, Int.reduceEq, Int.reduceBNe, Int.reduceBEq, Int.reduceAdd, Int.reduceSub, Int.reduceMul, Int.reduceNeg, Int.reduceLT, Int.reduceLE, Int.reduceToNat, Nat.reduceLT, Nat.reduceAdd, Nat.reduceSub, Nat.reduceMul, Nat.reduceEqDiff, Nat.reduceLeDiff, Nat.reduceBEq, reduceIte, reduceCtorEq]
  exact Fin.nil rfl (psv := .i .i64 (idxB x c)) (by simp (maxSteps := 4000000) only [push_cast, Int.reduceEq, Int.reduceBNe, Int.reduceBEq, Int.reduceAdd, Int.reduceSub, Int.reduceMul, Int.reduceNeg, Int.reduceLT, Int.reduceLE, Int.reduceToNat, Nat.reduceLT, Nat.reduceAdd, Nat.reduceSub, Nat.reduceMul, Nat.reduceEqDiff, Nat.reduceLeDiff, Nat.reduceBEq, reduceIte, reduceCtorEq]) ⟨rfl, rfl⟩
theorem index_c (x : ByteArray) (c : Int) : Contract Try.prog 93 nilSS [.s x, .i .u8 c] (fun sv post => sv = .i .i64 (idxB x c) ∧ post = nilSS) := by
  refine contract_ev Γok Try.func93 rfl rfl [] ?_
  simp (maxSteps := 4000000) only [push_cast, Int.reduceEq, Int.reduceBNe, Int.reduceBEq, Int.reduceAdd, Int.reduceSub, Int.reduceMul, Int.reduceNeg, Int.reduceLT, Int.reduceLE, Int.reduceToNat, Nat.reduceLT, Nat.reduceAdd, Nat.reduceSub, Nat.reduceMul, Nat.reduceEqDiff, Nat.reduceLeDiff, Nat.reduceBEq, reduceIte, reduceCtorEq, Try.f93]
  refine call_w (indexL_c x c) [] (by simp (maxSteps := 4000000) only [push_cast, Int.reduceEq, Int.reduceBNe, Int.reduceBEq, Int.reduceAdd, Int.reduceSub, Int.reduceMul, Int.reduceNeg, Int.reduceLT, Int.reduceLE, Int.reduceToNat, Nat.reduceLT, Nat.reduceAdd, Nat.reduceSub, Nat.reduceMul, Nat.reduceEqDiff, Nat.reduceLeDiff, Nat.reduceBEq, reduceIte, reduceCtorEq]) ?_
  rintro sv post ⟨rfl, rfl⟩
  simp (maxSteps := 4000000) only [push_cast, Int.reduceEq, Int.reduceBNe, Int.reduceBEq, Int.reduceAdd, Int.reduceSub, Int.reduceMul, Int.reduceNeg, Int.reduceLT, Int.reduceLE, Int.reduceToNat, Nat.reduceLT, Nat.reduceAdd, Nat.reduceSub, Nat.reduceMul, Nat.reduceEqDiff, Nat.reduceLeDiff, Nat.reduceBEq, reduceIte, reduceCtorEq]
  exact Fin.nil rfl (psv := .i .i64 (idxB x c)) (by simp (maxSteps := 4000000) only [push_cast, Int.reduceEq, Int.reduceBNe, Int.reduceBEq, Int.reduceAdd, Int.reduceSub, Int.reduceMul, Int.reduceNeg, Int.reduceLT, Int.reduceLE, Int.reduceToNat, Nat.reduceLT, Nat.reduceAdd, Nat.reduceSub, Nat.reduceMul, Nat.reduceEqDiff, Nat.reduceLeDiff, Nat.reduceBEq, reduceIte, reduceCtorEq]) ⟨rfl, rfl⟩

theorem set2_c (T : TypeId) (r w a c t x b k : Bool) : Contract Try.prog 85 ⟨[], [(0, T, [.b r, .b w, .b a, .b c, .b t, .b x, .b b, .b k])], [], [], 1, 1, []⟩ [.ptr 0 0]
    (fun sv post => sv = .tup [] ∧ post = ⟨[], [(0, T, [.b true, .b true, .b a, .b c, .b t, .b x, .b b, .b k])], [], [], 1, 1, []⟩) := by
  refine contract_ev Γok Try.func85 rfl rfl [] ?_
  simp (maxSteps := 4000000) only [push_cast, Int.reduceEq, Int.reduceBNe, Int.reduceBEq, Int.reduceAdd, Int.reduceSub, Int.reduceMul, Int.reduceNeg, Int.reduceLT, Int.reduceLE, Int.reduceToNat, Nat.reduceLT, Nat.reduceAdd, Nat.reduceSub, Nat.reduceMul, Nat.reduceEqDiff, Nat.reduceLeDiff, Nat.reduceBEq, reduceIte, reduceCtorEq, Try.f85]
  exact Fin.w [0] (.tup []) _ (by simp (maxSteps := 4000000) only [push_cast, Int.reduceEq, Int.reduceBNe, Int.reduceBEq, Int.reduceAdd, Int.reduceSub, Int.reduceMul, Int.reduceNeg, Int.reduceLT, Int.reduceLE, Int.reduceToNat, Nat.reduceLT, Nat.reduceAdd, Nat.reduceSub, Nat.reduceMul, Nat.reduceEqDiff, Nat.reduceLeDiff, Nat.reduceBEq, reduceIte, reduceCtorEq]) ⟨rfl, rfl⟩

theorem parseRW_c : Contract Try.prog 80 nilSS [.s ⟨#[114, 43]⟩] (fun sv post => sv = .tup [modeV true true false false false false false false, .i .i64 0, .i .i64 2] ∧ post = nilSS) := by
  have e1 : ((⟨#[114, 43]⟩ : ByteArray).toList == (⟨#[]⟩ : ByteArray).toList) = false := by rw [← beq_toListBytes]; decide
  have e2 : byteAt ⟨#[114, 43]⟩ 0 = 114 := rfl
  have e22 : byteAt ⟨#[114, 43]⟩ 1 = 43 := rfl
  have e3 : (⟨#[114, 43]⟩ : ByteArray).size = 2 := rfl
  have e4 : ((2 : Nat) : Int) = 2 := rfl
  have e5 : (⟨#[114, 43]⟩ : ByteArray).extract 1 1 = ⟨#[]⟩ := rfl
  have e6 : idxB ⟨#[]⟩ 43 = -1 := rfl
  refine contract_ev Γok Try.func80 rfl rfl [] ?_
  simp (maxSteps := 4000000) only [push_cast, Int.reduceEq, Int.reduceBNe, Int.reduceBEq, Int.reduceAdd, Int.reduceSub, Int.reduceMul, Int.reduceNeg, Int.reduceLT, Int.reduceLE, Int.reduceToNat, Nat.reduceLT, Nat.reduceAdd, Nat.reduceSub, Nat.reduceMul, Nat.reduceEqDiff, Nat.reduceLeDiff, Nat.reduceBEq, reduceIte, reduceCtorEq, Try.f80]
  refine scope_ok rfl (evCode_sound Γok _ _ _ ?_)
  simp (maxSteps := 4000000) only [push_cast, Int.reduceEq, Int.reduceBNe, Int.reduceBEq, Int.reduceAdd, Int.reduceSub, Int.reduceMul, Int.reduceNeg, Int.reduceLT, Int.reduceLE, Int.reduceToNat, Nat.reduceLT, Nat.reduceAdd, Nat.reduceSub, Nat.reduceMul, Nat.reduceEqDiff, Nat.reduceLeDiff, Nat.reduceBEq, reduceIte, reduceCtorEq, e1, e2, e3, e4]
  refine call_w firstR_c [] (by simp (maxSteps := 4000000) only [push_cast, Int.reduceEq, Int.reduceBNe, Int.reduceBEq, Int.reduceAdd, Int.reduceSub, Int.reduceMul, Int.reduceNeg, Int.reduceLT, Int.reduceLE, Int.reduceToNat, Nat.reduceLT, Nat.reduceAdd, Nat.reduceSub, Nat.reduceMul, Nat.reduceEqDiff, Nat.reduceLeDiff, Nat.reduceBEq, reduceIte, reduceCtorEq]) ?_
  rintro sv post ⟨rfl, rfl⟩
  simp (maxSteps := 4000000) only [push_cast, Int.reduceEq, Int.reduceBNe, Int.reduceBEq, Int.reduceAdd, Int.reduceSub, Int.reduceMul, Int.reduceNeg, Int.reduceLT, Int.reduceLE, Int.reduceToNat, Nat.reduceLT, Nat.reduceAdd, Nat.reduceSub, Nat.reduceMul, Nat.reduceEqDiff, Nat.reduceLeDiff, Nat.reduceBEq, reduceIte, reduceCtorEq, modeV, e3, e4]
  refine loop_unroll 2 ?_
  simp (maxSteps := 4000000) only [push_cast, Int.reduceEq, Int.reduceBNe, Int.reduceBEq, Int.reduceAdd, Int.reduceSub, Int.reduceMul, Int.reduceNeg, Int.reduceLT, Int.reduceLE, Int.reduceToNat, Nat.reduceLT, Nat.reduceAdd, Nat.reduceSub, Nat.reduceMul, Nat.reduceEqDiff, Nat.reduceLeDiff, Nat.reduceBEq, reduceIte, reduceCtorEq]
  refine evCode_sound Γok _ _ _ ?_
  simp (maxSteps := 4000000) only [push_cast, Int.reduceEq, Int.reduceBNe, Int.reduceBEq, Int.reduceAdd, Int.reduceSub, Int.reduceMul, Int.reduceNeg, Int.reduceLT, Int.reduceLE, Int.reduceToNat, Nat.reduceLT, Nat.reduceAdd, Nat.reduceSub, Nat.reduceMul, Nat.reduceEqDiff, Nat.reduceLeDiff, Nat.reduceBEq, reduceIte, reduceCtorEq, e3, e4]
  refine call_w letters_c [] (by simp (maxSteps := 4000000) only [push_cast, Int.reduceEq, Int.reduceBNe, Int.reduceBEq, Int.reduceAdd, Int.reduceSub, Int.reduceMul, Int.reduceNeg, Int.reduceLT, Int.reduceLE, Int.reduceToNat, Nat.reduceLT, Nat.reduceAdd, Nat.reduceSub, Nat.reduceMul, Nat.reduceEqDiff, Nat.reduceLeDiff, Nat.reduceBEq, reduceIte, reduceCtorEq]) ?_
  rintro sv post ⟨rfl, rfl⟩
  simp (maxSteps := 4000000) only [push_cast, Int.reduceEq, Int.reduceBNe, Int.reduceBEq, Int.reduceAdd, Int.reduceSub, Int.reduceMul, Int.reduceNeg, Int.reduceLT, Int.reduceLE, Int.reduceToNat, Nat.reduceLT, Nat.reduceAdd, Nat.reduceSub, Nat.reduceMul, Nat.reduceEqDiff, Nat.reduceLeDiff, Nat.reduceBEq, reduceIte, reduceCtorEq, zc0]
  refine loop_unroll 1 ?_
  simp (maxSteps := 4000000) only [push_cast, Int.reduceEq, Int.reduceBNe, Int.reduceBEq, Int.reduceAdd, Int.reduceSub, Int.reduceMul, Int.reduceNeg, Int.reduceLT, Int.reduceLE, Int.reduceToNat, Nat.reduceLT, Nat.reduceAdd, Nat.reduceSub, Nat.reduceMul, Nat.reduceEqDiff, Nat.reduceLeDiff, Nat.reduceBEq, reduceIte, reduceCtorEq]
  refine evCode_sound Γok _ _ _ ?_
  simp (maxSteps := 4000000) only [push_cast, Int.reduceEq, Int.reduceBNe, Int.reduceBEq, Int.reduceAdd, Int.reduceSub, Int.reduceMul, Int.reduceNeg, Int.reduceLT, Int.reduceLE, Int.reduceToNat, Nat.reduceLT, Nat.reduceAdd, Nat.reduceSub, Nat.reduceMul, Nat.reduceEqDiff, Nat.reduceLeDiff, Nat.reduceBEq, reduceIte, reduceCtorEq, rg3, zc0, tz0, l00, l01, l02, modeV]
  refine (region_plan rfl Γok mixed (.pure 0 (.pure 1 (.pure 2 (.pure 3 (.pure 4 (.pure 5 (.pure 6 (.pure 7 (.pure 8 (.pure 9 (.pure 10 (.pure 11 (.eff (.cons 12 [] (.pure 13 (.pure 14 (.pure 15 (.pure 16 (.pure 17 (.pure 18 (.pure 19 (.pure 20 (.pure 21 (.pure 22 (.pure 23 (.pure 24 .done)))))))))))) .nil)))))))))))))) 68 rfl (by kernel_rfl) ?_)
  simp (maxSteps := 4000000) only [push_cast, Int.reduceEq, Int.reduceBNe, Int.reduceBEq, Int.reduceAdd, Int.reduceSub, Int.reduceMul, Int.reduceNeg, Int.reduceLT, Int.reduceLE, Int.reduceToNat, Nat.reduceLT, Nat.reduceAdd, Nat.reduceSub, Nat.reduceMul, Nat.reduceEqDiff, Nat.reduceLeDiff, Nat.reduceBEq, reduceIte, reduceCtorEq, e2, e22, e3, e4, e5, l00]
  refine call_w (index_c ⟨#[]⟩ 43) [] (by simp (maxSteps := 4000000) only [push_cast, Int.reduceEq, Int.reduceBNe, Int.reduceBEq, Int.reduceAdd, Int.reduceSub, Int.reduceMul, Int.reduceNeg, Int.reduceLT, Int.reduceLE, Int.reduceToNat, Nat.reduceLT, Nat.reduceAdd, Nat.reduceSub, Nat.reduceMul, Nat.reduceEqDiff, Nat.reduceLeDiff, Nat.reduceBEq, reduceIte, reduceCtorEq]) ?_
  rintro sv post ⟨rfl, rfl⟩
  simp (maxSteps := 4000000) only [push_cast, Int.reduceEq, Int.reduceBNe, Int.reduceBEq, Int.reduceAdd, Int.reduceSub, Int.reduceMul, Int.reduceNeg, Int.reduceLT, Int.reduceLE, Int.reduceToNat, Nat.reduceLT, Nat.reduceAdd, Nat.reduceSub, Nat.reduceMul, Nat.reduceEqDiff, Nat.reduceLeDiff, Nat.reduceBEq, reduceIte, reduceCtorEq, e6, e2]
  refine call_w (set2_c 44 true false false false false false false false) [1] (by simp (maxSteps := 4000000) only [push_cast, Int.reduceEq, Int.reduceBNe, Int.reduceBEq, Int.reduceAdd, Int.reduceSub, Int.reduceMul, Int.reduceNeg, Int.reduceLT, Int.reduceLE, Int.reduceToNat, Nat.reduceLT, Nat.reduceAdd, Nat.reduceSub, Nat.reduceMul, Nat.reduceEqDiff, Nat.reduceLeDiff, Nat.reduceBEq, reduceIte, reduceCtorEq]) ?_
  rintro sv post ⟨rfl, rfl⟩
  simp (maxSteps := 4000000) only [push_cast, Int.reduceEq, Int.reduceBNe, Int.reduceBEq, Int.reduceAdd, Int.reduceSub, Int.reduceMul, Int.reduceNeg, Int.reduceLT, Int.reduceLE, Int.reduceToNat, Nat.reduceLT, Nat.reduceAdd, Nat.reduceSub, Nat.reduceMul, Nat.reduceEqDiff, Nat.reduceLeDiff, Nat.reduceBEq, reduceIte, reduceCtorEq, wz1, e3, e4]
  refine evCode_sound Γok _ _ _ ?_
  simp (maxSteps := 4000000) only [push_cast, Int.reduceEq, Int.reduceBNe, Int.reduceBEq, Int.reduceAdd, Int.reduceSub, Int.reduceMul, Int.reduceNeg, Int.reduceLT, Int.reduceLE, Int.reduceToNat, Nat.reduceLT, Nat.reduceAdd, Nat.reduceSub, Nat.reduceMul, Nat.reduceEqDiff, Nat.reduceLeDiff, Nat.reduceBEq, reduceIte, reduceCtorEq, e3, e4, show IntKind.i64.wrap 2 = 2 from rfl]
  exact Fin.nil rfl (psv := .tup [modeV true true false false false false false false, .i .i64 0, .i .i64 2]) (by simp (maxSteps := 4000000) only [push_cast, Int.reduceEq, Int.reduceBNe, Int.reduceBEq, Int.reduceAdd, Int.reduceSub, Int.reduceMul, Int.reduceNeg, Int.reduceLT, Int.reduceLE, Int.reduceToNat, Nat.reduceLT, Nat.reduceAdd, Nat.reduceSub, Nat.reduceMul, Nat.reduceEqDiff, Nat.reduceLeDiff, Nat.reduceBEq, reduceIte, reduceCtorEq, modeV]) ⟨rfl, rfl⟩
def sRW (i : Nat) : ByteArray := if i = 0 then ⟨#[114]⟩ else ⟨#[114, 43]⟩
theorem printRW_c : Contract Try.prog 71 nilSS [modeV true true false false false false false false] (fun sv post => sv = .tup [.s ⟨#[114, 43]⟩, .i .i64 0] ∧ post = nilSS) := by
  have d0 : Utf8.decode ⟨#[114, 119, 97]⟩ 0 = (114, 1) := by decide
  have c0 : ((114 : Nat) : Int) = 114 := rfl
  have n0 : Utf8.encode 114 = ⟨#[114]⟩ := by decide
  have z3 : (⟨#[114, 119, 97]⟩ : ByteArray).size = 3 := rfl
  have c4 : ((4 : Nat) : Int) = 4 := rfl
  have bb1 : (true == false) = false := rfl
  have bb2 : (false == true) = false := rfl
  have s0 : sRW 0 = ⟨#[114]⟩ := rfl
  have s1 : sRW 1 = ⟨#[114, 43]⟩ := rfl
  have s2 : sRW 2 = ⟨#[114, 43]⟩ := rfl
  have s3 : sRW 3 = ⟨#[114, 43]⟩ := rfl
  have s4 : sRW 4 = ⟨#[114, 43]⟩ := rfl
  have n43 : Utf8.encode (IntKind.i32.wrap 43) = ⟨#[43]⟩ := by decide
  have ap : (⟨#[114]⟩ : ByteArray) ++ ⟨#[43]⟩ = ⟨#[114, 43]⟩ := rfl
  have z1 : (⟨#[114]⟩ : ByteArray).size = 1 := rfl
  have z1' : (⟨#[43]⟩ : ByteArray).size = 1 := rfl
  refine contract_ev Γok Try.func71 rfl rfl [2] ?_
  simp (maxSteps := 4000000) only [push_cast, Int.reduceEq, Int.reduceBNe, Int.reduceBEq, Int.reduceAdd, Int.reduceSub, Int.reduceMul, Int.reduceNeg, Int.reduceLT, Int.reduceLE, Int.reduceToNat, Nat.reduceLT, Nat.reduceAdd, Nat.reduceSub, Nat.reduceMul, Nat.reduceEqDiff, Nat.reduceLeDiff, Nat.reduceBEq, reduceIte, reduceCtorEq, Try.f71, modeV]
  intro b
  refine loop_unroll 1 ?_
  simp (maxSteps := 4000000) only [push_cast, Int.reduceEq, Int.reduceBNe, Int.reduceBEq, Int.reduceAdd, Int.reduceSub, Int.reduceMul, Int.reduceNeg, Int.reduceLT, Int.reduceLE, Int.reduceToNat, Nat.reduceLT, Nat.reduceAdd, Nat.reduceSub, Nat.reduceMul, Nat.reduceEqDiff, Nat.reduceLeDiff, Nat.reduceBEq, reduceIte, reduceCtorEq]
  refine evCode_sound Γok _ _ _ ?_
  simp (maxSteps := 4000000) only [push_cast, Int.reduceEq, Int.reduceBNe, Int.reduceBEq, Int.reduceAdd, Int.reduceSub, Int.reduceMul, Int.reduceNeg, Int.reduceLT, Int.reduceLE, Int.reduceToNat, Nat.reduceLT, Nat.reduceAdd, Nat.reduceSub, Nat.reduceMul, Nat.reduceEqDiff, Nat.reduceLeDiff, Nat.reduceBEq, reduceIte, reduceCtorEq]
  refine next_ok Γok 1 b ⟨#[114, 119, 97]⟩ 0 rfl rfl rfl trivial (by simp) ?_
  simp (maxSteps := 4000000) only [push_cast, Int.reduceEq, Int.reduceBNe, Int.reduceBEq, Int.reduceAdd, Int.reduceSub, Int.reduceMul, Int.reduceNeg, Int.reduceLT, Int.reduceLE, Int.reduceToNat, Nat.reduceLT, Nat.reduceAdd, Nat.reduceSub, Nat.reduceMul, Nat.reduceEqDiff, Nat.reduceLeDiff, Nat.reduceBEq, reduceIte, reduceCtorEq, d0, c0, n0, z3]
  refine call_w letters_c [] (by simp (maxSteps := 4000000) only [push_cast, Int.reduceEq, Int.reduceBNe, Int.reduceBEq, Int.reduceAdd, Int.reduceSub, Int.reduceMul, Int.reduceNeg, Int.reduceLT, Int.reduceLE, Int.reduceToNat, Nat.reduceLT, Nat.reduceAdd, Nat.reduceSub, Nat.reduceMul, Nat.reduceEqDiff, Nat.reduceLeDiff, Nat.reduceBEq, reduceIte, reduceCtorEq]) ?_
  rintro sv post ⟨rfl, rfl⟩
  simp (maxSteps := 4000000) only [push_cast, Int.reduceEq, Int.reduceBNe, Int.reduceBEq, Int.reduceAdd, Int.reduceSub, Int.reduceMul, Int.reduceNeg, Int.reduceLT, Int.reduceLE, Int.reduceToNat, Nat.reduceLT, Nat.reduceAdd, Nat.reduceSub, Nat.reduceMul, Nat.reduceEqDiff, Nat.reduceLeDiff, Nat.reduceBEq, reduceIte, reduceCtorEq]
  refine loop_ok (ι := {i : Nat // i ≤ 4})
    (fun i => ⟨[modeV true true false false false false false false, .ptr 0 0, .any, .any, .any, .any, .s (sRW i.1), .any, .any, .any, .any, .any, .raw (.pointer (some ⟨b, 0, none⟩)), .any, .any, .any, .any, .any, .sl 3 .new 4 (elOf lettersV), .i .i64 4, .i .i64 i.1] ++ List.replicate 28 .any, [(0, 44, [.b true, .b true, .b false, .b false, .b false, .b false, .b false, .b false])], [], [(1, RObj b (.stringIter ⟨#[114, 119, 97]⟩ 1))], 2, 0, []⟩) (fun i => 4 - i.1) ⟨0, by omega⟩ ?_ ?_
  · refine Sub.w [0, 1] ?_
    simp (maxSteps := 4000000) only [push_cast, Int.reduceEq, Int.reduceBNe, Int.reduceBEq, Int.reduceAdd, Int.reduceSub, Int.reduceMul, Int.reduceNeg, Int.reduceLT, Int.reduceLE, Int.reduceToNat, Nat.reduceLT, Nat.reduceAdd, Nat.reduceSub, Nat.reduceMul, Nat.reduceEqDiff, Nat.reduceLeDiff, Nat.reduceBEq, reduceIte, reduceCtorEq, modeV, n0, s0]
    exact lettersW _ _
  rintro ⟨i, hi⟩
  have h5 : i = 0 ∨ i = 1 ∨ i = 2 ∨ i = 3 ∨ i = 4 := by omega
  rcases h5 with rfl | rfl | rfl | rfl | rfl
  · refine evCode_sound Γok _ _ _ ?_
    simp (maxSteps := 4000000) only [push_cast, Int.reduceEq, Int.reduceBNe, Int.reduceBEq, Int.reduceAdd, Int.reduceSub, Int.reduceMul, Int.reduceNeg, Int.reduceLT, Int.reduceLE, Int.reduceToNat, Nat.reduceLT, Nat.reduceAdd, Nat.reduceSub, Nat.reduceMul, Nat.reduceEqDiff, Nat.reduceLeDiff, Nat.reduceBEq, reduceIte, reduceCtorEq, rg3, zc0, tz0, l00, l01, l02, modeV, c4, s0]
    refine call_w (has1_c true true false false false false false false) [] (by simp (maxSteps := 4000000) only [push_cast, Int.reduceEq, Int.reduceBNe, Int.reduceBEq, Int.reduceAdd, Int.reduceSub, Int.reduceMul, Int.reduceNeg, Int.reduceLT, Int.reduceLE, Int.reduceToNat, Nat.reduceLT, Nat.reduceAdd, Nat.reduceSub, Nat.reduceMul, Nat.reduceEqDiff, Nat.reduceLeDiff, Nat.reduceBEq, reduceIte, reduceCtorEq, modeV]) ?_
    rintro sv post ⟨rfl, rfl⟩
    simp (maxSteps := 4000000) only [push_cast, Int.reduceEq, Int.reduceBNe, Int.reduceBEq, Int.reduceAdd, Int.reduceSub, Int.reduceMul, Int.reduceNeg, Int.reduceLT, Int.reduceLE, Int.reduceToNat, Nat.reduceLT, Nat.reduceAdd, Nat.reduceSub, Nat.reduceMul, Nat.reduceEqDiff, Nat.reduceLeDiff, Nat.reduceBEq, reduceIte, reduceCtorEq, wz0, n43, ap, z1, z1']
    refine ⟨⟨1, by omega⟩, (show 4 - 1 < 4 - 0 by decide), Sub.w [0, 1] ?_⟩
    simp (maxSteps := 4000000) only [push_cast, Int.reduceEq, Int.reduceBNe, Int.reduceBEq, Int.reduceAdd, Int.reduceSub, Int.reduceMul, Int.reduceNeg, Int.reduceLT, Int.reduceLE, Int.reduceToNat, Nat.reduceLT, Nat.reduceAdd, Nat.reduceSub, Nat.reduceMul, Nat.reduceEqDiff, Nat.reduceLeDiff, Nat.reduceBEq, reduceIte, reduceCtorEq, modeV, c4, s1, s2, s3, s4]
    exact ⟨lettersX _, rfl⟩
  · refine evCode_sound Γok _ _ _ ?_
    simp (maxSteps := 4000000) only [push_cast, Int.reduceEq, Int.reduceBNe, Int.reduceBEq, Int.reduceAdd, Int.reduceSub, Int.reduceMul, Int.reduceNeg, Int.reduceLT, Int.reduceLE, Int.reduceToNat, Nat.reduceLT, Nat.reduceAdd, Nat.reduceSub, Nat.reduceMul, Nat.reduceEqDiff, Nat.reduceLeDiff, Nat.reduceBEq, reduceIte, reduceCtorEq, rg3, zc1, tz1, l10, l11, l12, modeV, c4, s1]
    refine call_w (has3_c true true false false false false false false) [] (by simp (maxSteps := 4000000) only [push_cast, Int.reduceEq, Int.reduceBNe, Int.reduceBEq, Int.reduceAdd, Int.reduceSub, Int.reduceMul, Int.reduceNeg, Int.reduceLT, Int.reduceLE, Int.reduceToNat, Nat.reduceLT, Nat.reduceAdd, Nat.reduceSub, Nat.reduceMul, Nat.reduceEqDiff, Nat.reduceLeDiff, Nat.reduceBEq, reduceIte, reduceCtorEq, modeV]) ?_
    rintro sv post ⟨rfl, rfl⟩
    simp (maxSteps := 4000000) only [push_cast, Int.reduceEq, Int.reduceBNe, Int.reduceBEq, Int.reduceAdd, Int.reduceSub, Int.reduceMul, Int.reduceNeg, Int.reduceLT, Int.reduceLE, Int.reduceToNat, Nat.reduceLT, Nat.reduceAdd, Nat.reduceSub, Nat.reduceMul, Nat.reduceEqDiff, Nat.reduceLeDiff, Nat.reduceBEq, reduceIte, reduceCtorEq, wz1]
    refine ⟨⟨2, by omega⟩, (show 4 - 2 < 4 - 1 by decide), Sub.w [0, 1] ?_⟩
    simp (maxSteps := 4000000) only [push_cast, Int.reduceEq, Int.reduceBNe, Int.reduceBEq, Int.reduceAdd, Int.reduceSub, Int.reduceMul, Int.reduceNeg, Int.reduceLT, Int.reduceLE, Int.reduceToNat, Nat.reduceLT, Nat.reduceAdd, Nat.reduceSub, Nat.reduceMul, Nat.reduceEqDiff, Nat.reduceLeDiff, Nat.reduceBEq, reduceIte, reduceCtorEq, modeV, c4, s1, s2, s3, s4]
    exact ⟨lettersX _, rfl⟩
  · refine evCode_sound Γok _ _ _ ?_
    simp (maxSteps := 4000000) only [push_cast, Int.reduceEq, Int.reduceBNe, Int.reduceBEq, Int.reduceAdd, Int.reduceSub, Int.reduceMul, Int.reduceNeg, Int.reduceLT, Int.reduceLE, Int.reduceToNat, Nat.reduceLT, Nat.reduceAdd, Nat.reduceSub, Nat.reduceMul, Nat.reduceEqDiff, Nat.reduceLeDiff, Nat.reduceBEq, reduceIte, reduceCtorEq, rg3, zc2, tz2, l20, l21, l22, modeV, c4, s2]
    refine call_w (has5_c true true false false false false false false) [] (by simp (maxSteps := 4000000) only [push_cast, Int.reduceEq, Int.reduceBNe, Int.reduceBEq, Int.reduceAdd, Int.reduceSub, Int.reduceMul, Int.reduceNeg, Int.reduceLT, Int.reduceLE, Int.reduceToNat, Nat.reduceLT, Nat.reduceAdd, Nat.reduceSub, Nat.reduceMul, Nat.reduceEqDiff, Nat.reduceLeDiff, Nat.reduceBEq, reduceIte, reduceCtorEq, modeV]) ?_
    rintro sv post ⟨rfl, rfl⟩
    simp (maxSteps := 4000000) only [push_cast, Int.reduceEq, Int.reduceBNe, Int.reduceBEq, Int.reduceAdd, Int.reduceSub, Int.reduceMul, Int.reduceNeg, Int.reduceLT, Int.reduceLE, Int.reduceToNat, Nat.reduceLT, Nat.reduceAdd, Nat.reduceSub, Nat.reduceMul, Nat.reduceEqDiff, Nat.reduceLeDiff, Nat.reduceBEq, reduceIte, reduceCtorEq, wz2]
    refine ⟨⟨3, by omega⟩, (show 4 - 3 < 4 - 2 by decide), Sub.w [0, 1] ?_⟩
    simp (maxSteps := 4000000) only [push_cast, Int.reduceEq, Int.reduceBNe, Int.reduceBEq, Int.reduceAdd, Int.reduceSub, Int.reduceMul, Int.reduceNeg, Int.reduceLT, Int.reduceLE, Int.reduceToNat, Nat.reduceLT, Nat.reduceAdd, Nat.reduceSub, Nat.reduceMul, Nat.reduceEqDiff, Nat.reduceLeDiff, Nat.reduceBEq, reduceIte, reduceCtorEq, modeV, c4, s1, s2, s3, s4]
    exact ⟨lettersX _, rfl⟩
  · refine evCode_sound Γok _ _ _ ?_
    simp (maxSteps := 4000000) only [push_cast, Int.reduceEq, Int.reduceBNe, Int.reduceBEq, Int.reduceAdd, Int.reduceSub, Int.reduceMul, Int.reduceNeg, Int.reduceLT, Int.reduceLE, Int.reduceToNat, Nat.reduceLT, Nat.reduceAdd, Nat.reduceSub, Nat.reduceMul, Nat.reduceEqDiff, Nat.reduceLeDiff, Nat.reduceBEq, reduceIte, reduceCtorEq, rg3, zc3, tz3, l30, l31, l32, modeV, c4, s3]
    refine call_w (has7_c true true false false false false false false) [] (by simp (maxSteps := 4000000) only [push_cast, Int.reduceEq, Int.reduceBNe, Int.reduceBEq, Int.reduceAdd, Int.reduceSub, Int.reduceMul, Int.reduceNeg, Int.reduceLT, Int.reduceLE, Int.reduceToNat, Nat.reduceLT, Nat.reduceAdd, Nat.reduceSub, Nat.reduceMul, Nat.reduceEqDiff, Nat.reduceLeDiff, Nat.reduceBEq, reduceIte, reduceCtorEq, modeV]) ?_
    rintro sv post ⟨rfl, rfl⟩
    simp (maxSteps := 4000000) only [push_cast, Int.reduceEq, Int.reduceBNe, Int.reduceBEq, Int.reduceAdd, Int.reduceSub, Int.reduceMul, Int.reduceNeg, Int.reduceLT, Int.reduceLE, Int.reduceToNat, Nat.reduceLT, Nat.reduceAdd, Nat.reduceSub, Nat.reduceMul, Nat.reduceEqDiff, Nat.reduceLeDiff, Nat.reduceBEq, reduceIte, reduceCtorEq, wz3]
    refine ⟨⟨4, by omega⟩, (show 4 - 4 < 4 - 3 by decide), Sub.w [0, 1] ?_⟩
    simp (maxSteps := 4000000) only [push_cast, Int.reduceEq, Int.reduceBNe, Int.reduceBEq, Int.reduceAdd, Int.reduceSub, Int.reduceMul, Int.reduceNeg, Int.reduceLT, Int.reduceLE, Int.reduceToNat, Nat.reduceLT, Nat.reduceAdd, Nat.reduceSub, Nat.reduceMul, Nat.reduceEqDiff, Nat.reduceLeDiff, Nat.reduceBEq, reduceIte, reduceCtorEq, modeV, c4, s1, s2, s3, s4]
    exact ⟨lettersX _, rfl⟩
  refine evCode_sound Γok _ _ _ ?_
  simp (maxSteps := 4000000) only [push_cast, Int.reduceEq, Int.reduceBNe, Int.reduceBEq, Int.reduceAdd, Int.reduceSub, Int.reduceMul, Int.reduceNeg, Int.reduceLT, Int.reduceLE, Int.reduceToNat, Nat.reduceLT, Nat.reduceAdd, Nat.reduceSub, Nat.reduceMul, Nat.reduceEqDiff, Nat.reduceLeDiff, Nat.reduceBEq, reduceIte, reduceCtorEq, c4, modeV, s4]
  refine call_w parseRW_c [] (by simp (maxSteps := 4000000) only [push_cast, Int.reduceEq, Int.reduceBNe, Int.reduceBEq, Int.reduceAdd, Int.reduceSub, Int.reduceMul, Int.reduceNeg, Int.reduceLT, Int.reduceLE, Int.reduceToNat, Nat.reduceLT, Nat.reduceAdd, Nat.reduceSub, Nat.reduceMul, Nat.reduceEqDiff, Nat.reduceLeDiff, Nat.reduceBEq, reduceIte, reduceCtorEq]) ?_
  rintro sv post ⟨rfl, rfl⟩
  simp (maxSteps := 4000000) only [push_cast, Int.reduceEq, Int.reduceBNe, Int.reduceBEq, Int.reduceAdd, Int.reduceSub, Int.reduceMul, Int.reduceNeg, Int.reduceLT, Int.reduceLE, Int.reduceToNat, Nat.reduceLT, Nat.reduceAdd, Nat.reduceSub, Nat.reduceMul, Nat.reduceEqDiff, Nat.reduceLeDiff, Nat.reduceBEq, reduceIte, reduceCtorEq, modeV, rg8]
  exact ⟨eqPlainM, Fin.nil rfl (psv := .tup [.s ⟨#[114, 43]⟩, .i .i64 0]) (by simp (maxSteps := 4000000) only [push_cast, Int.reduceEq, Int.reduceBNe, Int.reduceBEq, Int.reduceAdd, Int.reduceSub, Int.reduceMul, Int.reduceNeg, Int.reduceLT, Int.reduceLE, Int.reduceToNat, Nat.reduceLT, Nat.reduceAdd, Nat.reduceSub, Nat.reduceMul, Nat.reduceEqDiff, Nat.reduceLeDiff, Nat.reduceBEq, reduceIte, reduceCtorEq]) ⟨rfl, rfl⟩⟩

theorem openRW_c : Contract Try.prog 51 nilSS [modeV true true false false false false false false] (fun sv post => sv = .i .i64 0 ∧ post = nilSS) := openCheck_c _ _ printRW_c _ _ _ _ _ _ _ _ rfl
end Go.Proofs.Ytbhkpefjnomncaa
/- Places of a stream. -/
namespace Go.Proofs.Ytbhkpefjnomncaa
open Go Go.Eng
set_option maxHeartbeats 4000000
set_option linter.unusedSimpArgs false
set_option linter.unusedVariables false
set_option maxRecDepth 100000

/-- Behind the delivery of what it had. -/
def St.settled (M : RawM) (x : St) (g : M.σ) (bad : Bool) : St × M.σ × Int :=
  if x.bErr ≠ 0 then (x, g, x.bErr)
  else if bad = true then (x, g, 1)
  else if x.o.length = 0 then (x, g, 0)
  else ({ (x.Flush M g).1 with d := x.d }, (x.Flush M g).2.1, (x.Flush M g).2.2)

theorem w1 : IntKind.i64.wrap 1 = 1 := rfl
theorem w2 : IntKind.i64.wrap 2 = 2 := rfl
theorem w3 : IntKind.i64.wrap 3 = 3 := rfl
theorem settled_c (M : RawM) (hW : M.Wr) (x : St) (hx : x.fits) (g : M.σ) (hg : M.ok g) (hr : x.o.length ≤ M.rm g) (bad : Bool) : Contract Try.prog 61 (preR (M.res g)) [x.sv .old, M.v, .b bad] (isS M (x.settled M g bad)) := by
  have hx' := hx
  obtain ⟨ho, hi, hk⟩ := hx'
  refine contract_ev Γok Try.func61 rfl rfl [] ?_
  simp (maxSteps := 4000000) only [push_cast, Int.reduceEq, Int.reduceBNe, Int.reduceBEq, Int.reduceAdd, Int.reduceSub, Int.reduceMul, Int.reduceNeg, Int.reduceLT, Int.reduceLE, Int.reduceToNat, Nat.reduceLT, Nat.reduceAdd, Nat.reduceSub, Nat.reduceMul, Nat.reduceEqDiff, Nat.reduceLeDiff, Nat.reduceBEq, reduceIte, reduceCtorEq, Try.f61, rg11, St.sv, St.cells, RawM.v]
  refine loop_unroll 4 ?_
  simp (maxSteps := 4000000) only [push_cast, Int.reduceEq, Int.reduceBNe, Int.reduceBEq, Int.reduceAdd, Int.reduceSub, Int.reduceMul, Int.reduceNeg, Int.reduceLT, Int.reduceLE, Int.reduceToNat, Nat.reduceLT, Nat.reduceAdd, Nat.reduceSub, Nat.reduceMul, Nat.reduceEqDiff, Nat.reduceLeDiff, Nat.reduceBEq, reduceIte, reduceCtorEq]
  refine evCode_sound Γok _ _ _ ?_
  simp (maxSteps := 4000000) only [push_cast, Int.reduceEq, Int.reduceBNe, Int.reduceBEq, Int.reduceAdd, Int.reduceSub, Int.reduceMul, Int.reduceNeg, Int.reduceLT, Int.reduceLE, Int.reduceToNat, Nat.reduceLT, Nat.reduceAdd, Nat.reduceSub, Nat.reduceMul, Nat.reduceEqDiff, Nat.reduceLeDiff, Nat.reduceBEq, reduceIte, reduceCtorEq]
  refine call_w (sclone_c x.o ho) [] (by simp (maxSteps := 4000000) only [push_cast, Int.reduceEq, Int.reduceBNe, Int.reduceBEq, Int.reduceAdd, Int.reduceSub, Int.reduceMul, Int.reduceNeg, Int.reduceLT, Int.reduceLE, Int.reduceToNat, Nat.reduceLT, Nat.reduceAdd, Nat.reduceSub, Nat.reduceMul, Nat.reduceEqDiff, Nat.reduceLeDiff, Nat.reduceBEq, reduceIte, reduceCtorEq]) ?_
  rintro sv post ⟨rfl, rfl⟩
  simp (maxSteps := 4000000) only [push_cast, Int.reduceEq, Int.reduceBNe, Int.reduceBEq, Int.reduceAdd, Int.reduceSub, Int.reduceMul, Int.reduceNeg, Int.reduceLT, Int.reduceLE, Int.reduceToNat, Nat.reduceLT, Nat.reduceAdd, Nat.reduceSub, Nat.reduceMul, Nat.reduceEqDiff, Nat.reduceLeDiff, Nat.reduceBEq, reduceIte, reduceCtorEq, w1]
  refine evCode_sound Γok _ _ _ ?_
  simp (maxSteps := 4000000) only [push_cast, Int.reduceEq, Int.reduceBNe, Int.reduceBEq, Int.reduceAdd, Int.reduceSub, Int.reduceMul, Int.reduceNeg, Int.reduceLT, Int.reduceLE, Int.reduceToNat, Nat.reduceLT, Nat.reduceAdd, Nat.reduceSub, Nat.reduceMul, Nat.reduceEqDiff, Nat.reduceLeDiff, Nat.reduceBEq, reduceIte, reduceCtorEq]
  refine call_w (sclone_c x.i hi) [] (by simp (maxSteps := 4000000) only [push_cast, Int.reduceEq, Int.reduceBNe, Int.reduceBEq, Int.reduceAdd, Int.reduceSub, Int.reduceMul, Int.reduceNeg, Int.reduceLT, Int.reduceLE, Int.reduceToNat, Nat.reduceLT, Nat.reduceAdd, Nat.reduceSub, Nat.reduceMul, Nat.reduceEqDiff, Nat.reduceLeDiff, Nat.reduceBEq, reduceIte, reduceCtorEq]) ?_
  rintro sv post ⟨rfl, rfl⟩
  simp (maxSteps := 4000000) only [push_cast, Int.reduceEq, Int.reduceBNe, Int.reduceBEq, Int.reduceAdd, Int.reduceSub, Int.reduceMul, Int.reduceNeg, Int.reduceLT, Int.reduceLE, Int.reduceToNat, Nat.reduceLT, Nat.reduceAdd, Nat.reduceSub, Nat.reduceMul, Nat.reduceEqDiff, Nat.reduceLeDiff, Nat.reduceBEq, reduceIte, reduceCtorEq, w2]
  refine evCode_sound Γok _ _ _ ?_
  simp (maxSteps := 4000000) only [push_cast, Int.reduceEq, Int.reduceBNe, Int.reduceBEq, Int.reduceAdd, Int.reduceSub, Int.reduceMul, Int.reduceNeg, Int.reduceLT, Int.reduceLE, Int.reduceToNat, Nat.reduceLT, Nat.reduceAdd, Nat.reduceSub, Nat.reduceMul, Nat.reduceEqDiff, Nat.reduceLeDiff, Nat.reduceBEq, reduceIte, reduceCtorEq]
  refine call_w (sclone_c x.k hk) [] (by simp (maxSteps := 4000000) only [push_cast, Int.reduceEq, Int.reduceBNe, Int.reduceBEq, Int.reduceAdd, Int.reduceSub, Int.reduceMul, Int.reduceNeg, Int.reduceLT, Int.reduceLE, Int.reduceToNat, Nat.reduceLT, Nat.reduceAdd, Nat.reduceSub, Nat.reduceMul, Nat.reduceEqDiff, Nat.reduceLeDiff, Nat.reduceBEq, reduceIte, reduceCtorEq]) ?_
  rintro sv post ⟨rfl, rfl⟩
  simp (maxSteps := 4000000) only [push_cast, Int.reduceEq, Int.reduceBNe, Int.reduceBEq, Int.reduceAdd, Int.reduceSub, Int.reduceMul, Int.reduceNeg, Int.reduceLT, Int.reduceLE, Int.reduceToNat, Nat.reduceLT, Nat.reduceAdd, Nat.reduceSub, Nat.reduceMul, Nat.reduceEqDiff, Nat.reduceLeDiff, Nat.reduceBEq, reduceIte, reduceCtorEq, w3]
  refine evCode_sound Γok _ _ _ ?_
  simp (maxSteps := 4000000) only [push_cast, Int.reduceEq, Int.reduceBNe, Int.reduceBEq, Int.reduceAdd, Int.reduceSub, Int.reduceMul, Int.reduceNeg, Int.reduceLT, Int.reduceLE, Int.reduceToNat, Nat.reduceLT, Nat.reduceAdd, Nat.reduceSub, Nat.reduceMul, Nat.reduceEqDiff, Nat.reduceLeDiff, Nat.reduceBEq, reduceIte, reduceCtorEq, rg11]
  refine call_w (checkR_c x hx) [] (by simp (maxSteps := 4000000) only [push_cast, Int.reduceEq, Int.reduceBNe, Int.reduceBEq, Int.reduceAdd, Int.reduceSub, Int.reduceMul, Int.reduceNeg, Int.reduceLT, Int.reduceLE, Int.reduceToNat, Nat.reduceLT, Nat.reduceAdd, Nat.reduceSub, Nat.reduceMul, Nat.reduceEqDiff, Nat.reduceLeDiff, Nat.reduceBEq, reduceIte, reduceCtorEq, St.sv, St.cells]) ?_
  rintro sv post ⟨rfl, rfl⟩
  simp (maxSteps := 4000000) only [push_cast, Int.reduceEq, Int.reduceBNe, Int.reduceBEq, Int.reduceAdd, Int.reduceSub, Int.reduceMul, Int.reduceNeg, Int.reduceLT, Int.reduceLE, Int.reduceToNat, Nat.reduceLT, Nat.reduceAdd, Nat.reduceSub, Nat.reduceMul, Nat.reduceEqDiff, Nat.reduceLeDiff, Nat.reduceBEq, reduceIte, reduceCtorEq, rg11]
  refine ⟨fun h => ?_, fun h => ⟨fun h1 => ?_, fun h1 => ⟨fun h2 => ?_, fun h2 => ⟨fun h3 => ?_, fun h3 => ?_⟩⟩⟩⟩
  · have hm : ¬ x.May := fun hm => h (by rw [if_pos hm])
    have e : x.settled M g bad = (x, g, 51) := by unfold St.settled St.bErr; simp [hm]
    rw [e, if_neg hm]
    exact Fin.w [0] (.tup [x.sv .new, .i .i64 51]) _ (by simp (maxSteps := 4000000) only [push_cast, Int.reduceEq, Int.reduceBNe, Int.reduceBEq, Int.reduceAdd, Int.reduceSub, Int.reduceMul, Int.reduceNeg, Int.reduceLT, Int.reduceLE, Int.reduceToNat, Nat.reduceLT, Nat.reduceAdd, Nat.reduceSub, Nat.reduceMul, Nat.reduceEqDiff, Nat.reduceLeDiff, Nat.reduceBEq, reduceIte, reduceCtorEq, St.sv, St.cells]) ⟨rfl, rfl⟩
  all_goals
    have hm : x.May := by
      by_cases hm : x.May
      · exact hm
      · rw [if_neg hm] at h; omega
  · have e : x.settled M g bad = (x, g, 113) := by unfold St.settled St.bErr; simp [hm, h1]
    rw [e]
    exact Fin.w [0] (.tup [x.sv .new, .i .i64 113]) _ (by simp (maxSteps := 4000000) only [push_cast, Int.reduceEq, Int.reduceBNe, Int.reduceBEq, Int.reduceAdd, Int.reduceSub, Int.reduceMul, Int.reduceNeg, Int.reduceLT, Int.reduceLE, Int.reduceToNat, Nat.reduceLT, Nat.reduceAdd, Nat.reduceSub, Nat.reduceMul, Nat.reduceEqDiff, Nat.reduceLeDiff, Nat.reduceBEq, reduceIte, reduceCtorEq, St.sv, St.cells]) ⟨rfl, rfl⟩
  all_goals
    have hb : x.bErr = 0 := by unfold St.bErr; simp [hm, h1]
  · have e : x.settled M g bad = (x, g, 1) := by unfold St.settled; simp [hb, h2]
    rw [e]
    exact Fin.w [0] (.tup [x.sv .new, .i .i64 1]) _ (by simp (maxSteps := 4000000) only [push_cast, Int.reduceEq, Int.reduceBNe, Int.reduceBEq, Int.reduceAdd, Int.reduceSub, Int.reduceMul, Int.reduceNeg, Int.reduceLT, Int.reduceLE, Int.reduceToNat, Nat.reduceLT, Nat.reduceAdd, Nat.reduceSub, Nat.reduceMul, Nat.reduceEqDiff, Nat.reduceLeDiff, Nat.reduceBEq, reduceIte, reduceCtorEq, St.sv, St.cells]) ⟨rfl, rfl⟩
  · have e : x.settled M g bad = (x, g, 0) := by unfold St.settled; simp [hb, h2, show x.o.length = 0 by omega]
    rw [e]
    exact Fin.w [0] (.tup [x.sv .new, .i .i64 0]) _ (by simp (maxSteps := 4000000) only [push_cast, Int.reduceEq, Int.reduceBNe, Int.reduceBEq, Int.reduceAdd, Int.reduceSub, Int.reduceMul, Int.reduceNeg, Int.reduceLT, Int.reduceLE, Int.reduceToNat, Nat.reduceLT, Nat.reduceAdd, Nat.reduceSub, Nat.reduceMul, Nat.reduceEqDiff, Nat.reduceLeDiff, Nat.reduceBEq, reduceIte, reduceCtorEq, St.sv, St.cells]) ⟨rfl, rfl⟩
  · have e : x.settled M g bad = ({ (x.Flush M g).1 with d := x.d }, (x.Flush M g).2.1, (x.Flush M g).2.2) := by unfold St.settled; rw [if_neg (by rw [hb]; simp), if_neg (by simp [h2]), if_neg (by omega)]
    rw [e]
    refine call_w (FlushR_c M hW x g hg hx hr) [0] (by simp (maxSteps := 4000000) only [push_cast, Int.reduceEq, Int.reduceBNe, Int.reduceBEq, Int.reduceAdd, Int.reduceSub, Int.reduceMul, Int.reduceNeg, Int.reduceLT, Int.reduceLE, Int.reduceToNat, Nat.reduceLT, Nat.reduceAdd, Nat.reduceSub, Nat.reduceMul, Nat.reduceEqDiff, Nat.reduceLeDiff, Nat.reduceBEq, reduceIte, reduceCtorEq, St.sv, St.cells, RawM.v]) ?_
    rintro sv post ⟨rfl, rfl⟩
    simp (maxSteps := 4000000) only [push_cast, Int.reduceEq, Int.reduceBNe, Int.reduceBEq, Int.reduceAdd, Int.reduceSub, Int.reduceMul, Int.reduceNeg, Int.reduceLT, Int.reduceLE, Int.reduceToNat, Nat.reduceLT, Nat.reduceAdd, Nat.reduceSub, Nat.reduceMul, Nat.reduceEqDiff, Nat.reduceLeDiff, Nat.reduceBEq, reduceIte, reduceCtorEq, St.sv, St.cells, rg11]
    exact Fin.w [0] (.tup [({ (x.Flush M g).1 with d := x.d } : St).sv .new, .i .i64 (x.Flush M g).2.2]) _ (by simp (maxSteps := 4000000) only [push_cast, Int.reduceEq, Int.reduceBNe, Int.reduceBEq, Int.reduceAdd, Int.reduceSub, Int.reduceMul, Int.reduceNeg, Int.reduceLT, Int.reduceLE, Int.reduceToNat, Nat.reduceLT, Nat.reduceAdd, Nat.reduceSub, Nat.reduceMul, Nat.reduceEqDiff, Nat.reduceLeDiff, Nat.reduceBEq, reduceIte, reduceCtorEq, St.sv, St.cells]) ⟨rfl, rfl⟩

/-- The place as its user sees it. -/
def St.here (M : RawM) (x : St) (g : M.σ) : M.σ × Int × Int :=
  if (M.sk g 0 1).2.2 ≠ 0 then ((M.sk g 0 1).1, 0, (M.sk g 0 1).2.2) else ((M.sk g 0 1).1, IntKind.i64.wrap (IntKind.i64.wrap ((M.sk g 0 1).2.1 - x.i.length) - x.k.length), 0)
theorem here_c (M : RawM) (hS : M.Sk) (x : St) (g : M.σ) (hg : M.ok g) : Contract Try.prog 62 (preR (M.res g)) [x.sv .old, M.v] (fun sv post => sv = .tup [.i .i64 (x.here M g).2.1, .i .i64 (x.here M g).2.2] ∧ post = preR (M.res (x.here M g).1)) := by
  refine contract_ev Γok Try.func62 rfl rfl [] ?_
  simp (maxSteps := 4000000) only [push_cast, Int.reduceEq, Int.reduceBNe, Int.reduceBEq, Int.reduceAdd, Int.reduceSub, Int.reduceMul, Int.reduceNeg, Int.reduceLT, Int.reduceLE, Int.reduceToNat, Nat.reduceLT, Nat.reduceAdd, Nat.reduceSub, Nat.reduceMul, Nat.reduceEqDiff, Nat.reduceLeDiff, Nat.reduceBEq, reduceIte, reduceCtorEq, Try.f62, rg11, St.sv, St.cells, RawM.v]
  refine inv_w (hS.run g 0 1 hg) [0] (by simp (maxSteps := 4000000) only [push_cast, Int.reduceEq, Int.reduceBNe, Int.reduceBEq, Int.reduceAdd, Int.reduceSub, Int.reduceMul, Int.reduceNeg, Int.reduceLT, Int.reduceLE, Int.reduceToNat, Nat.reduceLT, Nat.reduceAdd, Nat.reduceSub, Nat.reduceMul, Nat.reduceEqDiff, Nat.reduceLeDiff, Nat.reduceBEq, reduceIte, reduceCtorEq]) ?_
  rintro sv post ⟨rfl, rfl⟩
  simp (maxSteps := 4000000) only [push_cast, Int.reduceEq, Int.reduceBNe, Int.reduceBEq, Int.reduceAdd, Int.reduceSub, Int.reduceMul, Int.reduceNeg, Int.reduceLT, Int.reduceLE, Int.reduceToNat, Nat.reduceLT, Nat.reduceAdd, Nat.reduceSub, Nat.reduceMul, Nat.reduceEqDiff, Nat.reduceLeDiff, Nat.reduceBEq, reduceIte, reduceCtorEq, rg11]
  unfold St.here
  refine ⟨fun h => ?_, fun h => ?_⟩
  · rw [if_pos h]
    exact Fin.w [0] (.tup [.i .i64 0, .i .i64 (M.sk g 0 1).2.2]) _ (by simp (maxSteps := 4000000) only [push_cast, Int.reduceEq, Int.reduceBNe, Int.reduceBEq, Int.reduceAdd, Int.reduceSub, Int.reduceMul, Int.reduceNeg, Int.reduceLT, Int.reduceLE, Int.reduceToNat, Nat.reduceLT, Nat.reduceAdd, Nat.reduceSub, Nat.reduceMul, Nat.reduceEqDiff, Nat.reduceLeDiff, Nat.reduceBEq, reduceIte, reduceCtorEq]) ⟨rfl, rfl⟩
  · rw [if_neg (by omega)]
    exact Fin.w [0] (.tup [.i .i64 _, .i .i64 0]) _ (by simp (maxSteps := 4000000) only [push_cast, Int.reduceEq, Int.reduceBNe, Int.reduceBEq, Int.reduceAdd, Int.reduceSub, Int.reduceMul, Int.reduceNeg, Int.reduceLT, Int.reduceLE, Int.reduceToNat, Nat.reduceLT, Nat.reduceAdd, Nat.reduceSub, Nat.reduceMul, Nat.reduceEqDiff, Nat.reduceLeDiff, Nat.reduceBEq, reduceIte, reduceCtorEq]) ⟨rfl, rfl⟩

def St.Tell (M : RawM) (x : St) (g : M.σ) : St × M.σ × Int × Int :=
  if (x.settled M g false).2.2 ≠ 0 then ((x.settled M g false).1, (x.settled M g false).2.1, 0, (x.settled M g false).2.2)
  else if ((x.settled M g false).1.here M (x.settled M g false).2.1).2.2 ≠ 0 then ((x.settled M g false).1, ((x.settled M g false).1.here M (x.settled M g false).2.1).1, 0, ((x.settled M g false).1.here M (x.settled M g false).2.1).2.2)
  else if ((x.settled M g false).1.here M (x.settled M g false).2.1).2.1 < 0 then ((x.settled M g false).1, ((x.settled M g false).1.here M (x.settled M g false).2.1).1, 0, 4)
  else ((x.settled M g false).1, ((x.settled M g false).1.here M (x.settled M g false).2.1).1, ((x.settled M g false).1.here M (x.settled M g false).2.1).2.1, 0)
def isT (M : RawM) (r : St × M.σ × Int × Int) (sv : SV) (post : SS) : Prop := sv = .tup [r.1.sv .new, .i .i64 r.2.2.1, .i .i64 r.2.2.2] ∧ post = preR (M.res r.2.1)

theorem Flush_ok (M : RawM) (hW : M.Wr) (x : St) (g : M.σ) (hg : M.ok g) (hx : x.o.length ≤ 1048576) (hr : x.o.length ≤ M.rm g) : M.ok (x.Flush M g).2.1 := by
  have h := (deliver_ok M hW x g hg hx hr).1
  unfold St.Flush
  split
  · exact hg
  · split
    · split <;> exact h
    · exact hg
theorem settled_ok (M : RawM) (hW : M.Wr) (x : St) (g : M.σ) (hg : M.ok g) (hx : x.o.length ≤ 1048576) (hr : x.o.length ≤ M.rm g) (bad : Bool) : M.ok (x.settled M g bad).2.1 := by
  have h := Flush_ok M hW x g hg hx hr
  unfold St.settled
  split
  · exact hg
  · split
    · exact hg
    · split
      · exact hg
      · exact h

theorem Tell_c (M : RawM) (hW : M.Wr) (hS : M.Sk) (x : St) (hx : x.fits) (hx2 : x.o.length ≤ 1048576) (g : M.σ) (hg : M.ok g) (hr : x.o.length ≤ M.rm g) : Contract Try.prog 36 (preR (M.res g)) [x.sv .old, M.v] (isT M (x.Tell M g)) := by
  have hok := settled_ok M hW x g hg hx2 hr false
  refine contract_ev Γok Try.func36 rfl rfl [] ?_
  simp (maxSteps := 4000000) only [push_cast, Int.reduceEq, Int.reduceBNe, Int.reduceBEq, Int.reduceAdd, Int.reduceSub, Int.reduceMul, Int.reduceNeg, Int.reduceLT, Int.reduceLE, Int.reduceToNat, Nat.reduceLT, Nat.reduceAdd, Nat.reduceSub, Nat.reduceMul, Nat.reduceEqDiff, Nat.reduceLeDiff, Nat.reduceBEq, reduceIte, reduceCtorEq, Try.f36, rg11, St.sv, St.cells, RawM.v]
  refine call_w (settled_c M hW x hx g hg hr false) [0] (by simp (maxSteps := 4000000) only [push_cast, Int.reduceEq, Int.reduceBNe, Int.reduceBEq, Int.reduceAdd, Int.reduceSub, Int.reduceMul, Int.reduceNeg, Int.reduceLT, Int.reduceLE, Int.reduceToNat, Nat.reduceLT, Nat.reduceAdd, Nat.reduceSub, Nat.reduceMul, Nat.reduceEqDiff, Nat.reduceLeDiff, Nat.reduceBEq, reduceIte, reduceCtorEq, St.sv, St.cells, RawM.v]) ?_
  rintro sv post ⟨rfl, rfl⟩
  unfold St.Tell
  generalize x.settled M g false = z at hok ⊢
  simp (maxSteps := 4000000) only [push_cast, Int.reduceEq, Int.reduceBNe, Int.reduceBEq, Int.reduceAdd, Int.reduceSub, Int.reduceMul, Int.reduceNeg, Int.reduceLT, Int.reduceLE, Int.reduceToNat, Nat.reduceLT, Nat.reduceAdd, Nat.reduceSub, Nat.reduceMul, Nat.reduceEqDiff, Nat.reduceLeDiff, Nat.reduceBEq, reduceIte, reduceCtorEq, St.sv, St.cells, rg11]
  refine ⟨fun h => ?_, fun h => ?_⟩
  · rw [if_pos h]
    exact Fin.w [0] (.tup [z.1.sv .new, .i .i64 0, .i .i64 z.2.2]) _ (by simp (maxSteps := 4000000) only [push_cast, Int.reduceEq, Int.reduceBNe, Int.reduceBEq, Int.reduceAdd, Int.reduceSub, Int.reduceMul, Int.reduceNeg, Int.reduceLT, Int.reduceLE, Int.reduceToNat, Nat.reduceLT, Nat.reduceAdd, Nat.reduceSub, Nat.reduceMul, Nat.reduceEqDiff, Nat.reduceLeDiff, Nat.reduceBEq, reduceIte, reduceCtorEq, St.sv, St.cells]) ⟨rfl, rfl⟩
  rw [if_neg (by omega)]
  refine call_w (here_c M hS z.1 z.2.1 hok) [0] (by simp (maxSteps := 4000000) only [push_cast, Int.reduceEq, Int.reduceBNe, Int.reduceBEq, Int.reduceAdd, Int.reduceSub, Int.reduceMul, Int.reduceNeg, Int.reduceLT, Int.reduceLE, Int.reduceToNat, Nat.reduceLT, Nat.reduceAdd, Nat.reduceSub, Nat.reduceMul, Nat.reduceEqDiff, Nat.reduceLeDiff, Nat.reduceBEq, reduceIte, reduceCtorEq, St.sv, St.cells, RawM.v]) ?_
  rintro sv post ⟨rfl, rfl⟩
  generalize z.1.here M z.2.1 = h2
  simp (maxSteps := 4000000) only [push_cast, Int.reduceEq, Int.reduceBNe, Int.reduceBEq, Int.reduceAdd, Int.reduceSub, Int.reduceMul, Int.reduceNeg, Int.reduceLT, Int.reduceLE, Int.reduceToNat, Nat.reduceLT, Nat.reduceAdd, Nat.reduceSub, Nat.reduceMul, Nat.reduceEqDiff, Nat.reduceLeDiff, Nat.reduceBEq, reduceIte, reduceCtorEq, St.sv, St.cells, rg11]
  refine ⟨fun h3 => ?_, fun h3 => ⟨fun h4 => ?_, fun h4 => ?_⟩⟩
  · rw [if_pos h3]
    exact Fin.w [0] (.tup [z.1.sv .new, .i .i64 0, .i .i64 h2.2.2]) _ (by simp (maxSteps := 4000000) only [push_cast, Int.reduceEq, Int.reduceBNe, Int.reduceBEq, Int.reduceAdd, Int.reduceSub, Int.reduceMul, Int.reduceNeg, Int.reduceLT, Int.reduceLE, Int.reduceToNat, Nat.reduceLT, Nat.reduceAdd, Nat.reduceSub, Nat.reduceMul, Nat.reduceEqDiff, Nat.reduceLeDiff, Nat.reduceBEq, reduceIte, reduceCtorEq, St.sv, St.cells]) ⟨rfl, rfl⟩
  · rw [if_neg (by omega), if_pos h4]
    exact Fin.w [0] (.tup [z.1.sv .new, .i .i64 0, .i .i64 4]) _ (by simp (maxSteps := 4000000) only [push_cast, Int.reduceEq, Int.reduceBNe, Int.reduceBEq, Int.reduceAdd, Int.reduceSub, Int.reduceMul, Int.reduceNeg, Int.reduceLT, Int.reduceLE, Int.reduceToNat, Nat.reduceLT, Nat.reduceAdd, Nat.reduceSub, Nat.reduceMul, Nat.reduceEqDiff, Nat.reduceLeDiff, Nat.reduceBEq, reduceIte, reduceCtorEq, St.sv, St.cells]) ⟨rfl, rfl⟩
  · rw [if_neg (by omega), if_neg (by omega)]
    exact Fin.w [0] (.tup [z.1.sv .new, .i .i64 h2.2.1, .i .i64 0]) _ (by simp (maxSteps := 4000000) only [push_cast, Int.reduceEq, Int.reduceBNe, Int.reduceBEq, Int.reduceAdd, Int.reduceSub, Int.reduceMul, Int.reduceNeg, Int.reduceLT, Int.reduceLE, Int.reduceToNat, Nat.reduceLT, Nat.reduceAdd, Nat.reduceSub, Nat.reduceMul, Nat.reduceEqDiff, Nat.reduceLeDiff, Nat.reduceBEq, reduceIte, reduceCtorEq, St.sv, St.cells]) ⟨rfl, rfl⟩

/-- Sought: where, by the Raw. -/
def St.sought (M : RawM) (x : St) (q : M.σ × Int × Int) : St × M.σ × Int × Int :=
  if q.2.2 ≠ 0 then (x, q.1, 0, q.2.2) else ({ x with o := [], i := [], k := [], en := false, d := 0 }, q.1, q.2.1, 0)
def St.Seek1 (M : RawM) (x : St) (h : M.σ × Int × Int) (off : Int) : St × M.σ × Int × Int :=
  if h.2.2 ≠ 0 then (x, h.1, 0, h.2.2)
  else if off < IntKind.i64.wrap (0 - h.2.1) ∨ IntKind.i64.wrap (1048576 - h.2.1) < off then (x, h.1, 0, 4)
  else x.sought M (M.sk h.1 (IntKind.i64.wrap (h.2.1 + off)) 0)
def St.Seek (M : RawM) (x : St) (g : M.σ) (off w : Int) : St × M.σ × Int × Int :=
  if (x.settled M g (decide (w < 0) || decide (2 < w))).2.2 ≠ 0 then ((x.settled M g (decide (w < 0) || decide (2 < w))).1, (x.settled M g (decide (w < 0) || decide (2 < w))).2.1, 0, (x.settled M g (decide (w < 0) || decide (2 < w))).2.2)
  else if w = 1 then (x.settled M g (decide (w < 0) || decide (2 < w))).1.Seek1 M ((x.settled M g (decide (w < 0) || decide (2 < w))).1.here M (x.settled M g (decide (w < 0) || decide (2 < w))).2.1) off
  else (x.settled M g (decide (w < 0) || decide (2 < w))).1.sought M (M.sk (x.settled M g (decide (w < 0) || decide (2 < w))).2.1 off w)

theorem here_ok (M : RawM) (hS : M.Sk) (x : St) (g : M.σ) (hg : M.ok g) : M.ok (x.here M g).1 := by
  have := hS.keep g 0 1 hg
  unfold St.here
  split <;> exact this

theorem Seek_c (M : RawM) (hW : M.Wr) (hS : M.Sk) (x : St) (hx : x.fits) (hx2 : x.o.length ≤ 1048576) (g : M.σ) (hg : M.ok g) (hr : x.o.length ≤ M.rm g) (off w : Int) : Contract Try.prog 35 (preR (M.res g)) [x.sv .old, M.v, .i .i64 off, .i .i64 w] (isT M (x.Seek M g off w)) := by
  have hok := settled_ok M hW x g hg hx2 hr (decide (w < 0) || decide (2 < w))
  refine contract_ev Γok Try.func35 rfl rfl [] ?_
  simp (maxSteps := 4000000) only [push_cast, Int.reduceEq, Int.reduceBNe, Int.reduceBEq, Int.reduceAdd, Int.reduceSub, Int.reduceMul, Int.reduceNeg, Int.reduceLT, Int.reduceLE, Int.reduceToNat, Nat.reduceLT, Nat.reduceAdd, Nat.reduceSub, Nat.reduceMul, Nat.reduceEqDiff, Nat.reduceLeDiff, Nat.reduceBEq, reduceIte, reduceCtorEq, Try.f35, rg11, St.sv, St.cells, RawM.v]
  refine call_w (settled_c M hW x hx g hg hr (decide (w < 0) || decide (2 < w))) [0] (by simp (maxSteps := 4000000) only [push_cast, Int.reduceEq, Int.reduceBNe, Int.reduceBEq, Int.reduceAdd, Int.reduceSub, Int.reduceMul, Int.reduceNeg, Int.reduceLT, Int.reduceLE, Int.reduceToNat, Nat.reduceLT, Nat.reduceAdd, Nat.reduceSub, Nat.reduceMul, Nat.reduceEqDiff, Nat.reduceLeDiff, Nat.reduceBEq, reduceIte, reduceCtorEq, St.sv, St.cells, RawM.v]) ?_
  rintro sv post ⟨rfl, rfl⟩
  unfold St.Seek
  generalize x.settled M g (decide (w < 0) || decide (2 < w)) = z at hok ⊢
  simp (maxSteps := 4000000) only [push_cast, Int.reduceEq, Int.reduceBNe, Int.reduceBEq, Int.reduceAdd, Int.reduceSub, Int.reduceMul, Int.reduceNeg, Int.reduceLT, Int.reduceLE, Int.reduceToNat, Nat.reduceLT, Nat.reduceAdd, Nat.reduceSub, Nat.reduceMul, Nat.reduceEqDiff, Nat.reduceLeDiff, Nat.reduceBEq, reduceIte, reduceCtorEq, St.sv, St.cells, rg11]
  refine ⟨fun h => ?_, fun h => ⟨fun h1 => ?_, fun h1 => ?_⟩⟩
  · rw [if_pos h]
    exact Fin.w [0] (.tup [z.1.sv .new, .i .i64 0, .i .i64 z.2.2]) _ (by simp (maxSteps := 4000000) only [push_cast, Int.reduceEq, Int.reduceBNe, Int.reduceBEq, Int.reduceAdd, Int.reduceSub, Int.reduceMul, Int.reduceNeg, Int.reduceLT, Int.reduceLE, Int.reduceToNat, Nat.reduceLT, Nat.reduceAdd, Nat.reduceSub, Nat.reduceMul, Nat.reduceEqDiff, Nat.reduceLeDiff, Nat.reduceBEq, reduceIte, reduceCtorEq, St.sv, St.cells]) ⟨rfl, rfl⟩
  · rw [if_neg (by omega), if_pos h1]
    have hok2 := here_ok M hS z.1 z.2.1 hok
    refine call_w (here_c M hS z.1 z.2.1 hok) [0] (by simp (maxSteps := 4000000) only [push_cast, Int.reduceEq, Int.reduceBNe, Int.reduceBEq, Int.reduceAdd, Int.reduceSub, Int.reduceMul, Int.reduceNeg, Int.reduceLT, Int.reduceLE, Int.reduceToNat, Nat.reduceLT, Nat.reduceAdd, Nat.reduceSub, Nat.reduceMul, Nat.reduceEqDiff, Nat.reduceLeDiff, Nat.reduceBEq, reduceIte, reduceCtorEq, St.sv, St.cells, RawM.v]) ?_
    rintro sv post ⟨rfl, rfl⟩
    generalize z.1.here M z.2.1 = h2 at hok2 ⊢
    simp (maxSteps := 4000000) only [push_cast, Int.reduceEq, Int.reduceBNe, Int.reduceBEq, Int.reduceAdd, Int.reduceSub, Int.reduceMul, Int.reduceNeg, Int.reduceLT, Int.reduceLE, Int.reduceToNat, Nat.reduceLT, Nat.reduceAdd, Nat.reduceSub, Nat.reduceMul, Nat.reduceEqDiff, Nat.reduceLeDiff, Nat.reduceBEq, reduceIte, reduceCtorEq, St.sv, St.cells, rg11]
    unfold St.Seek1
    refine ⟨fun h3 => ?_, fun h3 => ⟨fun h4 => ?_, fun h4 => ?_⟩⟩
    · rw [if_pos h3]
      exact Fin.w [0] (.tup [z.1.sv .new, .i .i64 0, .i .i64 h2.2.2]) _ (by simp (maxSteps := 4000000) only [push_cast, Int.reduceEq, Int.reduceBNe, Int.reduceBEq, Int.reduceAdd, Int.reduceSub, Int.reduceMul, Int.reduceNeg, Int.reduceLT, Int.reduceLE, Int.reduceToNat, Nat.reduceLT, Nat.reduceAdd, Nat.reduceSub, Nat.reduceMul, Nat.reduceEqDiff, Nat.reduceLeDiff, Nat.reduceBEq, reduceIte, reduceCtorEq, St.sv, St.cells]) ⟨rfl, rfl⟩
    · rw [if_neg (by omega), if_pos h4]
      exact Fin.w [0] (.tup [z.1.sv .new, .i .i64 0, .i .i64 4]) _ (by simp (maxSteps := 4000000) only [push_cast, Int.reduceEq, Int.reduceBNe, Int.reduceBEq, Int.reduceAdd, Int.reduceSub, Int.reduceMul, Int.reduceNeg, Int.reduceLT, Int.reduceLE, Int.reduceToNat, Nat.reduceLT, Nat.reduceAdd, Nat.reduceSub, Nat.reduceMul, Nat.reduceEqDiff, Nat.reduceLeDiff, Nat.reduceBEq, reduceIte, reduceCtorEq, St.sv, St.cells]) ⟨rfl, rfl⟩
    · rw [if_neg (by omega), if_neg (by omega)]
      refine inv_w (hS.run h2.1 (IntKind.i64.wrap (h2.2.1 + off)) 0 hok2) [0] (by simp (maxSteps := 4000000) only [push_cast, Int.reduceEq, Int.reduceBNe, Int.reduceBEq, Int.reduceAdd, Int.reduceSub, Int.reduceMul, Int.reduceNeg, Int.reduceLT, Int.reduceLE, Int.reduceToNat, Nat.reduceLT, Nat.reduceAdd, Nat.reduceSub, Nat.reduceMul, Nat.reduceEqDiff, Nat.reduceLeDiff, Nat.reduceBEq, reduceIte, reduceCtorEq]) ?_
      rintro sv post ⟨rfl, rfl⟩
      unfold St.sought
      generalize M.sk h2.1 (IntKind.i64.wrap (h2.2.1 + off)) 0 = q
      simp (maxSteps := 4000000) only [push_cast, Int.reduceEq, Int.reduceBNe, Int.reduceBEq, Int.reduceAdd, Int.reduceSub, Int.reduceMul, Int.reduceNeg, Int.reduceLT, Int.reduceLE, Int.reduceToNat, Nat.reduceLT, Nat.reduceAdd, Nat.reduceSub, Nat.reduceMul, Nat.reduceEqDiff, Nat.reduceLeDiff, Nat.reduceBEq, reduceIte, reduceCtorEq, rg11]
      refine ⟨fun h5 => ?_, fun h5 => ?_⟩
      · rw [if_pos h5]
        exact Fin.w [0] (.tup [z.1.sv .new, .i .i64 0, .i .i64 q.2.2]) _ (by simp (maxSteps := 4000000) only [push_cast, Int.reduceEq, Int.reduceBNe, Int.reduceBEq, Int.reduceAdd, Int.reduceSub, Int.reduceMul, Int.reduceNeg, Int.reduceLT, Int.reduceLE, Int.reduceToNat, Nat.reduceLT, Nat.reduceAdd, Nat.reduceSub, Nat.reduceMul, Nat.reduceEqDiff, Nat.reduceLeDiff, Nat.reduceBEq, reduceIte, reduceCtorEq, St.sv, St.cells]) ⟨rfl, rfl⟩
      · rw [if_neg (by omega)]
        exact Fin.w [0] (.tup [({ z.1 with o := [], i := [], k := [], en := false, d := 0 } : St).sv .new, .i .i64 q.2.1, .i .i64 0]) _ (by simp (maxSteps := 4000000) only [push_cast, Int.reduceEq, Int.reduceBNe, Int.reduceBEq, Int.reduceAdd, Int.reduceSub, Int.reduceMul, Int.reduceNeg, Int.reduceLT, Int.reduceLE, Int.reduceToNat, Nat.reduceLT, Nat.reduceAdd, Nat.reduceSub, Nat.reduceMul, Nat.reduceEqDiff, Nat.reduceLeDiff, Nat.reduceBEq, reduceIte, reduceCtorEq, St.sv, St.cells]) ⟨rfl, rfl⟩
  · rw [if_neg (by omega), if_neg h1]
    refine inv_w (hS.run z.2.1 off w hok) [0] (by simp (maxSteps := 4000000) only [push_cast, Int.reduceEq, Int.reduceBNe, Int.reduceBEq, Int.reduceAdd, Int.reduceSub, Int.reduceMul, Int.reduceNeg, Int.reduceLT, Int.reduceLE, Int.reduceToNat, Nat.reduceLT, Nat.reduceAdd, Nat.reduceSub, Nat.reduceMul, Nat.reduceEqDiff, Nat.reduceLeDiff, Nat.reduceBEq, reduceIte, reduceCtorEq]) ?_
    rintro sv post ⟨rfl, rfl⟩
    unfold St.sought
    generalize M.sk z.2.1 off w = q
    simp (maxSteps := 4000000) only [push_cast, Int.reduceEq, Int.reduceBNe, Int.reduceBEq, Int.reduceAdd, Int.reduceSub, Int.reduceMul, Int.reduceNeg, Int.reduceLT, Int.reduceLE, Int.reduceToNat, Nat.reduceLT, Nat.reduceAdd, Nat.reduceSub, Nat.reduceMul, Nat.reduceEqDiff, Nat.reduceLeDiff, Nat.reduceBEq, reduceIte, reduceCtorEq, rg11]
    refine ⟨fun h5 => ?_, fun h5 => ?_⟩
    · rw [if_pos h5]
      exact Fin.w [0] (.tup [z.1.sv .new, .i .i64 0, .i .i64 q.2.2]) _ (by simp (maxSteps := 4000000) only [push_cast, Int.reduceEq, Int.reduceBNe, Int.reduceBEq, Int.reduceAdd, Int.reduceSub, Int.reduceMul, Int.reduceNeg, Int.reduceLT, Int.reduceLE, Int.reduceToNat, Nat.reduceLT, Nat.reduceAdd, Nat.reduceSub, Nat.reduceMul, Nat.reduceEqDiff, Nat.reduceLeDiff, Nat.reduceBEq, reduceIte, reduceCtorEq, St.sv, St.cells]) ⟨rfl, rfl⟩
    · rw [if_neg (by omega)]
      exact Fin.w [0] (.tup [({ z.1 with o := [], i := [], k := [], en := false, d := 0 } : St).sv .new, .i .i64 q.2.1, .i .i64 0]) _ (by simp (maxSteps := 4000000) only [push_cast, Int.reduceEq, Int.reduceBNe, Int.reduceBEq, Int.reduceAdd, Int.reduceSub, Int.reduceMul, Int.reduceNeg, Int.reduceLT, Int.reduceLE, Int.reduceToNat, Nat.reduceLT, Nat.reduceAdd, Nat.reduceSub, Nat.reduceMul, Nat.reduceEqDiff, Nat.reduceLeDiff, Nat.reduceBEq, reduceIte, reduceCtorEq, St.sv, St.cells]) ⟨rfl, rfl⟩
end Go.Proofs.Ytbhkpefjnomncaa
/- Places: the page's example. -/
namespace Go.Proofs.Ytbhkpefjnomncaa
open Go Go.Eng
set_option maxHeartbeats 4000000
set_option linter.unusedSimpArgs false
set_option linter.unusedVariables false
set_option maxRecDepth 100000

theorem num14_c (m : Int) : Contract Try.prog 34 nilSS [.i .i64 m] (fun sv post => sv = .i .i64 m ∧ post = nilSS) := by
  refine contract_ev Γok Try.func34 rfl rfl [] ?_
  simp (maxSteps := 4000000) only [push_cast, Int.reduceEq, Int.reduceBNe, Int.reduceBEq, Int.reduceAdd, Int.reduceSub, Int.reduceMul, Int.reduceNeg, Int.reduceLT, Int.reduceLE, Int.reduceToNat, Nat.reduceLT, Nat.reduceAdd, Nat.reduceSub, Nat.reduceMul, Nat.reduceEqDiff, Nat.reduceLeDiff, Nat.reduceBEq, reduceIte, reduceCtorEq, Try.f34]
  exact Fin.nil rfl (psv := .i .i64 _) (by simp (maxSteps := 4000000) only [push_cast, Int.reduceEq, Int.reduceBNe, Int.reduceBEq, Int.reduceAdd, Int.reduceSub, Int.reduceMul, Int.reduceNeg, Int.reduceLT, Int.reduceLE, Int.reduceToNat, Nat.reduceLT, Nat.reduceAdd, Nat.reduceSub, Nat.reduceMul, Nat.reduceEqDiff, Nat.reduceLeDiff, Nat.reduceBEq, reduceIte, reduceCtorEq]) ⟨rfl, rfl⟩

def hiSt (i : List Int) (d : Int) (en : Bool) : St := ⟨true, true, 3, 4, [], i, [], d, en, false, false⟩
theorem pl1 (b : Nat) : (hiSt [] 0 false).Get (growM b) (([104, 101, 108, 108, 111], 0) : List Int × Int) = (hiSt [101, 108, 108] 1 false, (([104, 101, 108, 108, 111], 4) : List Int × Int), 104, 0) := by kernel_rfl
theorem pl2 (b : Nat) : (hiSt [101, 108, 108] 1 false).Tell (growM b) (([104, 101, 108, 108, 111], 4) : List Int × Int) = (hiSt [101, 108, 108] 1 false, (([104, 101, 108, 108, 111], 4) : List Int × Int), 1, 0) := by kernel_rfl
theorem pl3 (b : Nat) : (hiSt [101, 108, 108] 1 false).Seek (growM b) (([104, 101, 108, 108, 111], 4) : List Int × Int) 1 1 = (hiSt [] 0 false, (([104, 101, 108, 108, 111], 2) : List Int × Int), 2, 0) := by kernel_rfl
theorem pl4 (b : Nat) : (hiSt [] 0 false).Get (growM b) (([104, 101, 108, 108, 111], 2) : List Int × Int) = (hiSt [108, 111] 1 false, (([104, 101, 108, 108, 111], 5) : List Int × Int), 108, 0) := by kernel_rfl

theorem alive14_c : Contract Try.prog 32 nilSS [] (fun sv post => sv = .b true ∧ post = nilSS) := by
  have e0 : newSt true true 3 4 = hiSt [] 0 false := rfl
  have may0 : mayV 3 4 = 0 := rfl
  have hv : ∀ b, (growM b).v = .ifc 62 (.raw (.pointer (some ⟨b, 0, none⟩))) := fun b => rfl
  have hr : ∀ b (s : List Int × Int), (growM b).res s = growR b s.1 s.2 := fun b s => rfl
  have wz : IntKind.i64.wrap 0 = 0 := rfl
  refine contract_ev Γok Try.func32 rfl rfl [] ?_
  simp (maxSteps := 4000000) only [push_cast, Int.reduceEq, Int.reduceBNe, Int.reduceBEq, Int.reduceAdd, Int.reduceSub, Int.reduceMul, Int.reduceNeg, Int.reduceLT, Int.reduceLE, Int.reduceToNat, Nat.reduceLT, Nat.reduceAdd, Nat.reduceSub, Nat.reduceMul, Nat.reduceEqDiff, Nat.reduceLeDiff, Nat.reduceBEq, reduceIte, reduceCtorEq, Try.f32]
  refine call_w (newGrow_c [104, 101, 108, 108, 111] (by simp)) [] (by simp (maxSteps := 4000000) only [push_cast, Int.reduceEq, Int.reduceBNe, Int.reduceBEq, Int.reduceAdd, Int.reduceSub, Int.reduceMul, Int.reduceNeg, Int.reduceLT, Int.reduceLE, Int.reduceToNat, Nat.reduceLT, Nat.reduceAdd, Nat.reduceSub, Nat.reduceMul, Nat.reduceEqDiff, Nat.reduceLeDiff, Nat.reduceBEq, reduceIte, reduceCtorEq]) ?_
  rintro sv post ⟨b, rfl, rfl⟩
  simp (maxSteps := 4000000) only [push_cast, Int.reduceEq, Int.reduceBNe, Int.reduceBEq, Int.reduceAdd, Int.reduceSub, Int.reduceMul, Int.reduceNeg, Int.reduceLT, Int.reduceLE, Int.reduceToNat, Nat.reduceLT, Nat.reduceAdd, Nat.reduceSub, Nat.reduceMul, Nat.reduceEqDiff, Nat.reduceLeDiff, Nat.reduceBEq, reduceIte, reduceCtorEq]
  refine call_w (newS_c _ _ _ _ _ _ _ _ openRW_c 3 4) [] (by simp (maxSteps := 4000000) only [push_cast, Int.reduceEq, Int.reduceBNe, Int.reduceBEq, Int.reduceAdd, Int.reduceSub, Int.reduceMul, Int.reduceNeg, Int.reduceLT, Int.reduceLE, Int.reduceToNat, Nat.reduceLT, Nat.reduceAdd, Nat.reduceSub, Nat.reduceMul, Nat.reduceEqDiff, Nat.reduceLeDiff, Nat.reduceBEq, reduceIte, reduceCtorEq, modeV]) ?_
  rintro sv post ⟨rfl, rfl⟩
  simp (maxSteps := 4000000) only [push_cast, Int.reduceEq, Int.reduceBNe, Int.reduceBEq, Int.reduceAdd, Int.reduceSub, Int.reduceMul, Int.reduceNeg, Int.reduceLT, Int.reduceLE, Int.reduceToNat, Nat.reduceLT, Nat.reduceAdd, Nat.reduceSub, Nat.reduceMul, Nat.reduceEqDiff, Nat.reduceLeDiff, Nat.reduceBEq, reduceIte, reduceCtorEq, St.sv, St.cells]
  refine call_w (num14_c 0) [] (by simp (maxSteps := 4000000) only [push_cast, Int.reduceEq, Int.reduceBNe, Int.reduceBEq, Int.reduceAdd, Int.reduceSub, Int.reduceMul, Int.reduceNeg, Int.reduceLT, Int.reduceLE, Int.reduceToNat, Nat.reduceLT, Nat.reduceAdd, Nat.reduceSub, Nat.reduceMul, Nat.reduceEqDiff, Nat.reduceLeDiff, Nat.reduceBEq, reduceIte, reduceCtorEq]) ?_
  rintro sv post ⟨rfl, rfl⟩
  simp (maxSteps := 4000000) only [push_cast, Int.reduceEq, Int.reduceBNe, Int.reduceBEq, Int.reduceAdd, Int.reduceSub, Int.reduceMul, Int.reduceNeg, Int.reduceLT, Int.reduceLE, Int.reduceToNat, Nat.reduceLT, Nat.reduceAdd, Nat.reduceSub, Nat.reduceMul, Nat.reduceEqDiff, Nat.reduceLeDiff, Nat.reduceBEq, reduceIte, reduceCtorEq, may0]
  refine call_w (num14_c 0) [] (by simp (maxSteps := 4000000) only [push_cast, Int.reduceEq, Int.reduceBNe, Int.reduceBEq, Int.reduceAdd, Int.reduceSub, Int.reduceMul, Int.reduceNeg, Int.reduceLT, Int.reduceLE, Int.reduceToNat, Nat.reduceLT, Nat.reduceAdd, Nat.reduceSub, Nat.reduceMul, Nat.reduceEqDiff, Nat.reduceLeDiff, Nat.reduceBEq, reduceIte, reduceCtorEq]) ?_
  rintro sv post ⟨rfl, rfl⟩
  simp (maxSteps := 4000000) only [push_cast, Int.reduceEq, Int.reduceBNe, Int.reduceBEq, Int.reduceAdd, Int.reduceSub, Int.reduceMul, Int.reduceNeg, Int.reduceLT, Int.reduceLE, Int.reduceToNat, Nat.reduceLT, Nat.reduceAdd, Nat.reduceSub, Nat.reduceMul, Nat.reduceEqDiff, Nat.reduceLeDiff, Nat.reduceBEq, reduceIte, reduceCtorEq, e0, hiSt, rg11, wz]
  refine call_w (GetR_c (growM b) (growM_rd b) (hiSt [] 0 false) (([104, 101, 108, 108, 111], 0) : List Int × Int) (by exact ⟨by decide, by decide, by decide⟩) (by exact ⟨by decide, by decide, by decide⟩)) [3] (by simp (maxSteps := 4000000) only [push_cast, Int.reduceEq, Int.reduceBNe, Int.reduceBEq, Int.reduceAdd, Int.reduceSub, Int.reduceMul, Int.reduceNeg, Int.reduceLT, Int.reduceLE, Int.reduceToNat, Nat.reduceLT, Nat.reduceAdd, Nat.reduceSub, Nat.reduceMul, Nat.reduceEqDiff, Nat.reduceLeDiff, Nat.reduceBEq, reduceIte, reduceCtorEq, hv, hr, St.sv, St.cells, hiSt]) ?_
  rintro sv post ⟨rfl, rfl⟩
  rw [pl1 b]
  simp (maxSteps := 4000000) only [push_cast, Int.reduceEq, Int.reduceBNe, Int.reduceBEq, Int.reduceAdd, Int.reduceSub, Int.reduceMul, Int.reduceNeg, Int.reduceLT, Int.reduceLE, Int.reduceToNat, Nat.reduceLT, Nat.reduceAdd, Nat.reduceSub, Nat.reduceMul, Nat.reduceEqDiff, Nat.reduceLeDiff, Nat.reduceBEq, reduceIte, reduceCtorEq, hv, hr, St.sv, St.cells, hiSt, rg11]
  refine call_w (Tell_c (growM b) (growM_wr b) (growM_sk b) (hiSt [101, 108, 108] 1 false) (by exact ⟨by decide, by decide, by decide⟩) (by decide) (([104, 101, 108, 108, 111], 4) : List Int × Int) (by exact ⟨by decide, by decide, by decide⟩) (by simp [hiSt, growM])) [3] (by simp (maxSteps := 4000000) only [push_cast, Int.reduceEq, Int.reduceBNe, Int.reduceBEq, Int.reduceAdd, Int.reduceSub, Int.reduceMul, Int.reduceNeg, Int.reduceLT, Int.reduceLE, Int.reduceToNat, Nat.reduceLT, Nat.reduceAdd, Nat.reduceSub, Nat.reduceMul, Nat.reduceEqDiff, Nat.reduceLeDiff, Nat.reduceBEq, reduceIte, reduceCtorEq, hv, hr, St.sv, St.cells, hiSt]) ?_
  rintro sv post ⟨rfl, rfl⟩
  rw [pl2 b]
  simp (maxSteps := 4000000) only [push_cast, Int.reduceEq, Int.reduceBNe, Int.reduceBEq, Int.reduceAdd, Int.reduceSub, Int.reduceMul, Int.reduceNeg, Int.reduceLT, Int.reduceLE, Int.reduceToNat, Nat.reduceLT, Nat.reduceAdd, Nat.reduceSub, Nat.reduceMul, Nat.reduceEqDiff, Nat.reduceLeDiff, Nat.reduceBEq, reduceIte, reduceCtorEq, hv, hr, St.sv, St.cells, hiSt, rg11]
  refine call_w (Seek_c (growM b) (growM_wr b) (growM_sk b) (hiSt [101, 108, 108] 1 false) (by exact ⟨by decide, by decide, by decide⟩) (by decide) (([104, 101, 108, 108, 111], 4) : List Int × Int) (by exact ⟨by decide, by decide, by decide⟩) (by simp [hiSt, growM]) 1 1) [3] (by simp (maxSteps := 4000000) only [push_cast, Int.reduceEq, Int.reduceBNe, Int.reduceBEq, Int.reduceAdd, Int.reduceSub, Int.reduceMul, Int.reduceNeg, Int.reduceLT, Int.reduceLE, Int.reduceToNat, Nat.reduceLT, Nat.reduceAdd, Nat.reduceSub, Nat.reduceMul, Nat.reduceEqDiff, Nat.reduceLeDiff, Nat.reduceBEq, reduceIte, reduceCtorEq, hv, hr, St.sv, St.cells, hiSt]) ?_
  rintro sv post ⟨rfl, rfl⟩
  rw [pl3 b]
  simp (maxSteps := 4000000) only [push_cast, Int.reduceEq, Int.reduceBNe, Int.reduceBEq, Int.reduceAdd, Int.reduceSub, Int.reduceMul, Int.reduceNeg, Int.reduceLT, Int.reduceLE, Int.reduceToNat, Nat.reduceLT, Nat.reduceAdd, Nat.reduceSub, Nat.reduceMul, Nat.reduceEqDiff, Nat.reduceLeDiff, Nat.reduceBEq, reduceIte, reduceCtorEq, hv, hr, St.sv, St.cells, hiSt, rg11]
  refine call_w (GetR_c (growM b) (growM_rd b) (hiSt [] 0 false) (([104, 101, 108, 108, 111], 2) : List Int × Int) (by exact ⟨by decide, by decide, by decide⟩) (by exact ⟨by decide, by decide, by decide⟩)) [3] (by simp (maxSteps := 4000000) only [push_cast, Int.reduceEq, Int.reduceBNe, Int.reduceBEq, Int.reduceAdd, Int.reduceSub, Int.reduceMul, Int.reduceNeg, Int.reduceLT, Int.reduceLE, Int.reduceToNat, Nat.reduceLT, Nat.reduceAdd, Nat.reduceSub, Nat.reduceMul, Nat.reduceEqDiff, Nat.reduceLeDiff, Nat.reduceBEq, reduceIte, reduceCtorEq, hv, hr, St.sv, St.cells, hiSt]) ?_
  rintro sv post ⟨rfl, rfl⟩
  rw [pl4 b]
  simp (maxSteps := 4000000) only [push_cast, Int.reduceEq, Int.reduceBNe, Int.reduceBEq, Int.reduceAdd, Int.reduceSub, Int.reduceMul, Int.reduceNeg, Int.reduceLT, Int.reduceLE, Int.reduceToNat, Nat.reduceLT, Nat.reduceAdd, Nat.reduceSub, Nat.reduceMul, Nat.reduceEqDiff, Nat.reduceLeDiff, Nat.reduceBEq, reduceIte, reduceCtorEq, hv, hr, St.sv, St.cells, hiSt, rg11]
  refine call_w (num14_c 0) [] (by simp (maxSteps := 4000000) only [push_cast, Int.reduceEq, Int.reduceBNe, Int.reduceBEq, Int.reduceAdd, Int.reduceSub, Int.reduceMul, Int.reduceNeg, Int.reduceLT, Int.reduceLE, Int.reduceToNat, Nat.reduceLT, Nat.reduceAdd, Nat.reduceSub, Nat.reduceMul, Nat.reduceEqDiff, Nat.reduceLeDiff, Nat.reduceBEq, reduceIte, reduceCtorEq]) ?_
  rintro sv post ⟨rfl, rfl⟩
  simp (maxSteps := 4000000) only [push_cast, Int.reduceEq, Int.reduceBNe, Int.reduceBEq, Int.reduceAdd, Int.reduceSub, Int.reduceMul, Int.reduceNeg, Int.reduceLT, Int.reduceLE, Int.reduceToNat, Nat.reduceLT, Nat.reduceAdd, Nat.reduceSub, Nat.reduceMul, Nat.reduceEqDiff, Nat.reduceLeDiff, Nat.reduceBEq, reduceIte, reduceCtorEq]
  refine call_w (num14_c 0) [] (by simp (maxSteps := 4000000) only [push_cast, Int.reduceEq, Int.reduceBNe, Int.reduceBEq, Int.reduceAdd, Int.reduceSub, Int.reduceMul, Int.reduceNeg, Int.reduceLT, Int.reduceLE, Int.reduceToNat, Nat.reduceLT, Nat.reduceAdd, Nat.reduceSub, Nat.reduceMul, Nat.reduceEqDiff, Nat.reduceLeDiff, Nat.reduceBEq, reduceIte, reduceCtorEq]) ?_
  rintro sv post ⟨rfl, rfl⟩
  simp (maxSteps := 4000000) only [push_cast, Int.reduceEq, Int.reduceBNe, Int.reduceBEq, Int.reduceAdd, Int.reduceSub, Int.reduceMul, Int.reduceNeg, Int.reduceLT, Int.reduceLE, Int.reduceToNat, Nat.reduceLT, Nat.reduceAdd, Nat.reduceSub, Nat.reduceMul, Nat.reduceEqDiff, Nat.reduceLeDiff, Nat.reduceBEq, reduceIte, reduceCtorEq, wz]
  refine call_w (num14_c 0) [] (by simp (maxSteps := 4000000) only [push_cast, Int.reduceEq, Int.reduceBNe, Int.reduceBEq, Int.reduceAdd, Int.reduceSub, Int.reduceMul, Int.reduceNeg, Int.reduceLT, Int.reduceLE, Int.reduceToNat, Nat.reduceLT, Nat.reduceAdd, Nat.reduceSub, Nat.reduceMul, Nat.reduceEqDiff, Nat.reduceLeDiff, Nat.reduceBEq, reduceIte, reduceCtorEq]) ?_
  rintro sv post ⟨rfl, rfl⟩
  simp (maxSteps := 4000000) only [push_cast, Int.reduceEq, Int.reduceBNe, Int.reduceBEq, Int.reduceAdd, Int.reduceSub, Int.reduceMul, Int.reduceNeg, Int.reduceLT, Int.reduceLE, Int.reduceToNat, Nat.reduceLT, Nat.reduceAdd, Nat.reduceSub, Nat.reduceMul, Nat.reduceEqDiff, Nat.reduceLeDiff, Nat.reduceBEq, reduceIte, reduceCtorEq, wz]
  refine call_w (num14_c 0) [] (by simp (maxSteps := 4000000) only [push_cast, Int.reduceEq, Int.reduceBNe, Int.reduceBEq, Int.reduceAdd, Int.reduceSub, Int.reduceMul, Int.reduceNeg, Int.reduceLT, Int.reduceLE, Int.reduceToNat, Nat.reduceLT, Nat.reduceAdd, Nat.reduceSub, Nat.reduceMul, Nat.reduceEqDiff, Nat.reduceLeDiff, Nat.reduceBEq, reduceIte, reduceCtorEq]) ?_
  rintro sv post ⟨rfl, rfl⟩
  simp (maxSteps := 4000000) only [push_cast, Int.reduceEq, Int.reduceBNe, Int.reduceBEq, Int.reduceAdd, Int.reduceSub, Int.reduceMul, Int.reduceNeg, Int.reduceLT, Int.reduceLE, Int.reduceToNat, Nat.reduceLT, Nat.reduceAdd, Nat.reduceSub, Nat.reduceMul, Nat.reduceEqDiff, Nat.reduceLeDiff, Nat.reduceBEq, reduceIte, reduceCtorEq, wz]
  exact Fin.nil rfl (psv := .b true) (by simp (maxSteps := 4000000) only [push_cast, Int.reduceEq, Int.reduceBNe, Int.reduceBEq, Int.reduceAdd, Int.reduceSub, Int.reduceMul, Int.reduceNeg, Int.reduceLT, Int.reduceLE, Int.reduceToNat, Nat.reduceLT, Nat.reduceAdd, Nat.reduceSub, Nat.reduceMul, Nat.reduceEqDiff, Nat.reduceLeDiff, Nat.reduceBEq, reduceIte, reduceCtorEq]) ⟨rfl, rfl⟩
end Go.Proofs.Ytbhkpefjnomncaa
/- Places over memory that grows: what is got, where it is. -/
namespace Go.Proofs.Ytbhkpefjnomncaa
open Go Go.Eng
set_option maxHeartbeats 4000000
set_option linter.unusedSimpArgs false
set_option linter.unusedVariables false

theorem growM_some (b : Nat) (g : List Int × Int) (n : Int) (h0 : 0 ≤ g.2) (hn : 0 ≤ n) :
    someV (growM b) g n = ((g.1, g.2 + (readV g.1 g.2 n).length), readV g.1 g.2 n, 0) := by
  have hl : ((readV g.1 g.2 n).length : Int) ≤ n := by unfold readV; rw [List.length_take]; omega
  obtain ⟨F, hF⟩ : ∃ F, 8192 = F + 1 := ⟨8191, rfl⟩
  have e0 : someV (growM b) g n = RawM.some (growM b) n (F + 1) g := by unfold someV; rw [hF]
  rw [e0]
  simp only [RawM.some]
  have e : (growM b).rd g n = ((g.1, g.2 + (readV g.1 g.2 n).length), readV g.1 g.2 n, 0) := rfl
  rw [e]
  dsimp only
  rw [if_neg (by omega), if_neg (by simp), if_neg (by omega)]
  rfl

/-- A stream that reads memory: what it holds lies ahead of the memory's place; p: the place that its user sees. -/
structure PL (x : St) (g : List Int × Int) (data : List Int) (p : Nat) : Prop where
  may : x.May
  r : x.r = true
  cl : x.cl = false
  d : x.d ≠ 2
  k : x.k = []
  o : x.o = []
  en : x.en = true → data.length ≤ p
  g1 : g.1 = data
  g2 : g.2 = p + x.i.length
  hi : x.i = (data.take (p + x.i.length)).drop p
  lim : p ≤ 1048576

theorem PL.bErr {x : St} {g : List Int × Int} {data : List Int} {p : Nat} (h : PL x g data p) : x.bErr = 0 := by
  unfold St.bErr; rw [if_pos h.may, if_neg (by simp [h.cl])]
theorem PL.fits {x : St} {g : List Int × Int} {data : List Int} {p : Nat} (h : PL x g data p) : x.fits := by
  obtain ⟨b1, b2, b3, b4⟩ := May.bd h.may
  exact ⟨by omega, by omega, by omega⟩
theorem PL.ilen {x : St} {g : List Int × Int} {data : List Int} {p : Nat} (h : PL x g data p) : x.i ≠ [] → p + x.i.length ≤ data.length := by
  intro hne
  have := congrArg List.length h.hi
  rw [List.length_drop, List.length_take] at this
  have := List.length_pos_iff.2 hne
  omega
theorem PL.ok {b : Nat} {x : St} {g : List Int × Int} {data : List Int} {p : Nat} (h : PL x g data p) (hd : data.length ≤ 1048576) : (growM b).ok g := by
  have h1 := h.ilen
  have h2 := h.g2
  have h3 := h.lim
  refine ⟨by omega, ?_, by rw [h.g1]; exact hd⟩
  by_cases hne : x.i = []
  · rw [hne] at h2; simp at h2; omega
  · have := h1 hne; omega

theorem new_pl (data : List Int) (w : Bool) {m s : Int} (h : mayV m s = 0) : PL (newSt true w m s) (data, 0) data 0 := by
  have e := newSt_ok true w h
  exact ⟨newSt_may true w h, by rw [e], by rw [e], by rw [e]; simp, by rw [e], by rw [e], by rw [e]; simp, rfl, by rw [e]; simp, by rw [e]; simp, by omega⟩

/-- A byte more is got, or the end is told. -/
theorem pl_get (b : Nat) {x : St} {g : List Int × Int} {data : List Int} {p : Nat} (h : PL x g data p) (hd : data.length ≤ 1048576) :
    ∃ x' g' c e, x.Get (growM b) g = (x', g', c, e) ∧ x'.m = x.m ∧ x'.s = x.s ∧ (p < data.length → c = data.getD p 0 ∧ e = 0 ∧ PL x' g' data (p + 1)) ∧ (data.length ≤ p → e = 111 ∧ PL x' g' data p) := by
  have hb := h.bErr
  have hil := h.ilen
  obtain ⟨r, w, m, s, o, iv, k, d, en, bad, cl⟩ := x
  obtain ⟨h1, h2, h3, h4, h5, h6, hen, hg1, hg2, hi, hlim⟩ := h
  simp only at h2 h3 h4 h5 h6 hen hg2 hi hil
  subst h2 h3 h5 h6
  obtain ⟨D, q⟩ := g
  simp only at hg1 hg2
  subst hg1
  obtain ⟨b1, b2, b3, b4⟩ := May.bd h1
  simp only at b1 b3
  obtain ⟨u1, u2⟩ := ask_rng b1
  have hnote : ∀ (y : St), y.noted 0 = y := fun y => by simp [St.noted]
  unfold St.Get
  rw [if_neg (by rw [hb]; simp)]
  unfold St.get
  dsimp only
  rw [if_neg (by simp), if_neg h4, if_neg (by simp)]
  by_cases hne : iv = []
  · subst hne
    rw [if_neg (by simp)]
    simp only [List.length_nil, Int.natCast_zero, Int.add_zero] at hg2
    unfold St.fill
    dsimp only
    by_cases hen2 : en = true
    · have hpl := hen hen2
      subst hen2
      simp only [if_true]
      rw [if_pos (by simp)]
      exact ⟨_, _, _, _, rfl, rfl, rfl, fun h => absurd h (by omega), fun _ => ⟨rfl, may_got h1 rfl rfl (by simp) (by simp), rfl, rfl, by simp, rfl, rfl, fun _ => hpl, rfl, by simpa using hg2, by simp, hlim⟩⟩
    · have hen3 : en = false := by simpa using hen2
      subst hen3
      simp only [Bool.false_eq_true, if_false]
      have hz : someV (growM b) (D, q) (askV m s) = ((D, q + (readV D q (askV m s)).length), readV D q (askV m s), 0) := growM_some b (D, q) _ (by dsimp only; omega) (by omega)
      have hqp : q.toNat = p := by omega
      by_cases hpl : p < D.length
      · have hr : (readV D q (askV m s)).length = min (askV m s).toNat (D.length - p) := by unfold readV; rw [List.length_take, List.length_drop, hqp]
        have hrn : readV D q (askV m s) ≠ [] := by intro h0; rw [h0] at hr; simp at hr; omega
        have hseg : readV D q (askV m s) = (D.take (p + (readV D q (askV m s)).length)).drop p := by
          rw [List.drop_take, Nat.add_sub_cancel_left, hr]
          unfold readV
          rw [hqp]
          rcases Nat.le_total (askV m s).toNat (D.length - p) with h | h
          · rw [Nat.min_eq_left h]
          · rw [Nat.min_eq_right h, List.take_of_length_le (by simp; omega), List.take_of_length_le (by simp)]
        have hget : (readV D q (askV m s)).getD 0 0 = D.getD p 0 := by
          unfold readV
          simp only [List.getD_eq_getElem?_getD]
          rw [List.getElem?_take, if_pos (by omega), List.getElem?_drop, hqp]
          simp
        generalize readV D q (askV m s) = L at hz hr hrn hseg hget
        rw [hz]
        dsimp only
        rw [if_neg (show ¬ ((0 : Int) = 0 ∧ L = []) from fun h => hrn h.2)]
        dsimp only
        rw [hnote, if_neg (by simp)]
        have hLp := List.length_pos_iff.2 hrn
        refine ⟨_, _, _, _, rfl, rfl, rfl, fun _ => ⟨by rw [List.nil_append]; exact hget, rfl, ?_⟩, fun h => absurd h (by omega)⟩
        refine ⟨may_got h1 rfl rfl (by dsimp only; simp; omega) (by simp), rfl, rfl, by simp, rfl, rfl, by simp, rfl, ?_, ?_, by omega⟩
        · dsimp only
          rw [List.nil_append, List.length_drop]
          omega
        · dsimp only
          rw [List.nil_append, List.length_drop, show p + 1 + (L.length - 1) = p + L.length by omega]
          conv => lhs; rw [hseg]
          rw [List.drop_drop]
      · have hr : readV D q (askV m s) = [] := by unfold readV; rw [List.drop_of_length_le (by omega)]; simp
        have hz2 : someV (growM b) (D, q) (askV m s) = ((D, q), ([] : List Int), (0 : Int)) := by
          rw [hz, hr]; simp; rfl
        rw [hz2]
        dsimp only
        rw [if_pos (show (0 : Int) = 0 ∧ ([] : List Int) = [] from ⟨rfl, rfl⟩)]
        dsimp only
        rw [if_pos (by simp)]
        exact ⟨_, _, _, _, rfl, rfl, rfl, fun h => absurd h (by omega), fun _ => ⟨rfl, may_got h1 rfl rfl (by simp) (by simp), rfl, rfl, by simp, rfl, rfl, fun _ => by omega, rfl, by simpa using hg2, by simp, hlim⟩⟩
  · rw [if_pos hne]
    have hpos := List.length_pos_iff.2 hne
    have hlt := hil hne
    refine ⟨_, _, _, _, rfl, rfl, rfl, fun _ => ⟨?_, rfl, ?_⟩, fun h => absurd h (by omega)⟩
    · conv => lhs; rw [hi]
      simp only [List.getD_eq_getElem?_getD]
      rw [List.getElem?_drop, List.getElem?_take, if_pos (by omega)]
      simp
    · refine ⟨may_got h1 rfl rfl (by simp; omega) (by simp), rfl, rfl, by simp, rfl, rfl, fun he => by have := hen he; omega, rfl, ?_, ?_, by omega⟩
      · dsimp only
        rw [List.length_drop]
        omega
      · dsimp only
        rw [List.length_drop, show p + 1 + (iv.length - 1) = p + iv.length by omega]
        conv => lhs; rw [hi]
        rw [List.drop_drop]

theorem pl_settled (b : Nat) {x : St} {g : List Int × Int} {data : List Int} {p : Nat} (h : PL x g data p) (bad : Bool) : x.settled (growM b) g bad = (x, g, if bad = true then 1 else 0) := by
  unfold St.settled
  rw [if_neg (by rw [h.bErr]; simp)]
  cases bad with
  | true => rw [if_pos rfl, if_pos rfl]; rfl
  | false => rw [if_neg (by simp), if_pos (by rw [h.o]; rfl), if_neg (by simp)]; rfl

theorem gK_here (data : List Int) (q : Int) (h0 : 0 ≤ q) (h1 : q ≤ 1048576) : gK 1048576 data q 0 1 = ((data, q), q, 0) := by
  unfold gK
  rw [if_neg (by omega)]
  simp only [show ¬ (1 : Int) = 0 by omega, if_false, if_true]
  rw [if_neg (by omega)]
  simp

theorem pl_here (b : Nat) {x : St} {g : List Int × Int} {data : List Int} {p : Nat} (h : PL x g data p) (hd : data.length ≤ 1048576) : x.here (growM b) g = (g, (p : Int), 0) := by
  obtain ⟨k0, k1, k2⟩ := h.ok (b := b) hd
  have e : (growM b).sk g 0 1 = (g, g.2, 0) := gK_here g.1 g.2 k0 k1
  unfold St.here
  rw [e]
  dsimp only
  rw [if_neg (by simp), h.k]
  have := h.g2
  simp only [List.length_nil, Int.natCast_zero, Int.sub_zero]
  rw [wrap64 (n := g.2 - x.i.length) (by omega) (by omega), wrap64 (by omega) (by omega)]
  congr 2
  omega

theorem pl_tell (b : Nat) {x : St} {g : List Int × Int} {data : List Int} {p : Nat} (h : PL x g data p) (hd : data.length ≤ 1048576) : x.Tell (growM b) g = (x, g, (p : Int), 0) := by
  have e1 := pl_settled b h false
  have e2 := pl_here b h hd
  unfold St.Tell
  rw [e1]
  dsimp only
  rw [e2]
  dsimp only
  have hp0 : ¬ ((p : Int) < 0) := by omega
  simp [hp0]
  try rfl

theorem gK_cases (data : List Int) (q o w : Int) : (∃ e, e ≠ 0 ∧ gK 1048576 data q o w = ((data, q), 0, e)) ∨ ∃ at_, 0 ≤ at_ ∧ at_ ≤ 1048576 ∧ gK 1048576 data q o w = ((data, at_), at_, 0) := by
  unfold gK
  split
  · exact .inl ⟨1, by omega, rfl⟩
  · generalize (if w = 0 then (0 : Int) else if w = 1 then q else data.length) = base
    split
    · exact .inl ⟨4, by omega, rfl⟩
    · exact .inr ⟨base + o, by omega, by omega, rfl⟩

theorem pl_seek (b : Nat) {x : St} {g : List Int × Int} {data : List Int} {p : Nat} (h : PL x g data p) (hd : data.length ≤ 1048576) (off w : Int) :
    (∃ e, e ≠ 0 ∧ x.Seek (growM b) g off w = (x, g, 0, e)) ∨ ∃ x' at_, (0 : Int) ≤ at_ ∧ at_ ≤ 1048576 ∧ x.Seek (growM b) g off w = (x', (data, at_), at_, 0) ∧ PL x' (data, at_) data at_.toNat ∧ x'.m = x.m ∧ x'.s = x.s := by
  have e1 := pl_settled b h (decide (w < 0) || decide (2 < w))
  have e2 := pl_here b h hd
  have hg1 := h.g1
  have fin : ∀ at_ : Int, 0 ≤ at_ → at_ ≤ 1048576 → PL { x with o := [], i := [], k := [], en := false, d := 0 } (data, at_) data at_.toNat := fun at_ a0 a1 => by
    have hm := h.may
    refine ⟨?_, h.r, h.cl, by simp, rfl, rfl, by simp, rfl, by simp; omega, by simp, by omega⟩
    obtain ⟨m1, m2, m3, m4, m5, m6, m7⟩ := hm
    exact ⟨m1, by have := may_zero' m1; simp; omega, .inr rfl, by simp, by simp, .inl h.cl, .inl ⟨rfl, rfl, rfl, rfl⟩⟩
  have sought : ∀ (q : (growM b).σ × Int × Int), (q = (g, 0, q.2.2) ∧ q.2.2 ≠ 0) ∨ (∃ at_ : Int, 0 ≤ at_ ∧ at_ ≤ 1048576 ∧ q = ((data, at_), at_, 0)) →
      (∃ e, e ≠ 0 ∧ x.sought (growM b) q = (x, g, 0, e)) ∨ ∃ x' at_, (0 : Int) ≤ at_ ∧ at_ ≤ 1048576 ∧ x.sought (growM b) q = (x', (data, at_), at_, 0) ∧ PL x' (data, at_) data at_.toNat ∧ x'.m = x.m ∧ x'.s = x.s := by
    rintro q (⟨hq, hn⟩ | ⟨at_, a0, a1, rfl⟩)
    · left
      refine ⟨q.2.2, hn, ?_⟩
      unfold St.sought
      rw [if_pos hn, hq]; rfl
    · right
      refine ⟨_, at_, a0, a1, ?_, fin at_ a0 a1, rfl, rfl⟩
      unfold St.sought
      dsimp only
      rw [if_neg (by simp)]; rfl
  have ksk : ∀ o w', ((growM b).sk g o w' = (g, 0, ((growM b).sk g o w').2.2) ∧ ((growM b).sk g o w').2.2 ≠ 0) ∨ (∃ at_ : Int, 0 ≤ at_ ∧ at_ ≤ 1048576 ∧ (growM b).sk g o w' = ((data, at_), at_, 0)) := by
    intro o w'
    have e : (growM b).sk g o w' = gK 1048576 g.1 g.2 o w' := rfl
    rw [e]
    rcases gK_cases g.1 g.2 o w' with ⟨e, he, hk⟩ | ⟨at_, a0, a1, hk⟩
    · left; rw [hk]; exact ⟨rfl, he⟩
    · right; exact ⟨at_, a0, a1, by rw [hk, hg1]⟩
  unfold St.Seek
  rw [e1]
  dsimp only
  by_cases hbad : (decide (w < 0) || decide (2 < w)) = true
  · rw [if_pos hbad, if_pos (by simp)]
    exact .inl ⟨1, by simp, rfl⟩
  · rw [if_neg hbad, if_neg (by simp)]
    split
    · rw [e2]
      unfold St.Seek1
      dsimp only
      rw [if_neg (by simp)]
      split
      · exact .inl ⟨4, by simp, rfl⟩
      · exact sought _ (ksk _ _)
    · exact sought _ (ksk _ _)
end Go.Proofs.Ytbhkpefjnomncaa
