/- New streams; a reader as a Raw. -/
import Derived.Test.YtdbhgnjpjpmioaaSe
namespace Go.Proofs.Ytdbhgnjpjpmioaa
open Go Go.Eng
set_option linter.unusedSimpArgs false
set_option linter.unusedVariables false
set_option maxRecDepth 100000

/-- A stream that is new. -/
def newSt (r w : Bool) (m s : Int) : St := if mayV m s = 0 then ⟨r, w, m, s, [], [], [], 0, false, false, false⟩ else ⟨false, false, 0, 0, [], [], [], 0, false, false, false⟩
def isNew (r w : Bool) (m s : Int) (sv : SV) (post : SS) : Prop := sv = .tup [(newSt r w m s).sv .nil, .i .i64 (mayV m s)] ∧ post = nilSS

theorem newS_c (r w a c t x b k : Bool) (hC : Contract Try.prog 41 nilSS [modeV r w a c t x b k] (fun sv post => sv = .i .i64 0 ∧ post = nilSS)) (m s : Int) :
    Contract Try.prog 20 nilSS [modeV r w a c t x b k, .i .i64 m, .i .i64 s] (isNew r w m s) := by
  refine contract_ev Γok Try.func20 rfl rfl [] ?_
  simp (maxSteps := 4000000) only [push_cast, Int.reduceEq, Int.reduceBNe, Int.reduceBEq, Int.reduceAdd, Int.reduceSub, Int.reduceMul, Int.reduceNeg, Int.reduceLT, Int.reduceLE, Nat.reduceLT, Nat.reduceAdd, Nat.reduceSub, Nat.reduceMul, Nat.reduceEqDiff, Nat.reduceLeDiff, Nat.reduceBEq, reduceIte, reduceCtorEq, Try.f20, modeV, rg8]
  refine call_w hC [] (by simp (maxSteps := 4000000) only [push_cast, Int.reduceEq, Int.reduceBNe, Int.reduceBEq, Int.reduceAdd, Int.reduceSub, Int.reduceMul, Int.reduceNeg, Int.reduceLT, Int.reduceLE, Nat.reduceLT, Nat.reduceAdd, Nat.reduceSub, Nat.reduceMul, Nat.reduceEqDiff, Nat.reduceLeDiff, Nat.reduceBEq, reduceIte, reduceCtorEq, modeV]) ?_
  rintro sv post ⟨rfl, rfl⟩
  simp (maxSteps := 4000000) only [push_cast, Int.reduceEq, Int.reduceBNe, Int.reduceBEq, Int.reduceAdd, Int.reduceSub, Int.reduceMul, Int.reduceNeg, Int.reduceLT, Int.reduceLE, Nat.reduceLT, Nat.reduceAdd, Nat.reduceSub, Nat.reduceMul, Nat.reduceEqDiff, Nat.reduceLeDiff, Nat.reduceBEq, reduceIte, reduceCtorEq]
  refine call_w (buffer_c m s) [] (by simp (maxSteps := 4000000) only [push_cast, Int.reduceEq, Int.reduceBNe, Int.reduceBEq, Int.reduceAdd, Int.reduceSub, Int.reduceMul, Int.reduceNeg, Int.reduceLT, Int.reduceLE, Nat.reduceLT, Nat.reduceAdd, Nat.reduceSub, Nat.reduceMul, Nat.reduceEqDiff, Nat.reduceLeDiff, Nat.reduceBEq, reduceIte, reduceCtorEq]) ?_
  rintro sv post ⟨rfl, rfl⟩
  simp (maxSteps := 4000000) only [push_cast, Int.reduceEq, Int.reduceBNe, Int.reduceBEq, Int.reduceAdd, Int.reduceSub, Int.reduceMul, Int.reduceNeg, Int.reduceLT, Int.reduceLE, Nat.reduceLT, Nat.reduceAdd, Nat.reduceSub, Nat.reduceMul, Nat.reduceEqDiff, Nat.reduceLeDiff, Nat.reduceBEq, reduceIte, reduceCtorEq, rg8, rg11]
  refine ⟨fun h => ?_, fun h => ?_⟩
  · exact Fin.nil rfl (psv := .tup [(newSt r w m s).sv .nil, .i .i64 (mayV m s)]) (by unfold newSt; rw [if_neg h]; simp (maxSteps := 4000000) only [push_cast, Int.reduceEq, Int.reduceBNe, Int.reduceBEq, Int.reduceAdd, Int.reduceSub, Int.reduceMul, Int.reduceNeg, Int.reduceLT, Int.reduceLE, Nat.reduceLT, Nat.reduceAdd, Nat.reduceSub, Nat.reduceMul, Nat.reduceEqDiff, Nat.reduceLeDiff, Nat.reduceBEq, reduceIte, reduceCtorEq, St.sv, St.cells]) ⟨rfl, rfl⟩
  · exact Fin.nil rfl (psv := .tup [(newSt r w m s).sv .nil, .i .i64 (mayV m s)]) (by unfold newSt; rw [if_pos h, h]; simp (maxSteps := 4000000) only [push_cast, Int.reduceEq, Int.reduceBNe, Int.reduceBEq, Int.reduceAdd, Int.reduceSub, Int.reduceMul, Int.reduceNeg, Int.reduceLT, Int.reduceLE, Nat.reduceLT, Nat.reduceAdd, Nat.reduceSub, Nat.reduceMul, Nat.reduceEqDiff, Nat.reduceLeDiff, Nat.reduceBEq, reduceIte, reduceCtorEq, St.sv, St.cells]) ⟨rfl, rfl⟩
theorem openR_c : Contract Try.prog 41 nilSS [modeV true false false false false false false false] (fun sv post => sv = .i .i64 0 ∧ post = nilSS) := openCheck_c _ _ printR_c _ _ _ _ _ _ _ _ rfl
theorem openW_c : Contract Try.prog 41 nilSS [modeV false true false true true false false false] (fun sv post => sv = .i .i64 0 ∧ post = nilSS) := openCheck_c _ _ printW_c _ _ _ _ _ _ _ _ rfl

/-- A reader's memory. -/
def readerS (data : List Int) (p : Int) : SS := ⟨[], [(0, 83, [.b true, .ints .u8 .old data, .i .i64 data.length, .i .i64 p])], [], [], 1, 1, []⟩
def readV (data : List Int) (p n : Int) : List Int := (data.drop p.toNat).take n.toNat

theorem kept_c (l : List Int) (room : Int) (hl : l.length ≤ 140737488355328) : Contract Try.prog 40 nilSS [.ints .u8 .old l, .i .i64 room] (fun sv post => sv = .agg [.b true, .ints .u8 (.tok 0 true) l, .i .i64 room, .i .i64 0] ∧ post = ⟨[], [], [0], [], 1, 0, []⟩) := by
  refine contract_ev Γok Try.func40 rfl rfl [] ?_
  simp (maxSteps := 4000000) only [push_cast, Int.reduceEq, Int.reduceBNe, Int.reduceBEq, Int.reduceAdd, Int.reduceSub, Int.reduceMul, Int.reduceNeg, Int.reduceLT, Int.reduceLE, Nat.reduceLT, Nat.reduceAdd, Nat.reduceSub, Nat.reduceMul, Nat.reduceEqDiff, Nat.reduceLeDiff, Nat.reduceBEq, reduceIte, reduceCtorEq, Try.f40]
  refine call_w (bclone_c l hl) [] (by simp (maxSteps := 4000000) only [push_cast, Int.reduceEq, Int.reduceBNe, Int.reduceBEq, Int.reduceAdd, Int.reduceSub, Int.reduceMul, Int.reduceNeg, Int.reduceLT, Int.reduceLE, Nat.reduceLT, Nat.reduceAdd, Nat.reduceSub, Nat.reduceMul, Nat.reduceEqDiff, Nat.reduceLeDiff, Nat.reduceBEq, reduceIte, reduceCtorEq]) ?_
  rintro sv post ⟨rfl, rfl⟩
  simp (maxSteps := 4000000) only [push_cast, Int.reduceEq, Int.reduceBNe, Int.reduceBEq, Int.reduceAdd, Int.reduceSub, Int.reduceMul, Int.reduceNeg, Int.reduceLT, Int.reduceLE, Nat.reduceLT, Nat.reduceAdd, Nat.reduceSub, Nat.reduceMul, Nat.reduceEqDiff, Nat.reduceLeDiff, Nat.reduceBEq, reduceIte, reduceCtorEq]
  exact Fin.w [1] (.agg [.b true, .ints .u8 (.tok 0 true) l, .i .i64 room, .i .i64 0]) ⟨[], [], [0], [], 1, 0, []⟩ (by simp (maxSteps := 4000000) only [push_cast, Int.reduceEq, Int.reduceBNe, Int.reduceBEq, Int.reduceAdd, Int.reduceSub, Int.reduceMul, Int.reduceNeg, Int.reduceLT, Int.reduceLE, Nat.reduceLT, Nat.reduceAdd, Nat.reduceSub, Nat.reduceMul, Nat.reduceEqDiff, Nat.reduceLeDiff, Nat.reduceBEq, reduceIte, reduceCtorEq]) ⟨rfl, rfl⟩

/-- A new reader, as a resource at some block. -/
def isReader (l : List Int) (sv : SV) (post : SS) : Prop := ∃ b, sv = .tup [.raw (.pointer (some ⟨b, 0, none⟩)), .i .i64 0] ∧ post = ⟨[], [], [], [(1, (readerS l 0).res b)], 2, 0, []⟩
theorem newReader_c (l : List Int) (hl : l.length ≤ 1048576) : Contract Try.prog 19 nilSS [.ints .u8 .old l] (isReader l) := by
  refine contract_new (R' := fun sv post => sv = .tup [.ptr 0 0, .i .i64 0] ∧ post = { readerS l 0 with k := 0 }) ?_ ?_
  · refine contract_ev Γok Try.func19 rfl rfl [] ?_
    simp (maxSteps := 4000000) only [push_cast, Int.reduceEq, Int.reduceBNe, Int.reduceBEq, Int.reduceAdd, Int.reduceSub, Int.reduceMul, Int.reduceNeg, Int.reduceLT, Int.reduceLE, Nat.reduceLT, Nat.reduceAdd, Nat.reduceSub, Nat.reduceMul, Nat.reduceEqDiff, Nat.reduceLeDiff, Nat.reduceBEq, reduceIte, reduceCtorEq, Try.f19]
    refine ⟨fun h => by omega, fun h => ?_⟩
    refine call_w (kept_c l l.length (by omega)) [] (by simp (maxSteps := 4000000) only [push_cast, Int.reduceEq, Int.reduceBNe, Int.reduceBEq, Int.reduceAdd, Int.reduceSub, Int.reduceMul, Int.reduceNeg, Int.reduceLT, Int.reduceLE, Nat.reduceLT, Nat.reduceAdd, Nat.reduceSub, Nat.reduceMul, Nat.reduceEqDiff, Nat.reduceLeDiff, Nat.reduceBEq, reduceIte, reduceCtorEq]) ?_
    rintro sv post ⟨rfl, rfl⟩
    simp (maxSteps := 4000000) only [push_cast, Int.reduceEq, Int.reduceBNe, Int.reduceBEq, Int.reduceAdd, Int.reduceSub, Int.reduceMul, Int.reduceNeg, Int.reduceLT, Int.reduceLE, Nat.reduceLT, Nat.reduceAdd, Nat.reduceSub, Nat.reduceMul, Nat.reduceEqDiff, Nat.reduceLeDiff, Nat.reduceBEq, reduceIte, reduceCtorEq]
    exact Fin.w [1] (.tup [.ptr 0 0, .i .i64 0]) _ (by simp (maxSteps := 4000000) only [push_cast, Int.reduceEq, Int.reduceBNe, Int.reduceBEq, Int.reduceAdd, Int.reduceSub, Int.reduceMul, Int.reduceNeg, Int.reduceLT, Int.reduceLE, Nat.reduceLT, Nat.reduceAdd, Nat.reduceSub, Nat.reduceMul, Nat.reduceEqDiff, Nat.reduceLeDiff, Nat.reduceBEq, reduceIte, reduceCtorEq, readerS]) ⟨rfl, rfl⟩
  · rintro sv post ⟨rfl, rfl⟩
    refine ⟨readerS l 0, [0], 83, _, by simp (maxSteps := 4000000) only [push_cast, Int.reduceEq, Int.reduceBNe, Int.reduceBEq, Int.reduceAdd, Int.reduceSub, Int.reduceMul, Int.reduceNeg, Int.reduceLT, Int.reduceLE, Nat.reduceLT, Nat.reduceAdd, Nat.reduceSub, Nat.reduceMul, Nat.reduceEqDiff, Nat.reduceLeDiff, Nat.reduceBEq, reduceIte, reduceCtorEq, readerS], rfl, fun b => ⟨b, ?_, ?_⟩⟩
    · simp (maxSteps := 4000000) only [push_cast, Int.reduceEq, Int.reduceBNe, Int.reduceBEq, Int.reduceAdd, Int.reduceSub, Int.reduceMul, Int.reduceNeg, Int.reduceLT, Int.reduceLE, Nat.reduceLT, Nat.reduceAdd, Nat.reduceSub, Nat.reduceMul, Nat.reduceEqDiff, Nat.reduceLeDiff, Nat.reduceBEq, reduceIte, reduceCtorEq, readerS]
    · simp (maxSteps := 4000000) only [push_cast, Int.reduceEq, Int.reduceBNe, Int.reduceBEq, Int.reduceAdd, Int.reduceSub, Int.reduceMul, Int.reduceNeg, Int.reduceLT, Int.reduceLE, Nat.reduceLT, Nat.reduceAdd, Nat.reduceSub, Nat.reduceMul, Nat.reduceEqDiff, Nat.reduceLeDiff, Nat.reduceBEq, reduceIte, reduceCtorEq, readerS]
theorem newReaderLong_c (l : List Int) (hl : 1048576 < l.length) : Contract Try.prog 19 nilSS [.ints .u8 .old l] (fun sv post => sv = .tup [.nilp, .i .i64 5] ∧ post = nilSS) := by
  refine contract_ev Γok Try.func19 rfl rfl [] ?_
  simp (maxSteps := 4000000) only [push_cast, Int.reduceEq, Int.reduceBNe, Int.reduceBEq, Int.reduceAdd, Int.reduceSub, Int.reduceMul, Int.reduceNeg, Int.reduceLT, Int.reduceLE, Nat.reduceLT, Nat.reduceAdd, Nat.reduceSub, Nat.reduceMul, Nat.reduceEqDiff, Nat.reduceLeDiff, Nat.reduceBEq, reduceIte, reduceCtorEq, Try.f19]
  refine ⟨fun h => ?_, fun h => by omega⟩
  exact Fin.nil rfl (psv := .tup [.nilp, .i .i64 5]) (by simp (maxSteps := 4000000) only [push_cast, Int.reduceEq, Int.reduceBNe, Int.reduceBEq, Int.reduceAdd, Int.reduceSub, Int.reduceMul, Int.reduceNeg, Int.reduceLT, Int.reduceLE, Nat.reduceLT, Nat.reduceAdd, Nat.reduceSub, Nat.reduceMul, Nat.reduceEqDiff, Nat.reduceLeDiff, Nat.reduceBEq, reduceIte, reduceCtorEq]) ⟨rfl, rfl⟩

theorem storeRead_c (T : TypeId) (data : List Int) (room p n : Int) (hp : 0 ≤ p) (hp2 : p ≤ data.length) (hd : data.length ≤ 1048576) (h1 : 0 ≤ n) (h2 : n ≤ 1048576) :
    Contract Try.prog 103 ⟨[], [(0, T, [.b true, .ints .u8 .old data, .i .i64 room, .i .i64 p])], [], [], 1, 1, []⟩ [.ptr 0 0, .i .i64 n]
    (fun sv post => sv = .tup [.ints .u8 .new (readV data p n), .i .i64 0] ∧ post = ⟨[], [(0, T, [.b true, .ints .u8 .old data, .i .i64 room, .i .i64 (p + (readV data p n).length)])], [], [], 1, 1, []⟩) := by
  refine contract_ev Γok Try.func103 rfl rfl [] ?_
  simp (maxSteps := 4000000) only [push_cast, Int.reduceEq, Int.reduceBNe, Int.reduceBEq, Int.reduceAdd, Int.reduceSub, Int.reduceMul, Int.reduceNeg, Int.reduceLT, Int.reduceLE, Nat.reduceLT, Nat.reduceAdd, Nat.reduceSub, Nat.reduceMul, Nat.reduceEqDiff, Nat.reduceLeDiff, Nat.reduceBEq, reduceIte, reduceCtorEq, Try.f103]
  refine ⟨fun h3 => by omega, fun h3 => ?_⟩
  refine (region_plan rfl Γok mixed (.pure 0 (.pure 1 (.pure 2 (.pure 3 (.pure 4 (.pure 5 (.pure 6 (.pure 7 (.pure 8 (.pure 9 (.pure 10 .done))))))))))) 57 rfl (by kernel_rfl) ?_)
  simp (maxSteps := 4000000) only [push_cast, Int.reduceEq, Int.reduceBNe, Int.reduceBEq, Int.reduceAdd, Int.reduceSub, Int.reduceMul, Int.reduceNeg, Int.reduceLT, Int.reduceLE, Nat.reduceLT, Nat.reduceAdd, Nat.reduceSub, Nat.reduceMul, Nat.reduceEqDiff, Nat.reduceLeDiff, Nat.reduceBEq, reduceIte, reduceCtorEq]
  refine (region_plan rfl Γok mixed (.pure 0 (.pure 1 (.pure 2 (.pure 3 (.pure 4 (.pure 5 (.pure 6 (.pure 7 (.pure 8 (.pure 9 (.pure 10 (.pure 11 (.pure 12 (.pure 13 (.pure 14 (.eff (.cons 15 [] (.pure 16 .done) .nil))))))))))))))))) 57 rfl (by kernel_rfl) ?_)
  simp (maxSteps := 4000000) only [push_cast, Int.reduceEq, Int.reduceBNe, Int.reduceBEq, Int.reduceAdd, Int.reduceSub, Int.reduceMul, Int.reduceNeg, Int.reduceLT, Int.reduceLE, Nat.reduceLT, Nat.reduceAdd, Nat.reduceSub, Nat.reduceMul, Nat.reduceEqDiff, Nat.reduceLeDiff, Nat.reduceBEq, reduceIte, reduceCtorEq]
  have e1 : minI p data.length = p := by unfold minI; rw [if_neg (by omega)]
  rw [e1, wrap64 (n := p + n) (by omega) (by omega)]
  have e2 : 0 ≤ minI (p + n) data.length ∧ p ≤ minI (p + n) data.length ∧ minI (p + n) data.length ≤ data.length := by unfold minI; split <;> omega
  have e3 : (data.take (minI (p + n) data.length).toNat).drop p.toNat = readV data p n := by
    unfold readV
    rw [List.drop_take]
    by_cases hc : (data.length : Int) < p + n
    · have : minI (p + n) data.length = data.length := by unfold minI; rw [if_pos hc]
      rw [this, List.take_of_length_le (by simp), List.take_of_length_le (by simp; omega)]
    · have : minI (p + n) data.length = p + n := by unfold minI; rw [if_neg hc]
      rw [this]
      congr 1
      omega
  rw [e3]
  have e4 : (readV data p n).length ≤ 1048576 := by unfold readV; simp; omega
  refine ⟨⟨hp, e2.2⟩, call_w (bclone_c (readV data p n) (by omega)) [] (by simp (maxSteps := 4000000) only [push_cast, Int.reduceEq, Int.reduceBNe, Int.reduceBEq, Int.reduceAdd, Int.reduceSub, Int.reduceMul, Int.reduceNeg, Int.reduceLT, Int.reduceLE, Nat.reduceLT, Nat.reduceAdd, Nat.reduceSub, Nat.reduceMul, Nat.reduceEqDiff, Nat.reduceLeDiff, Nat.reduceBEq, reduceIte, reduceCtorEq]) ?_⟩
  rintro sv post ⟨rfl, rfl⟩
  simp (maxSteps := 4000000) only [push_cast, Int.reduceEq, Int.reduceBNe, Int.reduceBEq, Int.reduceAdd, Int.reduceSub, Int.reduceMul, Int.reduceNeg, Int.reduceLT, Int.reduceLE, Nat.reduceLT, Nat.reduceAdd, Nat.reduceSub, Nat.reduceMul, Nat.reduceEqDiff, Nat.reduceLeDiff, Nat.reduceBEq, reduceIte, reduceCtorEq]
  rw [wrap64 (by omega) (by omega)]
  exact Fin.w [0] (.tup [.ints .u8 .new (readV data p n), .i .i64 0]) ⟨[], [(0, T, [.b true, .ints .u8 .old data, .i .i64 room, .i .i64 (p + (readV data p n).length)])], [], [], 1, 1, []⟩ (by simp (maxSteps := 4000000) only [push_cast, Int.reduceEq, Int.reduceBNe, Int.reduceBEq, Int.reduceAdd, Int.reduceSub, Int.reduceMul, Int.reduceNeg, Int.reduceLT, Int.reduceLE, Nat.reduceLT, Nat.reduceAdd, Nat.reduceSub, Nat.reduceMul, Nat.reduceEqDiff, Nat.reduceLeDiff, Nat.reduceBEq, reduceIte, reduceCtorEq]) ⟨rfl, rfl⟩

theorem readerRead_c (data : List Int) (p n : Int) (hp : 0 ≤ p) (hp2 : p ≤ data.length) (hd : data.length ≤ 1048576) (h1 : 0 ≤ n) (h2 : n ≤ 1048576) :
    Contract Try.prog 100 (readerS data p) [.ptr 0 0, .i .i64 n]
    (fun sv post => sv = .tup [.ints .u8 .old (readV data p n), .i .i64 0] ∧ post = readerS data (p + (readV data p n).length)) := by
  refine contract_ev Γok Try.func100 rfl rfl [] ?_
  simp (maxSteps := 4000000) only [push_cast, Int.reduceEq, Int.reduceBNe, Int.reduceBEq, Int.reduceAdd, Int.reduceSub, Int.reduceMul, Int.reduceNeg, Int.reduceLT, Int.reduceLE, Nat.reduceLT, Nat.reduceAdd, Nat.reduceSub, Nat.reduceMul, Nat.reduceEqDiff, Nat.reduceLeDiff, Nat.reduceBEq, reduceIte, reduceCtorEq, Try.f100, readerS]
  refine call_w (storeRead_c 83 data data.length p n hp hp2 hd h1 h2) [0] (by simp (maxSteps := 4000000) only [push_cast, Int.reduceEq, Int.reduceBNe, Int.reduceBEq, Int.reduceAdd, Int.reduceSub, Int.reduceMul, Int.reduceNeg, Int.reduceLT, Int.reduceLE, Nat.reduceLT, Nat.reduceAdd, Nat.reduceSub, Nat.reduceMul, Nat.reduceEqDiff, Nat.reduceLeDiff, Nat.reduceBEq, reduceIte, reduceCtorEq]) ?_
  rintro sv post ⟨rfl, rfl⟩
  simp (maxSteps := 4000000) only [push_cast, Int.reduceEq, Int.reduceBNe, Int.reduceBEq, Int.reduceAdd, Int.reduceSub, Int.reduceMul, Int.reduceNeg, Int.reduceLT, Int.reduceLE, Nat.reduceLT, Nat.reduceAdd, Nat.reduceSub, Nat.reduceMul, Nat.reduceEqDiff, Nat.reduceLeDiff, Nat.reduceBEq, reduceIte, reduceCtorEq]
  exact Fin.w [0] (.tup [.ints .u8 .old (readV data p n), .i .i64 0]) _ (by simp (maxSteps := 4000000) only [push_cast, Int.reduceEq, Int.reduceBNe, Int.reduceBEq, Int.reduceAdd, Int.reduceSub, Int.reduceMul, Int.reduceNeg, Int.reduceLT, Int.reduceLE, Nat.reduceLT, Nat.reduceAdd, Nat.reduceSub, Nat.reduceMul, Nat.reduceEqDiff, Nat.reduceLeDiff, Nat.reduceBEq, reduceIte, reduceCtorEq]) ⟨rfl, rfl⟩

theorem readerMethod : MethodIs Try.prog 38 "Read" 100 := methodIs_of (by kernel_rfl)

/-- A reader as a Raw. -/
def readerM (data : List Int) (b : Nat) : RawM where
  σ := Int
  t := 38
  y := .pointer (some ⟨b, 0, none⟩)
  res p := (readerS data p).res b
  ok p := 0 ≤ p ∧ p ≤ data.length
  rd p n := (p + (readV data p n).length, readV data p n, 0)
  wr p l := (p, 0, 65)
  sk p o w := (p, 0, 66)
theorem readV_len (data : List Int) (p n : Int) (hp : 0 ≤ p) (hp2 : p ≤ data.length) (h : 0 ≤ n) : (readV data p n).length ≤ n ∧ p + (readV data p n).length ≤ data.length := by unfold readV; simp; omega
theorem readerM_rd (data : List Int) (b : Nat) (hd : data.length ≤ 1048576) : (readerM data b).Rd := by
  refine ⟨fun (p : Int) n ⟨h0, h0'⟩ h1 h2 => ?_, fun (p : Int) n ⟨h0, h0'⟩ h1 h2 => ?_⟩
  · have := readV_len data p n h0 h0' (by omega)
    simp only [readerM]
    omega
  · refine invC_of readerMethod (contract_res b (by simp [readerS]) (by simp [readerS]) (readerRead_c data p n h0 h0' hd (by omega) h2) (by simp [NNL, NN]) ?_)
    rintro sv post ⟨rfl, rfl⟩
    exact ⟨readerS data (p + (readV data p n).length), [0], _, by simp (maxSteps := 4000000) only [push_cast, Int.reduceEq, Int.reduceBNe, Int.reduceBEq, Int.reduceAdd, Int.reduceSub, Int.reduceMul, Int.reduceNeg, Int.reduceLT, Int.reduceLE, Nat.reduceLT, Nat.reduceAdd, Nat.reduceSub, Nat.reduceMul, Nat.reduceEqDiff, Nat.reduceLeDiff, Nat.reduceBEq, reduceIte, reduceCtorEq, readerS], rfl, (by simp (maxSteps := 4000000) only [push_cast, Int.reduceEq, Int.reduceBNe, Int.reduceBEq, Int.reduceAdd, Int.reduceSub, Int.reduceMul, Int.reduceNeg, Int.reduceLT, Int.reduceLE, Nat.reduceLT, Nat.reduceAdd, Nat.reduceSub, Nat.reduceMul, Nat.reduceEqDiff, Nat.reduceLeDiff, Nat.reduceBEq, reduceIte, reduceCtorEq] : W false (fun n => n) (.tup [.ints .u8 .old (readV data p n), .i .i64 0]) _), by simp [NN, NNL, NNT], rfl, rfl⟩
end Go.Proofs.Ytdbhgnjpjpmioaa
