/- Texts joined, in order: La, Ka. -/
import Derived.Test.YtbhkpefjnomncaaZCaRl
/- Lines: the law's small functions. -/
namespace Go.Proofs.Ytbhkpefjnomncaa
open Go Go.Eng
set_option maxHeartbeats 4000000
set_option linter.unusedSimpArgs false
set_option linter.unusedVariables false
set_option maxRecDepth 100000

theorem sameBytes_c (l m : List Int) : Contract Try.prog 23 nilSS [.ints .u8 .old l, .ints .u8 .old m] (fun sv post => sv = .b (l == m) ∧ post = nilSS) := by
  refine contract_len 0 rfl fun hlen => ?_
  refine contract_ev Γok Try.func23 rfl rfl [] ?_
  simp (maxSteps := 4000000) only [push_cast, Int.reduceEq, Int.reduceBNe, Int.reduceBEq, Int.reduceAdd, Int.reduceSub, Int.reduceMul, Int.reduceNeg, Int.reduceLT, Int.reduceLE, Int.reduceToNat, Nat.reduceLT, Nat.reduceAdd, Nat.reduceSub, Nat.reduceMul, Nat.reduceEqDiff, Nat.reduceLeDiff, Nat.reduceBEq, reduceIte, reduceCtorEq, Try.f23]
  have no : ∀ (S : SS), S.k = 0 → l ≠ m → Fin (fun sv post => sv = .b (l == m) ∧ post = nilSS) (.b false) S := fun S hS h => Fin.nil hS (psv := .b false) rfl ⟨by rw [beq_eq_false_iff_ne.2 h], rfl⟩
  refine ⟨fun h1 => no _ rfl (by rintro rfl; exact h1 rfl), fun h1 => ?_⟩
  have hl : l.length = m.length := by omega
  refine loop_ok (ι := {i : Nat // i ≤ l.length ∧ l.take i = m.take i}) (fun i => ⟨[.ints .u8 .old l, .ints .u8 .old m, .any, .any, .any, .i .i64 i.1] ++ List.replicate 20 .any, [], [], [], 0, 0, []⟩) (fun i => l.length - i.1) ⟨0, by simp, by simp⟩ ?_ ?_
  · refine Sub.w [] ?_
    simp (maxSteps := 4000000) only [push_cast, Int.reduceEq, Int.reduceBNe, Int.reduceBEq, Int.reduceAdd, Int.reduceSub, Int.reduceMul, Int.reduceNeg, Int.reduceLT, Int.reduceLE, Int.reduceToNat, Nat.reduceLT, Nat.reduceAdd, Nat.reduceSub, Nat.reduceMul, Nat.reduceEqDiff, Nat.reduceLeDiff, Nat.reduceBEq, reduceIte, reduceCtorEq]
  · rintro ⟨i, hi, hp⟩
    refine evCode_sound Γok _ _ _ ?_
    simp (maxSteps := 4000000) only [push_cast, Int.reduceEq, Int.reduceBNe, Int.reduceBEq, Int.reduceAdd, Int.reduceSub, Int.reduceMul, Int.reduceNeg, Int.reduceLT, Int.reduceLE, Int.reduceToNat, Nat.reduceLT, Nat.reduceAdd, Nat.reduceSub, Nat.reduceMul, Nat.reduceEqDiff, Nat.reduceLeDiff, Nat.reduceBEq, reduceIte, reduceCtorEq]
    refine ⟨fun h2 => ?_, fun h2 => ?_⟩
    · have hi2 : i < l.length := by omega
      refine (region_plan rfl Γok mixed (.pure 0 (.pure 1 (.pure 2 (.pure 3 (.pure 4 (.pure 5 (.pure 6 (.pure 7 (.pure 8 .done))))))))) 26 rfl (by kernel_rfl) ?_)
      simp (maxSteps := 4000000) only [push_cast, Int.reduceEq, Int.reduceBNe, Int.reduceBEq, Int.reduceAdd, Int.reduceSub, Int.reduceMul, Int.reduceNeg, Int.reduceLT, Int.reduceLE, Int.reduceToNat, Nat.reduceLT, Nat.reduceAdd, Nat.reduceSub, Nat.reduceMul, Nat.reduceEqDiff, Nat.reduceLeDiff, Nat.reduceBEq, reduceIte, reduceCtorEq]
      have e1 : l.getD (i : Int).toNat 0 = l[i] := by simp [List.getD, hi2]
      have e2 : m.getD (i : Int).toNat 0 = m[i] := by simp [List.getD, hl ▸ hi2]
      rw [e1, e2]
      refine ⟨by omega, by omega, fun h3 => no _ rfl (by rintro rfl; exact h3 rfl), fun h3 => ⟨⟨i + 1, hi2, ?_⟩, ?_, Sub.w [] ?_⟩⟩
      · rw [List.take_succ_eq_append_getElem hi2, List.take_succ_eq_append_getElem (hl ▸ hi2), hp, h3]
      · simp only; omega
      · simp (maxSteps := 4000000) only [push_cast, Int.reduceEq, Int.reduceBNe, Int.reduceBEq, Int.reduceAdd, Int.reduceSub, Int.reduceMul, Int.reduceNeg, Int.reduceLT, Int.reduceLE, Int.reduceToNat, Nat.reduceLT, Nat.reduceAdd, Nat.reduceSub, Nat.reduceMul, Nat.reduceEqDiff, Nat.reduceLeDiff, Nat.reduceBEq, reduceIte, reduceCtorEq]
        rw [wrap64 (by omega) (by omega)]
    · have hi2 : i = l.length := by omega
      refine Fin.nil rfl (psv := .b true) rfl ⟨?_, rfl⟩
      subst hi2
      rw [List.take_length, hl, List.take_length] at hp
      simp [hp]

theorem num15_c (m : Int) : Contract Try.prog 30 nilSS [.i .i64 m] (fun sv post => sv = .i .i64 m ∧ post = nilSS) := by
  refine contract_ev Γok Try.func30 rfl rfl [] ?_
  simp (maxSteps := 4000000) only [push_cast, Int.reduceEq, Int.reduceBNe, Int.reduceBEq, Int.reduceAdd, Int.reduceSub, Int.reduceMul, Int.reduceNeg, Int.reduceLT, Int.reduceLE, Int.reduceToNat, Nat.reduceLT, Nat.reduceAdd, Nat.reduceSub, Nat.reduceMul, Nat.reduceEqDiff, Nat.reduceLeDiff, Nat.reduceBEq, reduceIte, reduceCtorEq, Try.f30]
  exact Fin.nil rfl (psv := .i .i64 _) ⟨rfl, rfl⟩ ⟨rfl, rfl⟩

theorem newSt_ok (r w : Bool) {m s : Int} (h : mayV m s = 0) : newSt r w m s = ⟨r, w, m, s, [], [], [], 0, false, false, false⟩ := if_pos h
theorem newSt_may (r w : Bool) {m s : Int} (h : mayV m s = 0) : (newSt r w m s).May := by
  obtain ⟨h1, h2, h3, h4⟩ := may_zero' h
  rw [newSt_ok r w h]
  exact ⟨h, by simp; omega, .inr rfl, by simp, by simp, .inl rfl, .inl ⟨rfl, rfl, rfl, rfl⟩⟩
theorem newSt_fits (r w : Bool) (m s : Int) : (newSt r w m s).fits := by
  unfold newSt
  split <;> exact ⟨by simp, by simp, by simp⟩

/-- A reader feeds a stream. -/
theorem reader_feeds (data : List Int) (b : Nat) : Feeds (readerM data b) (fun p => data.drop p.toNat) := by
  refine ⟨fun (p : Int) n ⟨h0, h0'⟩ h1 h2 => ?_⟩
  have hl := readV_len data p n h0 h0' (by omega)
  have e : someV (readerM data b) p n = (p + (readV data p n).length, readV data p n, 0) := by
    unfold someV
    refine (RawM.some.eq_2 (readerM data b) n p 8191).trans ?_
    rw [if_neg (by simp [readerM]), if_neg (by simp [readerM]), if_neg (by simp only [readerM]; omega)]
    rfl
  rw [e]
  refine ⟨rfl, ?_, fun h => ?_⟩
  · show readV data p n ++ data.drop (p + (readV data p n).length).toNat = data.drop p.toNat
    have : (p + (readV data p n).length).toNat = p.toNat + (readV data p n).length := by omega
    rw [this, ← List.drop_drop]
    unfold readV
    rw [List.length_take]
    by_cases hc : n.toNat ≤ (data.drop p.toNat).length
    · rw [Nat.min_eq_left hc]; exact List.take_append_drop _ _
    · rw [Nat.min_eq_right (by omega), List.take_of_length_le (by omega), List.drop_length, List.append_nil]
  · have h' : readV data p n = [] := h
    unfold readV at h'
    rw [List.take_eq_nil_iff] at h'
    rcases h' with h' | h'
    · omega
    · exact h'
theorem new_reads (data : List Int) (b : Nat) (w : Bool) {m s : Int} (h : mayV m s = 0) : Reads (readerM data b) (fun p => data.drop p.toNat) (newSt true w m s) (0 : Int) := by
  have e := newSt_ok true w h
  exact ⟨newSt_may true w h, by rw [e], by rw [e], by rw [e]; simp, by rw [e], by rw [e], by rw [e]; simp, ⟨by simp, by simp⟩⟩

/-- Where the examples lead. -/
def exSt (i : List Int) (en : Bool) : St := ⟨true, false, 3, 4, [], i, [], 1, en, false, false⟩
theorem ex1 (b : Nat) : (newSt true false 3 4).Until (readerM [97, 98, 10, 99, 100] b) (0 : Int) 10 9 = (exSt [99] false, (4 : Int), [97, 98, 10], 0) := by kernel_rfl
theorem ex2 (b : Nat) : (exSt [99] false).Until (readerM [97, 98, 10, 99, 100] b) (4 : Int) 10 1 = (exSt [] false, (4 : Int), [99], 0) := by kernel_rfl
theorem ex3 (b : Nat) : (exSt [] false).Until (readerM [97, 98, 10, 99, 100] b) (4 : Int) 10 9 = (exSt [] true, (5 : Int), [100], 0) := by kernel_rfl
theorem ex4 (b : Nat) : (exSt [] true).Until (readerM [97, 98, 10, 99, 100] b) (5 : Int) 10 9 = (exSt [] true, (5 : Int), [], 111) := by kernel_rfl
end Go.Proofs.Ytbhkpefjnomncaa
/- A Counter as a Raw: one that is written, one that is read. -/
namespace Go.Proofs.Ytbhkpefjnomncaa
open Go Go.Eng
set_option maxHeartbeats 4000000
set_option linter.unusedSimpArgs false
set_option linter.unusedVariables false
set_option maxRecDepth 100000

theorem nilOK_of {P : Program} {t : TypeId} {name : String} {f : FuncId} (h : methodB P t name f = true) (y : Value) : NilOK P name (.ifc t (.raw y)) := by
  intro E v hv
  simp only [Den] at hv
  obtain ⟨y', rfl, rfl⟩ := hv
  refine ⟨t, _, rfl, fun w => ?_⟩
  unfold methodB at h
  rw [Bool.and_eq_true] at h
  obtain ⟨h1, h2⟩ := h
  split at h1
  · rename_i i hi
    split at h1
    · rename_i m hm
      rw [Bool.and_eq_true] at h1
      obtain ⟨h3, h4⟩ := h1
      split at h4
      · rename_i g hg
        have hp : m.path.toList = [] := by simpa using h3
        rw [show P.types.size + Made.depth = (P.types.size + (Made.depth - 1)) + 1 by unfold Made.depth; omega]
        simp only [Go.nilAhead, Sem.run_bind]
        have h5 : (typeInfo t).run P w = .ok i w := by simp [typeInfo, hi]
        rw [h5]
        simp only [Result.andThen_ok, hm, Sem.run_bind, hp, Go.followBlind, Sem.run_pure, hg]
      · cases h4
    · cases h1
  · cases h1

/-- One that is written: what it has taken, in how many writes. -/
def counterS (B : List Int) (n : Int) : SS := ⟨[], [(0, 33, [.ints .u8 (.tok 1 false) B, .i .i64 0, .i .i64 0, .i .i64 n])], [1], [], 2, 1, []⟩

theorem counterWrite_c (B l : List Int) (n : Int) (h : B.length + l.length ≤ 140737488355328) : Contract Try.prog 113 (counterS B n) [.ptr 0 0, .ints .u8 .old l]
    (fun sv post => sv = .tup [.i .i64 l.length, .i .i64 0] ∧ post = counterS (B ++ l) (IntKind.i64.wrap (n + 1))) := by
  refine contract_ev Γok Try.func113 rfl rfl [] ?_
  simp (maxSteps := 4000000) only [push_cast, Int.reduceEq, Int.reduceBNe, Int.reduceBEq, Int.reduceAdd, Int.reduceSub, Int.reduceMul, Int.reduceNeg, Int.reduceLT, Int.reduceLE, Int.reduceToNat, Nat.reduceLT, Nat.reduceAdd, Nat.reduceSub, Nat.reduceMul, Nat.reduceEqDiff, Nat.reduceLeDiff, Nat.reduceBEq, reduceIte, reduceCtorEq, Try.f113, counterS]
  refine ⟨by omega, Fin.w [0, 2] (.tup [.i .i64 l.length, .i .i64 0]) _ (by simp (maxSteps := 4000000) only [push_cast, Int.reduceEq, Int.reduceBNe, Int.reduceBEq, Int.reduceAdd, Int.reduceSub, Int.reduceMul, Int.reduceNeg, Int.reduceLT, Int.reduceLE, Int.reduceToNat, Nat.reduceLT, Nat.reduceAdd, Nat.reduceSub, Nat.reduceMul, Nat.reduceEqDiff, Nat.reduceLeDiff, Nat.reduceBEq, reduceIte, reduceCtorEq, counterS]) ⟨rfl, rfl⟩⟩

theorem counterWriteM : MethodIs Try.prog 31 "Write" 113 := methodIs_of (by kernel_rfl)
def counterM (b : Nat) : RawM where
  σ := List Int × Int
  t := 31
  y := .pointer (some ⟨b, 0, none⟩)
  res s := (counterS s.1 s.2).res b
  ok _ := True
  rd s n := (s, [], 65)
  wr s l := ((s.1 ++ l, IntKind.i64.wrap (s.2 + 1)), l.length, 0)
  sk s o w := (s, 0, 66)
  rm s := 70368744177664 - s.1.length
theorem counterM_wr (b : Nat) : (counterM b).Wr := by
  refine ⟨?_, fun (s : List Int × Int) l _ h1 h2 h3 => ⟨trivial, ?_⟩, fun (s : List Int × Int) l _ h1 h2 h3 => ?_⟩
  · exact nilOK_of (f := 113) (by kernel_rfl) _
  · have e : ((counterM b).wr s l).2.2 = 0 ∧ ((counterM b).wr s l).2.1 ≤ l.length := ⟨rfl, Int.le_refl _⟩
    rw [if_pos e]
    simp only [counterM, List.length_append, Int.toNat_natCast]
    omega
  · have h1' := List.length_pos_iff.2 h1
    have h3' : l.length ≤ 70368744177664 - s.1.length := h3
    refine invC_of counterWriteM (contract_res b (by simp [counterS]) (by simp [counterS]) (counterWrite_c s.1 l s.2 (by omega)) (by simp [NNL, NN, NNT]) ?_)
    rintro sv post ⟨rfl, rfl⟩
    exact ⟨counterS (s.1 ++ l) (IntKind.i64.wrap (s.2 + 1)), [0, 1], _, by simp (maxSteps := 4000000) only [push_cast, Int.reduceEq, Int.reduceBNe, Int.reduceBEq, Int.reduceAdd, Int.reduceSub, Int.reduceMul, Int.reduceNeg, Int.reduceLT, Int.reduceLE, Int.reduceToNat, Nat.reduceLT, Nat.reduceAdd, Nat.reduceSub, Nat.reduceMul, Nat.reduceEqDiff, Nat.reduceLeDiff, Nat.reduceBEq, reduceIte, reduceCtorEq, counterS], rfl, (by simp (maxSteps := 4000000) only [push_cast, Int.reduceEq, Int.reduceBNe, Int.reduceBEq, Int.reduceAdd, Int.reduceSub, Int.reduceMul, Int.reduceNeg, Int.reduceLT, Int.reduceLE, Int.reduceToNat, Nat.reduceLT, Nat.reduceAdd, Nat.reduceSub, Nat.reduceMul, Nat.reduceEqDiff, Nat.reduceLeDiff, Nat.reduceBEq, reduceIte, reduceCtorEq] : W false (fun n => n) (.tup [.i .i64 l.length, .i .i64 0]) _), by simp [NN, NNL, NNT], rfl, rfl⟩

/-- One that is read: where it is, in how many reads. -/
def counterRS (data : List Int) (p n : Int) : SS := ⟨[], [(0, 33, [.ints .u8 .old data, .i .i64 p, .i .i64 n, .i .i64 0])], [], [], 1, 1, []⟩
theorem counterRead_c (data : List Int) (p n k : Int) (hp : 0 ≤ p) (hp2 : p ≤ data.length) (hd : data.length ≤ 140737488355328) (h1 : 0 ≤ n) (h2 : n ≤ 1048576) : Contract Try.prog 111 (counterRS data p k) [.ptr 0 0, .i .i64 n]
    (fun sv post => sv = .tup [.ints .u8 .old (readV data p n), .i .i64 0] ∧ post = counterRS data (p + (readV data p n).length) (IntKind.i64.wrap (k + 1))) := by
  refine contract_ev Γok Try.func111 rfl rfl [] ?_
  simp (maxSteps := 4000000) only [push_cast, Int.reduceEq, Int.reduceBNe, Int.reduceBEq, Int.reduceAdd, Int.reduceSub, Int.reduceMul, Int.reduceNeg, Int.reduceLT, Int.reduceLE, Int.reduceToNat, Nat.reduceLT, Nat.reduceAdd, Nat.reduceSub, Nat.reduceMul, Nat.reduceEqDiff, Nat.reduceLeDiff, Nat.reduceBEq, reduceIte, reduceCtorEq, Try.f111, counterRS]
  refine (region_plan rfl Γok mixed (.pure 0 (.pure 1 (.pure 2 (.pure 3 (.pure 4 (.pure 5 (.pure 6 (.pure 7 (.pure 8 (.pure 9 (.pure 10 (.pure 11 (.pure 12 .done))))))))))))) 50 rfl (by kernel_rfl) ?_)
  simp (maxSteps := 4000000) only [push_cast, Int.reduceEq, Int.reduceBNe, Int.reduceBEq, Int.reduceAdd, Int.reduceSub, Int.reduceMul, Int.reduceNeg, Int.reduceLT, Int.reduceLE, Int.reduceToNat, Nat.reduceLT, Nat.reduceAdd, Nat.reduceSub, Nat.reduceMul, Nat.reduceEqDiff, Nat.reduceLeDiff, Nat.reduceBEq, reduceIte, reduceCtorEq]
  refine (region_plan rfl Γok mixed (.pure 0 (.pure 1 (.pure 2 (.pure 3 (.pure 4 (.pure 5 (.pure 6 (.pure 7 (.pure 8 (.pure 9 (.pure 10 (.pure 11 (.pure 12 (.pure 13 (.pure 14 (.pure 15 (.pure 16 .done))))))))))))))))) 50 rfl (by kernel_rfl) ?_)
  simp (maxSteps := 4000000) only [push_cast, Int.reduceEq, Int.reduceBNe, Int.reduceBEq, Int.reduceAdd, Int.reduceSub, Int.reduceMul, Int.reduceNeg, Int.reduceLT, Int.reduceLE, Int.reduceToNat, Nat.reduceLT, Nat.reduceAdd, Nat.reduceSub, Nat.reduceMul, Nat.reduceEqDiff, Nat.reduceLeDiff, Nat.reduceBEq, reduceIte, reduceCtorEq]
  have e1 : IntKind.i64.wrap ((data.length : Int) - p) = data.length - p := wrap64 (by omega) (by omega)
  have e2 : minI n ((data.length : Int) - p) = ((readV data p n).length : Nat) := by
    unfold readV minI
    rw [List.length_take, List.length_drop]
    split <;> omega
  have e3 := readV_len data p n hp hp2 h1
  rw [e1, e2, wrap64 (n := p + _) (by omega) (by omega), wrap64 (n := p + _ - _) (by omega) (by omega), Int.add_sub_cancel]
  have e4 : (data.take (p + (readV data p n).length).toNat).drop p.toNat = readV data p n := by
    rw [List.drop_take, show (p + (readV data p n).length).toNat - p.toNat = (readV data p n).length by omega]
    unfold readV
    rw [List.length_take]
    by_cases hc : n.toNat ≤ (data.drop p.toNat).length
    · rw [Nat.min_eq_left hc]
    · rw [Nat.min_eq_right (by omega), List.take_length, List.take_of_length_le (by omega)]
  rw [e4]
  exact ⟨⟨by omega, by omega, by omega⟩, Fin.w [0] (.tup [.ints .u8 .old (readV data p n), .i .i64 0]) _ (by simp (maxSteps := 4000000) only [push_cast, Int.reduceEq, Int.reduceBNe, Int.reduceBEq, Int.reduceAdd, Int.reduceSub, Int.reduceMul, Int.reduceNeg, Int.reduceLT, Int.reduceLE, Int.reduceToNat, Nat.reduceLT, Nat.reduceAdd, Nat.reduceSub, Nat.reduceMul, Nat.reduceEqDiff, Nat.reduceLeDiff, Nat.reduceBEq, reduceIte, reduceCtorEq]) ⟨rfl, rfl⟩⟩

theorem counterReadM : MethodIs Try.prog 31 "Read" 111 := methodIs_of (by kernel_rfl)
def counterRM (data : List Int) (b : Nat) : RawM where
  σ := Int × Int
  t := 31
  y := .pointer (some ⟨b, 0, none⟩)
  res s := (counterRS data s.1 s.2).res b
  ok s := 0 ≤ s.1 ∧ s.1 ≤ data.length
  rd s n := ((s.1 + (readV data s.1 n).length, IntKind.i64.wrap (s.2 + 1)), readV data s.1 n, 0)
  wr s l := (s, 0, 65)
  sk s o w := (s, 0, 66)
theorem counterRM_rd (data : List Int) (b : Nat) (hd : data.length ≤ 140737488355328) : (counterRM data b).Rd := by
  refine ⟨fun (s : Int × Int) n ⟨h0, h0'⟩ h1 h2 => ?_, fun (s : Int × Int) n ⟨h0, h0'⟩ h1 h2 => ?_⟩
  · have := readV_len data s.1 n h0 h0' (by omega)
    simp only [counterRM]
    omega
  · refine invC_of counterReadM (contract_res b (by simp [counterRS]) (by simp [counterRS]) (counterRead_c data s.1 n s.2 h0 h0' hd (by omega) h2) (by simp [NNL, NN]) ?_)
    rintro sv post ⟨rfl, rfl⟩
    exact ⟨counterRS data (s.1 + (readV data s.1 n).length) (IntKind.i64.wrap (s.2 + 1)), [0], _, by simp (maxSteps := 4000000) only [push_cast, Int.reduceEq, Int.reduceBNe, Int.reduceBEq, Int.reduceAdd, Int.reduceSub, Int.reduceMul, Int.reduceNeg, Int.reduceLT, Int.reduceLE, Int.reduceToNat, Nat.reduceLT, Nat.reduceAdd, Nat.reduceSub, Nat.reduceMul, Nat.reduceEqDiff, Nat.reduceLeDiff, Nat.reduceBEq, reduceIte, reduceCtorEq, counterRS], rfl, (by simp (maxSteps := 4000000) only [push_cast, Int.reduceEq, Int.reduceBNe, Int.reduceBEq, Int.reduceAdd, Int.reduceSub, Int.reduceMul, Int.reduceNeg, Int.reduceLT, Int.reduceLE, Int.reduceToNat, Nat.reduceLT, Nat.reduceAdd, Nat.reduceSub, Nat.reduceMul, Nat.reduceEqDiff, Nat.reduceLeDiff, Nat.reduceBEq, reduceIte, reduceCtorEq] : W false (fun n => n) (.tup [.ints .u8 .old (readV data s.1 n), .i .i64 0]) _), by simp [NN, NNL, NNT], rfl, rfl⟩
end Go.Proofs.Ytbhkpefjnomncaa
