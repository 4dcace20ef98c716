/- Texts joined, in order: Ze, Zf, Zi, Zk. -/
import Derived.Test.YtlgpcngfcglanaaGreatZGeTab
import Derived.Test.YtlgpcngfcglanaaGreatZSbRl
import Derived.Test.YtlgpcngfcglanaaGreatZZaZd
/- The kernel's Read. -/
namespace Go.Proofs.YtlgpcngfcglanaaGreat
open Go Go.Eng
set_option maxHeartbeats 4000000
set_option linter.unusedSimpArgs false
set_option linter.unusedVariables false
set_option maxRecDepth 100000

theorem kernNone_c (p : Option Addr) (c : Nat) (data : List Int) (F : List (Int × Int)) (flags at_ rc wc : Int) : Contract Tryz.prog 47 (kernS p c data F flags at_ rc wc) [.ptr 0 0] (fun sv post => sv = .b false ∧ post = kernS p c data F flags at_ rc wc) := by
  refine contract_ev Γok Tryz.func47 rfl rfl [] ?_
  simp (maxSteps := 4000000) only [push_cast, Int.reduceEq, Int.reduceBNe, Int.reduceBEq, Int.reduceAdd, Int.reduceSub, Int.reduceMul, Int.reduceNeg, Int.reduceLT, Int.reduceLE, Int.reduceToNat, Nat.reduceLT, Nat.reduceAdd, Nat.reduceSub, Nat.reduceMul, Nat.reduceEqDiff, Nat.reduceLeDiff, Nat.reduceBEq, reduceIte, reduceCtorEq, Tryz.f47, kernS]
  exact Fin.w [0, 1, 2, 3, 4, 5, 6, 7] (.b false) (kernS p c data F flags at_ rc wc) (by simp (maxSteps := 4000000) only [push_cast, Int.reduceEq, Int.reduceBNe, Int.reduceBEq, Int.reduceAdd, Int.reduceSub, Int.reduceMul, Int.reduceNeg, Int.reduceLT, Int.reduceLE, Int.reduceToNat, Nat.reduceLT, Nat.reduceAdd, Nat.reduceSub, Nat.reduceMul, Nat.reduceEqDiff, Nat.reduceLeDiff, Nat.reduceBEq, reduceIte, reduceCtorEq, kernS]; exact fun i _ j _ => W_fault _ F i j) ⟨rfl, rfl⟩
theorem kernFind_c (p : Option Addr) (c : Nat) (data : List Int) (F : List (Int × Int)) (flags at_ rc wc way : Int) (hw : andI .i64 flags way = way) : Contract Tryz.prog 190 (kernS p c data F flags at_ rc wc) [.ptr 0 0, .i .i64 1, .i .i64 way] (fun sv post => sv = .tup [.ptr 7 0, .i .i64 0] ∧ post = kernS p c data F flags at_ rc wc) := by
  refine contract_ev Γok Tryz.func190 rfl rfl [] ?_
  simp (maxSteps := 4000000) only [push_cast, Int.reduceEq, Int.reduceBNe, Int.reduceBEq, Int.reduceAdd, Int.reduceSub, Int.reduceMul, Int.reduceNeg, Int.reduceLT, Int.reduceLE, Int.reduceToNat, Nat.reduceLT, Nat.reduceAdd, Nat.reduceSub, Nat.reduceMul, Nat.reduceEqDiff, Nat.reduceLeDiff, Nat.reduceBEq, reduceIte, reduceCtorEq, Tryz.f190, kernS]
  refine call_w (kernNone_c p c data F flags at_ rc wc) [0, 1, 2, 3, 4, 5, 6, 7] (by simp (maxSteps := 4000000) only [push_cast, Int.reduceEq, Int.reduceBNe, Int.reduceBEq, Int.reduceAdd, Int.reduceSub, Int.reduceMul, Int.reduceNeg, Int.reduceLT, Int.reduceLE, Int.reduceToNat, Nat.reduceLT, Nat.reduceAdd, Nat.reduceSub, Nat.reduceMul, Nat.reduceEqDiff, Nat.reduceLeDiff, Nat.reduceBEq, reduceIte, reduceCtorEq, kernS]; exact fun i _ j _ => W_fault _ F i j) ?_
  rintro sv post ⟨rfl, rfl⟩
  simp (maxSteps := 4000000) only [push_cast, Int.reduceEq, Int.reduceBNe, Int.reduceBEq, Int.reduceAdd, Int.reduceSub, Int.reduceMul, Int.reduceNeg, Int.reduceLT, Int.reduceLE, Int.reduceToNat, Nat.reduceLT, Nat.reduceAdd, Nat.reduceSub, Nat.reduceMul, Nat.reduceEqDiff, Nat.reduceLeDiff, Nat.reduceBEq, reduceIte, reduceCtorEq, kernS, ren_faultF, hw]
  exact Fin.w [0, 1, 2, 3, 4, 5, 6, 7] (.tup [.ptr 7 0, .i .i64 0]) (kernS p c data F flags at_ rc wc) (by simp (maxSteps := 4000000) only [push_cast, Int.reduceEq, Int.reduceBNe, Int.reduceBEq, Int.reduceAdd, Int.reduceSub, Int.reduceMul, Int.reduceNeg, Int.reduceLT, Int.reduceLE, Int.reduceToNat, Nat.reduceLT, Nat.reduceAdd, Nat.reduceSub, Nat.reduceMul, Nat.reduceEqDiff, Nat.reduceLeDiff, Nat.reduceBEq, reduceIte, reduceCtorEq, kernS]; exact fun i _ j _ => W_fault _ F i j) ⟨rfl, rfl⟩
/-- A description and its file. -/
def diskS (p : Option Addr) (c : Nat) (data : List Int) (flags at_ : Int) : SS := ⟨[], [(0, 256, [.ifc 203 (.agg [.ptr 1 0]), .i .i64 flags, .i .i64 at_, .i .i64 1]), (1, 164, [.b true, .raw (.slice p data.length c)])], [], [(2, RowR .u8 p c data)], 3, 3, []⟩
theorem waits_c (p : Option Addr) (c : Nat) (data : List Int) (flags at_ : Int) : Contract Tryz.prog 191 (diskS p c data flags at_) [.ptr 0 0] (fun sv post => sv = .b false ∧ post = diskS p c data flags at_) := by
  refine contract_ev Γok Tryz.func191 rfl rfl [] ?_
  simp (maxSteps := 4000000) only [push_cast, Int.reduceEq, Int.reduceBNe, Int.reduceBEq, Int.reduceAdd, Int.reduceSub, Int.reduceMul, Int.reduceNeg, Int.reduceLT, Int.reduceLE, Int.reduceToNat, Nat.reduceLT, Nat.reduceAdd, Nat.reduceSub, Nat.reduceMul, Nat.reduceEqDiff, Nat.reduceLeDiff, Nat.reduceBEq, reduceIte, reduceCtorEq, Tryz.f191, diskS]
  exact Fin.w [0, 1, 2] (.b false) (diskS p c data flags at_) (by simp (maxSteps := 4000000) only [push_cast, Int.reduceEq, Int.reduceBNe, Int.reduceBEq, Int.reduceAdd, Int.reduceSub, Int.reduceMul, Int.reduceNeg, Int.reduceLT, Int.reduceLE, Int.reduceToNat, Nat.reduceLT, Nat.reduceAdd, Nat.reduceSub, Nat.reduceMul, Nat.reduceEqDiff, Nat.reduceLeDiff, Nat.reduceBEq, reduceIte, reduceCtorEq, diskS]) ⟨rfl, rfl⟩
theorem diskRead_c (p : Option Addr) (c : Nat) (data : List Int) (flags at_ n : Int) (h0 : 0 ≤ at_) (h0' : at_ ≤ 1048576) (hd : data.length ≤ 1048576) (h1 : 0 ≤ n) (h2 : n ≤ 1048576) :
    Contract Tryz.prog 215 (diskS p c data flags at_) [.agg [.ptr 1 0], .ptr 0 0, .i .i64 n] (fun sv post => sv = .ints .u8 .new (readV data at_ n) ∧ post = diskS p c data flags (at_ + (readV data at_ n).length)) := by
  have e4 : (readV data at_ n).length ≤ 1048576 := by unfold readV; simp; omega
  refine contract_ev Γok Tryz.func215 rfl rfl [] ?_
  simp (maxSteps := 4000000) only [push_cast, Int.reduceEq, Int.reduceBNe, Int.reduceBEq, Int.reduceAdd, Int.reduceSub, Int.reduceMul, Int.reduceNeg, Int.reduceLT, Int.reduceLE, Int.reduceToNat, Nat.reduceLT, Nat.reduceAdd, Nat.reduceSub, Nat.reduceMul, Nat.reduceEqDiff, Nat.reduceLeDiff, Nat.reduceBEq, reduceIte, reduceCtorEq, Tryz.f215, diskS]
  refine (region_plan rfl Γok mixed (.pure 0 (.pure 1 (.pure 2 (.pure 3 (.pure 4 (.pure 5 (.pure 6 (.eff (.cons 7 [] (.pure 8 (.pure 9 (.pure 10 (.pure 11 (.pure 12 .done))))) .nil))))))))) 30 rfl (by kernel_rfl) ?_)
  simp (maxSteps := 4000000) only [push_cast, Int.reduceEq, Int.reduceBNe, Int.reduceBEq, Int.reduceAdd, Int.reduceSub, Int.reduceMul, Int.reduceNeg, Int.reduceLT, Int.reduceLE, Int.reduceToNat, Nat.reduceLT, Nat.reduceAdd, Nat.reduceSub, Nat.reduceMul, Nat.reduceEqDiff, Nat.reduceLeDiff, Nat.reduceBEq, reduceIte, reduceCtorEq]
  refine call_w (fileRead_c p c data at_ n h0 h0' hd h1 h2) [1, 2] (by simp (maxSteps := 4000000) only [push_cast, Int.reduceEq, Int.reduceBNe, Int.reduceBEq, Int.reduceAdd, Int.reduceSub, Int.reduceMul, Int.reduceNeg, Int.reduceLT, Int.reduceLE, Int.reduceToNat, Nat.reduceLT, Nat.reduceAdd, Nat.reduceSub, Nat.reduceMul, Nat.reduceEqDiff, Nat.reduceLeDiff, Nat.reduceBEq, reduceIte, reduceCtorEq, fileS]) ?_
  rintro sv post ⟨rfl, rfl⟩
  simp (maxSteps := 4000000) only [push_cast, Int.reduceEq, Int.reduceBNe, Int.reduceBEq, Int.reduceAdd, Int.reduceSub, Int.reduceMul, Int.reduceNeg, Int.reduceLT, Int.reduceLE, Int.reduceToNat, Nat.reduceLT, Nat.reduceAdd, Nat.reduceSub, Nat.reduceMul, Nat.reduceEqDiff, Nat.reduceLeDiff, Nat.reduceBEq, reduceIte, reduceCtorEq, fileS]
  rw [wrap64 (by omega) (by omega)]
  exact Fin.w [0, 1, 2] (.ints .u8 .new (readV data at_ n)) (diskS p c data flags (at_ + (readV data at_ n).length)) (by simp (maxSteps := 4000000) only [push_cast, Int.reduceEq, Int.reduceBNe, Int.reduceBEq, Int.reduceAdd, Int.reduceSub, Int.reduceMul, Int.reduceNeg, Int.reduceLT, Int.reduceLE, Int.reduceToNat, Nat.reduceLT, Nat.reduceAdd, Nat.reduceSub, Nat.reduceMul, Nat.reduceEqDiff, Nat.reduceLeDiff, Nat.reduceBEq, reduceIte, reduceCtorEq, diskS]) ⟨rfl, rfl⟩
def w64 (n : Int) : Int := IntKind.i64.wrap n
/-- A read: how many bytes; an error. -/
def kRead (data : List Int) (F : List (Int × Int)) (at_ n : Int) : List Int × Int × Int :=
  if (nextF F n).2.1 = 0 then (readV data at_ (nextF F n).1, 0, at_ + (readV data at_ (nextF F n).1).length) else ([], (nextF F n).2.1, at_)
def okF (F : List (Int × Int)) : Prop := ∀ f, f ∈ F → f.1 = 1 → 1 ≤ f.2
theorem nextF_le {F : List (Int × Int)} (hF : okF F) {n : Int} (h1 : 1 ≤ n) : (nextF F n).2.1 = 0 → 1 ≤ (nextF F n).1 ∧ (nextF F n).1 ≤ n := by
  intro h
  cases F with
  | nil => simp only [nextF]; omega
  | cons f r =>
    have hf := hF f (by simp)
    unfold nextF at h ⊢
    dsimp only at h ⊢
    split
    · rename_i e
      have := hf e
      show 1 ≤ minI n f.2 ∧ minI n f.2 ≤ n
      unfold minI
      split <;> omega
    · rename_i e
      rw [if_neg e] at h
      split
      · rename_i e2
        rw [if_pos e2] at h
        simp at h
      · rename_i e2
        rw [if_neg e2] at h
        split
        · rename_i e3
          rw [if_pos e3] at h
          simp at h
        · show 1 ≤ n ∧ n ≤ n
          omega
theorem kernRead_c (p : Option Addr) (c : Nat) (data : List Int) (F : List (Int × Int)) (flags at_ rc wc n : Int) (hf : flags = 3 ∨ flags = 7) (h0 : 0 ≤ at_) (h0' : at_ ≤ 1048576) (hd : data.length ≤ 1048576) (hF : okF F) (h1 : 1 ≤ n) (h2 : n ≤ 1048576) :
    Contract Tryz.prog 187 (kernS p c data F flags at_ rc wc) [.ptr 0 0, .i .i64 1, .i .i64 n] (fun sv post => sv = .tup [.ints .u8 .old (kRead data F at_ n).1, .i .i64 (kRead data F at_ n).2.1] ∧ post = kernS p c data (nextF F n).2.2 flags (kRead data F at_ n).2.2 (w64 (rc + 1)) wc) := by
  have f1 : andI .i64 flags 1 = 1 := by rcases hf with rfl | rfl <;> decide
  have ren2 : (fun i j => ren (fmap [0, 1, 2, 3, 4, 5, 6, 7] 8) (faultEl F i j)) = faultEl F := ren_faultF _ F
  refine contract_ev Γok Tryz.func187 rfl rfl [] ?_
  simp (maxSteps := 4000000) only [push_cast, Int.reduceEq, Int.reduceBNe, Int.reduceBEq, Int.reduceAdd, Int.reduceSub, Int.reduceMul, Int.reduceNeg, Int.reduceLT, Int.reduceLE, Int.reduceToNat, Nat.reduceLT, Nat.reduceAdd, Nat.reduceSub, Nat.reduceMul, Nat.reduceEqDiff, Nat.reduceLeDiff, Nat.reduceBEq, reduceIte, reduceCtorEq, Tryz.f187, kernS]
  refine call_w (kernFind_c p c data F flags at_ rc wc 1 f1) [0, 1, 2, 3, 4, 5, 6, 7] (by simp (maxSteps := 4000000) only [push_cast, Int.reduceEq, Int.reduceBNe, Int.reduceBEq, Int.reduceAdd, Int.reduceSub, Int.reduceMul, Int.reduceNeg, Int.reduceLT, Int.reduceLE, Int.reduceToNat, Nat.reduceLT, Nat.reduceAdd, Nat.reduceSub, Nat.reduceMul, Nat.reduceEqDiff, Nat.reduceLeDiff, Nat.reduceBEq, reduceIte, reduceCtorEq, kernS]; exact fun i _ j _ => W_fault _ F i j) ?_
  rintro sv post ⟨rfl, rfl⟩
  simp (maxSteps := 4000000) only [push_cast, Int.reduceEq, Int.reduceBNe, Int.reduceBEq, Int.reduceAdd, Int.reduceSub, Int.reduceMul, Int.reduceNeg, Int.reduceLT, Int.reduceLE, Int.reduceToNat, Nat.reduceLT, Nat.reduceAdd, Nat.reduceSub, Nat.reduceMul, Nat.reduceEqDiff, Nat.reduceLeDiff, Nat.reduceBEq, reduceIte, reduceCtorEq, kernS, ren_faultF]
  refine ⟨fun h => by omega, fun _ => ⟨fun h => by omega, fun _ => ?_⟩⟩
  refine call_w (waits_c p c data flags at_) [7, 5, 6] (by simp (maxSteps := 4000000) only [push_cast, Int.reduceEq, Int.reduceBNe, Int.reduceBEq, Int.reduceAdd, Int.reduceSub, Int.reduceMul, Int.reduceNeg, Int.reduceLT, Int.reduceLE, Int.reduceToNat, Nat.reduceLT, Nat.reduceAdd, Nat.reduceSub, Nat.reduceMul, Nat.reduceEqDiff, Nat.reduceLeDiff, Nat.reduceBEq, reduceIte, reduceCtorEq, diskS]) ?_
  rintro sv post ⟨rfl, rfl⟩
  simp (maxSteps := 4000000) only [push_cast, Int.reduceEq, Int.reduceBNe, Int.reduceBEq, Int.reduceAdd, Int.reduceSub, Int.reduceMul, Int.reduceNeg, Int.reduceLT, Int.reduceLE, Int.reduceToNat, Nat.reduceLT, Nat.reduceAdd, Nat.reduceSub, Nat.reduceMul, Nat.reduceEqDiff, Nat.reduceLeDiff, Nat.reduceBEq, reduceIte, reduceCtorEq, diskS]
  refine (region_plan rfl Γok mixed (.pure 0 (.pure 1 (.pure 2 (.pure 3 (.pure 4 (.pure 5 (.pure 6 (.pure 7 (.pure 8 (.eff (.cons 9 [] .done .nil))))))))))) 61 rfl (by kernel_rfl) ?_)
  simp (maxSteps := 4000000) only [push_cast, Int.reduceEq, Int.reduceBNe, Int.reduceBEq, Int.reduceAdd, Int.reduceSub, Int.reduceMul, Int.reduceNeg, Int.reduceLT, Int.reduceLE, Int.reduceToNat, Nat.reduceLT, Nat.reduceAdd, Nat.reduceSub, Nat.reduceMul, Nat.reduceEqDiff, Nat.reduceLeDiff, Nat.reduceBEq, reduceIte, reduceCtorEq]
  refine call_w (faultNext_c F n h1 h2) [4] (by simp (maxSteps := 4000000) only [push_cast, Int.reduceEq, Int.reduceBNe, Int.reduceBEq, Int.reduceAdd, Int.reduceSub, Int.reduceMul, Int.reduceNeg, Int.reduceLT, Int.reduceLE, Int.reduceToNat, Nat.reduceLT, Nat.reduceAdd, Nat.reduceSub, Nat.reduceMul, Nat.reduceEqDiff, Nat.reduceLeDiff, Nat.reduceBEq, reduceIte, reduceCtorEq, planS]; exact fun i _ j _ => W_fault _ F i j) ?_
  rintro sv post ⟨rfl, rfl⟩
  simp (maxSteps := 4000000) only [push_cast, Int.reduceEq, Int.reduceBNe, Int.reduceBEq, Int.reduceAdd, Int.reduceSub, Int.reduceMul, Int.reduceNeg, Int.reduceLT, Int.reduceLE, Int.reduceToNat, Nat.reduceLT, Nat.reduceAdd, Nat.reduceSub, Nat.reduceMul, Nat.reduceEqDiff, Nat.reduceLeDiff, Nat.reduceBEq, reduceIte, reduceCtorEq, planS, ren_faultF]
  have hk := nextF_le hF h1
  have e4 : ∀ m : Int, (readV data at_ m).length ≤ 1048576 := fun m => by unfold readV; simp; omega
  refine ⟨fun h => ?_, fun h => ?_⟩
  · have e : kRead data F at_ n = ([], (nextF F n).2.1, at_) := by unfold kRead; rw [if_neg h]
    rw [e]
    exact Fin.w [0, 1, 2, 3, 4, 5, 6, 7] (.tup [.ints .u8 .old [], .i .i64 (nextF F n).2.1]) (kernS p c data (nextF F n).2.2 flags at_ (w64 (rc + 1)) wc) (by simp (maxSteps := 4000000) only [push_cast, Int.reduceEq, Int.reduceBNe, Int.reduceBEq, Int.reduceAdd, Int.reduceSub, Int.reduceMul, Int.reduceNeg, Int.reduceLT, Int.reduceLE, Int.reduceToNat, Nat.reduceLT, Nat.reduceAdd, Nat.reduceSub, Nat.reduceMul, Nat.reduceEqDiff, Nat.reduceLeDiff, Nat.reduceBEq, reduceIte, reduceCtorEq, kernS, w64]; exact fun i _ j _ => W_fault _ _ i j) ⟨rfl, rfl⟩
  · have hk := hk h
    have e : kRead data F at_ n = (readV data at_ (nextF F n).1, 0, at_ + (readV data at_ (nextF F n).1).length) := by unfold kRead; rw [if_pos h]
    rw [e]
    refine inv_ofV (f := 215) (by kernel_rfl) ?_
    refine call_ce (diskRead_c p c data flags at_ (nextF F n).1 h0 h0' hd (by omega) (by omega)) [7, 5, 6] (fun _ _ _ _ h => h) (by simp (maxSteps := 4000000) only [push_cast, Int.reduceEq, Int.reduceBNe, Int.reduceBEq, Int.reduceAdd, Int.reduceSub, Int.reduceMul, Int.reduceNeg, Int.reduceLT, Int.reduceLE, Int.reduceToNat, Nat.reduceLT, Nat.reduceAdd, Nat.reduceSub, Nat.reduceMul, Nat.reduceEqDiff, Nat.reduceLeDiff, Nat.reduceBEq, reduceIte, reduceCtorEq, diskS]) ?_
    rintro sv post ⟨rfl, rfl⟩
    simp (maxSteps := 4000000) only [push_cast, Int.reduceEq, Int.reduceBNe, Int.reduceBEq, Int.reduceAdd, Int.reduceSub, Int.reduceMul, Int.reduceNeg, Int.reduceLT, Int.reduceLE, Int.reduceToNat, Nat.reduceLT, Nat.reduceAdd, Nat.reduceSub, Nat.reduceMul, Nat.reduceEqDiff, Nat.reduceLeDiff, Nat.reduceBEq, reduceIte, reduceCtorEq, diskS]
    exact Fin.w [0, 1, 2, 3, 4, 5, 6, 7] (.tup [.ints .u8 .old (readV data at_ (nextF F n).1), .i .i64 0]) (kernS p c data (nextF F n).2.2 flags (at_ + (readV data at_ (nextF F n).1).length) (w64 (rc + 1)) wc) (by simp (maxSteps := 4000000) only [push_cast, Int.reduceEq, Int.reduceBNe, Int.reduceBEq, Int.reduceAdd, Int.reduceSub, Int.reduceMul, Int.reduceNeg, Int.reduceLT, Int.reduceLE, Int.reduceToNat, Nat.reduceLT, Nat.reduceAdd, Nat.reduceSub, Nat.reduceMul, Nat.reduceEqDiff, Nat.reduceLeDiff, Nat.reduceBEq, reduceIte, reduceCtorEq, kernS, w64]; exact fun i _ j _ => W_fault _ _ i j) ⟨rfl, rfl⟩
end Go.Proofs.YtlgpcngfcglanaaGreat
/- A kernel with one description of its file, as a Raw. -/
namespace Go.Proofs.YtlgpcngfcglanaaGreat
open Go Go.Eng
set_option maxHeartbeats 4000000
set_option linter.unusedSimpArgs false
set_option linter.unusedVariables false
set_option maxRecDepth 100000

/-- What it holds: the file, its place, the faults left, how many calls met them. -/
structure KSt where
  data : List Int
  at_ : Int
  F : List (Int × Int)
  rc : Int
  wc : Int
def kernR (b : Nat) (flags : Int) (s : KSt) : Res := exR fun pc : Option Addr × Nat => (kernS pc.1 pc.2 s.data s.F flags s.at_ s.rc s.wc).res b
def kern0R (b : Nat) (data : List Int) (F : List (Int × Int)) : Res := exR fun pc : Option Addr × Nat => (kern0 pc.1 pc.2 data F).res b
theorem kernNewR_c (data : List Int) (F : List (Int × Int)) (h0 : chkK data F = 0) : Contract Tryz.prog 54 nilSS [cfg data F] (fun sv post => ∃ b, sv = .tup [.raw (.pointer (some ⟨b, 0, none⟩)), .i .i64 0] ∧ post = ⟨[], [], [], [(7, kern0R b data F)], 8, 0, []⟩) := by
  refine Contract.post (contract_new (R := fun sv post => ∃ b p c, sv = .tup [.raw (.pointer (some ⟨b, 0, none⟩)), .i .i64 0] ∧ post = ⟨[], [], [], [(7, (kern0 p c data F).res b)], 8, 0, []⟩) (kernNew_c data F h0) ?_) ?_
  · rintro sv post ⟨p, c, rfl, rfl⟩
    refine ⟨kern0 p c data F, [0, 1, 2, 3, 4, 5, 6], 119, _, by simp (maxSteps := 4000000) only [push_cast, Int.reduceEq, Int.reduceBNe, Int.reduceBEq, Int.reduceAdd, Int.reduceSub, Int.reduceMul, Int.reduceNeg, Int.reduceLT, Int.reduceLE, Int.reduceToNat, Nat.reduceLT, Nat.reduceAdd, Nat.reduceSub, Nat.reduceMul, Nat.reduceEqDiff, Nat.reduceLeDiff, Nat.reduceBEq, reduceIte, reduceCtorEq, kern0]; exact fun i _ j _ => W_fault _ F i j, rfl, fun b => ⟨b, p, c, ?_, ?_⟩⟩
    · simp (maxSteps := 4000000) only [push_cast, Int.reduceEq, Int.reduceBNe, Int.reduceBEq, Int.reduceAdd, Int.reduceSub, Int.reduceMul, Int.reduceNeg, Int.reduceLT, Int.reduceLE, Int.reduceToNat, Nat.reduceLT, Nat.reduceAdd, Nat.reduceSub, Nat.reduceMul, Nat.reduceEqDiff, Nat.reduceLeDiff, Nat.reduceBEq, reduceIte, reduceCtorEq, kern0]
    · simp (maxSteps := 4000000) only [push_cast, Int.reduceEq, Int.reduceBNe, Int.reduceBEq, Int.reduceAdd, Int.reduceSub, Int.reduceMul, Int.reduceNeg, Int.reduceLT, Int.reduceLE, Int.reduceToNat, Nat.reduceLT, Nat.reduceAdd, Nat.reduceSub, Nat.reduceMul, Nat.reduceEqDiff, Nat.reduceLeDiff, Nat.reduceBEq, reduceIte, reduceCtorEq, kern0]
  · rintro sv post ⟨b, p, c, rfl, rfl⟩
    refine ⟨_, SSLe.ex (f := fun pc : Option Addr × Nat => (kern0 pc.1 pc.2 data F).res b) 7 (p, c) (by simp), b, rfl, rfl⟩
theorem kernOpenR_c (b : Nat) (data : List Int) (F : List (Int × Int)) (flags : Int) (hf : flags = 3 ∨ flags = 7) : Contract Tryz.prog 57 (preR (kern0R b data F)) [.raw (.pointer (some ⟨b, 0, none⟩)), .s (bs [102]), .i .i64 flags] (fun sv post => sv = .tup [.i .i64 1, .i .i64 0] ∧ post = preR (kernR b flags ⟨data, 0, F, 0, 0⟩)) := by
  refine Contract.ex fun pc => Contract.post (R := fun sv post => sv = .tup [.i .i64 1, .i .i64 0] ∧ post = preR ((kernS pc.1 pc.2 data F flags 0 0 0).res b)) (contract_res b (by simp [kern0]) (by simp [kern0]) (kernOpen_c pc.1 pc.2 data F flags hf) (by simp [NNL, NN]) ?_) ?_
  · rintro sv post ⟨rfl, rfl⟩
    exact ⟨kernS pc.1 pc.2 data F flags 0 0 0, [0, 1, 2, 3, 4, 5, 6, 7], _, by simp (maxSteps := 4000000) only [push_cast, Int.reduceEq, Int.reduceBNe, Int.reduceBEq, Int.reduceAdd, Int.reduceSub, Int.reduceMul, Int.reduceNeg, Int.reduceLT, Int.reduceLE, Int.reduceToNat, Nat.reduceLT, Nat.reduceAdd, Nat.reduceSub, Nat.reduceMul, Nat.reduceEqDiff, Nat.reduceLeDiff, Nat.reduceBEq, reduceIte, reduceCtorEq, kernS]; exact fun i _ j _ => W_fault _ F i j, rfl, (by simp (maxSteps := 4000000) only [push_cast, Int.reduceEq, Int.reduceBNe, Int.reduceBEq, Int.reduceAdd, Int.reduceSub, Int.reduceMul, Int.reduceNeg, Int.reduceLT, Int.reduceLE, Int.reduceToNat, Nat.reduceLT, Nat.reduceAdd, Nat.reduceSub, Nat.reduceMul, Nat.reduceEqDiff, Nat.reduceLeDiff, Nat.reduceBEq, reduceIte, reduceCtorEq] : W false (fun n => n) (.tup [.i .i64 1, .i .i64 0]) _), by simp [NN, NNL], rfl, rfl⟩
  · rintro sv post ⟨rfl, rfl⟩
    exact ⟨_, SSLe.pre (f := fun pc : Option Addr × Nat => (kernS pc.1 pc.2 data F flags 0 0 0).res b) pc, rfl, rfl⟩
/-- From the parts to the whole. -/
theorem kern_fold {f : FuncId} (b : Nat) (flags : Int) (s s' : KSt) (args : List SV) (hn : NNL args) (R : SV → Prop) (hR : ∀ sv, R sv → W false (fun n => n) sv sv ∧ NN sv)
    (h : ∀ p c, Contract Tryz.prog f (kernS p c s.data s.F flags s.at_ s.rc s.wc) (.ptr 0 0 :: args) (fun sv post => R sv ∧ ∃ p' c', post = kernS p' c' s'.data s'.F flags s'.at_ s'.rc s'.wc)) :
    Contract Tryz.prog f (preR (kernR b flags s)) (.raw (.pointer (some ⟨b, 0, none⟩)) :: args) (fun sv post => R sv ∧ post = preR (kernR b flags s')) := by
  refine Contract.ex fun pc => Contract.post (R := fun sv post => R sv ∧ ∃ p' c', post = preR ((kernS p' c' s'.data s'.F flags s'.at_ s'.rc s'.wc).res b)) (contract_res b (by simp [kernS]) (by simp [kernS]) (h pc.1 pc.2) hn ?_) ?_
  · rintro sv post ⟨h1, p', c', rfl⟩
    exact ⟨kernS p' c' s'.data s'.F flags s'.at_ s'.rc s'.wc, [0, 1, 2, 3, 4, 5, 6, 7], sv, by simp (maxSteps := 4000000) only [push_cast, Int.reduceEq, Int.reduceBNe, Int.reduceBEq, Int.reduceAdd, Int.reduceSub, Int.reduceMul, Int.reduceNeg, Int.reduceLT, Int.reduceLE, Int.reduceToNat, Nat.reduceLT, Nat.reduceAdd, Nat.reduceSub, Nat.reduceMul, Nat.reduceEqDiff, Nat.reduceLeDiff, Nat.reduceBEq, reduceIte, reduceCtorEq, kernS]; exact fun i _ j _ => W_fault _ _ i j, rfl, (hR sv h1).1, (hR sv h1).2, h1, p', c', rfl⟩
  · rintro sv post ⟨h1, p', c', rfl⟩
    exact ⟨_, SSLe.pre (f := fun pc : Option Addr × Nat => (kernS pc.1 pc.2 s'.data s'.F flags s'.at_ s'.rc s'.wc).res b) (p', c'), h1, rfl⟩
/-- Where it may be. -/
structure KOk (s : KSt) : Prop where
  a0 : 0 ≤ s.at_
  a1 : s.at_ ≤ 1048576
  d : s.data.length ≤ 1048576
  f : okF s.F
  fl : s.F.length ≤ 4096
def kRd (s : KSt) (n : Int) : KSt × List Int × Int := (⟨s.data, (kRead s.data s.F s.at_ n).2.2, (nextF s.F n).2.2, w64 (s.rc + 1), s.wc⟩, (kRead s.data s.F s.at_ n).1, (kRead s.data s.F s.at_ n).2.1)
theorem kernReadR_c (b : Nat) (flags : Int) (hf : flags = 3 ∨ flags = 7) (s : KSt) (hs : KOk s) (n : Int) (h1 : 1 ≤ n) (h2 : n ≤ 1048576) : Contract Tryz.prog 187 (preR (kernR b flags s)) [.raw (.pointer (some ⟨b, 0, none⟩)), .i .i64 1, .i .i64 n] (fun sv post => sv = .tup [.ints .u8 .old (kRd s n).2.1, .i .i64 (kRd s n).2.2] ∧ post = preR (kernR b flags (kRd s n).1)) := by
  refine kern_fold b flags s (kRd s n).1 [.i .i64 1, .i .i64 n] (by simp [NNL, NN]) (fun sv => sv = .tup [.ints .u8 .old (kRd s n).2.1, .i .i64 (kRd s n).2.2]) ?_ fun p c => ?_
  · rintro sv rfl
    exact ⟨by simp (maxSteps := 4000000) only [push_cast, Int.reduceEq, Int.reduceBNe, Int.reduceBEq, Int.reduceAdd, Int.reduceSub, Int.reduceMul, Int.reduceNeg, Int.reduceLT, Int.reduceLE, Int.reduceToNat, Nat.reduceLT, Nat.reduceAdd, Nat.reduceSub, Nat.reduceMul, Nat.reduceEqDiff, Nat.reduceLeDiff, Nat.reduceBEq, reduceIte, reduceCtorEq], by simp [NN, NNL, NNT]⟩
  · refine (kernRead_c p c s.data s.F flags s.at_ s.rc s.wc n hf hs.a0 hs.a1 hs.d hs.f h1 h2).mono ?_
    rintro sv post ⟨rfl, rfl⟩
    exact ⟨rfl, p, c, rfl⟩
def hdl (b : Nat) : SV := .agg [.raw (.pointer (some ⟨b, 0, none⟩)), .i .i64 1]
def hdlV (b : Nat) : Value := .agg #[.pointer (some ⟨b, 0, none⟩), .int .i64 1]
theorem hdl_den (b : Nat) (E : Env) : Den E (hdl b) (hdlV b) := by
  simp [hdl, hdlV, Den, DenL]
theorem hdlRead_c (b : Nat) (flags : Int) (hf : flags = 3 ∨ flags = 7) (s : KSt) (hs : KOk s) (n : Int) (h1 : 1 ≤ n) (h2 : n ≤ 1048576) : Contract Tryz.prog 204 (preR (kernR b flags s)) [hdl b, .i .i64 n] (fun sv post => sv = .tup [.ints .u8 .old (kRd s n).2.1, .i .i64 (kRd s n).2.2] ∧ post = preR (kernR b flags (kRd s n).1)) := by
  refine contract_ev Γok Tryz.func204 rfl rfl [] ?_
  simp (maxSteps := 4000000) only [push_cast, Int.reduceEq, Int.reduceBNe, Int.reduceBEq, Int.reduceAdd, Int.reduceSub, Int.reduceMul, Int.reduceNeg, Int.reduceLT, Int.reduceLE, Int.reduceToNat, Nat.reduceLT, Nat.reduceAdd, Nat.reduceSub, Nat.reduceMul, Nat.reduceEqDiff, Nat.reduceLeDiff, Nat.reduceBEq, reduceIte, reduceCtorEq, Tryz.f204, hdl]
  refine call_w (kernReadR_c b flags hf s hs n h1 h2) [0] (by simp (maxSteps := 4000000) only [push_cast, Int.reduceEq, Int.reduceBNe, Int.reduceBEq, Int.reduceAdd, Int.reduceSub, Int.reduceMul, Int.reduceNeg, Int.reduceLT, Int.reduceLE, Int.reduceToNat, Nat.reduceLT, Nat.reduceAdd, Nat.reduceSub, Nat.reduceMul, Nat.reduceEqDiff, Nat.reduceLeDiff, Nat.reduceBEq, reduceIte, reduceCtorEq, preR]) ?_
  rintro sv post ⟨rfl, rfl⟩
  simp (maxSteps := 4000000) only [push_cast, Int.reduceEq, Int.reduceBNe, Int.reduceBEq, Int.reduceAdd, Int.reduceSub, Int.reduceMul, Int.reduceNeg, Int.reduceLT, Int.reduceLE, Int.reduceToNat, Nat.reduceLT, Nat.reduceAdd, Nat.reduceSub, Nat.reduceMul, Nat.reduceEqDiff, Nat.reduceLeDiff, Nat.reduceBEq, reduceIte, reduceCtorEq, preR]
  exact Fin.w [0] (.tup [.ints .u8 .old (kRd s n).2.1, .i .i64 (kRd s n).2.2]) (preR (kernR b flags (kRd s n).1)) (by simp (maxSteps := 4000000) only [push_cast, Int.reduceEq, Int.reduceBNe, Int.reduceBEq, Int.reduceAdd, Int.reduceSub, Int.reduceMul, Int.reduceNeg, Int.reduceLT, Int.reduceLE, Int.reduceToNat, Nat.reduceLT, Nat.reduceAdd, Nat.reduceSub, Nat.reduceMul, Nat.reduceEqDiff, Nat.reduceLeDiff, Nat.reduceBEq, reduceIte, reduceCtorEq, preR]) ⟨rfl, rfl⟩
theorem invW_of {P : Program} {t : TypeId} {name : String} {f : FuncId} (hm : methodWB P t name f = true) {y : Value} {sy : SV} (hd : ∀ E : Env, Den E sy y) {pre : SS} {pargs : List SV} {R : SV → SS → Prop} (hC : Contract P f pre (sy :: pargs) R) :
    InvC P t y name pre pargs R := by
  intro E w vs hw0 hw hv
  obtain ⟨k1, k2⟩ := hC E w (y :: vs) hw0 hw (by simp only [DenL]; exact ⟨hd E, hv⟩)
  refine ⟨f, (y :: vs).toArray, ?_, k2⟩
  rw [← k1]
  simp only [callMethod, Sem.run_bind, run_program, Result.andThen_ok, (methodW_of hm y w).1]
  congr 2
  apply Array.ext'; simp
/-- A kernel's file as a Raw (what it reads). -/
def kernM (b : Nat) (flags : Int) : RawM where
  σ := KSt
  t := 149
  y := hdlV b
  res s := kernR b flags s
  ok s := KOk s
  rd s n := kRd s n
  wr s l := (s, 0, 0)
  sk s o w := (s, 0, 0)
theorem okF_next {F : List (Int × Int)} (hF : okF F) (n : Int) : okF (nextF F n).2.2 := by
  cases F with
  | nil => exact hF
  | cons f r =>
    have h : okF r := fun g hg => hF g (by simp [hg])
    unfold nextF
    dsimp only
    split
    · exact h
    · split
      · exact h
      · split
        · exact h
        · exact h
theorem nextF_len (F : List (Int × Int)) (n : Int) : (nextF F n).2.2.length ≤ F.length := by
  cases F with
  | nil => exact Nat.le_refl _
  | cons f r =>
    unfold nextF
    dsimp only
    split
    · simp
    · split
      · simp
      · split <;> simp
theorem kRd_ok {s : KSt} (hs : KOk s) {n : Int} (h1 : 1 ≤ n) (h2 : n ≤ 1048576) : KOk (kRd s n).1 := by
  obtain ⟨a0, a1, d, f, fl⟩ := hs
  have hn := nextF_le f h1
  refine ⟨?_, ?_, d, okF_next f n, Nat.le_trans (nextF_len s.F n) fl⟩
  · show 0 ≤ (kRead s.data s.F s.at_ n).2.2
    unfold kRead
    split
    · show 0 ≤ s.at_ + _
      omega
    · exact a0
  · show (kRead s.data s.F s.at_ n).2.2 ≤ 1048576
    unfold kRead
    split
    · show s.at_ + _ ≤ 1048576
      unfold readV
      rw [List.length_take, List.length_drop]
      omega
    · exact a1
theorem kernM_rd (b : Nat) (flags : Int) (hf : flags = 3 ∨ flags = 7) : (kernM b flags).Rd :=
  ⟨fun s n h h1 h2 => kRd_ok h h1 h2, fun s n h h1 h2 => invW_of (f := 204) (by kernel_rfl) (hdl_den b) (hdlRead_c b flags hf s h n h1 h2)⟩
end Go.Proofs.YtlgpcngfcglanaaGreat
/- The kernel's Seek. -/
namespace Go.Proofs.YtlgpcngfcglanaaGreat
open Go Go.Eng
set_option maxHeartbeats 4000000
set_option linter.unusedSimpArgs false
set_option linter.unusedVariables false
set_option maxRecDepth 100000

theorem fileSize_c (p : Option Addr) (c : Nat) (data : List Int) : Contract Tryz.prog 193 (fileS p c data) [.ptr 0 0] (fun sv post => sv = .i .i64 data.length ∧ post = fileS p c data) := by
  refine contract_ev Γok Tryz.func193 rfl rfl [] ?_
  simp (maxSteps := 4000000) only [push_cast, Int.reduceEq, Int.reduceBNe, Int.reduceBEq, Int.reduceAdd, Int.reduceSub, Int.reduceMul, Int.reduceNeg, Int.reduceLT, Int.reduceLE, Int.reduceToNat, Nat.reduceLT, Nat.reduceAdd, Nat.reduceSub, Nat.reduceMul, Nat.reduceEqDiff, Nat.reduceLeDiff, Nat.reduceBEq, reduceIte, reduceCtorEq, Tryz.f193, fileS]
  exact Fin.w [0, 1] (.i .i64 data.length) (fileS p c data) (by simp (maxSteps := 4000000) only [push_cast, Int.reduceEq, Int.reduceBNe, Int.reduceBEq, Int.reduceAdd, Int.reduceSub, Int.reduceMul, Int.reduceNeg, Int.reduceLT, Int.reduceLE, Int.reduceToNat, Nat.reduceLT, Nat.reduceAdd, Nat.reduceSub, Nat.reduceMul, Nat.reduceEqDiff, Nat.reduceLeDiff, Nat.reduceBEq, reduceIte, reduceCtorEq, fileS]) ⟨rfl, rfl⟩
theorem kernSeek_c (p : Option Addr) (c : Nat) (data : List Int) (F : List (Int × Int)) (flags at_ rc wc off w : Int) (hf : flags = 3 ∨ flags = 7) (h0 : 0 ≤ at_) (h1 : at_ ≤ 1048576) (hd : data.length ≤ 1048576) :
    Contract Tryz.prog 188 (kernS p c data F flags at_ rc wc) [.ptr 0 0, .i .i64 1, .i .i64 off, .i .i64 w] (fun sv post => sv = .tup [.i .i64 (gK 1048576 data at_ off w).2.1, .i .i64 (gK 1048576 data at_ off w).2.2] ∧ post = kernS p c data F flags (gK 1048576 data at_ off w).1.2 rc wc) := by
  have f1 : andI .i64 flags 0 = 0 := by rcases hf with rfl | rfl <;> decide
  have W1 : IntKind.i64.wrap 0 = 0 := rfl
  refine contract_ev Γok Tryz.func188 rfl rfl [] ?_
  simp (maxSteps := 4000000) only [push_cast, Int.reduceEq, Int.reduceBNe, Int.reduceBEq, Int.reduceAdd, Int.reduceSub, Int.reduceMul, Int.reduceNeg, Int.reduceLT, Int.reduceLE, Int.reduceToNat, Nat.reduceLT, Nat.reduceAdd, Nat.reduceSub, Nat.reduceMul, Nat.reduceEqDiff, Nat.reduceLeDiff, Nat.reduceBEq, reduceIte, reduceCtorEq, Tryz.f188, kernS]
  refine call_w (kernFind_c p c data F flags at_ rc wc 0 f1) [0, 1, 2, 3, 4, 5, 6, 7] (by simp (maxSteps := 4000000) only [push_cast, Int.reduceEq, Int.reduceBNe, Int.reduceBEq, Int.reduceAdd, Int.reduceSub, Int.reduceMul, Int.reduceNeg, Int.reduceLT, Int.reduceLE, Int.reduceToNat, Nat.reduceLT, Nat.reduceAdd, Nat.reduceSub, Nat.reduceMul, Nat.reduceEqDiff, Nat.reduceLeDiff, Nat.reduceBEq, reduceIte, reduceCtorEq, kernS]; exact fun i _ j _ => W_fault _ F i j) ?_
  rintro sv post ⟨rfl, rfl⟩
  simp (maxSteps := 4000000) only [push_cast, Int.reduceEq, Int.reduceBNe, Int.reduceBEq, Int.reduceAdd, Int.reduceSub, Int.reduceMul, Int.reduceNeg, Int.reduceLT, Int.reduceLE, Int.reduceToNat, Nat.reduceLT, Nat.reduceAdd, Nat.reduceSub, Nat.reduceMul, Nat.reduceEqDiff, Nat.reduceLeDiff, Nat.reduceBEq, reduceIte, reduceCtorEq, kernS, ren_faultF]
  unfold gK
  refine ⟨fun h3 => ?_, fun h3 => ?_⟩
  · rw [if_pos h3]
    exact Fin.w [0, 1, 2, 3, 4, 5, 6, 7] (.tup [.i .i64 0, .i .i64 1]) (kernS p c data F flags at_ rc wc) (by simp (maxSteps := 4000000) only [push_cast, Int.reduceEq, Int.reduceBNe, Int.reduceBEq, Int.reduceAdd, Int.reduceSub, Int.reduceMul, Int.reduceNeg, Int.reduceLT, Int.reduceLE, Int.reduceToNat, Nat.reduceLT, Nat.reduceAdd, Nat.reduceSub, Nat.reduceMul, Nat.reduceEqDiff, Nat.reduceLeDiff, Nat.reduceBEq, reduceIte, reduceCtorEq, kernS]; exact fun i _ j _ => W_fault _ F i j) ⟨rfl, rfl⟩
  rw [if_neg (by omega)]
  have hw : w = 0 ∨ w = 1 ∨ w = 2 := by omega
  rcases hw with rfl | rfl | rfl
  · refine (region_plan rfl Γok mixed (.pure 0 (.pure 1 (.pure 2 (.pure 3 (.pure 4 (.pure 5 (.pure 8 (.eff (.cons 6 [3] (.pure 7 (.pure 9 (.pure 10 .done))) .nil))))))))) 70 rfl (by kernel_rfl) ?_)
    simp (maxSteps := 4000000) only [push_cast, Int.reduceEq, Int.reduceBNe, Int.reduceBEq, Int.reduceAdd, Int.reduceSub, Int.reduceMul, Int.reduceNeg, Int.reduceLT, Int.reduceLE, Int.reduceToNat, Nat.reduceLT, Nat.reduceAdd, Nat.reduceSub, Nat.reduceMul, Nat.reduceEqDiff, Nat.reduceLeDiff, Nat.reduceBEq, reduceIte, reduceCtorEq, Int.toNat_zero, W1]
    refine call_w (fileSize_c p c data) [5, 6] (by simp (maxSteps := 4000000) only [push_cast, Int.reduceEq, Int.reduceBNe, Int.reduceBEq, Int.reduceAdd, Int.reduceSub, Int.reduceMul, Int.reduceNeg, Int.reduceLT, Int.reduceLE, Int.reduceToNat, Nat.reduceLT, Nat.reduceAdd, Nat.reduceSub, Nat.reduceMul, Nat.reduceEqDiff, Nat.reduceLeDiff, Nat.reduceBEq, reduceIte, reduceCtorEq, fileS]) ?_
    rintro sv post ⟨rfl, rfl⟩
    simp (maxSteps := 4000000) only [push_cast, Int.reduceEq, Int.reduceBNe, Int.reduceBEq, Int.reduceAdd, Int.reduceSub, Int.reduceMul, Int.reduceNeg, Int.reduceLT, Int.reduceLE, Int.reduceToNat, Nat.reduceLT, Nat.reduceAdd, Nat.reduceSub, Nat.reduceMul, Nat.reduceEqDiff, Nat.reduceLeDiff, Nat.reduceBEq, reduceIte, reduceCtorEq, fileS, Int.toNat_zero, W1]
    rw [show IntKind.i64.wrap 1048576 = 1048576 from rfl]
    refine ⟨fun h4 => ?_, fun h4 => ?_⟩
    · rw [if_pos (by rcases h4 with h4 | h4 <;> omega)]
      exact Fin.w [0, 1, 2, 3, 4, 5, 6, 7] (.tup [.i .i64 0, .i .i64 4]) (kernS p c data F flags at_ rc wc) (by simp (maxSteps := 4000000) only [push_cast, Int.reduceEq, Int.reduceBNe, Int.reduceBEq, Int.reduceAdd, Int.reduceSub, Int.reduceMul, Int.reduceNeg, Int.reduceLT, Int.reduceLE, Int.reduceToNat, Nat.reduceLT, Nat.reduceAdd, Nat.reduceSub, Nat.reduceMul, Nat.reduceEqDiff, Nat.reduceLeDiff, Nat.reduceBEq, reduceIte, reduceCtorEq, kernS]; exact fun i _ j _ => W_fault _ F i j) ⟨rfl, rfl⟩
    · rw [if_neg (by omega), wrap64 (n := 0 + off) (by omega) (by omega)]
      exact Fin.w [0, 1, 2, 3, 4, 5, 6, 7] (.tup [.i .i64 (0 + off), .i .i64 0]) (kernS p c data F flags (0 + off) rc wc) (by simp (maxSteps := 4000000) only [push_cast, Int.reduceEq, Int.reduceBNe, Int.reduceBEq, Int.reduceAdd, Int.reduceSub, Int.reduceMul, Int.reduceNeg, Int.reduceLT, Int.reduceLE, Int.reduceToNat, Nat.reduceLT, Nat.reduceAdd, Nat.reduceSub, Nat.reduceMul, Nat.reduceEqDiff, Nat.reduceLeDiff, Nat.reduceBEq, reduceIte, reduceCtorEq, kernS]; exact fun i _ j _ => W_fault _ F i j) ⟨rfl, rfl⟩
  · refine (region_plan rfl Γok mixed (.pure 0 (.pure 1 (.pure 2 (.pure 3 (.pure 4 (.pure 5 (.pure 8 (.eff (.cons 6 [3] (.pure 7 (.pure 9 (.pure 10 .done))) .nil))))))))) 70 rfl (by kernel_rfl) ?_)
    simp (maxSteps := 4000000) only [push_cast, Int.reduceEq, Int.reduceBNe, Int.reduceBEq, Int.reduceAdd, Int.reduceSub, Int.reduceMul, Int.reduceNeg, Int.reduceLT, Int.reduceLE, Int.reduceToNat, Nat.reduceLT, Nat.reduceAdd, Nat.reduceSub, Nat.reduceMul, Nat.reduceEqDiff, Nat.reduceLeDiff, Nat.reduceBEq, reduceIte, reduceCtorEq, Int.toNat_zero, W1]
    refine call_w (fileSize_c p c data) [5, 6] (by simp (maxSteps := 4000000) only [push_cast, Int.reduceEq, Int.reduceBNe, Int.reduceBEq, Int.reduceAdd, Int.reduceSub, Int.reduceMul, Int.reduceNeg, Int.reduceLT, Int.reduceLE, Int.reduceToNat, Nat.reduceLT, Nat.reduceAdd, Nat.reduceSub, Nat.reduceMul, Nat.reduceEqDiff, Nat.reduceLeDiff, Nat.reduceBEq, reduceIte, reduceCtorEq, fileS]) ?_
    rintro sv post ⟨rfl, rfl⟩
    simp (maxSteps := 4000000) only [push_cast, Int.reduceEq, Int.reduceBNe, Int.reduceBEq, Int.reduceAdd, Int.reduceSub, Int.reduceMul, Int.reduceNeg, Int.reduceLT, Int.reduceLE, Int.reduceToNat, Nat.reduceLT, Nat.reduceAdd, Nat.reduceSub, Nat.reduceMul, Nat.reduceEqDiff, Nat.reduceLeDiff, Nat.reduceBEq, reduceIte, reduceCtorEq, fileS, Int.toNat_zero, W1]
    rw [wrap64 (n := 0 - at_) (by omega) (by omega), wrap64 (n := 1048576 - at_) (by omega) (by omega)]
    refine ⟨fun h4 => ?_, fun h4 => ?_⟩
    · rw [if_pos (by rcases h4 with h4 | h4 <;> omega)]
      exact Fin.w [0, 1, 2, 3, 4, 5, 6, 7] (.tup [.i .i64 0, .i .i64 4]) (kernS p c data F flags at_ rc wc) (by simp (maxSteps := 4000000) only [push_cast, Int.reduceEq, Int.reduceBNe, Int.reduceBEq, Int.reduceAdd, Int.reduceSub, Int.reduceMul, Int.reduceNeg, Int.reduceLT, Int.reduceLE, Int.reduceToNat, Nat.reduceLT, Nat.reduceAdd, Nat.reduceSub, Nat.reduceMul, Nat.reduceEqDiff, Nat.reduceLeDiff, Nat.reduceBEq, reduceIte, reduceCtorEq, kernS]; exact fun i _ j _ => W_fault _ F i j) ⟨rfl, rfl⟩
    · rw [if_neg (by omega), wrap64 (n := at_ + off) (by omega) (by omega)]
      exact Fin.w [0, 1, 2, 3, 4, 5, 6, 7] (.tup [.i .i64 (at_ + off), .i .i64 0]) (kernS p c data F flags (at_ + off) rc wc) (by simp (maxSteps := 4000000) only [push_cast, Int.reduceEq, Int.reduceBNe, Int.reduceBEq, Int.reduceAdd, Int.reduceSub, Int.reduceMul, Int.reduceNeg, Int.reduceLT, Int.reduceLE, Int.reduceToNat, Nat.reduceLT, Nat.reduceAdd, Nat.reduceSub, Nat.reduceMul, Nat.reduceEqDiff, Nat.reduceLeDiff, Nat.reduceBEq, reduceIte, reduceCtorEq, kernS]; exact fun i _ j _ => W_fault _ F i j) ⟨rfl, rfl⟩
  · refine (region_plan rfl Γok mixed (.pure 0 (.pure 1 (.pure 2 (.pure 3 (.pure 4 (.pure 5 (.pure 8 (.eff (.cons 6 [3] (.pure 7 (.pure 9 (.pure 10 .done))) .nil))))))))) 70 rfl (by kernel_rfl) ?_)
    simp (maxSteps := 4000000) only [push_cast, Int.reduceEq, Int.reduceBNe, Int.reduceBEq, Int.reduceAdd, Int.reduceSub, Int.reduceMul, Int.reduceNeg, Int.reduceLT, Int.reduceLE, Int.reduceToNat, Nat.reduceLT, Nat.reduceAdd, Nat.reduceSub, Nat.reduceMul, Nat.reduceEqDiff, Nat.reduceLeDiff, Nat.reduceBEq, reduceIte, reduceCtorEq, Int.toNat_zero, W1]
    refine call_w (fileSize_c p c data) [5, 6] (by simp (maxSteps := 4000000) only [push_cast, Int.reduceEq, Int.reduceBNe, Int.reduceBEq, Int.reduceAdd, Int.reduceSub, Int.reduceMul, Int.reduceNeg, Int.reduceLT, Int.reduceLE, Int.reduceToNat, Nat.reduceLT, Nat.reduceAdd, Nat.reduceSub, Nat.reduceMul, Nat.reduceEqDiff, Nat.reduceLeDiff, Nat.reduceBEq, reduceIte, reduceCtorEq, fileS]) ?_
    rintro sv post ⟨rfl, rfl⟩
    simp (maxSteps := 4000000) only [push_cast, Int.reduceEq, Int.reduceBNe, Int.reduceBEq, Int.reduceAdd, Int.reduceSub, Int.reduceMul, Int.reduceNeg, Int.reduceLT, Int.reduceLE, Int.reduceToNat, Nat.reduceLT, Nat.reduceAdd, Nat.reduceSub, Nat.reduceMul, Nat.reduceEqDiff, Nat.reduceLeDiff, Nat.reduceBEq, reduceIte, reduceCtorEq, fileS, Int.toNat_zero, W1]
    rw [wrap64 (n := 0 - (data.length : Int)) (by omega) (by omega), wrap64 (n := 1048576 - (data.length : Int)) (by omega) (by omega)]
    refine ⟨fun h4 => ?_, fun h4 => ?_⟩
    · rw [if_pos (by rcases h4 with h4 | h4 <;> omega)]
      exact Fin.w [0, 1, 2, 3, 4, 5, 6, 7] (.tup [.i .i64 0, .i .i64 4]) (kernS p c data F flags at_ rc wc) (by simp (maxSteps := 4000000) only [push_cast, Int.reduceEq, Int.reduceBNe, Int.reduceBEq, Int.reduceAdd, Int.reduceSub, Int.reduceMul, Int.reduceNeg, Int.reduceLT, Int.reduceLE, Int.reduceToNat, Nat.reduceLT, Nat.reduceAdd, Nat.reduceSub, Nat.reduceMul, Nat.reduceEqDiff, Nat.reduceLeDiff, Nat.reduceBEq, reduceIte, reduceCtorEq, kernS]; exact fun i _ j _ => W_fault _ F i j) ⟨rfl, rfl⟩
    · rw [if_neg (by omega), wrap64 (n := (data.length : Int) + off) (by omega) (by omega)]
      exact Fin.w [0, 1, 2, 3, 4, 5, 6, 7] (.tup [.i .i64 ((data.length : Int) + off), .i .i64 0]) (kernS p c data F flags ((data.length : Int) + off) rc wc) (by simp (maxSteps := 4000000) only [push_cast, Int.reduceEq, Int.reduceBNe, Int.reduceBEq, Int.reduceAdd, Int.reduceSub, Int.reduceMul, Int.reduceNeg, Int.reduceLT, Int.reduceLE, Int.reduceToNat, Nat.reduceLT, Nat.reduceAdd, Nat.reduceSub, Nat.reduceMul, Nat.reduceEqDiff, Nat.reduceLeDiff, Nat.reduceBEq, reduceIte, reduceCtorEq, kernS]; exact fun i _ j _ => W_fault _ F i j) ⟨rfl, rfl⟩
def kSk (s : KSt) (off w : Int) : KSt × Int × Int := (⟨s.data, (gK 1048576 s.data s.at_ off w).1.2, s.F, s.rc, s.wc⟩, (gK 1048576 s.data s.at_ off w).2.1, (gK 1048576 s.data s.at_ off w).2.2)
theorem kernSeekR_c (b : Nat) (flags : Int) (hf : flags = 3 ∨ flags = 7) (s : KSt) (hs : KOk s) (off w : Int) : Contract Tryz.prog 188 (preR (kernR b flags s)) [.raw (.pointer (some ⟨b, 0, none⟩)), .i .i64 1, .i .i64 off, .i .i64 w] (fun sv post => sv = .tup [.i .i64 (kSk s off w).2.1, .i .i64 (kSk s off w).2.2] ∧ post = preR (kernR b flags (kSk s off w).1)) := by
  refine kern_fold b flags s (kSk s off w).1 [.i .i64 1, .i .i64 off, .i .i64 w] (by simp [NNL, NN]) (fun sv => sv = .tup [.i .i64 (kSk s off w).2.1, .i .i64 (kSk s off w).2.2]) ?_ fun p c => ?_
  · rintro sv rfl
    exact ⟨by simp (maxSteps := 4000000) only [push_cast, Int.reduceEq, Int.reduceBNe, Int.reduceBEq, Int.reduceAdd, Int.reduceSub, Int.reduceMul, Int.reduceNeg, Int.reduceLT, Int.reduceLE, Int.reduceToNat, Nat.reduceLT, Nat.reduceAdd, Nat.reduceSub, Nat.reduceMul, Nat.reduceEqDiff, Nat.reduceLeDiff, Nat.reduceBEq, reduceIte, reduceCtorEq], by simp [NN, NNL, NNT]⟩
  · refine (kernSeek_c p c s.data s.F flags s.at_ s.rc s.wc off w hf hs.a0 hs.a1 hs.d).mono ?_
    rintro sv post ⟨rfl, rfl⟩
    exact ⟨rfl, p, c, rfl⟩
theorem hdlSeek_c (b : Nat) (flags : Int) (hf : flags = 3 ∨ flags = 7) (s : KSt) (hs : KOk s) (off w : Int) : Contract Tryz.prog 205 (preR (kernR b flags s)) [hdl b, .i .i64 off, .i .i64 w] (fun sv post => sv = .tup [.i .i64 (kSk s off w).2.1, .i .i64 (kSk s off w).2.2] ∧ post = preR (kernR b flags (kSk s off w).1)) := by
  refine contract_ev Γok Tryz.func205 rfl rfl [] ?_
  simp (maxSteps := 4000000) only [push_cast, Int.reduceEq, Int.reduceBNe, Int.reduceBEq, Int.reduceAdd, Int.reduceSub, Int.reduceMul, Int.reduceNeg, Int.reduceLT, Int.reduceLE, Int.reduceToNat, Nat.reduceLT, Nat.reduceAdd, Nat.reduceSub, Nat.reduceMul, Nat.reduceEqDiff, Nat.reduceLeDiff, Nat.reduceBEq, reduceIte, reduceCtorEq, Tryz.f205, hdl]
  refine call_w (kernSeekR_c b flags hf s hs off w) [0] (by simp (maxSteps := 4000000) only [push_cast, Int.reduceEq, Int.reduceBNe, Int.reduceBEq, Int.reduceAdd, Int.reduceSub, Int.reduceMul, Int.reduceNeg, Int.reduceLT, Int.reduceLE, Int.reduceToNat, Nat.reduceLT, Nat.reduceAdd, Nat.reduceSub, Nat.reduceMul, Nat.reduceEqDiff, Nat.reduceLeDiff, Nat.reduceBEq, reduceIte, reduceCtorEq, preR]) ?_
  rintro sv post ⟨rfl, rfl⟩
  simp (maxSteps := 4000000) only [push_cast, Int.reduceEq, Int.reduceBNe, Int.reduceBEq, Int.reduceAdd, Int.reduceSub, Int.reduceMul, Int.reduceNeg, Int.reduceLT, Int.reduceLE, Int.reduceToNat, Nat.reduceLT, Nat.reduceAdd, Nat.reduceSub, Nat.reduceMul, Nat.reduceEqDiff, Nat.reduceLeDiff, Nat.reduceBEq, reduceIte, reduceCtorEq, preR]
  exact Fin.w [0] (.tup [.i .i64 (kSk s off w).2.1, .i .i64 (kSk s off w).2.2]) (preR (kernR b flags (kSk s off w).1)) (by simp (maxSteps := 4000000) only [push_cast, Int.reduceEq, Int.reduceBNe, Int.reduceBEq, Int.reduceAdd, Int.reduceSub, Int.reduceMul, Int.reduceNeg, Int.reduceLT, Int.reduceLE, Int.reduceToNat, Nat.reduceLT, Nat.reduceAdd, Nat.reduceSub, Nat.reduceMul, Nat.reduceEqDiff, Nat.reduceLeDiff, Nat.reduceBEq, reduceIte, reduceCtorEq, preR]) ⟨rfl, rfl⟩
end Go.Proofs.YtlgpcngfcglanaaGreat
/- A kernel's file feeds a stream: whatever faults there are. -/
namespace Go.Proofs.YtlgpcngfcglanaaGreat
open Go Go.Eng
set_option maxHeartbeats 4000000
set_option linter.unusedSimpArgs false
set_option linter.unusedVariables false
set_option maxRecDepth 100000

/-- What is left of the file. -/
def kRest (s : KSt) : List Int := s.data.drop s.at_.toNat
theorem nextF_err {F : List (Int × Int)} (n : Int) (h : (nextF F n).2.1 ≠ 0) : ((nextF F n).2.1 = 22 ∨ (nextF F n).2.1 = 23) ∧ (nextF F n).2.2.length < F.length := by
  cases F with
  | nil => exact absurd rfl h
  | cons f r =>
    unfold nextF at h ⊢
    dsimp only at h ⊢
    split
    · rename_i e
      rw [if_pos e] at h
      exact absurd rfl h
    · rename_i e
      rw [if_neg e] at h
      split
      · exact ⟨.inl rfl, by simp⟩
      · rename_i e2
        rw [if_neg e2] at h
        split
        · exact ⟨.inr rfl, by simp⟩
        · rename_i e3
          rw [if_neg e3] at h
          exact absurd rfl h
theorem readV_le (data : List Int) (p n : Int) (h : 0 ≤ n) : ((readV data p n).length : Int) ≤ n := by
  unfold readV
  rw [List.length_take]
  omega
theorem some_kern (b : Nat) (flags : Int) (n : Int) (h1 : 1 ≤ n) (h2 : n ≤ 1048576) : ∀ (k : Nat) (s : KSt), KOk s → s.F.length < k →
    ∃ s' m, (kernM b flags).some n k s = (s', readV s.data s.at_ m, 0) ∧ 1 ≤ m ∧ m ≤ n ∧ s'.data = s.data ∧ s'.at_ = s.at_ + (readV s.data s.at_ m).length
  | 0, s, h, hk => by omega
  | k + 1, s, h, hk => by
    have hl := readV_le s.data s.at_
    by_cases he : (nextF s.F n).2.1 = 0
    · obtain ⟨m1, m2⟩ := nextF_le h.f h1 he
      have e : kRead s.data s.F s.at_ n = (readV s.data s.at_ (nextF s.F n).1, 0, s.at_ + (readV s.data s.at_ (nextF s.F n).1).length) := by unfold kRead; rw [if_pos he]
      refine ⟨(kRd s n).1, (nextF s.F n).1, ?_, m1, m2, rfl, by show (kRead s.data s.F s.at_ n).2.2 = _; rw [e]⟩
      refine (RawM.some.eq_2 (kernM b flags) n s k).trans ?_
      have r0 : ((kernM b flags).rd s n) = ((kRd s n).1, readV s.data s.at_ (nextF s.F n).1, 0) := by
        show kRd s n = _
        unfold kRd
        rw [e]
      rw [r0]
      have := hl (nextF s.F n).1 (by omega)
      rw [if_neg (by simp), if_neg (by simp), if_neg (by dsimp only; omega)]
    · obtain ⟨e1, e2⟩ := nextF_err n he
      have e : kRead s.data s.F s.at_ n = ([], (nextF s.F n).2.1, s.at_) := by unfold kRead; rw [if_neg he]
      have r0 : ((kernM b flags).rd s n) = ((kRd s n).1, [], (nextF s.F n).2.1) := by
        show kRd s n = _
        unfold kRd
        rw [e]
      have hs' : (kRd s n).1 = ⟨s.data, s.at_, (nextF s.F n).2.2, w64 (s.rc + 1), s.wc⟩ := by
        unfold kRd
        rw [e]
      have ih := some_kern b flags n h1 h2 k (kRd s n).1 (kRd_ok h h1 h2) (by rw [hs']; show (nextF s.F n).2.2.length < k; omega)
      obtain ⟨s', m, i1, i2, i3, i4, i5⟩ := ih
      rw [hs'] at i1 i4 i5
      refine ⟨s', m, ?_, i2, i3, i4, i5⟩
      refine (RawM.some.eq_2 (kernM b flags) n s k).trans ?_
      rw [r0]
      dsimp only
      rw [if_pos (by exact e1), if_neg (by rintro rfl; have := e2; omega), hs']
      exact i1
theorem kern_feeds (b : Nat) (flags : Int) : Feeds (kernM b flags) kRest := by
  refine ⟨fun (s : KSt) n h h1 h2 => ?_⟩
  have h : KOk s := h
  obtain ⟨s', m, i1, i2, i3, i4, i5⟩ := some_kern b flags n h1 (by omega) 8192 s h (by have := h.fl; omega)
  have e : someV (kernM b flags) s n = (s', readV s.data s.at_ m, 0) := i1
  rw [e]
  have a0 := h.a0
  refine ⟨rfl, ?_, fun hn => ?_⟩
  · show readV s.data s.at_ m ++ s'.data.drop s'.at_.toNat = s.data.drop s.at_.toNat
    rw [i4, i5]
    have : (s.at_ + (readV s.data s.at_ m).length).toNat = s.at_.toNat + (readV s.data s.at_ m).length := by omega
    rw [this, ← List.drop_drop]
    unfold readV
    rw [List.length_take]
    by_cases hc : m.toNat ≤ (s.data.drop s.at_.toNat).length
    · rw [Nat.min_eq_left hc]; exact List.take_append_drop _ _
    · rw [Nat.min_eq_right (by omega), List.take_of_length_le (by omega), List.drop_length, List.append_nil]
  · have h' : readV s.data s.at_ m = [] := hn
    unfold readV at h'
    rw [List.take_eq_nil_iff] at h'
    rcases h' with h' | h'
    · omega
    · exact h'
end Go.Proofs.YtlgpcngfcglanaaGreat
