/- Texts joined, in order: Yq, Yr, Ys, Yt, Yu. -/
import Derived.Test.YtlajpggoncelhaaZYfYk
/- The page's scan: bytes as a source. -/
namespace Go.Proofs.Ytlajpggoncelhaa
open Go Go.Eng
set_option maxHeartbeats 4000000
set_option linter.unusedSimpArgs false
set_option linter.unusedVariables false
set_option maxRecDepth 100000

theorem blank18_c (c : UInt8) : Contract Try.prog 73 nilSS [.i .u8 (c.toNat : Int)] (fun sv post => sv = .b (isBlank c) ∧ post = nilSS) := by
  refine contract_ev Γok Try.func73 rfl rfl [] ?_
  simp (maxSteps := 4000000) only [push_cast, Int.reduceEq, Int.reduceBNe, Int.reduceBEq, Int.reduceAdd, Int.reduceSub, Int.reduceMul, Int.reduceNeg, Int.reduceLT, Int.reduceLE, Int.reduceToNat, Nat.reduceLT, Nat.reduceAdd, Nat.reduceSub, Nat.reduceMul, Nat.reduceEqDiff, Nat.reduceLeDiff, Nat.reduceBEq, reduceIte, reduceCtorEq, Try.f73]
  have h9 : ((c.toNat : Int) = 9) = (c = 9) := propext (u8iY c 9)
  have e : (((c.toNat : Int) == 32 || (c.toNat : Int) == 10) || (c.toNat : Int) == 9) = isBlank c := by
    unfold isBlank
    rw [Bool.eq_iff_iff]
    simp only [Bool.or_eq_true, beq_iff_eq, decide_eq_true_eq, u32, u10, h9]
  rw [e]
  exact Fin.w [] (.b (isBlank c)) _ (by simp (maxSteps := 4000000) only [push_cast, Int.reduceEq, Int.reduceBNe, Int.reduceBEq, Int.reduceAdd, Int.reduceSub, Int.reduceMul, Int.reduceNeg, Int.reduceLT, Int.reduceLE, Int.reduceToNat, Nat.reduceLT, Nat.reduceAdd, Nat.reduceSub, Nat.reduceMul, Nat.reduceEqDiff, Nat.reduceLeDiff, Nat.reduceBEq, reduceIte, reduceCtorEq]) ⟨rfl, rfl⟩

def srcL (b : List UInt8) (at_ : Nat) (z : Int) : List SV := [.ints .u8 .old (ofU b), .i .i64 at_, .b false, .b false, .i .i64 0, .i .i64 0, .ints .u8 .nil [], .ints .u8 .nil [], .ints .u8 .nil [], .i .i64 0, .b false, .b false, .b false, .nilp, .i .i64 z, .b false]
def srcS (b : List UInt8) (at_ : Nat) (z : Int) : SS := ⟨[], [(0, 70, srcL b at_ z)], [], [], 1, 1, []⟩
def isNext18 (b : List UInt8) (at_ : Nat) (z : Int) (sv : SV) (post : SS) : Prop :=
  if z ≠ 0 then sv = .tup [.i .u8 0, .b false] ∧ post = srcS b at_ z else
  match b.drop at_ with
  | [] => sv = .tup [.i .u8 0, .b false] ∧ post = srcS b at_ 111
  | c :: _ => sv = .tup [.i .u8 c.toNat, .b true] ∧ post = srcS b (at_ + 1) 0
theorem next18_c (b : List UInt8) (at_ : Nat) (z : Int) (hb : b.length ≤ 140737488355328) (hat : at_ ≤ b.length) : Contract Try.prog 51 (srcS b at_ z) [.ptr 0 0] (isNext18 b at_ z) := by
  refine contract_ev Γok Try.func51 rfl rfl [] ?_
  simp (maxSteps := 4000000) only [push_cast, Int.reduceEq, Int.reduceBNe, Int.reduceBEq, Int.reduceAdd, Int.reduceSub, Int.reduceMul, Int.reduceNeg, Int.reduceLT, Int.reduceLE, Int.reduceToNat, Nat.reduceLT, Nat.reduceAdd, Nat.reduceSub, Nat.reduceMul, Nat.reduceEqDiff, Nat.reduceLeDiff, Nat.reduceBEq, reduceIte, reduceCtorEq, Try.f51, srcS, srcL]
  refine ⟨fun h => ?_, fun h => ?_⟩
  · have hR : isNext18 b at_ z (.tup [.i .u8 0, .b false]) (srcS b at_ z) := by
      unfold isNext18
      rw [if_pos h]
      exact ⟨rfl, rfl⟩
    exact Fin.w [0] _ (srcS b at_ z) (by simp (maxSteps := 4000000) only [push_cast, Int.reduceEq, Int.reduceBNe, Int.reduceBEq, Int.reduceAdd, Int.reduceSub, Int.reduceMul, Int.reduceNeg, Int.reduceLT, Int.reduceLE, Int.reduceToNat, Nat.reduceLT, Nat.reduceAdd, Nat.reduceSub, Nat.reduceMul, Nat.reduceEqDiff, Nat.reduceLeDiff, Nat.reduceBEq, reduceIte, reduceCtorEq, srcS, srcL]) hR
  subst h
  refine (region_plan rfl Γok mixed (.pure 0 (.pure 1 (.pure 2 (.pure 3 (.pure 4 (.pure 5 (.pure 6 (.pure 7 (.pure 8 (.pure 9 .done)))))))))) 72 rfl (by kernel_rfl) ?_)
  simp (maxSteps := 4000000) only [push_cast, Int.reduceEq, Int.reduceBNe, Int.reduceBEq, Int.reduceAdd, Int.reduceSub, Int.reduceMul, Int.reduceNeg, Int.reduceLT, Int.reduceLE, Int.reduceToNat, Nat.reduceLT, Nat.reduceAdd, Nat.reduceSub, Nat.reduceMul, Nat.reduceEqDiff, Nat.reduceLeDiff, Nat.reduceBEq, reduceIte, reduceCtorEq, ofU_len]
  refine ⟨fun h => ?_, fun h => ?_⟩
  · have hR : isNext18 b at_ 0 (.tup [.i .u8 0, .b false]) (srcS b at_ 111) := by
      unfold isNext18
      rw [if_neg (by simp), List.drop_eq_nil_of_le (by omega)]
      exact ⟨rfl, rfl⟩
    exact Fin.w [0] _ (srcS b at_ 111) (by simp (maxSteps := 4000000) only [push_cast, Int.reduceEq, Int.reduceBNe, Int.reduceBEq, Int.reduceAdd, Int.reduceSub, Int.reduceMul, Int.reduceNeg, Int.reduceLT, Int.reduceLE, Int.reduceToNat, Nat.reduceLT, Nat.reduceAdd, Nat.reduceSub, Nat.reduceMul, Nat.reduceEqDiff, Nat.reduceLeDiff, Nat.reduceBEq, reduceIte, reduceCtorEq, srcS, srcL]) hR
  · have hlt : at_ < b.length := by omega
    have hR : isNext18 b at_ 0 (.tup [.i .u8 b[at_].toNat, .b true]) (srcS b (at_ + 1) 0) := by
      unfold isNext18
      rw [if_neg (by simp), List.drop_eq_getElem_cons hlt]
      exact ⟨rfl, rfl⟩
    have w1 : IntKind.i64.wrap ((at_ : Int) + 1) = (at_ : Int) + 1 := wrap64 (n := (at_ : Int) + 1) (by omega) (by omega)
    have w2 : IntKind.i64.wrap ((at_ : Int) + 1 - 1) = (at_ : Int) := by rw [show (at_ : Int) + 1 - 1 = at_ by omega]; exact wrap64 (n := (at_ : Int)) (by omega) (by omega)
    rw [w1]
    refine (region_plan rfl Γok mixed (.pure 0 (.pure 1 (.pure 2 (.pure 3 (.pure 4 (.pure 5 (.pure 6 (.pure 7 (.pure 8 (.pure 9 (.pure 10 (.pure 11 (.pure 12 .done))))))))))))) 72 rfl (by kernel_rfl) ?_)
    simp (maxSteps := 4000000) only [push_cast, Int.reduceEq, Int.reduceBNe, Int.reduceBEq, Int.reduceAdd, Int.reduceSub, Int.reduceMul, Int.reduceNeg, Int.reduceLT, Int.reduceLE, Int.reduceToNat, Nat.reduceLT, Nat.reduceAdd, Nat.reduceSub, Nat.reduceMul, Nat.reduceEqDiff, Nat.reduceLeDiff, Nat.reduceBEq, reduceIte, reduceCtorEq, ofU_len, w2]
    have e : (ofU b).getD (at_ : Int).toNat 0 = (b[at_].toNat : Int) := by
      rw [Int.toNat_natCast]
      simp [ofU, List.getD, hlt]
    rw [e]
    refine ⟨by omega, Fin.w [0] _ (srcS b (at_ + 1) 0) (by simp (maxSteps := 4000000) only [push_cast, Int.reduceEq, Int.reduceBNe, Int.reduceBEq, Int.reduceAdd, Int.reduceSub, Int.reduceMul, Int.reduceNeg, Int.reduceLT, Int.reduceLE, Int.reduceToNat, Nat.reduceLT, Nat.reduceAdd, Nat.reduceSub, Nat.reduceMul, Nat.reduceEqDiff, Nat.reduceLeDiff, Nat.reduceBEq, reduceIte, reduceCtorEq, srcS, srcL]) hR⟩
theorem back18_c (b : List UInt8) (at_ : Nat) (z : Int) (c : Int) (h0 : 1 ≤ at_) (hat : at_ ≤ 140737488355328) : Contract Try.prog 53 (srcS b at_ z) [.ptr 0 0, .i .u8 c] (fun sv post => sv = .tup [] ∧ post = srcS b (at_ - 1) z) := by
  refine contract_ev Γok Try.func53 rfl rfl [] ?_
  simp (maxSteps := 4000000) only [push_cast, Int.reduceEq, Int.reduceBNe, Int.reduceBEq, Int.reduceAdd, Int.reduceSub, Int.reduceMul, Int.reduceNeg, Int.reduceLT, Int.reduceLE, Int.reduceToNat, Nat.reduceLT, Nat.reduceAdd, Nat.reduceSub, Nat.reduceMul, Nat.reduceEqDiff, Nat.reduceLeDiff, Nat.reduceBEq, reduceIte, reduceCtorEq, Try.f53, srcS, srcL]
  rw [wrap64 (n := (at_ : Int) - 1) (by omega) (by omega)]
  exact Fin.w [0] (.tup []) (srcS b (at_ - 1) z) (by simp (maxSteps := 4000000) only [push_cast, Int.reduceEq, Int.reduceBNe, Int.reduceBEq, Int.reduceAdd, Int.reduceSub, Int.reduceMul, Int.reduceNeg, Int.reduceLT, Int.reduceLE, Int.reduceToNat, Nat.reduceLT, Nat.reduceAdd, Nat.reduceSub, Nat.reduceMul, Nat.reduceEqDiff, Nat.reduceLeDiff, Nat.reduceBEq, reduceIte, reduceCtorEq, srcS, srcL]; omega) ⟨rfl, rfl⟩
def isPass (b : List UInt8) (at_ : Nat) (sv : SV) (post : SS) : Prop :=
  sv = .tup [] ∧ post = srcS b (at_ + skipP (b.drop at_)) (endE (decide (skipP (b.drop at_) = (b.drop at_).length)))
theorem pass18_c (b : List UInt8) (at_ : Nat) (hb : b.length ≤ 140737488355328) (hat : at_ ≤ b.length) : Contract Try.prog 54 (srcS b at_ 0) [.ptr 0 0] (isPass b at_) := by
  refine contract_of Γok Try.func54 rfl rfl (stop := []) ?_
  refine evCode_sound Γok _ _ _ ?_
  simp (maxSteps := 4000000) only [push_cast, Int.reduceEq, Int.reduceBNe, Int.reduceBEq, Int.reduceAdd, Int.reduceSub, Int.reduceMul, Int.reduceNeg, Int.reduceLT, Int.reduceLE, Int.reduceToNat, Nat.reduceLT, Nat.reduceAdd, Nat.reduceSub, Nat.reduceMul, Nat.reduceEqDiff, Nat.reduceLeDiff, Nat.reduceBEq, reduceIte, reduceCtorEq, Try.f54, srcS, srcL]
  refine loop_ok (ι := {q : Nat × List UInt8 // skipP (b.drop at_) = q.1 + skipP q.2 ∧ b.drop (at_ + q.1) = q.2 ∧ at_ + q.1 ≤ b.length})
    (fun q => ⟨[.ptr 0 0] ++ List.replicate 16 .any, [(0, 70, srcL b (at_ + q.1.1) 0)], [], [], 1, 1, []⟩) (fun q => q.1.2.length) ⟨(0, b.drop at_), by simp, by simp, by simpa using hat⟩ ?_ ?_
  · refine Sub.w [0] ?_
    simp (maxSteps := 4000000) only [push_cast, Int.reduceEq, Int.reduceBNe, Int.reduceBEq, Int.reduceAdd, Int.reduceSub, Int.reduceMul, Int.reduceNeg, Int.reduceLT, Int.reduceLE, Int.reduceToNat, Nat.reduceLT, Nat.reduceAdd, Nat.reduceSub, Nat.reduceMul, Nat.reduceEqDiff, Nat.reduceLeDiff, Nat.reduceBEq, reduceIte, reduceCtorEq, srcL]
  rintro ⟨⟨n, r⟩, h1, h2, h3⟩
  simp only at h1 h2 h3
  refine evCode_sound Γok _ _ _ ?_
  simp (maxSteps := 4000000) only [push_cast, Int.reduceEq, Int.reduceBNe, Int.reduceBEq, Int.reduceAdd, Int.reduceSub, Int.reduceMul, Int.reduceNeg, Int.reduceLT, Int.reduceLE, Int.reduceToNat, Nat.reduceLT, Nat.reduceAdd, Nat.reduceSub, Nat.reduceMul, Nat.reduceEqDiff, Nat.reduceLeDiff, Nat.reduceBEq, reduceIte, reduceCtorEq, srcL]
  refine call_w (next18_c b (at_ + n) 0 hb h3) [0] (by simp (maxSteps := 4000000) only [push_cast, Int.reduceEq, Int.reduceBNe, Int.reduceBEq, Int.reduceAdd, Int.reduceSub, Int.reduceMul, Int.reduceNeg, Int.reduceLT, Int.reduceLE, Int.reduceToNat, Nat.reduceLT, Nat.reduceAdd, Nat.reduceSub, Nat.reduceMul, Nat.reduceEqDiff, Nat.reduceLeDiff, Nat.reduceBEq, reduceIte, reduceCtorEq, srcS, srcL]) ?_
  intro sv post hN
  unfold isNext18 at hN
  rw [if_neg (by simp), h2] at hN
  have hlen : (b.drop at_).length = n + r.length := by
    have := congrArg List.length h2
    rw [List.length_drop] at this ⊢
    omega
  have fin : ∀ x : Int, skipP r = 0 → x = endE (decide (r.length = 0)) → isPass b at_ (.tup []) (srcS b (at_ + n) x) := by
    rintro x hs rfl
    unfold isPass
    rw [h1, hs, hlen]
    refine ⟨rfl, ?_⟩
    congr 2
    rw [decide_eq_decide]
    omega
  cases r with
  | nil =>
    obtain ⟨rfl, rfl⟩ := hN
    simp (maxSteps := 4000000) only [push_cast, Int.reduceEq, Int.reduceBNe, Int.reduceBEq, Int.reduceAdd, Int.reduceSub, Int.reduceMul, Int.reduceNeg, Int.reduceLT, Int.reduceLE, Int.reduceToNat, Nat.reduceLT, Nat.reduceAdd, Nat.reduceSub, Nat.reduceMul, Nat.reduceEqDiff, Nat.reduceLeDiff, Nat.reduceBEq, reduceIte, reduceCtorEq, srcS, srcL]
    exact Fin.w [0] (.tup []) (srcS b (at_ + n) 111) (by simp (maxSteps := 4000000) only [push_cast, Int.reduceEq, Int.reduceBNe, Int.reduceBEq, Int.reduceAdd, Int.reduceSub, Int.reduceMul, Int.reduceNeg, Int.reduceLT, Int.reduceLE, Int.reduceToNat, Nat.reduceLT, Nat.reduceAdd, Nat.reduceSub, Nat.reduceMul, Nat.reduceEqDiff, Nat.reduceLeDiff, Nat.reduceBEq, reduceIte, reduceCtorEq, srcS, srcL]) (fin 111 rfl rfl)
  | cons c r =>
    obtain ⟨rfl, rfl⟩ := hN
    simp (maxSteps := 4000000) only [push_cast, Int.reduceEq, Int.reduceBNe, Int.reduceBEq, Int.reduceAdd, Int.reduceSub, Int.reduceMul, Int.reduceNeg, Int.reduceLT, Int.reduceLE, Int.reduceToNat, Nat.reduceLT, Nat.reduceAdd, Nat.reduceSub, Nat.reduceMul, Nat.reduceEqDiff, Nat.reduceLeDiff, Nat.reduceBEq, reduceIte, reduceCtorEq, srcS, srcL]
    refine call_w (blank18_c c) [] (by simp (maxSteps := 4000000) only [push_cast, Int.reduceEq, Int.reduceBNe, Int.reduceBEq, Int.reduceAdd, Int.reduceSub, Int.reduceMul, Int.reduceNeg, Int.reduceLT, Int.reduceLE, Int.reduceToNat, Nat.reduceLT, Nat.reduceAdd, Nat.reduceSub, Nat.reduceMul, Nat.reduceEqDiff, Nat.reduceLeDiff, Nat.reduceBEq, reduceIte, reduceCtorEq]) ?_
    rintro sv post ⟨rfl, rfl⟩
    have hlt : at_ + n < b.length := by
      rw [List.length_drop, List.length_cons] at hlen
      omega
    rcases hbk : isBlank c with _ | _
    · simp (maxSteps := 4000000) only [push_cast, Int.reduceEq, Int.reduceBNe, Int.reduceBEq, Int.reduceAdd, Int.reduceSub, Int.reduceMul, Int.reduceNeg, Int.reduceLT, Int.reduceLE, Int.reduceToNat, Nat.reduceLT, Nat.reduceAdd, Nat.reduceSub, Nat.reduceMul, Nat.reduceEqDiff, Nat.reduceLeDiff, Nat.reduceBEq, reduceIte, reduceCtorEq]
      refine call_w (back18_c b (at_ + n + 1) 0 c.toNat (by omega) (by omega)) [0] (by simp (maxSteps := 4000000) only [push_cast, Int.reduceEq, Int.reduceBNe, Int.reduceBEq, Int.reduceAdd, Int.reduceSub, Int.reduceMul, Int.reduceNeg, Int.reduceLT, Int.reduceLE, Int.reduceToNat, Nat.reduceLT, Nat.reduceAdd, Nat.reduceSub, Nat.reduceMul, Nat.reduceEqDiff, Nat.reduceLeDiff, Nat.reduceBEq, reduceIte, reduceCtorEq, srcS, srcL]) ?_
      rintro sv post ⟨rfl, rfl⟩
      simp (maxSteps := 4000000) only [push_cast, Int.reduceEq, Int.reduceBNe, Int.reduceBEq, Int.reduceAdd, Int.reduceSub, Int.reduceMul, Int.reduceNeg, Int.reduceLT, Int.reduceLE, Int.reduceToNat, Nat.reduceLT, Nat.reduceAdd, Nat.reduceSub, Nat.reduceMul, Nat.reduceEqDiff, Nat.reduceLeDiff, Nat.reduceBEq, reduceIte, reduceCtorEq, srcS, srcL, Nat.add_sub_cancel]
      exact Fin.w [0] (.tup []) (srcS b (at_ + n) 0) (by simp (maxSteps := 4000000) only [push_cast, Int.reduceEq, Int.reduceBNe, Int.reduceBEq, Int.reduceAdd, Int.reduceSub, Int.reduceMul, Int.reduceNeg, Int.reduceLT, Int.reduceLE, Int.reduceToNat, Nat.reduceLT, Nat.reduceAdd, Nat.reduceSub, Nat.reduceMul, Nat.reduceEqDiff, Nat.reduceLeDiff, Nat.reduceBEq, reduceIte, reduceCtorEq, srcS, srcL]) (fin 0 (by simp only [skipP, hbk]; rfl) rfl)
    · simp (maxSteps := 4000000) only [push_cast, Int.reduceEq, Int.reduceBNe, Int.reduceBEq, Int.reduceAdd, Int.reduceSub, Int.reduceMul, Int.reduceNeg, Int.reduceLT, Int.reduceLE, Int.reduceToNat, Nat.reduceLT, Nat.reduceAdd, Nat.reduceSub, Nat.reduceMul, Nat.reduceEqDiff, Nat.reduceLeDiff, Nat.reduceBEq, reduceIte, reduceCtorEq]
      refine ⟨⟨(n + 1, r), by rw [h1]; simp only [skipP, hbk, if_true]; omega, by rw [← Nat.add_assoc, ← List.drop_drop, h2]; rfl, by simp only; omega⟩, by simp only [List.length_cons]; omega, Sub.w [0] ?_⟩
      simp (maxSteps := 4000000) only [push_cast, Int.reduceEq, Int.reduceBNe, Int.reduceBEq, Int.reduceAdd, Int.reduceSub, Int.reduceMul, Int.reduceNeg, Int.reduceLT, Int.reduceLE, Int.reduceToNat, Nat.reduceLT, Nat.reduceAdd, Nat.reduceSub, Nat.reduceMul, Nat.reduceEqDiff, Nat.reduceLeDiff, Nat.reduceBEq, reduceIte, reduceCtorEq, srcL]
      omega
end Go.Proofs.Ytlajpggoncelhaa
/- The page's scan: what fits; what digits are worth. -/
namespace Go.Proofs.Ytlajpggoncelhaa
open Go Go.Eng
set_option maxHeartbeats 4000000
set_option linter.unusedSimpArgs false
set_option linter.unusedVariables false
set_option maxRecDepth 100000

def fit18 (v c : UInt8) : Bool := if v = 115 then !isBlank c else fitB (baseQ v) c
def vbI (v : UInt8) : Prop := v = 100 ∨ v = 117 ∨ v = 120 ∨ v = 111 ∨ v = 115
theorem fitD : ∀ c : Fin 256, (decide ((48 : Int) ≤ (c.val : Int)) && decide ((c.val : Int) ≤ 57)) = fit18 100 (UInt8.ofNat c.val) ∧ (decide ((48 : Int) ≤ (c.val : Int)) && decide ((c.val : Int) ≤ 57)) = fit18 117 (UInt8.ofNat c.val) ∧
    (decide ((48 : Int) ≤ (c.val : Int)) && decide ((c.val : Int) ≤ 55)) = fit18 111 (UInt8.ofNat c.val) ∧
    (decide ((48 : Int) ≤ (c.val : Int)) && decide ((c.val : Int) ≤ 57) || decide ((97 : Int) ≤ (c.val : Int)) && decide ((c.val : Int) ≤ 102) || decide ((65 : Int) ≤ (c.val : Int)) && decide ((c.val : Int) ≤ 70)) = fit18 120 (UInt8.ofNat c.val) := by decide +kernel
theorem fits18_c (v c : UInt8) (hv : vbI v) : Contract Try.prog 74 nilSS [.i .u8 (v.toNat : Int), .i .u8 (c.toNat : Int)] (fun sv post => sv = .b (fit18 v c) ∧ post = nilSS) := by
  have hd := fitD ⟨c.toNat, u8_lt c⟩
  simp only [UInt8.ofNat_toNat] at hd
  obtain ⟨d1, d2, d3, d4⟩ := hd
  refine contract_ev Γok Try.func74 rfl rfl [] ?_
  obtain ⟨n, hn⟩ : ∃ n : Int, n = (v.toNat : Int) := ⟨_, rfl⟩
  rw [← hn]
  rcases hv with rfl | rfl | rfl | rfl | rfl
  · obtain rfl : n = 100 := hn
    simp (maxSteps := 4000000) only [push_cast, Int.reduceEq, Int.reduceBNe, Int.reduceBEq, Int.reduceAdd, Int.reduceSub, Int.reduceMul, Int.reduceNeg, Int.reduceLT, Int.reduceLE, Int.reduceToNat, Nat.reduceLT, Nat.reduceAdd, Nat.reduceSub, Nat.reduceMul, Nat.reduceEqDiff, Nat.reduceLeDiff, Nat.reduceBEq, reduceIte, reduceCtorEq, Try.f74]
    rw [d1]
    exact Fin.w [] (.b _) _ (by simp (maxSteps := 4000000) only [push_cast, Int.reduceEq, Int.reduceBNe, Int.reduceBEq, Int.reduceAdd, Int.reduceSub, Int.reduceMul, Int.reduceNeg, Int.reduceLT, Int.reduceLE, Int.reduceToNat, Nat.reduceLT, Nat.reduceAdd, Nat.reduceSub, Nat.reduceMul, Nat.reduceEqDiff, Nat.reduceLeDiff, Nat.reduceBEq, reduceIte, reduceCtorEq]) ⟨rfl, rfl⟩
  · obtain rfl : n = 117 := hn
    simp (maxSteps := 4000000) only [push_cast, Int.reduceEq, Int.reduceBNe, Int.reduceBEq, Int.reduceAdd, Int.reduceSub, Int.reduceMul, Int.reduceNeg, Int.reduceLT, Int.reduceLE, Int.reduceToNat, Nat.reduceLT, Nat.reduceAdd, Nat.reduceSub, Nat.reduceMul, Nat.reduceEqDiff, Nat.reduceLeDiff, Nat.reduceBEq, reduceIte, reduceCtorEq, Try.f74]
    rw [d2]
    exact Fin.w [] (.b _) _ (by simp (maxSteps := 4000000) only [push_cast, Int.reduceEq, Int.reduceBNe, Int.reduceBEq, Int.reduceAdd, Int.reduceSub, Int.reduceMul, Int.reduceNeg, Int.reduceLT, Int.reduceLE, Int.reduceToNat, Nat.reduceLT, Nat.reduceAdd, Nat.reduceSub, Nat.reduceMul, Nat.reduceEqDiff, Nat.reduceLeDiff, Nat.reduceBEq, reduceIte, reduceCtorEq]) ⟨rfl, rfl⟩
  · obtain rfl : n = 120 := hn
    simp (maxSteps := 4000000) only [push_cast, Int.reduceEq, Int.reduceBNe, Int.reduceBEq, Int.reduceAdd, Int.reduceSub, Int.reduceMul, Int.reduceNeg, Int.reduceLT, Int.reduceLE, Int.reduceToNat, Nat.reduceLT, Nat.reduceAdd, Nat.reduceSub, Nat.reduceMul, Nat.reduceEqDiff, Nat.reduceLeDiff, Nat.reduceBEq, reduceIte, reduceCtorEq, Try.f74]
    rw [d4]
    exact Fin.w [] (.b _) _ (by simp (maxSteps := 4000000) only [push_cast, Int.reduceEq, Int.reduceBNe, Int.reduceBEq, Int.reduceAdd, Int.reduceSub, Int.reduceMul, Int.reduceNeg, Int.reduceLT, Int.reduceLE, Int.reduceToNat, Nat.reduceLT, Nat.reduceAdd, Nat.reduceSub, Nat.reduceMul, Nat.reduceEqDiff, Nat.reduceLeDiff, Nat.reduceBEq, reduceIte, reduceCtorEq]) ⟨rfl, rfl⟩
  · obtain rfl : n = 111 := hn
    simp (maxSteps := 4000000) only [push_cast, Int.reduceEq, Int.reduceBNe, Int.reduceBEq, Int.reduceAdd, Int.reduceSub, Int.reduceMul, Int.reduceNeg, Int.reduceLT, Int.reduceLE, Int.reduceToNat, Nat.reduceLT, Nat.reduceAdd, Nat.reduceSub, Nat.reduceMul, Nat.reduceEqDiff, Nat.reduceLeDiff, Nat.reduceBEq, reduceIte, reduceCtorEq, Try.f74]
    rw [d3]
    exact Fin.w [] (.b _) _ (by simp (maxSteps := 4000000) only [push_cast, Int.reduceEq, Int.reduceBNe, Int.reduceBEq, Int.reduceAdd, Int.reduceSub, Int.reduceMul, Int.reduceNeg, Int.reduceLT, Int.reduceLE, Int.reduceToNat, Nat.reduceLT, Nat.reduceAdd, Nat.reduceSub, Nat.reduceMul, Nat.reduceEqDiff, Nat.reduceLeDiff, Nat.reduceBEq, reduceIte, reduceCtorEq]) ⟨rfl, rfl⟩
  · obtain rfl : n = 115 := hn
    simp (maxSteps := 4000000) only [push_cast, Int.reduceEq, Int.reduceBNe, Int.reduceBEq, Int.reduceAdd, Int.reduceSub, Int.reduceMul, Int.reduceNeg, Int.reduceLT, Int.reduceLE, Int.reduceToNat, Nat.reduceLT, Nat.reduceAdd, Nat.reduceSub, Nat.reduceMul, Nat.reduceEqDiff, Nat.reduceLeDiff, Nat.reduceBEq, reduceIte, reduceCtorEq, Try.f74]
    refine call_w (blank18_c c) [] (by simp (maxSteps := 4000000) only [push_cast, Int.reduceEq, Int.reduceBNe, Int.reduceBEq, Int.reduceAdd, Int.reduceSub, Int.reduceMul, Int.reduceNeg, Int.reduceLT, Int.reduceLE, Int.reduceToNat, Nat.reduceLT, Nat.reduceAdd, Nat.reduceSub, Nat.reduceMul, Nat.reduceEqDiff, Nat.reduceLeDiff, Nat.reduceBEq, reduceIte, reduceCtorEq]) ?_
    rintro sv post ⟨rfl, rfl⟩
    simp (maxSteps := 4000000) only [push_cast, Int.reduceEq, Int.reduceBNe, Int.reduceBEq, Int.reduceAdd, Int.reduceSub, Int.reduceMul, Int.reduceNeg, Int.reduceLT, Int.reduceLE, Int.reduceToNat, Nat.reduceLT, Nat.reduceAdd, Nat.reduceSub, Nat.reduceMul, Nat.reduceEqDiff, Nat.reduceLeDiff, Nat.reduceBEq, reduceIte, reduceCtorEq]
    exact Fin.w [] (.b (fit18 115 c)) _ (by simp (maxSteps := 4000000) only [push_cast, Int.reduceEq, Int.reduceBNe, Int.reduceBEq, Int.reduceAdd, Int.reduceSub, Int.reduceMul, Int.reduceNeg, Int.reduceLT, Int.reduceLE, Int.reduceToNat, Nat.reduceLT, Nat.reduceAdd, Nat.reduceSub, Nat.reduceMul, Nat.reduceEqDiff, Nat.reduceLeDiff, Nat.reduceBEq, reduceIte, reduceCtorEq]; rfl) ⟨rfl, rfl⟩

theorem failed18_c (b : List UInt8) (at_ : Nat) (z : Int) : Contract Try.prog 52 (srcS b at_ z) [.ptr 0 0] (fun sv post => sv = .i .i64 (if z = 0 then 181 else z) ∧ post = srcS b at_ z) := by
  refine contract_ev Γok Try.func52 rfl rfl [] ?_
  simp (maxSteps := 4000000) only [push_cast, Int.reduceEq, Int.reduceBNe, Int.reduceBEq, Int.reduceAdd, Int.reduceSub, Int.reduceMul, Int.reduceNeg, Int.reduceLT, Int.reduceLE, Int.reduceToNat, Nat.reduceLT, Nat.reduceAdd, Nat.reduceSub, Nat.reduceMul, Nat.reduceEqDiff, Nat.reduceLeDiff, Nat.reduceBEq, reduceIte, reduceCtorEq, Try.f52, srcS, srcL]
  refine ⟨fun h => ?_, fun h => ?_⟩
  · exact Fin.w [0] (.i .i64 z) (srcS b at_ z) (by simp (maxSteps := 4000000) only [push_cast, Int.reduceEq, Int.reduceBNe, Int.reduceBEq, Int.reduceAdd, Int.reduceSub, Int.reduceMul, Int.reduceNeg, Int.reduceLT, Int.reduceLE, Int.reduceToNat, Nat.reduceLT, Nat.reduceAdd, Nat.reduceSub, Nat.reduceMul, Nat.reduceEqDiff, Nat.reduceLeDiff, Nat.reduceBEq, reduceIte, reduceCtorEq, srcS, srcL]) ⟨by rw [if_neg h], rfl⟩
  · subst h
    exact Fin.w [0] (.i .i64 181) (srcS b at_ 0) (by simp (maxSteps := 4000000) only [push_cast, Int.reduceEq, Int.reduceBNe, Int.reduceBEq, Int.reduceAdd, Int.reduceSub, Int.reduceMul, Int.reduceNeg, Int.reduceLT, Int.reduceLE, Int.reduceToNat, Nat.reduceLT, Nat.reduceAdd, Nat.reduceSub, Nat.reduceMul, Nat.reduceEqDiff, Nat.reduceLeDiff, Nat.reduceBEq, reduceIte, reduceCtorEq, srcS, srcL]) ⟨rfl, rfl⟩
theorem soft18_c (b : List UInt8) (at_ : Nat) (z : Int) : Contract Try.prog 55 (srcS b at_ z) [.ptr 0 0] (fun sv post => sv = .i .i64 (if z = 111 then 0 else z) ∧ post = srcS b at_ (if z = 111 then 0 else z)) := by
  refine contract_ev Γok Try.func55 rfl rfl [] ?_
  simp (maxSteps := 4000000) only [push_cast, Int.reduceEq, Int.reduceBNe, Int.reduceBEq, Int.reduceAdd, Int.reduceSub, Int.reduceMul, Int.reduceNeg, Int.reduceLT, Int.reduceLE, Int.reduceToNat, Nat.reduceLT, Nat.reduceAdd, Nat.reduceSub, Nat.reduceMul, Nat.reduceEqDiff, Nat.reduceLeDiff, Nat.reduceBEq, reduceIte, reduceCtorEq, Try.f55, srcS, srcL]
  refine ⟨fun h => ?_, fun h => ?_⟩
  · exact Fin.w [0] (.i .i64 0) (srcS b at_ 0) (by simp (maxSteps := 4000000) only [push_cast, Int.reduceEq, Int.reduceBNe, Int.reduceBEq, Int.reduceAdd, Int.reduceSub, Int.reduceMul, Int.reduceNeg, Int.reduceLT, Int.reduceLE, Int.reduceToNat, Nat.reduceLT, Nat.reduceAdd, Nat.reduceSub, Nat.reduceMul, Nat.reduceEqDiff, Nat.reduceLeDiff, Nat.reduceBEq, reduceIte, reduceCtorEq, srcS, srcL]) ⟨by rw [if_pos h], by rw [if_pos h]; rfl⟩
  · exact Fin.w [0] (.i .i64 z) (srcS b at_ z) (by simp (maxSteps := 4000000) only [push_cast, Int.reduceEq, Int.reduceBNe, Int.reduceBEq, Int.reduceAdd, Int.reduceSub, Int.reduceMul, Int.reduceNeg, Int.reduceLT, Int.reduceLE, Int.reduceToNat, Nat.reduceLT, Nat.reduceAdd, Nat.reduceSub, Nat.reduceMul, Nat.reduceEqDiff, Nat.reduceLeDiff, Nat.reduceBEq, reduceIte, reduceCtorEq, srcS, srcL]) ⟨by rw [if_neg h], by rw [if_neg h]; rfl⟩

/-- What is run through: of a source that has failed, nothing. -/
def runQ (v : UInt8) (most : Nat) (l : List UInt8) (z : Int) : Got := if z ≠ 0 then ⟨[], l, false⟩ else takeP (fit18 v) most l
def isRun (v : UInt8) (most : Nat) (b : List UInt8) (at_ : Nat) (z : Int) (sv : SV) (post : SS) : Prop :=
  sv = .s (bs (runQ v most (b.drop at_) z).s) ∧ post = srcS b (at_ + (runQ v most (b.drop at_) z).s.length) (if z ≠ 0 then z else endE (runQ v most (b.drop at_) z).ended)
theorem run18_c (v : UInt8) (hv : vbI v) (most : Nat) (hm : most ≤ 100000) (b : List UInt8) (at_ : Nat) (z : Int) (hb : b.length ≤ 140737488355328) (hat : at_ ≤ b.length) :
    Contract Try.prog 57 (srcS b at_ z) [.ptr 0 0, .i .u8 (v.toNat : Int), .i .i64 most] (isRun v most b at_ z) := by
  refine contract_ev Γok Try.func57 rfl rfl [] ?_
  simp (maxSteps := 4000000) only [push_cast, Int.reduceEq, Int.reduceBNe, Int.reduceBEq, Int.reduceAdd, Int.reduceSub, Int.reduceMul, Int.reduceNeg, Int.reduceLT, Int.reduceLE, Int.reduceToNat, Nat.reduceLT, Nat.reduceAdd, Nat.reduceSub, Nat.reduceMul, Nat.reduceEqDiff, Nat.reduceLeDiff, Nat.reduceBEq, reduceIte, reduceCtorEq, Try.f57, srcS, srcL]
  refine loop_ok (ι := {q : List UInt8 × Nat × List UInt8 // (q.1 = [] ∨ z = 0) ∧ (z = 0 → (takeP (fit18 v) most (b.drop at_)).s = q.1 ++ (takeP (fit18 v) q.2.1 q.2.2).s ∧ (takeP (fit18 v) most (b.drop at_)).ended = (takeP (fit18 v) q.2.1 q.2.2).ended) ∧ q.1.length + q.2.1 = most ∧ b.drop (at_ + q.1.length) = q.2.2 ∧ at_ + q.1.length ≤ b.length})
    (fun q => ⟨[.ptr 0 0, .i .u8 (v.toNat : Int), .i .i64 most, .any, .any, .any, .any, .ints .u8 (.tok 1 true) (ofU q.1.1)] ++ List.replicate 30 .any, [(0, 70, srcL b (at_ + q.1.1.length) z)], [1], [], 2, 1, []⟩) (fun q => q.1.2.1) ⟨([], most, b.drop at_), .inl rfl, fun _ => ⟨by simp, rfl⟩, by simp, by simp, by simpa using hat⟩ ?_ ?_
  · refine Sub.trans (Sub.tokFr 7 rfl) (Sub.w [0, 1] ?_)
    simp (maxSteps := 4000000) only [push_cast, Int.reduceEq, Int.reduceBNe, Int.reduceBEq, Int.reduceAdd, Int.reduceSub, Int.reduceMul, Int.reduceNeg, Int.reduceLT, Int.reduceLE, Int.reduceToNat, Nat.reduceLT, Nat.reduceAdd, Nat.reduceSub, Nat.reduceMul, Nat.reduceEqDiff, Nat.reduceLeDiff, Nat.reduceBEq, reduceIte, reduceCtorEq, srcL]
    rfl
  rintro ⟨⟨out, k, r⟩, h0, h12, h3, h4, h5⟩
  simp only at h0 h12 h3 h4 h5
  refine evCode_sound Γok _ _ _ ?_
  simp (maxSteps := 4000000) only [push_cast, Int.reduceEq, Int.reduceBNe, Int.reduceBEq, Int.reduceAdd, Int.reduceSub, Int.reduceMul, Int.reduceNeg, Int.reduceLT, Int.reduceLE, Int.reduceToNat, Nat.reduceLT, Nat.reduceAdd, Nat.reduceSub, Nat.reduceMul, Nat.reduceEqDiff, Nat.reduceLeDiff, Nat.reduceBEq, reduceIte, reduceCtorEq, ofU_len, srcL]
  have fin : ∀ (x : Int), runQ v most (b.drop at_) z = ⟨out, (runQ v most (b.drop at_) z).rest, (runQ v most (b.drop at_) z).ended⟩ → x = (if z ≠ 0 then z else endE (runQ v most (b.drop at_) z).ended) → isRun v most b at_ z (.s (bs out)) (srcS b (at_ + out.length) x) := by
    rintro x hs rfl
    unfold isRun
    rw [hs]
    exact ⟨rfl, rfl⟩
  refine ⟨fun h => ?_, fun h => ?_⟩
  · obtain ⟨k, rfl⟩ : ∃ k', k = k' + 1 := ⟨k - 1, by omega⟩
    refine call_w (next18_c b (at_ + out.length) z hb h5) [0] (by simp (maxSteps := 4000000) only [push_cast, Int.reduceEq, Int.reduceBNe, Int.reduceBEq, Int.reduceAdd, Int.reduceSub, Int.reduceMul, Int.reduceNeg, Int.reduceLT, Int.reduceLE, Int.reduceToNat, Nat.reduceLT, Nat.reduceAdd, Nat.reduceSub, Nat.reduceMul, Nat.reduceEqDiff, Nat.reduceLeDiff, Nat.reduceBEq, reduceIte, reduceCtorEq, srcS, srcL]) ?_
    intro sv post hN
    unfold isNext18 at hN
    rw [h4] at hN
    by_cases hz : z ≠ 0
    · rw [if_pos hz] at hN
      obtain ⟨rfl, rfl⟩ := hN
      simp (maxSteps := 4000000) only [push_cast, Int.reduceEq, Int.reduceBNe, Int.reduceBEq, Int.reduceAdd, Int.reduceSub, Int.reduceMul, Int.reduceNeg, Int.reduceLT, Int.reduceLE, Int.reduceToNat, Nat.reduceLT, Nat.reduceAdd, Nat.reduceSub, Nat.reduceMul, Nat.reduceEqDiff, Nat.reduceLeDiff, Nat.reduceBEq, reduceIte, reduceCtorEq, srcS, srcL, ofU_len]
      rw [bs_str]
      obtain rfl : out = [] := h0.resolve_right hz
      exact Fin.w [0] _ (srcS b (at_ + 0) z) (by simp (maxSteps := 4000000) only [push_cast, Int.reduceEq, Int.reduceBNe, Int.reduceBEq, Int.reduceAdd, Int.reduceSub, Int.reduceMul, Int.reduceNeg, Int.reduceLT, Int.reduceLE, Int.reduceToNat, Nat.reduceLT, Nat.reduceAdd, Nat.reduceSub, Nat.reduceMul, Nat.reduceEqDiff, Nat.reduceLeDiff, Nat.reduceBEq, reduceIte, reduceCtorEq, srcS, srcL]; simp) (fin z (by unfold runQ; rw [if_pos hz]) (by rw [if_pos hz]))
    rw [if_neg hz] at hN
    obtain rfl : z = 0 := by simpa using hz
    obtain ⟨h1, h2⟩ := h12 rfl
    have eR : runQ v most (b.drop at_) 0 = takeP (fit18 v) most (b.drop at_) := if_neg (by simp)
    rw [eR] at fin
    cases r with
    | nil =>
      obtain ⟨rfl, rfl⟩ := hN
      simp (maxSteps := 4000000) only [push_cast, Int.reduceEq, Int.reduceBNe, Int.reduceBEq, Int.reduceAdd, Int.reduceSub, Int.reduceMul, Int.reduceNeg, Int.reduceLT, Int.reduceLE, Int.reduceToNat, Nat.reduceLT, Nat.reduceAdd, Nat.reduceSub, Nat.reduceMul, Nat.reduceEqDiff, Nat.reduceLeDiff, Nat.reduceBEq, reduceIte, reduceCtorEq, srcS, srcL, ofU_len]
      rw [bs_str]
      have e1 : (takeP (fit18 v) most (b.drop at_)).s = out := by rw [h1]; simp [takeP]
      exact Fin.w [0] _ (srcS b (at_ + out.length) 111) (by simp (maxSteps := 4000000) only [push_cast, Int.reduceEq, Int.reduceBNe, Int.reduceBEq, Int.reduceAdd, Int.reduceSub, Int.reduceMul, Int.reduceNeg, Int.reduceLT, Int.reduceLE, Int.reduceToNat, Nat.reduceLT, Nat.reduceAdd, Nat.reduceSub, Nat.reduceMul, Nat.reduceEqDiff, Nat.reduceLeDiff, Nat.reduceBEq, reduceIte, reduceCtorEq, srcS, srcL]) (fin 111 (by rw [← e1]) (by rw [if_neg (by simp), h2]; rfl))
    | cons c r =>
      obtain ⟨rfl, rfl⟩ := hN
      simp (maxSteps := 4000000) only [push_cast, Int.reduceEq, Int.reduceBNe, Int.reduceBEq, Int.reduceAdd, Int.reduceSub, Int.reduceMul, Int.reduceNeg, Int.reduceLT, Int.reduceLE, Int.reduceToNat, Nat.reduceLT, Nat.reduceAdd, Nat.reduceSub, Nat.reduceMul, Nat.reduceEqDiff, Nat.reduceLeDiff, Nat.reduceBEq, reduceIte, reduceCtorEq, srcS, srcL, ofU_len]
      refine call_w (fits18_c v c hv) [] (by simp (maxSteps := 4000000) only [push_cast, Int.reduceEq, Int.reduceBNe, Int.reduceBEq, Int.reduceAdd, Int.reduceSub, Int.reduceMul, Int.reduceNeg, Int.reduceLT, Int.reduceLE, Int.reduceToNat, Nat.reduceLT, Nat.reduceAdd, Nat.reduceSub, Nat.reduceMul, Nat.reduceEqDiff, Nat.reduceLeDiff, Nat.reduceBEq, reduceIte, reduceCtorEq]) ?_
      rintro sv post ⟨rfl, rfl⟩
      simp (maxSteps := 4000000) only [push_cast, Int.reduceEq, Int.reduceBNe, Int.reduceBEq, Int.reduceAdd, Int.reduceSub, Int.reduceMul, Int.reduceNeg, Int.reduceLT, Int.reduceLE, Int.reduceToNat, Nat.reduceLT, Nat.reduceAdd, Nat.reduceSub, Nat.reduceMul, Nat.reduceEqDiff, Nat.reduceLeDiff, Nat.reduceBEq, reduceIte, reduceCtorEq]
      refine ⟨fun hf => ?_, fun hf => ?_⟩
      · have ht : takeP (fit18 v) (k + 1) (c :: r) = ⟨[], c :: r, false⟩ := by simp only [takeP]; rw [if_neg (by rw [hf]; simp)]
        rw [ht] at h1 h2
        refine call_w (back18_c b (at_ + out.length + 1) 0 c.toNat (by omega) (by have := congrArg List.length h4; simp at this; omega)) [0] (by simp (maxSteps := 4000000) only [push_cast, Int.reduceEq, Int.reduceBNe, Int.reduceBEq, Int.reduceAdd, Int.reduceSub, Int.reduceMul, Int.reduceNeg, Int.reduceLT, Int.reduceLE, Int.reduceToNat, Nat.reduceLT, Nat.reduceAdd, Nat.reduceSub, Nat.reduceMul, Nat.reduceEqDiff, Nat.reduceLeDiff, Nat.reduceBEq, reduceIte, reduceCtorEq, srcS, srcL]) ?_
        rintro sv post ⟨rfl, rfl⟩
        simp (maxSteps := 4000000) only [push_cast, Int.reduceEq, Int.reduceBNe, Int.reduceBEq, Int.reduceAdd, Int.reduceSub, Int.reduceMul, Int.reduceNeg, Int.reduceLT, Int.reduceLE, Int.reduceToNat, Nat.reduceLT, Nat.reduceAdd, Nat.reduceSub, Nat.reduceMul, Nat.reduceEqDiff, Nat.reduceLeDiff, Nat.reduceBEq, reduceIte, reduceCtorEq, srcS, srcL, Nat.add_sub_cancel]
        rw [bs_str]
        have e1 : (takeP (fit18 v) most (b.drop at_)).s = out := by rw [h1]; simp
        exact Fin.w [0] _ (srcS b (at_ + out.length) 0) (by simp (maxSteps := 4000000) only [push_cast, Int.reduceEq, Int.reduceBNe, Int.reduceBEq, Int.reduceAdd, Int.reduceSub, Int.reduceMul, Int.reduceNeg, Int.reduceLT, Int.reduceLE, Int.reduceToNat, Nat.reduceLT, Nat.reduceAdd, Nat.reduceSub, Nat.reduceMul, Nat.reduceEqDiff, Nat.reduceLeDiff, Nat.reduceBEq, reduceIte, reduceCtorEq, srcS, srcL]) (fin 0 (by rw [← e1]) (by rw [if_neg (by simp), h2]; rfl))
      · have ht : takeP (fit18 v) (k + 1) (c :: r) = ⟨c :: (takeP (fit18 v) k r).s, (takeP (fit18 v) k r).rest, (takeP (fit18 v) k r).ended⟩ := by simp only [takeP]; rw [if_pos hf]
        rw [ht] at h1 h2
        have hlt : at_ + out.length < b.length := by
          have := congrArg List.length h4
          rw [List.length_drop, List.length_cons] at this
          omega
        refine ⟨by rw [ofU_len]; omega, ⟨(out ++ [c], k, r), .inr rfl, fun _ => ⟨by rw [h1, List.append_assoc]; rfl, h2⟩, by simp only [List.length_append, List.length_cons, List.length_nil]; omega, by simp only [List.length_append, List.length_cons, List.length_nil]; rw [← Nat.add_assoc, ← List.drop_drop, h4]; rfl, by simp only [List.length_append, List.length_cons, List.length_nil]; omega⟩, by simp only; omega, Sub.w [0, 3] ?_⟩
        simp (maxSteps := 4000000) only [push_cast, Int.reduceEq, Int.reduceBNe, Int.reduceBEq, Int.reduceAdd, Int.reduceSub, Int.reduceMul, Int.reduceNeg, Int.reduceLT, Int.reduceLE, Int.reduceToNat, Nat.reduceLT, Nat.reduceAdd, Nat.reduceSub, Nat.reduceMul, Nat.reduceEqDiff, Nat.reduceLeDiff, Nat.reduceBEq, reduceIte, reduceCtorEq, ofU_app, List.length_append]
        exact ⟨rfl, by omega⟩
  · obtain rfl : k = 0 := by omega
    rw [bs_str]
    by_cases hz : z ≠ 0
    · obtain rfl : out = [] := h0.resolve_right hz
      exact Fin.w [0] _ (srcS b (at_ + 0) z) (by simp (maxSteps := 4000000) only [push_cast, Int.reduceEq, Int.reduceBNe, Int.reduceBEq, Int.reduceAdd, Int.reduceSub, Int.reduceMul, Int.reduceNeg, Int.reduceLT, Int.reduceLE, Int.reduceToNat, Nat.reduceLT, Nat.reduceAdd, Nat.reduceSub, Nat.reduceMul, Nat.reduceEqDiff, Nat.reduceLeDiff, Nat.reduceBEq, reduceIte, reduceCtorEq, srcS, srcL]; simp) (fin z (by unfold runQ; rw [if_pos hz]) (by rw [if_pos hz]))
    · obtain rfl : z = 0 := by simpa using hz
      obtain ⟨h1, h2⟩ := h12 rfl
      have eR : runQ v most (b.drop at_) 0 = takeP (fit18 v) most (b.drop at_) := if_neg (by simp)
      rw [eR] at fin
      have e1 : (takeP (fit18 v) most (b.drop at_)).s = out := by rw [h1]; simp [takeP]
      refine Fin.w [0] _ (srcS b (at_ + out.length) 0) (by simp (maxSteps := 4000000) only [push_cast, Int.reduceEq, Int.reduceBNe, Int.reduceBEq, Int.reduceAdd, Int.reduceSub, Int.reduceMul, Int.reduceNeg, Int.reduceLT, Int.reduceLE, Int.reduceToNat, Nat.reduceLT, Nat.reduceAdd, Nat.reduceSub, Nat.reduceMul, Nat.reduceEqDiff, Nat.reduceLeDiff, Nat.reduceBEq, reduceIte, reduceCtorEq, srcS, srcL]) (fin 0 (by rw [← e1]) (by rw [if_neg (by simp), h2]; rfl))
end Go.Proofs.Ytlajpggoncelhaa
/- The page's scan: what digits are worth. -/
namespace Go.Proofs.Ytlajpggoncelhaa
open Go Go.Eng
set_option maxHeartbeats 4000000
set_option linter.unusedSimpArgs false
set_option linter.unusedVariables false
set_option maxRecDepth 100000

theorem digs18 : ∀ c : Fin 256, 0 ≤ worthP (UInt8.ofNat c.val) → ((57 : Int) < (c.val : Int) → IntKind.u64.wrap (IntKind.u64.wrap (IntKind.u8.wrap (orI .u8 (c.val : Int) 32 - 97)) + 10) = worthP (UInt8.ofNat c.val)) ∧ ((c.val : Int) ≤ 57 → IntKind.u64.wrap (IntKind.u8.wrap ((c.val : Int) - 48)) = worthP (UInt8.ofNat c.val)) := by decide +kernel
theorem over18 (n d base : Nat) (h2 : 2 ≤ base) (hd : d < 1000) : IntKind.u64.wrap ((IntKind.u64.wrap (18446744073709551615 - (d : Int))).tdiv base) < n ↔ 18446744073709551616 ≤ n * base + d := by
  have e1 : IntKind.u64.wrap (18446744073709551615 - (d : Int)) = ((18446744073709551615 - d : Nat) : Int) := by rw [IntKind.wrap_u64]; omega
  have e2 : (((18446744073709551615 - d : Nat) : Int)).tdiv base = (((18446744073709551615 - d) / base : Nat) : Int) := by rw [Int.tdiv_eq_ediv_of_nonneg (by omega)]; rfl
  have hle : (18446744073709551615 - d) / base ≤ 18446744073709551615 - d := Nat.div_le_self _ _
  rw [e1, e2]
  have e3 : ∀ q : Nat, q ≤ 18446744073709551615 - d → IntKind.u64.wrap (q : Int) = (q : Int) := fun q hq => by rw [IntKind.wrap_u64]; omega
  rw [e3 _ hle, Int.ofNat_lt, Nat.div_lt_iff_lt_mul (by omega)]
  omega
theorem worth18_c (s : List UInt8) (base : Nat) (h2 : 2 ≤ base) (h16 : base ≤ 16) (hs : s.length ≤ 100000) (hd : ∀ c, c ∈ s → fitB base c = true) : Contract Try.prog 75 nilSS [.s (bs s), .i .u64 base] (fun sv post => sv = .tup [.i .u64 (baseF base 0 0 s).1, .b (decide ((baseF base 0 0 s).2.1 = 0))] ∧ post = nilSS) := by
  refine contract_ev Γok Try.func75 rfl rfl [] ?_
  simp (maxSteps := 4000000) only [push_cast, Int.reduceEq, Int.reduceBNe, Int.reduceBEq, Int.reduceAdd, Int.reduceSub, Int.reduceMul, Int.reduceNeg, Int.reduceLT, Int.reduceLE, Int.reduceToNat, Nat.reduceLT, Nat.reduceAdd, Nat.reduceSub, Nat.reduceMul, Nat.reduceEqDiff, Nat.reduceLeDiff, Nat.reduceBEq, reduceIte, reduceCtorEq, Try.f75]
  refine loop_ok (ι := {q : Nat × Nat × List UInt8 // baseF base q.1 q.2.1 q.2.2 = baseF base 0 0 s ∧ s.drop q.2.1 = q.2.2 ∧ q.2.1 + q.2.2.length = s.length ∧ q.1 < 18446744073709551616})
    (fun q => ⟨[.s (bs s), .i .u64 base, .any, .any, .any, .any, .i .u64 q.1.1, .i .i64 q.1.2.1] ++ List.replicate 35 .any, [], [], [], 0, 0, []⟩) (fun q => q.1.2.2.length) ⟨(0, 0, s), rfl, rfl, by simp, by simp⟩ ?_ ?_
  · refine Sub.w [] ?_
    simp (maxSteps := 4000000) only [push_cast, Int.reduceEq, Int.reduceBNe, Int.reduceBEq, Int.reduceAdd, Int.reduceSub, Int.reduceMul, Int.reduceNeg, Int.reduceLT, Int.reduceLE, Int.reduceToNat, Nat.reduceLT, Nat.reduceAdd, Nat.reduceSub, Nat.reduceMul, Nat.reduceEqDiff, Nat.reduceLeDiff, Nat.reduceBEq, reduceIte, reduceCtorEq]
  rintro ⟨⟨n, i, r⟩, k1, k2, k3, k4⟩
  simp only at k1 k2 k3 k4
  refine evCode_sound Γok _ _ _ ?_
  simp (maxSteps := 4000000) only [push_cast, Int.reduceEq, Int.reduceBNe, Int.reduceBEq, Int.reduceAdd, Int.reduceSub, Int.reduceMul, Int.reduceNeg, Int.reduceLT, Int.reduceLE, Int.reduceToNat, Nat.reduceLT, Nat.reduceAdd, Nat.reduceSub, Nat.reduceMul, Nat.reduceEqDiff, Nat.reduceLeDiff, Nat.reduceBEq, reduceIte, reduceCtorEq, bs_size, bs_at, Int.toNat_natCast]
  refine ⟨fun h => ⟨by omega, by omega, ?_⟩, fun h => ?_⟩
  · obtain ⟨c, r, rfl⟩ : ∃ d r', r = d :: r' := by
      cases r with
      | nil => simp only [List.length_nil] at k3; omega
      | cons d r => exact ⟨d, r, rfl⟩
    simp only [List.length_cons] at k3
    have hc : (s[i]?).getD 0 = c := by
      have := congrArg List.head? k2
      rw [List.head?_drop] at this
      rw [this]; rfl
    have hk : s.drop (i + 1) = r := by rw [← List.drop_drop, k2]; rfl
    have hin : c ∈ s := List.mem_of_mem_drop (by rw [k2]; exact List.mem_cons_self)
    have hf := hd c hin
    unfold fitB at hf
    rw [Bool.and_eq_true, decide_eq_true_eq, decide_eq_true_eq] at hf
    rw [hc]
    obtain ⟨g1, g2⟩ := digs18 ⟨c.toNat, u8_lt c⟩ (by simp only [UInt8.ofNat_toNat]; exact hf.1)
    simp only [UInt8.ofNat_toNat] at g1 g2
    simp only [baseF] at k1
    rw [if_neg (by omega)] at k1
    obtain ⟨dn, hdn⟩ : ∃ dn : Nat, worthP c = dn := ⟨(worthP c).toNat, by omega⟩
    rw [hdn] at hf g1 g2 k1
    rw [Int.toNat_natCast] at k1
    have hM : n * base ≤ 18446744073709551615 * 16 := Nat.mul_le_mul (by omega) h16
    have hov := over18 n dn base h2 (by omega)
    have bad : ∀ S : SS, S.k = 0 → 18446744073709551616 ≤ n * base + dn → Fin (fun sv post => sv = .tup [.i .u64 (baseF base 0 0 s).1, .b (decide ((baseF base 0 0 s).2.1 = 0))] ∧ post = nilSS) (.tup [.i .u64 0, .b false]) S := by
      intro S hS h6
      rw [if_pos h6] at k1
      rw [← k1]
      exact Fin.nil hS (psv := .tup [.i .u64 0, .b false]) (by simp (maxSteps := 4000000) only [push_cast, Int.reduceEq, Int.reduceBNe, Int.reduceBEq, Int.reduceAdd, Int.reduceSub, Int.reduceMul, Int.reduceNeg, Int.reduceLT, Int.reduceLE, Int.reduceToNat, Nat.reduceLT, Nat.reduceAdd, Nat.reduceSub, Nat.reduceMul, Nat.reduceEqDiff, Nat.reduceLeDiff, Nat.reduceBEq, reduceIte, reduceCtorEq]) ⟨rfl, rfl⟩
    have good : ∀ X : Int, X = dn → ¬ 18446744073709551616 ≤ n * base + dn → ∃ (j : {q : Nat × Nat × List UInt8 // baseF base q.1 q.2.1 q.2.2 = baseF base 0 0 s ∧ s.drop q.2.1 = q.2.2 ∧ q.2.1 + q.2.2.length = s.length ∧ q.1 < 18446744073709551616}), j.1.2.2.length < r.length + 1 ∧ IntKind.u64.wrap (IntKind.u64.wrap ((n : Int) * base) + X) = (j.1.1 : Int) ∧ IntKind.i64.wrap ((i : Int) + 1) = (j.1.2.1 : Int) := by
      rintro X rfl h6
      rw [if_neg h6] at k1
      refine ⟨⟨(n * base + dn, i + 1, r), k1, hk, by simp only; omega, by simp only; omega⟩, by simp only; omega, ?_, ?_⟩
      · show IntKind.u64.wrap (IntKind.u64.wrap ((n : Int) * base) + dn) = ((n * base + dn : Nat) : Int)
        rw [← Int.natCast_mul]
        clear k1 bad hov
        generalize n * base = M at *
        simp only [IntKind.wrap_u64]
        omega
      · rw [wrap64 (n := (i : Int) + 1) (by omega) (by omega)]
        simp only
        omega
    refine ⟨fun h5 => ⟨by omega, by omega, ?_⟩, fun h5 => ⟨by omega, ?_⟩⟩
    · rw [g1 h5]
      refine ⟨fun h6 => bad _ rfl (hov.1 h6), fun h6 => ?_⟩
      obtain ⟨j, j1, j2, j3⟩ := good dn rfl (fun h7 => by have := hov.2 h7; omega)
      refine ⟨j, j1, Sub.w [] ?_⟩
      simp (maxSteps := 4000000) only [push_cast, Int.reduceEq, Int.reduceBNe, Int.reduceBEq, Int.reduceAdd, Int.reduceSub, Int.reduceMul, Int.reduceNeg, Int.reduceLT, Int.reduceLE, Int.reduceToNat, Nat.reduceLT, Nat.reduceAdd, Nat.reduceSub, Nat.reduceMul, Nat.reduceEqDiff, Nat.reduceLeDiff, Nat.reduceBEq, reduceIte, reduceCtorEq]
      exact ⟨j2.symm, j3.symm⟩
    · rw [g2 h5]
      refine ⟨fun h6 => bad _ rfl (hov.1 h6), fun h6 => ?_⟩
      obtain ⟨j, j1, j2, j3⟩ := good dn rfl (fun h7 => by have := hov.2 h7; omega)
      refine ⟨j, j1, Sub.w [] ?_⟩
      simp (maxSteps := 4000000) only [push_cast, Int.reduceEq, Int.reduceBNe, Int.reduceBEq, Int.reduceAdd, Int.reduceSub, Int.reduceMul, Int.reduceNeg, Int.reduceLT, Int.reduceLE, Int.reduceToNat, Nat.reduceLT, Nat.reduceAdd, Nat.reduceSub, Nat.reduceMul, Nat.reduceEqDiff, Nat.reduceLeDiff, Nat.reduceBEq, reduceIte, reduceCtorEq]
      exact ⟨j2.symm, j3.symm⟩
  · obtain rfl : r = [] := List.eq_nil_of_length_eq_zero (by omega)
    rw [← k1]
    exact Fin.nil rfl (psv := .tup [.i .u64 n, .b true]) (by simp (maxSteps := 4000000) only [push_cast, Int.reduceEq, Int.reduceBNe, Int.reduceBEq, Int.reduceAdd, Int.reduceSub, Int.reduceMul, Int.reduceNeg, Int.reduceLT, Int.reduceLE, Int.reduceToNat, Nat.reduceLT, Nat.reduceAdd, Nat.reduceSub, Nat.reduceMul, Nat.reduceEqDiff, Nat.reduceLeDiff, Nat.reduceBEq, reduceIte, reduceCtorEq]) ⟨rfl, rfl⟩
end Go.Proofs.Ytlajpggoncelhaa
/- The page's scan: a number. -/
namespace Go.Proofs.Ytlajpggoncelhaa
open Go Go.Eng
set_option maxHeartbeats 4000000
set_option linter.unusedSimpArgs false
set_option linter.unusedVariables false
set_option maxRecDepth 100000

theorem takeP_all (fits : UInt8 → Bool) : ∀ (n : Nat) (l : List UInt8) (c : UInt8), c ∈ (takeP fits n l).s → fits c = true
  | 0, l, c, h => by simp [takeP] at h
  | n + 1, [], c, h => by simp [takeP] at h
  | n + 1, d :: r, c, h => by
    simp only [takeP] at h
    split at h
    · rename_i hd
      simp only at h
      rcases List.mem_cons.1 h with rfl | h
      · exact hd
      · exact takeP_all fits n r c h
    · simp at h
theorem fit18_n (v : UInt8) (h : v ≠ 115) : fit18 v = fitB (baseQ v) := by
  funext c
  unfold fit18
  rw [if_neg h]
def vbN (v : UInt8) : Prop := v = 100 ∨ v = 117 ∨ v = 120 ∨ v = 111
theorem vbN.ne {v : UInt8} (h : vbN v) : v ≠ 115 := by rcases h with rfl | rfl | rfl | rfl <;> decide
theorem vbN.vb {v : UInt8} (h : vbN v) : vbI v := by rcases h with h | h | h | h <;> simp [vbI, h]
theorem run_dig (p : PartP) (hv : vbN p.verb) (most : Nat) (hm : 1 ≤ most) (l : List UInt8) :
    (runQ p.verb (most - (sgnQ p l).s.length) (l.drop (sgnQ p l).s.length) (endE (sgnQ p l).ended)).s = (digQ p most l).s ∧
    (if endE (sgnQ p l).ended ≠ 0 then endE (sgnQ p l).ended else endE (runQ p.verb (most - (sgnQ p l).s.length) (l.drop (sgnQ p l).s.length) (endE (sgnQ p l).ended)).ended) = endE (digQ p most l).ended := by
  have hno : (sgnQ p l).ended = true → l = [] ∧ (sgnQ p l).s = [] := by
    unfold sgnQ
    split
    · cases l with
      | nil => intro _; exact ⟨rfl, rfl⟩
      | cons c r =>
        simp only [takeP]
        split <;> simp
    · simp
  by_cases he : (sgnQ p l).ended = true
  · obtain ⟨rfl, hs⟩ := hno he
    obtain ⟨m, rfl⟩ : ∃ m, most = m + 1 := ⟨most - 1, by omega⟩
    have hd : digQ p (m + 1) [] = ⟨[], [], true⟩ := by
      unfold digQ
      rw [hs, if_pos (by simp)]
      rfl
    rw [hd, he]
    refine ⟨?_, rfl⟩
    unfold runQ
    rw [if_pos (by simp [endE])]
  · have he' : (sgnQ p l).ended = false := by simpa using he
    rw [he']
    have e0 : endE false = 0 := rfl
    rw [e0]
    have hr : runQ p.verb (most - (sgnQ p l).s.length) (l.drop (sgnQ p l).s.length) 0 = takeP (fit18 p.verb) (most - (sgnQ p l).s.length) (l.drop (sgnQ p l).s.length) := if_neg (by simp)
    rw [hr, fit18_n p.verb hv.ne]
    have hsl : (sgnQ p l).s.length ≤ 1 := by
      unfold sgnQ
      split
      · exact (takeP_len isSign 1 l).1
      · simp
    by_cases h1 : (sgnQ p l).s.length < most
    · have hd : digQ p most l = takeP (fitB (baseQ p.verb)) (most - (sgnQ p l).s.length) (l.drop (sgnQ p l).s.length) := if_pos h1
      rw [hd]
      exact ⟨rfl, rfl⟩
    · have hd : digQ p most l = ⟨[], [], false⟩ := if_neg h1
      rw [hd, show most - (sgnQ p l).s.length = 0 by omega]
      exact ⟨rfl, rfl⟩

def dirL (p : PartP) (c e : Int) : List SV := [.b p.mute, .i .i64 p.width, .i .u8 (if p.verb = 32 then 1 else (p.verb.toNat : Int)), .i .u8 c, .i .i64 e]
def isOne18 (R : AV × Int × Nat × Int) (b : List UInt8) (at_ : Nat) (sv : SV) (post : SS) : Prop := sv = .tup [.agg (argQ R.1), .i .i64 R.2.1] ∧ ∃ z, (z = 0 ∨ z = 111) ∧ post = srcS b (at_ + R.2.2.1) z
theorem endE_or (x : Bool) : endE x = 0 ∨ endE x = 111 := by cases x <;> simp [endE]
def num18Hp (p : PartP) (c e : Int) (b : List UInt8) (at_ : Nat) (z : Int) : List (Nat × TypeId × List SV) := [(0, 70, srcL b at_ z), (1, 76, dirL p c e), (2, 81, [.i .i64 0, .i .i64 0, .i .u64 0, .s (bs [])])]
theorem sgn_minus (p : PartP) (l : List UInt8) (ch : UInt8) (r : List UInt8) (hl : l = ch :: r) (h : p.verb = 100) : (sgnQ p l).s = (if isSign ch then [ch] else []) ∧ (sgnQ p l).ended = false := by
  subst hl
  unfold sgnQ
  rw [if_pos h]
  simp only [takeP]
  split <;> simp
theorem number18_c (p : PartP) (hv : vbN p.verb) (hw : p.width ≤ 4096) (c e : Int) (b : List UInt8) (at_ : Nat) (hb : b.length ≤ 140737488355328) (hat : at_ ≤ b.length) :
    Contract Try.prog 58 (srcS b at_ 0) [.ptr 0 0, .agg (dirL p c e)] (isOne18 (numberQ p (mostQ p) (b.drop at_)) b at_) := by
  have hv32 : ¬ p.verb = 32 := by rcases hv with h | h | h | h <;> rw [h] <;> decide
  have hdl : dirL p c e = [.b p.mute, .i .i64 p.width, .i .u8 (p.verb.toNat : Int), .i .u8 c, .i .i64 e] := by unfold dirL; rw [if_neg hv32]
  refine contract_of Γok Try.func58 rfl rfl (stop := []) ?_
  simp only [Try.f58]
  generalize hl : b.drop at_ = l
  have hll : l.length = b.length - at_ := by rw [← hl, List.length_drop]
  have hmost : 1 ≤ mostQ p ∧ mostQ p ≤ 4096 := by unfold mostQ; split <;> omega
  have hsl : (sgnQ p l).s.length ≤ 1 ∧ (sgnQ p l).s.length ≤ l.length := by
    unfold sgnQ
    split
    · exact takeP_len isSign 1 l
    · simp
  refine CodeOK.seq (evCode_sound Γok _ _ _ ?_)
  simp (maxSteps := 4000000) only [push_cast, Int.reduceEq, Int.reduceBNe, Int.reduceBEq, Int.reduceAdd, Int.reduceSub, Int.reduceMul, Int.reduceNeg, Int.reduceLT, Int.reduceLE, Int.reduceToNat, Nat.reduceLT, Nat.reduceAdd, Nat.reduceSub, Nat.reduceMul, Nat.reduceEqDiff, Nat.reduceLeDiff, Nat.reduceBEq, reduceIte, reduceCtorEq, srcS, srcL, hdl]
  refine CodeOK.seq (evCode_sound Γok _ _ _ ?_)
  simp (maxSteps := 4000000) only [push_cast, Int.reduceEq, Int.reduceBNe, Int.reduceBEq, Int.reduceAdd, Int.reduceSub, Int.reduceMul, Int.reduceNeg, Int.reduceLT, Int.reduceLE, Int.reduceToNat, Nat.reduceLT, Nat.reduceAdd, Nat.reduceSub, Nat.reduceMul, Nat.reduceEqDiff, Nat.reduceLeDiff, Nat.reduceBEq, reduceIte, reduceCtorEq]
  refine code_cut ⟨[.ptr 0 0, .any, .any, .ptr 1 0, .ptr 2 0, .any, .i .i64 (mostQ p)] ++ List.replicate 102 .any, num18Hp p c e b at_ 0, [], [], 3, 1, []⟩ (evCode_sound Γok _ _ _ ?_) (CodeOK.seq (evCode_sound Γok _ _ _ ?_))
  · simp (maxSteps := 4000000) only [push_cast, Int.reduceEq, Int.reduceBNe, Int.reduceBEq, Int.reduceAdd, Int.reduceSub, Int.reduceMul, Int.reduceNeg, Int.reduceLT, Int.reduceLE, Int.reduceToNat, Nat.reduceLT, Nat.reduceAdd, Nat.reduceSub, Nat.reduceMul, Nat.reduceEqDiff, Nat.reduceLeDiff, Nat.reduceBEq, reduceIte, reduceCtorEq]
    refine ⟨fun q => Sub.w [0, 1, 2] ?_, fun q => Sub.w [0, 1, 2] ?_⟩
    · simp (maxSteps := 4000000) only [push_cast, Int.reduceEq, Int.reduceBNe, Int.reduceBEq, Int.reduceAdd, Int.reduceSub, Int.reduceMul, Int.reduceNeg, Int.reduceLT, Int.reduceLE, Int.reduceToNat, Nat.reduceLT, Nat.reduceAdd, Nat.reduceSub, Nat.reduceMul, Nat.reduceEqDiff, Nat.reduceLeDiff, Nat.reduceBEq, reduceIte, reduceCtorEq, num18Hp, srcL, hdl, mk_bs]
      unfold mostQ; rw [if_pos (by omega)]; rfl
    · simp (maxSteps := 4000000) only [push_cast, Int.reduceEq, Int.reduceBNe, Int.reduceBEq, Int.reduceAdd, Int.reduceSub, Int.reduceMul, Int.reduceNeg, Int.reduceLT, Int.reduceLE, Int.reduceToNat, Nat.reduceLT, Nat.reduceAdd, Nat.reduceSub, Nat.reduceMul, Nat.reduceEqDiff, Nat.reduceLeDiff, Nat.reduceBEq, reduceIte, reduceCtorEq, num18Hp, srcL, hdl, mk_bs]
      unfold mostQ; rw [if_neg (by omega)]
  simp (maxSteps := 4000000) only [push_cast, Int.reduceEq, Int.reduceBNe, Int.reduceBEq, Int.reduceAdd, Int.reduceSub, Int.reduceMul, Int.reduceNeg, Int.reduceLT, Int.reduceLE, Int.reduceToNat, Nat.reduceLT, Nat.reduceAdd, Nat.reduceSub, Nat.reduceMul, Nat.reduceEqDiff, Nat.reduceLeDiff, Nat.reduceBEq, reduceIte, reduceCtorEq, num18Hp, srcL, hdl]
  refine code_cut ⟨[.ptr 0 0, .any, .any, .ptr 1 0, .ptr 2 0, .any, .i .i64 (mostQ p - (sgnQ p l).s.length : Nat), .b (decide ((sgnQ p l).s = [45]))] ++ List.replicate 101 .any, num18Hp p c e b (at_ + (sgnQ p l).s.length) (endE (sgnQ p l).ended), [], [], 3, 1, []⟩ (evCode_sound Γok _ _ _ ?_) (CodeOK.seq (evCode_sound Γok _ _ _ ?_))
  · simp (maxSteps := 4000000) only [push_cast, Int.reduceEq, Int.reduceBNe, Int.reduceBEq, Int.reduceAdd, Int.reduceSub, Int.reduceMul, Int.reduceNeg, Int.reduceLT, Int.reduceLE, Int.reduceToNat, Nat.reduceLT, Nat.reduceAdd, Nat.reduceSub, Nat.reduceMul, Nat.reduceEqDiff, Nat.reduceLeDiff, Nat.reduceBEq, reduceIte, reduceCtorEq, q100]
    refine ⟨fun h => ?_, fun h => ?_⟩
    · refine call_w (next18_c b at_ 0 hb hat) [0] (by simp (maxSteps := 4000000) only [push_cast, Int.reduceEq, Int.reduceBNe, Int.reduceBEq, Int.reduceAdd, Int.reduceSub, Int.reduceMul, Int.reduceNeg, Int.reduceLT, Int.reduceLE, Int.reduceToNat, Nat.reduceLT, Nat.reduceAdd, Nat.reduceSub, Nat.reduceMul, Nat.reduceEqDiff, Nat.reduceLeDiff, Nat.reduceBEq, reduceIte, reduceCtorEq, srcS, srcL]) ?_
      intro sv post hN
      unfold isNext18 at hN
      rw [if_neg (by simp), hl] at hN
      cases l with
      | nil =>
        obtain ⟨rfl, rfl⟩ := hN
        simp (maxSteps := 4000000) only [push_cast, Int.reduceEq, Int.reduceBNe, Int.reduceBEq, Int.reduceAdd, Int.reduceSub, Int.reduceMul, Int.reduceNeg, Int.reduceLT, Int.reduceLE, Int.reduceToNat, Nat.reduceLT, Nat.reduceAdd, Nat.reduceSub, Nat.reduceMul, Nat.reduceEqDiff, Nat.reduceLeDiff, Nat.reduceBEq, reduceIte, reduceCtorEq, srcS, srcL]
        refine Sub.w [0, 1, 2] ?_
        have e1 : sgnQ p [] = ⟨[], [], true⟩ := by unfold sgnQ; rw [if_pos h]; rfl
        rw [e1]
        simp (maxSteps := 4000000) only [push_cast, Int.reduceEq, Int.reduceBNe, Int.reduceBEq, Int.reduceAdd, Int.reduceSub, Int.reduceMul, Int.reduceNeg, Int.reduceLT, Int.reduceLE, Int.reduceToNat, Nat.reduceLT, Nat.reduceAdd, Nat.reduceSub, Nat.reduceMul, Nat.reduceEqDiff, Nat.reduceLeDiff, Nat.reduceBEq, reduceIte, reduceCtorEq, num18Hp, srcL, hdl, mk_bs]
        rfl
      | cons ch r =>
        obtain ⟨rfl, rfl⟩ := hN
        obtain ⟨e1, e2⟩ := sgn_minus p (ch :: r) ch r rfl h
        rw [e1, e2]
        have h43 : ((ch.toNat : Int) = 43) = (ch = 43) := propext (u8iY ch 43)
        have h45 : ((ch.toNat : Int) = 45) = (ch = 45) := propext (u8iY ch 45)
        have hb45 : ((ch.toNat : Int) == 45) = decide (ch = 45) := by rw [Bool.eq_iff_iff, beq_iff_eq, decide_eq_true_eq, h45]
        simp (maxSteps := 4000000) only [push_cast, Int.reduceEq, Int.reduceBNe, Int.reduceBEq, Int.reduceAdd, Int.reduceSub, Int.reduceMul, Int.reduceNeg, Int.reduceLT, Int.reduceLE, Int.reduceToNat, Nat.reduceLT, Nat.reduceAdd, Nat.reduceSub, Nat.reduceMul, Nat.reduceEqDiff, Nat.reduceLeDiff, Nat.reduceBEq, reduceIte, reduceCtorEq, srcS, srcL, h43, h45]
        have hsg : isSign ch = true ↔ (ch = 43 ∨ ch = 45) := by unfold isSign; simp
        refine ⟨fun q => Sub.w [0, 1, 2] ?_, fun q => ?_⟩
        · rw [if_pos (hsg.2 q)]
          have em : decide ([ch] = ([45] : List UInt8)) = decide (ch = 45) := by simp
          simp (maxSteps := 4000000) only [push_cast, Int.reduceEq, Int.reduceBNe, Int.reduceBEq, Int.reduceAdd, Int.reduceSub, Int.reduceMul, Int.reduceNeg, Int.reduceLT, Int.reduceLE, Int.reduceToNat, Nat.reduceLT, Nat.reduceAdd, Nat.reduceSub, Nat.reduceMul, Nat.reduceEqDiff, Nat.reduceLeDiff, Nat.reduceBEq, reduceIte, reduceCtorEq, num18Hp, srcL, hdl, mk_bs, List.length_cons, List.length_nil, em, hb45]
          exact ⟨by rw [wrap64 (n := (mostQ p : Int) - 1) (by omega) (by omega)]; omega, by first | rfl | omega⟩
        · have hns : isSign ch = false := by
            rcases hx : isSign ch with _ | _
            · rfl
            · rcases hsg.1 hx with k | k
              · exact absurd k q.1
              · exact absurd k q.2
          rw [hns, if_neg (by simp)]
          have hlc : r.length + 1 = b.length - at_ := hll
          refine call_w (back18_c b (at_ + 1) 0 ch.toNat (by omega) (by omega)) [0] (by simp (maxSteps := 4000000) only [push_cast, Int.reduceEq, Int.reduceBNe, Int.reduceBEq, Int.reduceAdd, Int.reduceSub, Int.reduceMul, Int.reduceNeg, Int.reduceLT, Int.reduceLE, Int.reduceToNat, Nat.reduceLT, Nat.reduceAdd, Nat.reduceSub, Nat.reduceMul, Nat.reduceEqDiff, Nat.reduceLeDiff, Nat.reduceBEq, reduceIte, reduceCtorEq, srcS, srcL]) ?_
          rintro sv post ⟨rfl, rfl⟩
          simp (maxSteps := 4000000) only [push_cast, Int.reduceEq, Int.reduceBNe, Int.reduceBEq, Int.reduceAdd, Int.reduceSub, Int.reduceMul, Int.reduceNeg, Int.reduceLT, Int.reduceLE, Int.reduceToNat, Nat.reduceLT, Nat.reduceAdd, Nat.reduceSub, Nat.reduceMul, Nat.reduceEqDiff, Nat.reduceLeDiff, Nat.reduceBEq, reduceIte, reduceCtorEq, srcS, srcL, Nat.add_sub_cancel]
          refine Sub.w [0, 1, 2] ?_
          simp (maxSteps := 4000000) only [push_cast, Int.reduceEq, Int.reduceBNe, Int.reduceBEq, Int.reduceAdd, Int.reduceSub, Int.reduceMul, Int.reduceNeg, Int.reduceLT, Int.reduceLE, Int.reduceToNat, Nat.reduceLT, Nat.reduceAdd, Nat.reduceSub, Nat.reduceMul, Nat.reduceEqDiff, Nat.reduceLeDiff, Nat.reduceBEq, reduceIte, reduceCtorEq, num18Hp, srcL, hdl, mk_bs]
          first | rfl | simp
    · have e1 : sgnQ p l = ⟨[], l, false⟩ := by unfold sgnQ; rw [if_neg h]
      rw [e1]
      refine Sub.w [0, 1, 2] ?_
      simp (maxSteps := 4000000) only [push_cast, Int.reduceEq, Int.reduceBNe, Int.reduceBEq, Int.reduceAdd, Int.reduceSub, Int.reduceMul, Int.reduceNeg, Int.reduceLT, Int.reduceLE, Int.reduceToNat, Nat.reduceLT, Nat.reduceAdd, Nat.reduceSub, Nat.reduceMul, Nat.reduceEqDiff, Nat.reduceLeDiff, Nat.reduceBEq, reduceIte, reduceCtorEq, num18Hp, srcL, hdl, mk_bs]
      first | rfl | simp
  simp (maxSteps := 4000000) only [push_cast, Int.reduceEq, Int.reduceBNe, Int.reduceBEq, Int.reduceAdd, Int.reduceSub, Int.reduceMul, Int.reduceNeg, Int.reduceLT, Int.reduceLE, Int.reduceToNat, Nat.reduceLT, Nat.reduceAdd, Nat.reduceSub, Nat.reduceMul, Nat.reduceEqDiff, Nat.reduceLeDiff, Nat.reduceBEq, reduceIte, reduceCtorEq, num18Hp, srcL, hdl]
  have hrd := run_dig p hv (mostQ p) hmost.1 l
  have hdrop : b.drop (at_ + (sgnQ p l).s.length) = l.drop (sgnQ p l).s.length := by rw [← List.drop_drop, hl]
  refine call_w (run18_c p.verb hv.vb (mostQ p - (sgnQ p l).s.length) (by omega) b (at_ + (sgnQ p l).s.length) (endE (sgnQ p l).ended) hb (by omega)) [0] (by simp (maxSteps := 4000000) only [push_cast, Int.reduceEq, Int.reduceBNe, Int.reduceBEq, Int.reduceAdd, Int.reduceSub, Int.reduceMul, Int.reduceNeg, Int.reduceLT, Int.reduceLE, Int.reduceToNat, Nat.reduceLT, Nat.reduceAdd, Nat.reduceSub, Nat.reduceMul, Nat.reduceEqDiff, Nat.reduceLeDiff, Nat.reduceBEq, reduceIte, reduceCtorEq, srcS, srcL]) ?_
  rintro sv post ⟨rfl, rfl⟩
  rw [hdrop, hrd.1, hrd.2]
  have htl : (digQ p (mostQ p) l).s.length ≤ 4096 ∧ ∀ c, c ∈ (digQ p (mostQ p) l).s → fitB (baseQ p.verb) c = true := by
    unfold digQ
    split
    · have := (takeP_len (fitB (baseQ p.verb)) (mostQ p - (sgnQ p l).s.length) (l.drop (sgnQ p l).s.length)).1
      exact ⟨by omega, takeP_all _ _ _⟩
    · simp
  have hR : numberQ p (mostQ p) l = if (digQ p (mostQ p) l).s = [] then (noArg, lackE (digQ p (mostQ p) l).ended, (sgnQ p l).s.length, endE (digQ p (mostQ p) l).ended)
    else if (parseBaseP (baseQ p.verb) (digQ p (mostQ p) l).s).2.1 ≠ 0 then (noArg, 181, (sgnQ p l).s.length + (digQ p (mostQ p) l).s.length, endE (digQ p (mostQ p) l).ended)
    else if p.verb ≠ 100 then (⟨2, 0, (parseBaseP (baseQ p.verb) (digQ p (mostQ p) l).s).1, []⟩, 0, (sgnQ p l).s.length + (digQ p (mostQ p) l).s.length, 0)
    else if 9223372036854775808 < (parseBaseP (baseQ p.verb) (digQ p (mostQ p) l).s).1 ∨ (parseBaseP (baseQ p.verb) (digQ p (mostQ p) l).s).1 = 9223372036854775808 ∧ (sgnQ p l).s ≠ [45] then (noArg, 181, (sgnQ p l).s.length + (digQ p (mostQ p) l).s.length, endE (digQ p (mostQ p) l).ended)
    else (⟨1, if (sgnQ p l).s = [45] then -((parseBaseP (baseQ p.verb) (digQ p (mostQ p) l).s).1 : Int) else (parseBaseP (baseQ p.verb) (digQ p (mostQ p) l).s).1, 0, []⟩, 0, (sgnQ p l).s.length + (digQ p (mostQ p) l).s.length, 0) := rfl
  clear hrd hdrop
  generalize numberQ p (mostQ p) l = R at hR ⊢
  generalize (sgnQ p l).s = S at hR hsl ⊢
  generalize (digQ p (mostQ p) l).ended = te at hR ⊢
  generalize (digQ p (mostQ p) l).s = T at hR htl ⊢
  obtain ⟨htl, hfit⟩ := htl
  simp (maxSteps := 4000000) only [push_cast, Int.reduceEq, Int.reduceBNe, Int.reduceBEq, Int.reduceAdd, Int.reduceSub, Int.reduceMul, Int.reduceNeg, Int.reduceLT, Int.reduceLE, Int.reduceToNat, Nat.reduceLT, Nat.reduceAdd, Nat.reduceSub, Nat.reduceMul, Nat.reduceEqDiff, Nat.reduceLeDiff, Nat.reduceBEq, reduceIte, reduceCtorEq, srcS, srcL]
  refine CodeOK.seq (evCode_sound Γok _ _ _ ?_)
  simp (maxSteps := 4000000) only [push_cast, Int.reduceEq, Int.reduceBNe, Int.reduceBEq, Int.reduceAdd, Int.reduceSub, Int.reduceMul, Int.reduceNeg, Int.reduceLT, Int.reduceLE, Int.reduceToNat, Nat.reduceLT, Nat.reduceAdd, Nat.reduceSub, Nat.reduceMul, Nat.reduceEqDiff, Nat.reduceLeDiff, Nat.reduceBEq, reduceIte, reduceCtorEq, mk_bs, bs_tl]
  refine ⟨fun h => ?_, fun h => ?_⟩
  · refine call_w (failed18_c b (at_ + S.length + T.length) (endE te)) [0] (by simp (maxSteps := 4000000) only [push_cast, Int.reduceEq, Int.reduceBNe, Int.reduceBEq, Int.reduceAdd, Int.reduceSub, Int.reduceMul, Int.reduceNeg, Int.reduceLT, Int.reduceLE, Int.reduceToNat, Nat.reduceLT, Nat.reduceAdd, Nat.reduceSub, Nat.reduceMul, Nat.reduceEqDiff, Nat.reduceLeDiff, Nat.reduceBEq, reduceIte, reduceCtorEq, srcS, srcL]) ?_
    rintro sv post ⟨rfl, rfl⟩
    rw [lack_end]
    rw [if_pos h] at hR
    subst hR
    subst h
    simp (maxSteps := 4000000) only [push_cast, Int.reduceEq, Int.reduceBNe, Int.reduceBEq, Int.reduceAdd, Int.reduceSub, Int.reduceMul, Int.reduceNeg, Int.reduceLT, Int.reduceLE, Int.reduceToNat, Nat.reduceLT, Nat.reduceAdd, Nat.reduceSub, Nat.reduceMul, Nat.reduceEqDiff, Nat.reduceLeDiff, Nat.reduceBEq, reduceIte, reduceCtorEq, srcS, srcL]
    exact Fin.w [0] (.tup [.agg (argQ noArg), .i .i64 (lackE te)]) (srcS b (at_ + S.length) (endE te)) (by simp (maxSteps := 4000000) only [push_cast, Int.reduceEq, Int.reduceBNe, Int.reduceBEq, Int.reduceAdd, Int.reduceSub, Int.reduceMul, Int.reduceNeg, Int.reduceLT, Int.reduceLE, Int.reduceToNat, Nat.reduceLT, Nat.reduceAdd, Nat.reduceSub, Nat.reduceMul, Nat.reduceEqDiff, Nat.reduceLeDiff, Nat.reduceBEq, reduceIte, reduceCtorEq, srcS, srcL, argQ, noArg, mk_bs]) ⟨rfl, endE te, endE_or te, rfl⟩
  rw [if_neg h] at hR
  have hpb : parseBaseP (baseQ p.verb) T = baseF (baseQ p.verb) 0 0 T := if_neg h
  rw [hpb] at hR
  have hbq := baseQ_ok p.verb
  refine CodeOK.seq (evCode_sound Γok _ _ _ ?_)
  simp (maxSteps := 4000000) only [push_cast, Int.reduceEq, Int.reduceBNe, Int.reduceBEq, Int.reduceAdd, Int.reduceSub, Int.reduceMul, Int.reduceNeg, Int.reduceLT, Int.reduceLE, Int.reduceToNat, Nat.reduceLT, Nat.reduceAdd, Nat.reduceSub, Nat.reduceMul, Nat.reduceEqDiff, Nat.reduceLeDiff, Nat.reduceBEq, reduceIte, reduceCtorEq]
  refine code_cut ⟨[.ptr 0 0, .any, .any, .ptr 1 0, .ptr 2 0, .any, .any, .b (decide (S = [45])), .any, .any, .s (bs T), .i .u64 (baseQ p.verb)] ++ List.replicate 97 .any, num18Hp p c e b (at_ + S.length + T.length) (endE te), [], [], 3, 1, []⟩ (evCode_sound Γok _ _ _ ?_) (CodeOK.seq (evCode_sound Γok _ _ _ ?_))
  · simp (maxSteps := 4000000) only [push_cast, Int.reduceEq, Int.reduceBNe, Int.reduceBEq, Int.reduceAdd, Int.reduceSub, Int.reduceMul, Int.reduceNeg, Int.reduceLT, Int.reduceLE, Int.reduceToNat, Nat.reduceLT, Nat.reduceAdd, Nat.reduceSub, Nat.reduceMul, Nat.reduceEqDiff, Nat.reduceLeDiff, Nat.reduceBEq, reduceIte, reduceCtorEq, q120, q111]
    refine ⟨fun q => Sub.w [0, 1, 2] ?_, fun q => ⟨fun q2 => Sub.w [0, 1, 2] ?_, fun q2 => Sub.w [0, 1, 2] ?_⟩⟩
    · simp (maxSteps := 4000000) only [push_cast, Int.reduceEq, Int.reduceBNe, Int.reduceBEq, Int.reduceAdd, Int.reduceSub, Int.reduceMul, Int.reduceNeg, Int.reduceLT, Int.reduceLE, Int.reduceToNat, Nat.reduceLT, Nat.reduceAdd, Nat.reduceSub, Nat.reduceMul, Nat.reduceEqDiff, Nat.reduceLeDiff, Nat.reduceBEq, reduceIte, reduceCtorEq, num18Hp, srcL, hdl, mk_bs]
      unfold baseQ; rw [if_pos q]; rfl
    · simp (maxSteps := 4000000) only [push_cast, Int.reduceEq, Int.reduceBNe, Int.reduceBEq, Int.reduceAdd, Int.reduceSub, Int.reduceMul, Int.reduceNeg, Int.reduceLT, Int.reduceLE, Int.reduceToNat, Nat.reduceLT, Nat.reduceAdd, Nat.reduceSub, Nat.reduceMul, Nat.reduceEqDiff, Nat.reduceLeDiff, Nat.reduceBEq, reduceIte, reduceCtorEq, num18Hp, srcL, hdl, mk_bs]
      unfold baseQ; rw [if_neg q, if_pos q2]; rfl
    · simp (maxSteps := 4000000) only [push_cast, Int.reduceEq, Int.reduceBNe, Int.reduceBEq, Int.reduceAdd, Int.reduceSub, Int.reduceMul, Int.reduceNeg, Int.reduceLT, Int.reduceLE, Int.reduceToNat, Nat.reduceLT, Nat.reduceAdd, Nat.reduceSub, Nat.reduceMul, Nat.reduceEqDiff, Nat.reduceLeDiff, Nat.reduceBEq, reduceIte, reduceCtorEq, num18Hp, srcL, hdl, mk_bs]
      unfold baseQ; rw [if_neg q, if_neg q2]; rfl
  simp (maxSteps := 4000000) only [push_cast, Int.reduceEq, Int.reduceBNe, Int.reduceBEq, Int.reduceAdd, Int.reduceSub, Int.reduceMul, Int.reduceNeg, Int.reduceLT, Int.reduceLE, Int.reduceToNat, Nat.reduceLT, Nat.reduceAdd, Nat.reduceSub, Nat.reduceMul, Nat.reduceEqDiff, Nat.reduceLeDiff, Nat.reduceBEq, reduceIte, reduceCtorEq, num18Hp, srcL, hdl]
  refine call_w (worth18_c T (baseQ p.verb) hbq.1 hbq.2 (by omega) hfit) [] (by simp (maxSteps := 4000000) only [push_cast, Int.reduceEq, Int.reduceBNe, Int.reduceBEq, Int.reduceAdd, Int.reduceSub, Int.reduceMul, Int.reduceNeg, Int.reduceLT, Int.reduceLE, Int.reduceToNat, Nat.reduceLT, Nat.reduceAdd, Nat.reduceSub, Nat.reduceMul, Nat.reduceEqDiff, Nat.reduceLeDiff, Nat.reduceBEq, reduceIte, reduceCtorEq]) ?_
  rintro sv post ⟨rfl, rfl⟩
  generalize baseF (baseQ p.verb) 0 0 T = NN at hR ⊢
  obtain ⟨N, ne, ni⟩ := NN
  simp only at hR
  simp (maxSteps := 4000000) only [push_cast, Int.reduceEq, Int.reduceBNe, Int.reduceBEq, Int.reduceAdd, Int.reduceSub, Int.reduceMul, Int.reduceNeg, Int.reduceLT, Int.reduceLE, Int.reduceToNat, Nat.reduceLT, Nat.reduceAdd, Nat.reduceSub, Nat.reduceMul, Nat.reduceEqDiff, Nat.reduceLeDiff, Nat.reduceBEq, reduceIte, reduceCtorEq]
  refine CodeOK.seq (evCode_sound Γok _ _ _ ?_)
  simp (maxSteps := 4000000) only [push_cast, Int.reduceEq, Int.reduceBNe, Int.reduceBEq, Int.reduceAdd, Int.reduceSub, Int.reduceMul, Int.reduceNeg, Int.reduceLT, Int.reduceLE, Int.reduceToNat, Nat.reduceLT, Nat.reduceAdd, Nat.reduceSub, Nat.reduceMul, Nat.reduceEqDiff, Nat.reduceLeDiff, Nat.reduceBEq, reduceIte, reduceCtorEq, q100, mk_bs, bs_tl]
  refine ⟨fun h1 => ?_, fun h1 => ⟨fun h2 => ?_, fun h2 => ⟨fun h3 => ?_, fun h3 => ?_⟩⟩⟩
  · have hR2 : R = (noArg, 181, S.length + T.length, endE te) := by
      rw [hR]
      by_cases h9 : ne = 0
      · have h8 := h1.resolve_left (by simp [h9])
        rw [if_neg (by simp [h9]), if_neg (by simp [h8.1]), if_pos (by rcases h8.2 with q | ⟨q, q2⟩; exact .inl (by omega); exact .inr ⟨by omega, q2⟩)]
      · rw [if_pos h9]
    subst hR2
    exact Fin.w [0] (.tup [.agg (argQ noArg), .i .i64 181]) (srcS b (at_ + (S.length + T.length)) (endE te)) (by simp (maxSteps := 4000000) only [push_cast, Int.reduceEq, Int.reduceBNe, Int.reduceBEq, Int.reduceAdd, Int.reduceSub, Int.reduceMul, Int.reduceNeg, Int.reduceLT, Int.reduceLE, Int.reduceToNat, Nat.reduceLT, Nat.reduceAdd, Nat.reduceSub, Nat.reduceMul, Nat.reduceEqDiff, Nat.reduceLeDiff, Nat.reduceBEq, reduceIte, reduceCtorEq, srcS, srcL, argQ, noArg]; omega) ⟨rfl, endE te, endE_or te, rfl⟩
  · rw [if_neg (by simp [h1.1]), if_pos h2] at hR
    subst hR
    exact Fin.w [0] (.tup [.agg (argQ ⟨2, 0, N, []⟩), .i .i64 0]) (srcS b (at_ + (S.length + T.length)) (endE te)) (by simp (maxSteps := 4000000) only [push_cast, Int.reduceEq, Int.reduceBNe, Int.reduceBEq, Int.reduceAdd, Int.reduceSub, Int.reduceMul, Int.reduceNeg, Int.reduceLT, Int.reduceLE, Int.reduceToNat, Nat.reduceLT, Nat.reduceAdd, Nat.reduceSub, Nat.reduceMul, Nat.reduceEqDiff, Nat.reduceLeDiff, Nat.reduceBEq, reduceIte, reduceCtorEq, srcS, srcL, argQ, noArg]; omega) ⟨rfl, endE te, endE_or te, rfl⟩
  · have hn3 : ¬ (9223372036854775808 < N ∨ N = 9223372036854775808 ∧ S ≠ [45]) := by
      rintro (q | ⟨q, q2⟩)
      · rcases h1.2 with k | k
        · exact k h2
        · omega
      · exact q2 h3.1
    rw [if_neg (by simp [h1.1]), if_neg (by simp [h2]), if_neg hn3, if_pos h3.1] at hR
    subst hR
    have hneg : IntKind.i64.wrap (IntKind.i64.wrap (0 - IntKind.i64.wrap (IntKind.u64.wrap ((N : Int) - 1))) - 1) = -(N : Int) := by
      have hle : N ≤ 9223372036854775808 := by omega
      have hpos : 0 < (N : Int) := h3.2
      simp only [IntKind.wrap_u64, IntKind.wrap_i64]
      omega
    exact Fin.w [0] (.tup [.agg (argQ ⟨1, -(N : Int), 0, []⟩), .i .i64 0]) (srcS b (at_ + (S.length + T.length)) (endE te)) (by simp (maxSteps := 4000000) only [push_cast, Int.reduceEq, Int.reduceBNe, Int.reduceBEq, Int.reduceAdd, Int.reduceSub, Int.reduceMul, Int.reduceNeg, Int.reduceLT, Int.reduceLE, Int.reduceToNat, Nat.reduceLT, Nat.reduceAdd, Nat.reduceSub, Nat.reduceMul, Nat.reduceEqDiff, Nat.reduceLeDiff, Nat.reduceBEq, reduceIte, reduceCtorEq, srcS, srcL, argQ, noArg]; exact ⟨hneg.symm, by omega⟩) ⟨rfl, endE te, endE_or te, rfl⟩
  · have hle : (N : Int) < 9223372036854775808 := by
      rcases h1.2 with k | ⟨k1, k2 | k2⟩
      · exact absurd h2 k
      · omega
      · rcases h3 with q | q
        · exact absurd k2 q
        · omega
    have hn3 : ¬ (9223372036854775808 < N ∨ N = 9223372036854775808 ∧ S ≠ [45]) := by omega
    have hval : (if S = [45] then -(N : Int) else N) = N := by
      split
      · rename_i hs
        rcases h3 with q | q
        · exact absurd hs q
        · omega
      · rfl
    rw [if_neg (by simp [h1.1]), if_neg (by simp [h2]), if_neg hn3, hval] at hR
    subst hR
    refine CodeOK.seq (evCode_sound Γok _ _ _ ?_)
    simp (maxSteps := 4000000) only [push_cast, Int.reduceEq, Int.reduceBNe, Int.reduceBEq, Int.reduceAdd, Int.reduceSub, Int.reduceMul, Int.reduceNeg, Int.reduceLT, Int.reduceLE, Int.reduceToNat, Nat.reduceLT, Nat.reduceAdd, Nat.reduceSub, Nat.reduceMul, Nat.reduceEqDiff, Nat.reduceLeDiff, Nat.reduceBEq, reduceIte, reduceCtorEq]
    refine evCode_sound Γok _ _ _ ?_
    simp (maxSteps := 4000000) only [push_cast, Int.reduceEq, Int.reduceBNe, Int.reduceBEq, Int.reduceAdd, Int.reduceSub, Int.reduceMul, Int.reduceNeg, Int.reduceLT, Int.reduceLE, Int.reduceToNat, Nat.reduceLT, Nat.reduceAdd, Nat.reduceSub, Nat.reduceMul, Nat.reduceEqDiff, Nat.reduceLeDiff, Nat.reduceBEq, reduceIte, reduceCtorEq, mk_bs]
    exact Fin.w [0] (.tup [.agg (argQ ⟨1, N, 0, []⟩), .i .i64 0]) (srcS b (at_ + (S.length + T.length)) (endE te)) (by simp (maxSteps := 4000000) only [push_cast, Int.reduceEq, Int.reduceBNe, Int.reduceBEq, Int.reduceAdd, Int.reduceSub, Int.reduceMul, Int.reduceNeg, Int.reduceLT, Int.reduceLE, Int.reduceToNat, Nat.reduceLT, Nat.reduceAdd, Nat.reduceSub, Nat.reduceMul, Nat.reduceEqDiff, Nat.reduceLeDiff, Nat.reduceBEq, reduceIte, reduceCtorEq, srcS, srcL, argQ, noArg]; exact ⟨(wrap64 (n := (N : Int)) (by omega) (by omega)).symm, by omega⟩) ⟨rfl, endE te, endE_or te, rfl⟩
end Go.Proofs.Ytlajpggoncelhaa
/- The page's scan: bytes; a directive. -/
namespace Go.Proofs.Ytlajpggoncelhaa
open Go Go.Eng
set_option maxHeartbeats 4000000
set_option linter.unusedSimpArgs false
set_option linter.unusedVariables false
set_option maxRecDepth 100000

theorem bytes18_c (p : PartP) (hv : p.verb = 99) (hw : p.width ≤ 4096) (c e : Int) (b : List UInt8) (at_ : Nat) (hb : b.length ≤ 140737488355328) (hat : at_ ≤ b.length) :
    Contract Try.prog 56 (srcS b at_ 0) [.ptr 0 0, .agg (dirL p c e)] (fun sv post => sv = .tup [.agg (argQ (oneQ p (b.drop at_)).1), .i .i64 (oneQ p (b.drop at_)).2.1] ∧ post = srcS b (at_ + (oneQ p (b.drop at_)).2.2.1) (oneQ p (b.drop at_)).2.2.2) := by
  have hdl : dirL p c e = [.b p.mute, .i .i64 p.width, .i .u8 (p.verb.toNat : Int), .i .u8 c, .i .i64 e] := by unfold dirL; rw [if_neg (by rw [hv]; decide)]
  generalize hl : b.drop at_ = l
  have hll : l.length = b.length - at_ := by rw [← hl, List.length_drop]
  have hmax : maxI (p.width : Int) 1 = (wantQ p : Int) := by unfold maxI wantQ; split <;> split <;> omega
  have hwant : 1 ≤ wantQ p ∧ wantQ p ≤ 4096 := by unfold wantQ; split <;> omega
  have hq : oneQ p l = if (takeP (fun _ => true) (wantQ p) l).s.length < wantQ p then (noArg, lackE (takeP (fun _ => true) (wantQ p) l).ended, (takeP (fun _ => true) (wantQ p) l).s.length, endE (takeP (fun _ => true) (wantQ p) l).ended)
      else if p.width = 0 then (⟨3, 0, ((((takeP (fun _ => true) (wantQ p) l).s[0]?).getD 0).toNat : Int), []⟩, 0, (takeP (fun _ => true) (wantQ p) l).s.length, endE (takeP (fun _ => true) (wantQ p) l).ended) else (⟨4, 0, 0, (takeP (fun _ => true) (wantQ p) l).s⟩, 0, (takeP (fun _ => true) (wantQ p) l).s.length, endE (takeP (fun _ => true) (wantQ p) l).ended) := by
    unfold oneQ
    rw [if_neg (by rw [hv]; decide), if_neg (by rw [hv]; decide), if_pos hv]
  generalize oneQ p l = R at hq ⊢
  refine contract_ev Γok Try.func56 rfl rfl [] ?_
  simp (maxSteps := 4000000) only [push_cast, Int.reduceEq, Int.reduceBNe, Int.reduceBEq, Int.reduceAdd, Int.reduceSub, Int.reduceMul, Int.reduceNeg, Int.reduceLT, Int.reduceLE, Int.reduceToNat, Nat.reduceLT, Nat.reduceAdd, Nat.reduceSub, Nat.reduceMul, Nat.reduceEqDiff, Nat.reduceLeDiff, Nat.reduceBEq, reduceIte, reduceCtorEq, Try.f56, srcS, srcL, hdl]
  rw [hmax]
  refine loop_ok (ι := {q : List UInt8 × Nat × List UInt8 // (takeP (fun _ => true) (wantQ p) l).s = q.1 ++ (takeP (fun _ => true) q.2.1 q.2.2).s ∧ (takeP (fun _ => true) (wantQ p) l).ended = (takeP (fun _ => true) q.2.1 q.2.2).ended ∧ q.1.length + q.2.1 = wantQ p ∧ b.drop (at_ + q.1.length) = q.2.2 ∧ at_ + q.1.length ≤ b.length})
    (fun q => ⟨[.ptr 0 0, .any, .any, .ptr 1 0, .ptr 2 0, .i .i64 0, .i .i64 (wantQ p), .ints .u8 (.tok 3 true) (ofU q.1.1)] ++ List.replicate 34 .any, num18Hp p c e b (at_ + q.1.1.length) 0, [3], [], 4, 1, []⟩) (fun q => q.1.2.1) ⟨([], wantQ p, l), by simp, rfl, by simp, by simpa using hl, by simpa using hat⟩ ?_ ?_
  · refine Sub.trans (Sub.tokFr 7 rfl) (Sub.w [0, 1, 2, 3] ?_)
    simp (maxSteps := 4000000) only [push_cast, Int.reduceEq, Int.reduceBNe, Int.reduceBEq, Int.reduceAdd, Int.reduceSub, Int.reduceMul, Int.reduceNeg, Int.reduceLT, Int.reduceLE, Int.reduceToNat, Nat.reduceLT, Nat.reduceAdd, Nat.reduceSub, Nat.reduceMul, Nat.reduceEqDiff, Nat.reduceLeDiff, Nat.reduceBEq, reduceIte, reduceCtorEq, num18Hp, srcL, hdl]
    exact ⟨rfl, rfl⟩
  rintro ⟨⟨out, k, r⟩, h1, h2, h3, h4, h5⟩
  simp only at h1 h2 h3 h4 h5
  refine evCode_sound Γok _ _ _ ?_
  simp (maxSteps := 4000000) only [push_cast, Int.reduceEq, Int.reduceBNe, Int.reduceBEq, Int.reduceAdd, Int.reduceSub, Int.reduceMul, Int.reduceNeg, Int.reduceLT, Int.reduceLE, Int.reduceToNat, Nat.reduceLT, Nat.reduceAdd, Nat.reduceSub, Nat.reduceMul, Nat.reduceEqDiff, Nat.reduceLeDiff, Nat.reduceBEq, reduceIte, reduceCtorEq, ofU_len, num18Hp, srcL, hdl]
  have hlen : l.length = out.length + r.length := by
    have := congrArg List.length h4
    rw [List.length_drop] at this
    omega
  refine ⟨fun h => ?_, fun h => ?_⟩
  · obtain ⟨k, rfl⟩ : ∃ k', k = k' + 1 := ⟨k - 1, by omega⟩
    refine call_w (next18_c b (at_ + out.length) 0 hb h5) [0] (by simp (maxSteps := 4000000) only [push_cast, Int.reduceEq, Int.reduceBNe, Int.reduceBEq, Int.reduceAdd, Int.reduceSub, Int.reduceMul, Int.reduceNeg, Int.reduceLT, Int.reduceLE, Int.reduceToNat, Nat.reduceLT, Nat.reduceAdd, Nat.reduceSub, Nat.reduceMul, Nat.reduceEqDiff, Nat.reduceLeDiff, Nat.reduceBEq, reduceIte, reduceCtorEq, srcS, srcL]) ?_
    intro sv post hN
    unfold isNext18 at hN
    rw [if_neg (by simp), h4] at hN
    cases r with
    | nil =>
      obtain ⟨rfl, rfl⟩ := hN
      simp (maxSteps := 4000000) only [push_cast, Int.reduceEq, Int.reduceBNe, Int.reduceBEq, Int.reduceAdd, Int.reduceSub, Int.reduceMul, Int.reduceNeg, Int.reduceLT, Int.reduceLE, Int.reduceToNat, Nat.reduceLT, Nat.reduceAdd, Nat.reduceSub, Nat.reduceMul, Nat.reduceEqDiff, Nat.reduceLeDiff, Nat.reduceBEq, reduceIte, reduceCtorEq, srcS, srcL, ofU_len]
      refine call_w (failed18_c b (at_ + out.length) 111) [0] (by simp (maxSteps := 4000000) only [push_cast, Int.reduceEq, Int.reduceBNe, Int.reduceBEq, Int.reduceAdd, Int.reduceSub, Int.reduceMul, Int.reduceNeg, Int.reduceLT, Int.reduceLE, Int.reduceToNat, Nat.reduceLT, Nat.reduceAdd, Nat.reduceSub, Nat.reduceMul, Nat.reduceEqDiff, Nat.reduceLeDiff, Nat.reduceBEq, reduceIte, reduceCtorEq, srcS, srcL]) ?_
      rintro sv post ⟨rfl, rfl⟩
      have e1 : (takeP (fun _ => true) (wantQ p) l).s = out := by rw [h1]; simp [takeP]
      have e2 : (takeP (fun _ => true) (wantQ p) l).ended = true := by rw [h2]; rfl
      rw [e1, e2, if_pos (by omega)] at hq
      subst hq
      simp (maxSteps := 4000000) only [push_cast, Int.reduceEq, Int.reduceBNe, Int.reduceBEq, Int.reduceAdd, Int.reduceSub, Int.reduceMul, Int.reduceNeg, Int.reduceLT, Int.reduceLE, Int.reduceToNat, Nat.reduceLT, Nat.reduceAdd, Nat.reduceSub, Nat.reduceMul, Nat.reduceEqDiff, Nat.reduceLeDiff, Nat.reduceBEq, reduceIte, reduceCtorEq, srcS, srcL]
      exact Fin.w [0] (.tup [.agg (argQ noArg), .i .i64 111]) (srcS b (at_ + out.length) 111) (by simp (maxSteps := 4000000) only [push_cast, Int.reduceEq, Int.reduceBNe, Int.reduceBEq, Int.reduceAdd, Int.reduceSub, Int.reduceMul, Int.reduceNeg, Int.reduceLT, Int.reduceLE, Int.reduceToNat, Nat.reduceLT, Nat.reduceAdd, Nat.reduceSub, Nat.reduceMul, Nat.reduceEqDiff, Nat.reduceLeDiff, Nat.reduceBEq, reduceIte, reduceCtorEq, srcS, srcL, argQ, noArg, mk_bs]) ⟨rfl, rfl⟩
    | cons ch r =>
      obtain ⟨rfl, rfl⟩ := hN
      simp (maxSteps := 4000000) only [push_cast, Int.reduceEq, Int.reduceBNe, Int.reduceBEq, Int.reduceAdd, Int.reduceSub, Int.reduceMul, Int.reduceNeg, Int.reduceLT, Int.reduceLE, Int.reduceToNat, Nat.reduceLT, Nat.reduceAdd, Nat.reduceSub, Nat.reduceMul, Nat.reduceEqDiff, Nat.reduceLeDiff, Nat.reduceBEq, reduceIte, reduceCtorEq, srcS, srcL, ofU_len]
      have ht : takeP (fun _ => true) (k + 1) (ch :: r) = ⟨ch :: (takeP (fun _ => true) k r).s, (takeP (fun _ => true) k r).rest, (takeP (fun _ => true) k r).ended⟩ := by simp only [takeP, if_true]
      rw [ht] at h1 h2
      simp only [List.length_cons] at hlen
      refine ⟨by omega, ⟨(out ++ [ch], k, r), by rw [h1, List.append_assoc]; rfl, h2, by simp only [List.length_append, List.length_cons, List.length_nil]; omega, by simp only [List.length_append, List.length_cons, List.length_nil]; rw [← Nat.add_assoc, ← List.drop_drop, h4]; rfl, by simp only [List.length_append, List.length_cons, List.length_nil]; omega⟩, by simp only; omega, Sub.w [0, 1, 2, 5] ?_⟩
      simp (maxSteps := 4000000) only [push_cast, Int.reduceEq, Int.reduceBNe, Int.reduceBEq, Int.reduceAdd, Int.reduceSub, Int.reduceMul, Int.reduceNeg, Int.reduceLT, Int.reduceLE, Int.reduceToNat, Nat.reduceLT, Nat.reduceAdd, Nat.reduceSub, Nat.reduceMul, Nat.reduceEqDiff, Nat.reduceLeDiff, Nat.reduceBEq, reduceIte, reduceCtorEq, ofU_app, List.length_append]
      exact ⟨rfl, by omega⟩
  · obtain rfl : k = 0 := by omega
    have e1 : (takeP (fun _ => true) (wantQ p) l).s = out := by rw [h1]; simp [takeP]
    have e2 : (takeP (fun _ => true) (wantQ p) l).ended = false := by rw [h2]; rfl
    rw [e1, e2, if_neg (by omega)] at hq
    refine ⟨fun h6 => ?_, fun h6 => ?_⟩
    · rw [if_pos (by omega)] at hq
      subst hq
      have hpos : 0 < out.length := by omega
      have eg : (ofU out).getD 0 0 = ((((out[0]?).getD 0).toNat : Nat) : Int) := by
        cases out with
        | nil => simp at hpos
        | cons x y => rfl
      have hu := u8_lt ((out[0]?).getD 0)
      rw [eg]
      have hwu : IntKind.u64.wrap (((out[0]?).getD 0).toNat : Int) = (((out[0]?).getD 0).toNat : Int) := by rw [IntKind.wrap_u64]; omega
      rw [hwu]
      exact ⟨by omega, Fin.w [0] (.tup [.agg (argQ ⟨3, 0, (((out[0]?).getD 0).toNat : Int), []⟩), .i .i64 0]) (srcS b (at_ + out.length) 0) (by simp (maxSteps := 4000000) only [push_cast, Int.reduceEq, Int.reduceBNe, Int.reduceBEq, Int.reduceAdd, Int.reduceSub, Int.reduceMul, Int.reduceNeg, Int.reduceLT, Int.reduceLE, Int.reduceToNat, Nat.reduceLT, Nat.reduceAdd, Nat.reduceSub, Nat.reduceMul, Nat.reduceEqDiff, Nat.reduceLeDiff, Nat.reduceBEq, reduceIte, reduceCtorEq, srcS, srcL, argQ, noArg, mk_bs]) ⟨rfl, rfl⟩⟩
    · rw [if_neg (by omega)] at hq
      subst hq
      rw [bs_str]
      exact Fin.w [0] (.tup [.agg (argQ ⟨4, 0, 0, out⟩), .i .i64 0]) (srcS b (at_ + out.length) 0) (by simp (maxSteps := 4000000) only [push_cast, Int.reduceEq, Int.reduceBNe, Int.reduceBEq, Int.reduceAdd, Int.reduceSub, Int.reduceMul, Int.reduceNeg, Int.reduceLT, Int.reduceLE, Int.reduceToNat, Nat.reduceLT, Nat.reduceAdd, Nat.reduceSub, Nat.reduceMul, Nat.reduceEqDiff, Nat.reduceLeDiff, Nat.reduceBEq, reduceIte, reduceCtorEq, srcS, srcL, argQ, noArg, mk_bs]) ⟨rfl, rfl⟩

theorem fit18_s : fit18 115 = fun c => !isBlank c := by
  funext c
  unfold fit18
  rw [if_pos rfl]
def verbOK (v : UInt8) : Prop := v = 0 ∨ v = 32 ∨ v = 99 ∨ v = 115 ∨ vbN v
def isOneD (R : AV × Int × Nat × Int) (b : List UInt8) (at_ : Nat) (sv : SV) (post : SS) : Prop := sv = .tup [.agg (argQ R.1), .i .i64 R.2.1] ∧ ∃ z, (R.2.1 = 0 → z = 0) ∧ post = srcS b (at_ + R.2.2.1) z
theorem one18_c (p : PartP) (hv : verbOK p.verb) (hw : p.width ≤ 4096) (c e : Int) (hc : p.verb = 0 → c = p.c.toNat) (b : List UInt8) (at_ : Nat) (hb : b.length ≤ 140737488355328) (hat : at_ ≤ b.length) :
    Contract Try.prog 34 (srcS b at_ 0) [.ptr 0 0, .agg (dirL p c e)] (isOneD (oneQ p (b.drop at_)) b at_) := by
  obtain ⟨vb, hvb⟩ : ∃ vb : Int, vb = if p.verb = 32 then 1 else (p.verb.toNat : Int) := ⟨_, rfl⟩
  have hdl : dirL p c e = [.b p.mute, .i .i64 p.width, .i .u8 vb, .i .u8 c, .i .i64 e] := by rw [hvb]; rfl
  have t0 : (vb = 0) = (p.verb = 0) := by
    rw [hvb]
    split
    · rename_i h; rw [h]; simp
    · exact propext (u8iY p.verb 0)
  have t1 : (vb = 1) = (p.verb = 32) := by
    rw [hvb]
    split
    · rename_i h; simp [h]
    · rename_i h
      have h1 : ((p.verb.toNat : Int) = 1) = (p.verb = 1) := propext (u8iY p.verb 1)
      rw [h1]
      have : p.verb ≠ 1 := by rcases hv with k | k | k | k | k | k | k | k <;> rw [k] <;> decide
      simp [h, this]
  have t99 : (vb = 99) = (p.verb = 99) := by
    rw [hvb]
    split
    · rename_i h; rw [h]; simp
    · exact q99 p.verb
  have t115 : (vb = 115) = (p.verb = 115) := by
    rw [hvb]
    split
    · rename_i h; rw [h]; simp
    · exact q115 p.verb
  generalize hl : b.drop at_ = l
  have hll : l.length = b.length - at_ := by rw [← hl, List.length_drop]
  have fin : ∀ (A : AV) (x : Int) (k : Nat) (z y : Int), oneQ p l = (A, x, k, y) → (x = 0 → z = 0) → isOneD (oneQ p l) b at_ (.tup [.agg (argQ A), .i .i64 x]) (srcS b (at_ + k) z) := fun A x k z y h hz => by rw [h]; exact ⟨rfl, z, hz, rfl⟩
  refine contract_of Γok Try.func34 rfl rfl (stop := []) ?_
  simp only [Try.f34]
  refine CodeOK.seq (evCode_sound Γok _ _ _ ?_)
  simp (maxSteps := 4000000) only [push_cast, Int.reduceEq, Int.reduceBNe, Int.reduceBEq, Int.reduceAdd, Int.reduceSub, Int.reduceMul, Int.reduceNeg, Int.reduceLT, Int.reduceLE, Int.reduceToNat, Nat.reduceLT, Nat.reduceAdd, Nat.reduceSub, Nat.reduceMul, Nat.reduceEqDiff, Nat.reduceLeDiff, Nat.reduceBEq, reduceIte, reduceCtorEq, srcS, srcL, hdl]
  refine CodeOK.seq (evCode_sound Γok _ _ _ ?_)
  simp (maxSteps := 4000000) only [push_cast, Int.reduceEq, Int.reduceBNe, Int.reduceBEq, Int.reduceAdd, Int.reduceSub, Int.reduceMul, Int.reduceNeg, Int.reduceLT, Int.reduceLE, Int.reduceToNat, Nat.reduceLT, Nat.reduceAdd, Nat.reduceSub, Nat.reduceMul, Nat.reduceEqDiff, Nat.reduceLeDiff, Nat.reduceBEq, reduceIte, reduceCtorEq, mk_bs, t0, t1, t99]
  refine ⟨fun h0 => ?_, fun h0 => ⟨fun h1 => ?_, fun h1 => ⟨fun h2 => ?_, fun h2 => ?_⟩⟩⟩
  · have hq : oneQ p l = if (takeP (fun c => c == p.c) 1 l).s = [] then (noArg, lackE (takeP (fun c => c == p.c) 1 l).ended, 0, endE (takeP (fun c => c == p.c) 1 l).ended) else (noArg, 0, (takeP (fun c => c == p.c) 1 l).s.length, endE (takeP (fun c => c == p.c) 1 l).ended) := if_pos h0
    have hcc := hc h0
    subst hcc
    refine call_w (next18_c b at_ 0 hb hat) [0] (by simp (maxSteps := 4000000) only [push_cast, Int.reduceEq, Int.reduceBNe, Int.reduceBEq, Int.reduceAdd, Int.reduceSub, Int.reduceMul, Int.reduceNeg, Int.reduceLT, Int.reduceLE, Int.reduceToNat, Nat.reduceLT, Nat.reduceAdd, Nat.reduceSub, Nat.reduceMul, Nat.reduceEqDiff, Nat.reduceLeDiff, Nat.reduceBEq, reduceIte, reduceCtorEq, srcS, srcL]) ?_
    intro sv post hN
    unfold isNext18 at hN
    rw [if_neg (by simp), hl] at hN
    cases l with
    | nil =>
      obtain ⟨rfl, rfl⟩ := hN
      simp (maxSteps := 4000000) only [push_cast, Int.reduceEq, Int.reduceBNe, Int.reduceBEq, Int.reduceAdd, Int.reduceSub, Int.reduceMul, Int.reduceNeg, Int.reduceLT, Int.reduceLE, Int.reduceToNat, Nat.reduceLT, Nat.reduceAdd, Nat.reduceSub, Nat.reduceMul, Nat.reduceEqDiff, Nat.reduceLeDiff, Nat.reduceBEq, reduceIte, reduceCtorEq, srcS, srcL]
      refine call_w (failed18_c b at_ 111) [0] (by simp (maxSteps := 4000000) only [push_cast, Int.reduceEq, Int.reduceBNe, Int.reduceBEq, Int.reduceAdd, Int.reduceSub, Int.reduceMul, Int.reduceNeg, Int.reduceLT, Int.reduceLE, Int.reduceToNat, Nat.reduceLT, Nat.reduceAdd, Nat.reduceSub, Nat.reduceMul, Nat.reduceEqDiff, Nat.reduceLeDiff, Nat.reduceBEq, reduceIte, reduceCtorEq, srcS, srcL]) ?_
      rintro sv post ⟨rfl, rfl⟩
      simp (maxSteps := 4000000) only [push_cast, Int.reduceEq, Int.reduceBNe, Int.reduceBEq, Int.reduceAdd, Int.reduceSub, Int.reduceMul, Int.reduceNeg, Int.reduceLT, Int.reduceLE, Int.reduceToNat, Nat.reduceLT, Nat.reduceAdd, Nat.reduceSub, Nat.reduceMul, Nat.reduceEqDiff, Nat.reduceLeDiff, Nat.reduceBEq, reduceIte, reduceCtorEq, srcS, srcL]
      exact Fin.w [0] (.tup [.agg (argQ noArg), .i .i64 111]) (srcS b (at_ + 0) 111) (by simp (maxSteps := 4000000) only [push_cast, Int.reduceEq, Int.reduceBNe, Int.reduceBEq, Int.reduceAdd, Int.reduceSub, Int.reduceMul, Int.reduceNeg, Int.reduceLT, Int.reduceLE, Int.reduceToNat, Nat.reduceLT, Nat.reduceAdd, Nat.reduceSub, Nat.reduceMul, Nat.reduceEqDiff, Nat.reduceLeDiff, Nat.reduceBEq, reduceIte, reduceCtorEq, srcS, srcL, argQ, noArg, mk_bs]) (fin noArg 111 0 111 _ (by rw [hq]; rfl) (by simp))
    | cons ch r =>
      obtain ⟨rfl, rfl⟩ := hN
      have hcp : ((ch.toNat : Int) = (p.c.toNat : Int)) = (ch = p.c) := propext (u8iY ch p.c)
      have hlc : r.length + 1 = b.length - at_ := hll
      simp (maxSteps := 4000000) only [push_cast, Int.reduceEq, Int.reduceBNe, Int.reduceBEq, Int.reduceAdd, Int.reduceSub, Int.reduceMul, Int.reduceNeg, Int.reduceLT, Int.reduceLE, Int.reduceToNat, Nat.reduceLT, Nat.reduceAdd, Nat.reduceSub, Nat.reduceMul, Nat.reduceEqDiff, Nat.reduceLeDiff, Nat.reduceBEq, reduceIte, reduceCtorEq, srcS, srcL, hcp]
      refine ⟨fun h4 => ?_, fun h4 => ?_⟩
      · refine call_w (back18_c b (at_ + 1) 0 ch.toNat (by omega) (by omega)) [0] (by simp (maxSteps := 4000000) only [push_cast, Int.reduceEq, Int.reduceBNe, Int.reduceBEq, Int.reduceAdd, Int.reduceSub, Int.reduceMul, Int.reduceNeg, Int.reduceLT, Int.reduceLE, Int.reduceToNat, Nat.reduceLT, Nat.reduceAdd, Nat.reduceSub, Nat.reduceMul, Nat.reduceEqDiff, Nat.reduceLeDiff, Nat.reduceBEq, reduceIte, reduceCtorEq, srcS, srcL]) ?_
        rintro sv post ⟨rfl, rfl⟩
        simp (maxSteps := 4000000) only [push_cast, Int.reduceEq, Int.reduceBNe, Int.reduceBEq, Int.reduceAdd, Int.reduceSub, Int.reduceMul, Int.reduceNeg, Int.reduceLT, Int.reduceLE, Int.reduceToNat, Nat.reduceLT, Nat.reduceAdd, Nat.reduceSub, Nat.reduceMul, Nat.reduceEqDiff, Nat.reduceLeDiff, Nat.reduceBEq, reduceIte, reduceCtorEq, srcS, srcL, Nat.add_sub_cancel]
        have ht : takeP (fun c => c == p.c) 1 (ch :: r) = ⟨[], ch :: r, false⟩ := by simp only [takeP]; rw [if_neg (by simpa using h4)]
        rw [ht] at hq
        exact Fin.w [0] (.tup [.agg (argQ noArg), .i .i64 181]) (srcS b (at_ + 0) 0) (by simp (maxSteps := 4000000) only [push_cast, Int.reduceEq, Int.reduceBNe, Int.reduceBEq, Int.reduceAdd, Int.reduceSub, Int.reduceMul, Int.reduceNeg, Int.reduceLT, Int.reduceLE, Int.reduceToNat, Nat.reduceLT, Nat.reduceAdd, Nat.reduceSub, Nat.reduceMul, Nat.reduceEqDiff, Nat.reduceLeDiff, Nat.reduceBEq, reduceIte, reduceCtorEq, srcS, srcL, argQ, noArg, mk_bs]) (fin noArg 181 0 0 _ (by rw [hq]; rfl) (by simp))
      · have ht : takeP (fun c => c == p.c) 1 (ch :: r) = ⟨[ch], r, false⟩ := by simp only [takeP]; rw [if_pos (by simpa using h4)]
        rw [ht] at hq
        exact Fin.w [0] (.tup [.agg (argQ noArg), .i .i64 0]) (srcS b (at_ + 1) 0) (by simp (maxSteps := 4000000) only [push_cast, Int.reduceEq, Int.reduceBNe, Int.reduceBEq, Int.reduceAdd, Int.reduceSub, Int.reduceMul, Int.reduceNeg, Int.reduceLT, Int.reduceLE, Int.reduceToNat, Nat.reduceLT, Nat.reduceAdd, Nat.reduceSub, Nat.reduceMul, Nat.reduceEqDiff, Nat.reduceLeDiff, Nat.reduceBEq, reduceIte, reduceCtorEq, srcS, srcL, argQ, noArg, mk_bs]) (fin noArg 0 1 0 _ (by rw [hq]; rfl) (by simp))
  · have hq : oneQ p l = (noArg, 0, skipP l, 0) := by unfold oneQ; rw [if_neg h0, if_pos h1]
    refine call_w (pass18_c b at_ hb hat) [0] (by simp (maxSteps := 4000000) only [push_cast, Int.reduceEq, Int.reduceBNe, Int.reduceBEq, Int.reduceAdd, Int.reduceSub, Int.reduceMul, Int.reduceNeg, Int.reduceLT, Int.reduceLE, Int.reduceToNat, Nat.reduceLT, Nat.reduceAdd, Nat.reduceSub, Nat.reduceMul, Nat.reduceEqDiff, Nat.reduceLeDiff, Nat.reduceBEq, reduceIte, reduceCtorEq, srcS, srcL]) ?_
    rintro sv post ⟨rfl, rfl⟩
    rw [hl]
    simp (maxSteps := 4000000) only [push_cast, Int.reduceEq, Int.reduceBNe, Int.reduceBEq, Int.reduceAdd, Int.reduceSub, Int.reduceMul, Int.reduceNeg, Int.reduceLT, Int.reduceLE, Int.reduceToNat, Nat.reduceLT, Nat.reduceAdd, Nat.reduceSub, Nat.reduceMul, Nat.reduceEqDiff, Nat.reduceLeDiff, Nat.reduceBEq, reduceIte, reduceCtorEq, srcS, srcL]
    refine call_w (soft18_c b (at_ + skipP l) (endE (decide (skipP l = l.length)))) [0] (by simp (maxSteps := 4000000) only [push_cast, Int.reduceEq, Int.reduceBNe, Int.reduceBEq, Int.reduceAdd, Int.reduceSub, Int.reduceMul, Int.reduceNeg, Int.reduceLT, Int.reduceLE, Int.reduceToNat, Nat.reduceLT, Nat.reduceAdd, Nat.reduceSub, Nat.reduceMul, Nat.reduceEqDiff, Nat.reduceLeDiff, Nat.reduceBEq, reduceIte, reduceCtorEq, srcS, srcL]) ?_
    rintro sv post ⟨rfl, rfl⟩
    rw [soft_end]
    simp (maxSteps := 4000000) only [push_cast, Int.reduceEq, Int.reduceBNe, Int.reduceBEq, Int.reduceAdd, Int.reduceSub, Int.reduceMul, Int.reduceNeg, Int.reduceLT, Int.reduceLE, Int.reduceToNat, Nat.reduceLT, Nat.reduceAdd, Nat.reduceSub, Nat.reduceMul, Nat.reduceEqDiff, Nat.reduceLeDiff, Nat.reduceBEq, reduceIte, reduceCtorEq, srcS, srcL]
    exact Fin.w [0] (.tup [.agg (argQ noArg), .i .i64 0]) (srcS b (at_ + skipP l) 0) (by simp (maxSteps := 4000000) only [push_cast, Int.reduceEq, Int.reduceBNe, Int.reduceBEq, Int.reduceAdd, Int.reduceSub, Int.reduceMul, Int.reduceNeg, Int.reduceLT, Int.reduceLE, Int.reduceToNat, Nat.reduceLT, Nat.reduceAdd, Nat.reduceSub, Nat.reduceMul, Nat.reduceEqDiff, Nat.reduceLeDiff, Nat.reduceBEq, reduceIte, reduceCtorEq, srcS, srcL, argQ, noArg, mk_bs]) (fin noArg 0 _ 0 _ hq (by simp))
  · have hb18 := bytes18_c p h2 hw c e b at_ hb hat
    rw [hl] at hb18
    have hz : (oneQ p l).2.1 = 0 → (oneQ p l).2.2.2 = 0 := by
      have hq : oneQ p l = if (takeP (fun _ => true) (wantQ p) l).s.length < wantQ p then (noArg, lackE (takeP (fun _ => true) (wantQ p) l).ended, (takeP (fun _ => true) (wantQ p) l).s.length, endE (takeP (fun _ => true) (wantQ p) l).ended)
        else if p.width = 0 then (⟨3, 0, ((((takeP (fun _ => true) (wantQ p) l).s[0]?).getD 0).toNat : Int), []⟩, 0, (takeP (fun _ => true) (wantQ p) l).s.length, endE (takeP (fun _ => true) (wantQ p) l).ended) else (⟨4, 0, 0, (takeP (fun _ => true) (wantQ p) l).s⟩, 0, (takeP (fun _ => true) (wantQ p) l).s.length, endE (takeP (fun _ => true) (wantQ p) l).ended) := by
        unfold oneQ
        rw [if_neg h0, if_neg h1, if_pos h2]
      have hend : ∀ (n : Nat) (l : List UInt8), ¬ (takeP (fun _ => true) n l).s.length < n → (takeP (fun _ => true) n l).ended = false := by
        intro n
        induction n with
        | zero => intro l _; rfl
        | succ n ih =>
          intro l h
          cases l with
          | nil => simp [takeP] at h
          | cons x y =>
            simp only [takeP, if_true, List.length_cons] at h ⊢
            exact ih y (by omega)
      rw [hq]
      split
      · cases (takeP (fun _ => true) (wantQ p) l).ended <;> simp [lackE]
      · rename_i h9
        split <;> (intro _; simp only; rw [hend _ _ h9]; rfl)
    generalize oneQ p l = R at *
    obtain ⟨A, x, k, z⟩ := R
    refine call_w hb18 [0] (by simp (maxSteps := 4000000) only [push_cast, Int.reduceEq, Int.reduceBNe, Int.reduceBEq, Int.reduceAdd, Int.reduceSub, Int.reduceMul, Int.reduceNeg, Int.reduceLT, Int.reduceLE, Int.reduceToNat, Nat.reduceLT, Nat.reduceAdd, Nat.reduceSub, Nat.reduceMul, Nat.reduceEqDiff, Nat.reduceLeDiff, Nat.reduceBEq, reduceIte, reduceCtorEq, srcS, srcL, hdl]) ?_
    rintro sv post ⟨rfl, rfl⟩
    simp (maxSteps := 4000000) only [push_cast, Int.reduceEq, Int.reduceBNe, Int.reduceBEq, Int.reduceAdd, Int.reduceSub, Int.reduceMul, Int.reduceNeg, Int.reduceLT, Int.reduceLE, Int.reduceToNat, Nat.reduceLT, Nat.reduceAdd, Nat.reduceSub, Nat.reduceMul, Nat.reduceEqDiff, Nat.reduceLeDiff, Nat.reduceBEq, reduceIte, reduceCtorEq, srcS, srcL, argQ]
    exact Fin.w [0] (.tup [.agg (argQ A), .i .i64 x]) (srcS b (at_ + k) z) (by simp (maxSteps := 4000000) only [push_cast, Int.reduceEq, Int.reduceBNe, Int.reduceBEq, Int.reduceAdd, Int.reduceSub, Int.reduceMul, Int.reduceNeg, Int.reduceLT, Int.reduceLE, Int.reduceToNat, Nat.reduceLT, Nat.reduceAdd, Nat.reduceSub, Nat.reduceMul, Nat.reduceEqDiff, Nat.reduceLeDiff, Nat.reduceBEq, reduceIte, reduceCtorEq, srcS, srcL, argQ, noArg, mk_bs]) (fin A x k z z rfl hz)
  have hv2 : p.verb = 115 ∨ vbN p.verb := by
    rcases hv with k | k | k | k | k
    · exact absurd k h0
    · exact absurd k h1
    · exact absurd k h2
    · exact .inl k
    · exact .inr k
  have hq : oneQ p l = if skipP l = l.length then (noArg, 111, skipP l, 111) else if p.verb = 115 then
      (if (takeP (fun c => !isBlank c) (mostQ p) (l.drop (skipP l))).s = [] then (noArg, lackE (takeP (fun c => !isBlank c) (mostQ p) (l.drop (skipP l))).ended, skipP l, endE (takeP (fun c => !isBlank c) (mostQ p) (l.drop (skipP l))).ended) else (⟨4, 0, 0, (takeP (fun c => !isBlank c) (mostQ p) (l.drop (skipP l))).s⟩, 0, skipP l + (takeP (fun c => !isBlank c) (mostQ p) (l.drop (skipP l))).s.length, 0))
    else ((numberQ p (mostQ p) (l.drop (skipP l))).1, (numberQ p (mostQ p) (l.drop (skipP l))).2.1, skipP l + (numberQ p (mostQ p) (l.drop (skipP l))).2.2.1, (numberQ p (mostQ p) (l.drop (skipP l))).2.2.2) := by
    unfold oneQ
    rw [if_neg h0, if_neg h1, if_neg h2]
  have hsk := skipP_le l
  have hdrop : b.drop (at_ + skipP l) = l.drop (skipP l) := by rw [← List.drop_drop, hl]
  have hmost : 1 ≤ mostQ p ∧ mostQ p ≤ 4096 := by unfold mostQ; split <;> omega
  refine CodeOK.seq (evCode_sound Γok _ _ _ ?_)
  simp (maxSteps := 4000000) only [push_cast, Int.reduceEq, Int.reduceBNe, Int.reduceBEq, Int.reduceAdd, Int.reduceSub, Int.reduceMul, Int.reduceNeg, Int.reduceLT, Int.reduceLE, Int.reduceToNat, Nat.reduceLT, Nat.reduceAdd, Nat.reduceSub, Nat.reduceMul, Nat.reduceEqDiff, Nat.reduceLeDiff, Nat.reduceBEq, reduceIte, reduceCtorEq]
  refine call_w (pass18_c b at_ hb hat) [0] (by simp (maxSteps := 4000000) only [push_cast, Int.reduceEq, Int.reduceBNe, Int.reduceBEq, Int.reduceAdd, Int.reduceSub, Int.reduceMul, Int.reduceNeg, Int.reduceLT, Int.reduceLE, Int.reduceToNat, Nat.reduceLT, Nat.reduceAdd, Nat.reduceSub, Nat.reduceMul, Nat.reduceEqDiff, Nat.reduceLeDiff, Nat.reduceBEq, reduceIte, reduceCtorEq, srcS, srcL]) ?_
  rintro sv post ⟨rfl, rfl⟩
  rw [hl]
  by_cases h4 : skipP l = l.length
  · rw [if_pos h4] at hq
    have he : endE (decide (skipP l = l.length)) = 111 := by rw [decide_eq_true h4]; rfl
    rw [he]
    simp (maxSteps := 4000000) only [push_cast, Int.reduceEq, Int.reduceBNe, Int.reduceBEq, Int.reduceAdd, Int.reduceSub, Int.reduceMul, Int.reduceNeg, Int.reduceLT, Int.reduceLE, Int.reduceToNat, Nat.reduceLT, Nat.reduceAdd, Nat.reduceSub, Nat.reduceMul, Nat.reduceEqDiff, Nat.reduceLeDiff, Nat.reduceBEq, reduceIte, reduceCtorEq, srcS, srcL]
    refine CodeOK.seq (evCode_sound Γok _ _ _ ?_)
    simp (maxSteps := 4000000) only [push_cast, Int.reduceEq, Int.reduceBNe, Int.reduceBEq, Int.reduceAdd, Int.reduceSub, Int.reduceMul, Int.reduceNeg, Int.reduceLT, Int.reduceLE, Int.reduceToNat, Nat.reduceLT, Nat.reduceAdd, Nat.reduceSub, Nat.reduceMul, Nat.reduceEqDiff, Nat.reduceLeDiff, Nat.reduceBEq, reduceIte, reduceCtorEq]
    refine (region_plan rfl Γok mixed (.pure 0 (.pure 1 (.pure 2 (.pure 3 (.pure 4 (.eff (.cons 5 [4] (.pure 6 .done) .nil))))))) 92 rfl (by kernel_rfl) ?_)
    simp (maxSteps := 4000000) only [push_cast, Int.reduceEq, Int.reduceBNe, Int.reduceBEq, Int.reduceAdd, Int.reduceSub, Int.reduceMul, Int.reduceNeg, Int.reduceLT, Int.reduceLE, Int.reduceToNat, Nat.reduceLT, Nat.reduceAdd, Nat.reduceSub, Nat.reduceMul, Nat.reduceEqDiff, Nat.reduceLeDiff, Nat.reduceBEq, reduceIte, reduceCtorEq, mk_bs]
    exact Fin.w [0] (.tup [.agg (argQ noArg), .i .i64 111]) (srcS b (at_ + skipP l) 111) (by simp (maxSteps := 4000000) only [push_cast, Int.reduceEq, Int.reduceBNe, Int.reduceBEq, Int.reduceAdd, Int.reduceSub, Int.reduceMul, Int.reduceNeg, Int.reduceLT, Int.reduceLE, Int.reduceToNat, Nat.reduceLT, Nat.reduceAdd, Nat.reduceSub, Nat.reduceMul, Nat.reduceEqDiff, Nat.reduceLeDiff, Nat.reduceBEq, reduceIte, reduceCtorEq, srcS, srcL, argQ, noArg, mk_bs]) (fin noArg 111 _ 111 _ hq (by simp))
  rw [if_neg h4] at hq
  have he : endE (decide (skipP l = l.length)) = 0 := by rw [decide_eq_false h4]; rfl
  rw [he]
  simp (maxSteps := 4000000) only [push_cast, Int.reduceEq, Int.reduceBNe, Int.reduceBEq, Int.reduceAdd, Int.reduceSub, Int.reduceMul, Int.reduceNeg, Int.reduceLT, Int.reduceLE, Int.reduceToNat, Nat.reduceLT, Nat.reduceAdd, Nat.reduceSub, Nat.reduceMul, Nat.reduceEqDiff, Nat.reduceLeDiff, Nat.reduceBEq, reduceIte, reduceCtorEq, srcS, srcL]
  refine CodeOK.seq (evCode_sound Γok _ _ _ ?_)
  simp (maxSteps := 4000000) only [push_cast, Int.reduceEq, Int.reduceBNe, Int.reduceBEq, Int.reduceAdd, Int.reduceSub, Int.reduceMul, Int.reduceNeg, Int.reduceLT, Int.reduceLE, Int.reduceToNat, Nat.reduceLT, Nat.reduceAdd, Nat.reduceSub, Nat.reduceMul, Nat.reduceEqDiff, Nat.reduceLeDiff, Nat.reduceBEq, reduceIte, reduceCtorEq]
  refine CodeOK.seq (evCode_sound Γok _ _ _ ?_)
  simp (maxSteps := 4000000) only [push_cast, Int.reduceEq, Int.reduceBNe, Int.reduceBEq, Int.reduceAdd, Int.reduceSub, Int.reduceMul, Int.reduceNeg, Int.reduceLT, Int.reduceLE, Int.reduceToNat, Nat.reduceLT, Nat.reduceAdd, Nat.reduceSub, Nat.reduceMul, Nat.reduceEqDiff, Nat.reduceLeDiff, Nat.reduceBEq, reduceIte, reduceCtorEq, t115]
  refine ⟨fun h5 => ⟨fun q => ?_, fun q => ?_⟩, fun h5 => ?_⟩
  · skip
    have hmo : mostQ p = 4096 := by unfold mostQ; rw [if_pos (by omega)]
    rw [if_pos h5, hmo] at hq
    refine call_w (run18_c 115 (by simp [vbI]) 4096 (by omega) b (at_ + skipP l) 0 hb (by omega)) [0] (by simp (maxSteps := 4000000) only [push_cast, Int.reduceEq, Int.reduceBNe, Int.reduceBEq, Int.reduceAdd, Int.reduceSub, Int.reduceMul, Int.reduceNeg, Int.reduceLT, Int.reduceLE, Int.reduceToNat, Nat.reduceLT, Nat.reduceAdd, Nat.reduceSub, Nat.reduceMul, Nat.reduceEqDiff, Nat.reduceLeDiff, Nat.reduceBEq, reduceIte, reduceCtorEq, srcS, srcL]; try rfl) ?_
    rintro sv post ⟨rfl, rfl⟩
    have hru : runQ 115 4096 (l.drop (skipP l)) 0 = takeP (fun c => !isBlank c) 4096 (l.drop (skipP l)) := by unfold runQ; rw [if_neg (by simp), fit18_s]
    rw [hdrop, hru, if_neg (by simp)]
    generalize takeP (fun c => !isBlank c) 4096 (l.drop (skipP l)) = T at hq ⊢
    simp (maxSteps := 4000000) only [push_cast, Int.reduceEq, Int.reduceBNe, Int.reduceBEq, Int.reduceAdd, Int.reduceSub, Int.reduceMul, Int.reduceNeg, Int.reduceLT, Int.reduceLE, Int.reduceToNat, Nat.reduceLT, Nat.reduceAdd, Nat.reduceSub, Nat.reduceMul, Nat.reduceEqDiff, Nat.reduceLeDiff, Nat.reduceBEq, reduceIte, reduceCtorEq, srcS, srcL, mk_bs, bs_tl]
    refine ⟨fun h6 => ?_, fun h6 => ?_⟩
    · rw [if_pos h6] at hq
      refine call_w (failed18_c b (at_ + skipP l + T.s.length) (endE T.ended)) [0] (by simp (maxSteps := 4000000) only [push_cast, Int.reduceEq, Int.reduceBNe, Int.reduceBEq, Int.reduceAdd, Int.reduceSub, Int.reduceMul, Int.reduceNeg, Int.reduceLT, Int.reduceLE, Int.reduceToNat, Nat.reduceLT, Nat.reduceAdd, Nat.reduceSub, Nat.reduceMul, Nat.reduceEqDiff, Nat.reduceLeDiff, Nat.reduceBEq, reduceIte, reduceCtorEq, srcS, srcL]) ?_
      rintro sv post ⟨rfl, rfl⟩
      rw [lack_end]
      simp (maxSteps := 4000000) only [push_cast, Int.reduceEq, Int.reduceBNe, Int.reduceBEq, Int.reduceAdd, Int.reduceSub, Int.reduceMul, Int.reduceNeg, Int.reduceLT, Int.reduceLE, Int.reduceToNat, Nat.reduceLT, Nat.reduceAdd, Nat.reduceSub, Nat.reduceMul, Nat.reduceEqDiff, Nat.reduceLeDiff, Nat.reduceBEq, reduceIte, reduceCtorEq, srcS, srcL]
      exact Fin.w [0] (.tup [.agg (argQ noArg), .i .i64 (lackE T.ended)]) (srcS b (at_ + skipP l) (endE T.ended)) (by simp (maxSteps := 4000000) only [push_cast, Int.reduceEq, Int.reduceBNe, Int.reduceBEq, Int.reduceAdd, Int.reduceSub, Int.reduceMul, Int.reduceNeg, Int.reduceLT, Int.reduceLE, Int.reduceToNat, Nat.reduceLT, Nat.reduceAdd, Nat.reduceSub, Nat.reduceMul, Nat.reduceEqDiff, Nat.reduceLeDiff, Nat.reduceBEq, reduceIte, reduceCtorEq, srcS, srcL, argQ, noArg, mk_bs, h6]; simp) (fin noArg _ _ _ _ hq (by cases T.ended <;> simp [lackE]))
    · rw [if_neg h6] at hq
      refine call_w (soft18_c b (at_ + skipP l + T.s.length) (endE T.ended)) [0] (by simp (maxSteps := 4000000) only [push_cast, Int.reduceEq, Int.reduceBNe, Int.reduceBEq, Int.reduceAdd, Int.reduceSub, Int.reduceMul, Int.reduceNeg, Int.reduceLT, Int.reduceLE, Int.reduceToNat, Nat.reduceLT, Nat.reduceAdd, Nat.reduceSub, Nat.reduceMul, Nat.reduceEqDiff, Nat.reduceLeDiff, Nat.reduceBEq, reduceIte, reduceCtorEq, srcS, srcL]) ?_
      rintro sv post ⟨rfl, rfl⟩
      rw [soft_end]
      simp (maxSteps := 4000000) only [push_cast, Int.reduceEq, Int.reduceBNe, Int.reduceBEq, Int.reduceAdd, Int.reduceSub, Int.reduceMul, Int.reduceNeg, Int.reduceLT, Int.reduceLE, Int.reduceToNat, Nat.reduceLT, Nat.reduceAdd, Nat.reduceSub, Nat.reduceMul, Nat.reduceEqDiff, Nat.reduceLeDiff, Nat.reduceBEq, reduceIte, reduceCtorEq, srcS, srcL]
      exact Fin.w [0] (.tup [.agg (argQ ⟨4, 0, 0, T.s⟩), .i .i64 0]) (srcS b (at_ + (skipP l + T.s.length)) 0) (by simp (maxSteps := 4000000) only [push_cast, Int.reduceEq, Int.reduceBNe, Int.reduceBEq, Int.reduceAdd, Int.reduceSub, Int.reduceMul, Int.reduceNeg, Int.reduceLT, Int.reduceLE, Int.reduceToNat, Nat.reduceLT, Nat.reduceAdd, Nat.reduceSub, Nat.reduceMul, Nat.reduceEqDiff, Nat.reduceLeDiff, Nat.reduceBEq, reduceIte, reduceCtorEq, srcS, srcL, argQ, noArg, mk_bs]; omega) (fin ⟨4, 0, 0, T.s⟩ 0 _ 0 _ hq (by simp))
  · skip
    have hmo : mostQ p = p.width := by unfold mostQ; rw [if_neg (by omega)]
    rw [if_pos h5, hmo] at hq
    refine call_w (run18_c 115 (by simp [vbI]) p.width (by omega) b (at_ + skipP l) 0 hb (by omega)) [0] (by simp (maxSteps := 4000000) only [push_cast, Int.reduceEq, Int.reduceBNe, Int.reduceBEq, Int.reduceAdd, Int.reduceSub, Int.reduceMul, Int.reduceNeg, Int.reduceLT, Int.reduceLE, Int.reduceToNat, Nat.reduceLT, Nat.reduceAdd, Nat.reduceSub, Nat.reduceMul, Nat.reduceEqDiff, Nat.reduceLeDiff, Nat.reduceBEq, reduceIte, reduceCtorEq, srcS, srcL]; try rfl) ?_
    rintro sv post ⟨rfl, rfl⟩
    have hru : runQ 115 p.width (l.drop (skipP l)) 0 = takeP (fun c => !isBlank c) p.width (l.drop (skipP l)) := by unfold runQ; rw [if_neg (by simp), fit18_s]
    rw [hdrop, hru, if_neg (by simp)]
    generalize takeP (fun c => !isBlank c) p.width (l.drop (skipP l)) = T at hq ⊢
    simp (maxSteps := 4000000) only [push_cast, Int.reduceEq, Int.reduceBNe, Int.reduceBEq, Int.reduceAdd, Int.reduceSub, Int.reduceMul, Int.reduceNeg, Int.reduceLT, Int.reduceLE, Int.reduceToNat, Nat.reduceLT, Nat.reduceAdd, Nat.reduceSub, Nat.reduceMul, Nat.reduceEqDiff, Nat.reduceLeDiff, Nat.reduceBEq, reduceIte, reduceCtorEq, srcS, srcL, mk_bs, bs_tl]
    refine ⟨fun h6 => ?_, fun h6 => ?_⟩
    · rw [if_pos h6] at hq
      refine call_w (failed18_c b (at_ + skipP l + T.s.length) (endE T.ended)) [0] (by simp (maxSteps := 4000000) only [push_cast, Int.reduceEq, Int.reduceBNe, Int.reduceBEq, Int.reduceAdd, Int.reduceSub, Int.reduceMul, Int.reduceNeg, Int.reduceLT, Int.reduceLE, Int.reduceToNat, Nat.reduceLT, Nat.reduceAdd, Nat.reduceSub, Nat.reduceMul, Nat.reduceEqDiff, Nat.reduceLeDiff, Nat.reduceBEq, reduceIte, reduceCtorEq, srcS, srcL]) ?_
      rintro sv post ⟨rfl, rfl⟩
      rw [lack_end]
      simp (maxSteps := 4000000) only [push_cast, Int.reduceEq, Int.reduceBNe, Int.reduceBEq, Int.reduceAdd, Int.reduceSub, Int.reduceMul, Int.reduceNeg, Int.reduceLT, Int.reduceLE, Int.reduceToNat, Nat.reduceLT, Nat.reduceAdd, Nat.reduceSub, Nat.reduceMul, Nat.reduceEqDiff, Nat.reduceLeDiff, Nat.reduceBEq, reduceIte, reduceCtorEq, srcS, srcL]
      exact Fin.w [0] (.tup [.agg (argQ noArg), .i .i64 (lackE T.ended)]) (srcS b (at_ + skipP l) (endE T.ended)) (by simp (maxSteps := 4000000) only [push_cast, Int.reduceEq, Int.reduceBNe, Int.reduceBEq, Int.reduceAdd, Int.reduceSub, Int.reduceMul, Int.reduceNeg, Int.reduceLT, Int.reduceLE, Int.reduceToNat, Nat.reduceLT, Nat.reduceAdd, Nat.reduceSub, Nat.reduceMul, Nat.reduceEqDiff, Nat.reduceLeDiff, Nat.reduceBEq, reduceIte, reduceCtorEq, srcS, srcL, argQ, noArg, mk_bs, h6]; simp) (fin noArg _ _ _ _ hq (by cases T.ended <;> simp [lackE]))
    · rw [if_neg h6] at hq
      refine call_w (soft18_c b (at_ + skipP l + T.s.length) (endE T.ended)) [0] (by simp (maxSteps := 4000000) only [push_cast, Int.reduceEq, Int.reduceBNe, Int.reduceBEq, Int.reduceAdd, Int.reduceSub, Int.reduceMul, Int.reduceNeg, Int.reduceLT, Int.reduceLE, Int.reduceToNat, Nat.reduceLT, Nat.reduceAdd, Nat.reduceSub, Nat.reduceMul, Nat.reduceEqDiff, Nat.reduceLeDiff, Nat.reduceBEq, reduceIte, reduceCtorEq, srcS, srcL]) ?_
      rintro sv post ⟨rfl, rfl⟩
      rw [soft_end]
      simp (maxSteps := 4000000) only [push_cast, Int.reduceEq, Int.reduceBNe, Int.reduceBEq, Int.reduceAdd, Int.reduceSub, Int.reduceMul, Int.reduceNeg, Int.reduceLT, Int.reduceLE, Int.reduceToNat, Nat.reduceLT, Nat.reduceAdd, Nat.reduceSub, Nat.reduceMul, Nat.reduceEqDiff, Nat.reduceLeDiff, Nat.reduceBEq, reduceIte, reduceCtorEq, srcS, srcL]
      exact Fin.w [0] (.tup [.agg (argQ ⟨4, 0, 0, T.s⟩), .i .i64 0]) (srcS b (at_ + (skipP l + T.s.length)) 0) (by simp (maxSteps := 4000000) only [push_cast, Int.reduceEq, Int.reduceBNe, Int.reduceBEq, Int.reduceAdd, Int.reduceSub, Int.reduceMul, Int.reduceNeg, Int.reduceLT, Int.reduceLE, Int.reduceToNat, Nat.reduceLT, Nat.reduceAdd, Nat.reduceSub, Nat.reduceMul, Nat.reduceEqDiff, Nat.reduceLeDiff, Nat.reduceBEq, reduceIte, reduceCtorEq, srcS, srcL, argQ, noArg, mk_bs]; omega) (fin ⟨4, 0, 0, T.s⟩ 0 _ 0 _ hq (by simp))
  · have hvn : vbN p.verb := hv2.resolve_left h5
    rw [if_neg h5] at hq
    refine CodeOK.seq (evCode_sound Γok _ _ _ ?_)
    simp (maxSteps := 4000000) only [push_cast, Int.reduceEq, Int.reduceBNe, Int.reduceBEq, Int.reduceAdd, Int.reduceSub, Int.reduceMul, Int.reduceNeg, Int.reduceLT, Int.reduceLE, Int.reduceToNat, Nat.reduceLT, Nat.reduceAdd, Nat.reduceSub, Nat.reduceMul, Nat.reduceEqDiff, Nat.reduceLeDiff, Nat.reduceBEq, reduceIte, reduceCtorEq]
    refine call_w (number18_c p hvn hw c e b (at_ + skipP l) hb (by omega)) [0] (by simp (maxSteps := 4000000) only [push_cast, Int.reduceEq, Int.reduceBNe, Int.reduceBEq, Int.reduceAdd, Int.reduceSub, Int.reduceMul, Int.reduceNeg, Int.reduceLT, Int.reduceLE, Int.reduceToNat, Nat.reduceLT, Nat.reduceAdd, Nat.reduceSub, Nat.reduceMul, Nat.reduceEqDiff, Nat.reduceLeDiff, Nat.reduceBEq, reduceIte, reduceCtorEq, srcS, srcL, hdl]) ?_
    rintro sv post ⟨rfl, z, hz, rfl⟩
    rw [hdrop]
    generalize numberQ p (mostQ p) (l.drop (skipP l)) = R at hq ⊢
    obtain ⟨A, x, k, y⟩ := R
    simp (maxSteps := 4000000) only [push_cast, Int.reduceEq, Int.reduceBNe, Int.reduceBEq, Int.reduceAdd, Int.reduceSub, Int.reduceMul, Int.reduceNeg, Int.reduceLT, Int.reduceLE, Int.reduceToNat, Nat.reduceLT, Nat.reduceAdd, Nat.reduceSub, Nat.reduceMul, Nat.reduceEqDiff, Nat.reduceLeDiff, Nat.reduceBEq, reduceIte, reduceCtorEq, srcS, srcL, argQ]
    refine evCode_sound Γok _ _ _ ?_
    simp (maxSteps := 4000000) only [push_cast, Int.reduceEq, Int.reduceBNe, Int.reduceBEq, Int.reduceAdd, Int.reduceSub, Int.reduceMul, Int.reduceNeg, Int.reduceLT, Int.reduceLE, Int.reduceToNat, Nat.reduceLT, Nat.reduceAdd, Nat.reduceSub, Nat.reduceMul, Nat.reduceEqDiff, Nat.reduceLeDiff, Nat.reduceBEq, reduceIte, reduceCtorEq]
    refine ⟨fun h7 => ?_, fun h7 => ?_⟩
    · refine call_w (soft18_c b (at_ + skipP l + k) z) [0] (by simp (maxSteps := 4000000) only [push_cast, Int.reduceEq, Int.reduceBNe, Int.reduceBEq, Int.reduceAdd, Int.reduceSub, Int.reduceMul, Int.reduceNeg, Int.reduceLT, Int.reduceLE, Int.reduceToNat, Nat.reduceLT, Nat.reduceAdd, Nat.reduceSub, Nat.reduceMul, Nat.reduceEqDiff, Nat.reduceLeDiff, Nat.reduceBEq, reduceIte, reduceCtorEq, srcS, srcL]) ?_
      rintro sv post ⟨rfl, rfl⟩
      have hz0 : (if z = 111 then 0 else z) = 0 := by rcases hz with rfl | rfl <;> simp
      rw [hz0]
      simp (maxSteps := 4000000) only [push_cast, Int.reduceEq, Int.reduceBNe, Int.reduceBEq, Int.reduceAdd, Int.reduceSub, Int.reduceMul, Int.reduceNeg, Int.reduceLT, Int.reduceLE, Int.reduceToNat, Nat.reduceLT, Nat.reduceAdd, Nat.reduceSub, Nat.reduceMul, Nat.reduceEqDiff, Nat.reduceLeDiff, Nat.reduceBEq, reduceIte, reduceCtorEq, srcS, srcL]
      subst h7
      exact Fin.w [0] (.tup [.agg (argQ A), .i .i64 0]) (srcS b (at_ + (skipP l + k)) 0) (by simp (maxSteps := 4000000) only [push_cast, Int.reduceEq, Int.reduceBNe, Int.reduceBEq, Int.reduceAdd, Int.reduceSub, Int.reduceMul, Int.reduceNeg, Int.reduceLT, Int.reduceLE, Int.reduceToNat, Nat.reduceLT, Nat.reduceAdd, Nat.reduceSub, Nat.reduceMul, Nat.reduceEqDiff, Nat.reduceLeDiff, Nat.reduceBEq, reduceIte, reduceCtorEq, srcS, srcL, argQ]; omega) (fin A 0 _ 0 _ hq (by simp))
    · exact Fin.w [0] (.tup [.agg (argQ A), .i .i64 x]) (srcS b (at_ + (skipP l + k)) z) (by simp (maxSteps := 4000000) only [push_cast, Int.reduceEq, Int.reduceBNe, Int.reduceBEq, Int.reduceAdd, Int.reduceSub, Int.reduceMul, Int.reduceNeg, Int.reduceLT, Int.reduceLE, Int.reduceToNat, Nat.reduceLT, Nat.reduceAdd, Nat.reduceSub, Nat.reduceMul, Nat.reduceEqDiff, Nat.reduceLeDiff, Nat.reduceBEq, reduceIte, reduceCtorEq, srcS, srcL, argQ]; omega) (fin A x _ z _ hq (fun h8 => absurd h8 h7))
end Go.Proofs.Ytlajpggoncelhaa
