/- Blocks: how many bytes some elements are; what is asked first. -/
import Derived.Test.YtdbhgnjpjpmioaaLa
import Derived.Lib.Mul64
namespace Go.Proofs.Ytdbhgnjpjpmioaa
open Go Go.Eng
set_option linter.unusedSimpArgs false
set_option linter.unusedVariables false
set_option maxRecDepth 100000

theorem wrapu (n : Nat) (h : n < 18446744073709551616) : IntKind.u64.wrap (n : Int) = (n : Int) := by
  rw [IntKind.wrap_u64]; omega
theorem and32 (x : Nat) (h : x < 18446744073709551616) : andI .u64 (x : Int) 4294967295 = ((x % 4294967296 : Nat) : Int) := by
  have e : (BitVec.ofInt IntKind.u64.bits (x : Int) &&& BitVec.ofInt IntKind.u64.bits 4294967295).toNat = x % 4294967296 := by
    show (BitVec.ofInt 64 (x : Int) &&& BitVec.ofNat 64 4294967295).toNat = _
    rw [BitVec.toNat_and, BitVec.ofInt_natCast, BitVec.toNat_ofNat, Nat.mod_eq_of_lt h]
    exact Nat.and_two_pow_sub_one_eq_mod x 32
  unfold andI
  rw [e, wrapu _ (by omega)]
theorem shr32 (x : Nat) : shrI .u64 (x : Int) 32 = ((x / 4294967296 : Nat) : Int) := by
  show (x : Int).fdiv (2 ^ min (32 : Int).toNat 64) = _
  rw [Int.fdiv_eq_ediv_of_nonneg _ (by decide)]
  rfl
theorem mulc (x y : Nat) : (x : Int) * (y : Int) = ((x * y : Nat) : Int) := (Int.natCast_mul x y).symm
theorem addc (x y : Nat) : (x : Int) + (y : Int) = ((x + y : Nat) : Int) := (Int.natCast_add x y).symm

def hi64 (x y : Nat) : Int := ((x * y / 18446744073709551616 : Nat) : Int)
def lo64 (x y : Nat) : Int := ((x * y % 18446744073709551616 : Nat) : Int)
theorem mul64_c (x y : Int) (m n : Nat) (hm : x = m) (hn : y = n) (hx : m < 18446744073709551616) (hy : n < 18446744073709551616) : Contract Try.prog 51 nilSS [.i .u64 x, .i .u64 y] (fun sv post => sv = .tup [.i .u64 (hi64 m n), .i .u64 (lo64 m n)] ∧ post = nilSS) := by
  refine contract_ev Γok Try.func51 rfl rfl [] ?_
  simp (maxSteps := 4000000) only [push_cast, Int.reduceEq, Int.reduceBNe, Int.reduceBEq, Int.reduceAdd, Int.reduceSub, Int.reduceMul, Int.reduceNeg, Int.reduceLT, Int.reduceLE, Nat.reduceLT, Nat.reduceAdd, Nat.reduceSub, Nat.reduceMul, Nat.reduceEqDiff, Nat.reduceLeDiff, Nat.reduceBEq, reduceIte, reduceCtorEq, Try.f51]
  subst hm hn
  obtain ⟨h1, h2, h3, h4⟩ := Go.Lib.mul64_hi m n hx hy
  have b1 : m % 4294967296 < 4294967296 := by omega
  have b2 : n % 4294967296 < 4294967296 := by omega
  have b3 : m / 4294967296 < 4294967296 := by omega
  have b4 : n / 4294967296 < 4294967296 := by omega
  have p1 := Go.Lib.half_mul_le (a := m / 4294967296) (b := n / 4294967296) (by omega) (by omega)
  have p2 := Go.Lib.half_mul_le (a := m / 4294967296) (b := n % 4294967296) (by omega) (by omega)
  have p3 := Go.Lib.half_mul_le (a := m % 4294967296) (b := n / 4294967296) (by omega) (by omega)
  have p5 : m * n / 18446744073709551616 < 18446744073709551616 := by
    have := Nat.mul_lt_mul'' hx hy
    omega
  rw [← h4] at p5
  simp only [shr32, and32 _ hx, and32 _ hy]
  simp only [mulc]
  rw [wrapu (m % 4294967296 * (n % 4294967296)) h1, shr32, wrapu (m / 4294967296 * (n % 4294967296)) (by omega), addc, wrapu _ h2, shr32, and32 _ h2, wrapu (m % 4294967296 * (n / 4294967296)) (by omega), addc, wrapu _ h3, shr32, wrapu (m / 4294967296 * (n / 4294967296)) (by omega), addc, wrapu _ (by omega), addc, wrapu _ (by omega)]
  have e2 : IntKind.u64.wrap ((m * n : Nat) : Int) = lo64 m n := by
    unfold lo64
    rw [IntKind.wrap_u64]
    omega
  rw [h4, e2, show ((m * n / 18446744073709551616 : Nat) : Int) = hi64 m n from rfl]
  exact Fin.nil rfl (psv := .tup [.i .u64 (hi64 m n), .i .u64 (lo64 m n)]) (by simp (maxSteps := 4000000) only [push_cast, Int.reduceEq, Int.reduceBNe, Int.reduceBEq, Int.reduceAdd, Int.reduceSub, Int.reduceMul, Int.reduceNeg, Int.reduceLT, Int.reduceLE, Nat.reduceLT, Nat.reduceAdd, Nat.reduceSub, Nat.reduceMul, Nat.reduceEqDiff, Nat.reduceLeDiff, Nat.reduceBEq, reduceIte, reduceCtorEq]) ⟨rfl, rfl⟩

/-- How many bytes some elements are. -/
def bytesV (size count : Int) : Int × Int := if size < 0 ∨ count < 0 ∨ 1048576 < size * count then (0, 4) else (size * count, 0)
theorem bytes_c (size count : Int) (hs : size ≤ 9223372036854775807) (hc : count ≤ 9223372036854775807) : Contract Try.prog 30 nilSS [.i .i64 size, .i .i64 count] (fun sv post => sv = .tup [.i .i64 (bytesV size count).1, .i .i64 (bytesV size count).2] ∧ post = nilSS) := by
  refine contract_ev Γok Try.func30 rfl rfl [] ?_
  simp (maxSteps := 4000000) only [push_cast, Int.reduceEq, Int.reduceBNe, Int.reduceBEq, Int.reduceAdd, Int.reduceSub, Int.reduceMul, Int.reduceNeg, Int.reduceLT, Int.reduceLE, Nat.reduceLT, Nat.reduceAdd, Nat.reduceSub, Nat.reduceMul, Nat.reduceEqDiff, Nat.reduceLeDiff, Nat.reduceBEq, reduceIte, reduceCtorEq, Try.f30]
  refine ⟨fun h => ?_, fun h => ?_⟩
  · have e : bytesV size count = (0, 4) := if_pos (by omega)
    rw [e]
    exact Fin.nil rfl (psv := .tup [.i .i64 0, .i .i64 4]) (by simp (maxSteps := 4000000) only [push_cast, Int.reduceEq, Int.reduceBNe, Int.reduceBEq, Int.reduceAdd, Int.reduceSub, Int.reduceMul, Int.reduceNeg, Int.reduceLT, Int.reduceLE, Nat.reduceLT, Nat.reduceAdd, Nat.reduceSub, Nat.reduceMul, Nat.reduceEqDiff, Nat.reduceLeDiff, Nat.reduceBEq, reduceIte, reduceCtorEq]) ⟨rfl, rfl⟩
  obtain ⟨m, rfl⟩ : ∃ m : Nat, size = m := ⟨size.toNat, by omega⟩
  obtain ⟨n, rfl⟩ : ∃ n : Nat, count = n := ⟨count.toNat, by omega⟩
  rw [wrapu m (by omega), wrapu n (by omega)]
  refine call_w (mul64_c m n m n rfl rfl (by omega) (by omega)) [] (by simp (maxSteps := 4000000) only [push_cast, Int.reduceEq, Int.reduceBNe, Int.reduceBEq, Int.reduceAdd, Int.reduceSub, Int.reduceMul, Int.reduceNeg, Int.reduceLT, Int.reduceLE, Nat.reduceLT, Nat.reduceAdd, Nat.reduceSub, Nat.reduceMul, Nat.reduceEqDiff, Nat.reduceLeDiff, Nat.reduceBEq, reduceIte, reduceCtorEq]) ?_
  rintro sv post ⟨rfl, rfl⟩
  simp (maxSteps := 4000000) only [push_cast, Int.reduceEq, Int.reduceBNe, Int.reduceBEq, Int.reduceAdd, Int.reduceSub, Int.reduceMul, Int.reduceNeg, Int.reduceLT, Int.reduceLE, Nat.reduceLT, Nat.reduceAdd, Nat.reduceSub, Nat.reduceMul, Nat.reduceEqDiff, Nat.reduceLeDiff, Nat.reduceBEq, reduceIte, reduceCtorEq]
  have hm : (m : Int) * (n : Int) = ((m * n : Nat) : Int) := mulc m n
  have hlt : m * n < 9223372036854775808 * 9223372036854775808 := Nat.mul_lt_mul'' (by omega) (by omega)
  unfold bytesV
  rw [hm]
  generalize hq : m * n = q at *
  have eh : hi64 m n = ((q / 18446744073709551616 : Nat) : Int) := by unfold hi64; rw [hq]
  have el : lo64 m n = ((q % 18446744073709551616 : Nat) : Int) := by unfold lo64; rw [hq]
  rw [eh, el]
  refine ⟨fun h1 => ?_, fun h1 => ?_⟩
  · rw [if_pos (by omega)]
    exact Fin.nil rfl (psv := .tup [.i .i64 0, .i .i64 4]) (by simp (maxSteps := 4000000) only [push_cast, Int.reduceEq, Int.reduceBNe, Int.reduceBEq, Int.reduceAdd, Int.reduceSub, Int.reduceMul, Int.reduceNeg, Int.reduceLT, Int.reduceLE, Nat.reduceLT, Nat.reduceAdd, Nat.reduceSub, Nat.reduceMul, Nat.reduceEqDiff, Nat.reduceLeDiff, Nat.reduceBEq, reduceIte, reduceCtorEq]) ⟨rfl, rfl⟩
  · rw [if_neg (by omega), wrap64 (by omega) (by omega), show ((q % 18446744073709551616 : Nat) : Int) = q by omega]
    exact Fin.nil rfl (psv := .tup [.i .i64 q, .i .i64 0]) (by simp (maxSteps := 4000000) only [push_cast, Int.reduceEq, Int.reduceBNe, Int.reduceBEq, Int.reduceAdd, Int.reduceSub, Int.reduceMul, Int.reduceNeg, Int.reduceLT, Int.reduceLE, Nat.reduceLT, Nat.reduceAdd, Nat.reduceSub, Nat.reduceMul, Nat.reduceEqDiff, Nat.reduceLeDiff, Nat.reduceBEq, reduceIte, reduceCtorEq]) ⟨rfl, rfl⟩

/-- What is asked first: how many bytes, and what is wrong. -/
def St.asks (x : St) (size count : Int) : Int × Int := if x.May then (if x.cl = true then (0, 113) else bytesV size count) else (0, 51)
def isAB (x : St) (r : Int × Int) (sv : SV) (post : SS) : Prop := sv = .tup [x.sv .new, .i .i64 r.1, .i .i64 r.2] ∧ post = nilSS

set_option maxHeartbeats 2000000 in
theorem askedB_c (x : St) (hx : x.fits) (t : TypeId) (y : Value) (size count : Int) (hs : size ≤ 9223372036854775807) (hc : count ≤ 9223372036854775807) : Contract Try.prog 52 nilSS [x.sv .old, .ifc t (.raw y), .i .i64 size, .i .i64 count] (isAB x (x.asks size count)) := by
  have hx' := hx
  obtain ⟨ho, hi, hk⟩ := hx'
  refine contract_ev Γok Try.func52 rfl rfl [] ?_
  simp (maxSteps := 4000000) only [push_cast, Int.reduceEq, Int.reduceBNe, Int.reduceBEq, Int.reduceAdd, Int.reduceSub, Int.reduceMul, Int.reduceNeg, Int.reduceLT, Int.reduceLE, Nat.reduceLT, Nat.reduceAdd, Nat.reduceSub, Nat.reduceMul, Nat.reduceEqDiff, Nat.reduceLeDiff, Nat.reduceBEq, reduceIte, reduceCtorEq, Try.f52, rg11, St.sv, St.cells]
  refine (region_plan rfl Γok mixed (.pure 0 (.pure 1 (.pure 3 (.pure 4 (.pure 6 (.pure 7 (.eff (.cons 2 [4, 7] (.pure 9 (.eff (.cons 5 [7] (.eff (.cons 8 [] (.eff (.cons 10 [] (.pure 11 (.eff (.cons 12 [] (.pure 13 (.eff (.cons 14 [] .done .nil))) .nil))) .nil)) .nil)) .nil))) .nil)))))))) 51 rfl (by kernel_rfl) ?_)
  simp (maxSteps := 4000000) only [push_cast, Int.reduceEq, Int.reduceBNe, Int.reduceBEq, Int.reduceAdd, Int.reduceSub, Int.reduceMul, Int.reduceNeg, Int.reduceLT, Int.reduceLE, Nat.reduceLT, Nat.reduceAdd, Nat.reduceSub, Nat.reduceMul, Nat.reduceEqDiff, Nat.reduceLeDiff, Nat.reduceBEq, reduceIte, reduceCtorEq]
  refine call_w (sclone_c x.o ho) [] (by simp (maxSteps := 4000000) only [push_cast, Int.reduceEq, Int.reduceBNe, Int.reduceBEq, Int.reduceAdd, Int.reduceSub, Int.reduceMul, Int.reduceNeg, Int.reduceLT, Int.reduceLE, Nat.reduceLT, Nat.reduceAdd, Nat.reduceSub, Nat.reduceMul, Nat.reduceEqDiff, Nat.reduceLeDiff, Nat.reduceBEq, reduceIte, reduceCtorEq]) ?_
  rintro sv post ⟨rfl, rfl⟩
  simp (maxSteps := 4000000) only [push_cast, Int.reduceEq, Int.reduceBNe, Int.reduceBEq, Int.reduceAdd, Int.reduceSub, Int.reduceMul, Int.reduceNeg, Int.reduceLT, Int.reduceLE, Nat.reduceLT, Nat.reduceAdd, Nat.reduceSub, Nat.reduceMul, Nat.reduceEqDiff, Nat.reduceLeDiff, Nat.reduceBEq, reduceIte, reduceCtorEq]
  refine call_w (sclone_c x.i hi) [] (by simp (maxSteps := 4000000) only [push_cast, Int.reduceEq, Int.reduceBNe, Int.reduceBEq, Int.reduceAdd, Int.reduceSub, Int.reduceMul, Int.reduceNeg, Int.reduceLT, Int.reduceLE, Nat.reduceLT, Nat.reduceAdd, Nat.reduceSub, Nat.reduceMul, Nat.reduceEqDiff, Nat.reduceLeDiff, Nat.reduceBEq, reduceIte, reduceCtorEq]) ?_
  rintro sv post ⟨rfl, rfl⟩
  simp (maxSteps := 4000000) only [push_cast, Int.reduceEq, Int.reduceBNe, Int.reduceBEq, Int.reduceAdd, Int.reduceSub, Int.reduceMul, Int.reduceNeg, Int.reduceLT, Int.reduceLE, Nat.reduceLT, Nat.reduceAdd, Nat.reduceSub, Nat.reduceMul, Nat.reduceEqDiff, Nat.reduceLeDiff, Nat.reduceBEq, reduceIte, reduceCtorEq]
  refine call_w (sclone_c x.k hk) [] (by simp (maxSteps := 4000000) only [push_cast, Int.reduceEq, Int.reduceBNe, Int.reduceBEq, Int.reduceAdd, Int.reduceSub, Int.reduceMul, Int.reduceNeg, Int.reduceLT, Int.reduceLE, Nat.reduceLT, Nat.reduceAdd, Nat.reduceSub, Nat.reduceMul, Nat.reduceEqDiff, Nat.reduceLeDiff, Nat.reduceBEq, reduceIte, reduceCtorEq]) ?_
  rintro sv post ⟨rfl, rfl⟩
  simp (maxSteps := 4000000) only [push_cast, Int.reduceEq, Int.reduceBNe, Int.reduceBEq, Int.reduceAdd, Int.reduceSub, Int.reduceMul, Int.reduceNeg, Int.reduceLT, Int.reduceLE, Nat.reduceLT, Nat.reduceAdd, Nat.reduceSub, Nat.reduceMul, Nat.reduceEqDiff, Nat.reduceLeDiff, Nat.reduceBEq, reduceIte, reduceCtorEq, rg11]
  refine call_w (checkR_c x hx) [] (by simp (maxSteps := 4000000) only [push_cast, Int.reduceEq, Int.reduceBNe, Int.reduceBEq, Int.reduceAdd, Int.reduceSub, Int.reduceMul, Int.reduceNeg, Int.reduceLT, Int.reduceLE, Nat.reduceLT, Nat.reduceAdd, Nat.reduceSub, Nat.reduceMul, Nat.reduceEqDiff, Nat.reduceLeDiff, Nat.reduceBEq, reduceIte, reduceCtorEq, St.sv, St.cells]) ?_
  rintro sv post ⟨rfl, rfl⟩
  simp (maxSteps := 4000000) only [push_cast, Int.reduceEq, Int.reduceBNe, Int.reduceBEq, Int.reduceAdd, Int.reduceSub, Int.reduceMul, Int.reduceNeg, Int.reduceLT, Int.reduceLE, Nat.reduceLT, Nat.reduceAdd, Nat.reduceSub, Nat.reduceMul, Nat.reduceEqDiff, Nat.reduceLeDiff, Nat.reduceBEq, reduceIte, reduceCtorEq, rg11]
  unfold St.asks
  refine ⟨fun h => ?_, fun h => ?_⟩
  · have hm : ¬ x.May := fun hm => h (by rw [if_pos hm])
    rw [if_neg hm, if_neg hm]
    exact Fin.nil rfl (psv := .tup [x.sv .new, .i .i64 0, .i .i64 51]) (by simp (maxSteps := 4000000) only [push_cast, Int.reduceEq, Int.reduceBNe, Int.reduceBEq, Int.reduceAdd, Int.reduceSub, Int.reduceMul, Int.reduceNeg, Int.reduceLT, Int.reduceLE, Nat.reduceLT, Nat.reduceAdd, Nat.reduceSub, Nat.reduceMul, Nat.reduceEqDiff, Nat.reduceLeDiff, Nat.reduceBEq, reduceIte, reduceCtorEq, St.sv, St.cells]) ⟨rfl, rfl⟩
  · have hm : x.May := by
      by_cases hm : x.May
      · exact hm
      · rw [if_neg hm] at h; omega
    simp only [if_pos hm]
    refine ⟨fun h1 => ?_, fun h1 => ?_⟩
    · rw [if_pos h1]
      exact Fin.nil rfl (psv := .tup [x.sv .new, .i .i64 0, .i .i64 113]) (by simp (maxSteps := 4000000) only [push_cast, Int.reduceEq, Int.reduceBNe, Int.reduceBEq, Int.reduceAdd, Int.reduceSub, Int.reduceMul, Int.reduceNeg, Int.reduceLT, Int.reduceLE, Nat.reduceLT, Nat.reduceAdd, Nat.reduceSub, Nat.reduceMul, Nat.reduceEqDiff, Nat.reduceLeDiff, Nat.reduceBEq, reduceIte, reduceCtorEq, St.sv, St.cells]) ⟨rfl, rfl⟩
    · rw [if_neg (by simp [h1])]
      refine call_w (bytes_c size count hs hc) [] (by simp (maxSteps := 4000000) only [push_cast, Int.reduceEq, Int.reduceBNe, Int.reduceBEq, Int.reduceAdd, Int.reduceSub, Int.reduceMul, Int.reduceNeg, Int.reduceLT, Int.reduceLE, Nat.reduceLT, Nat.reduceAdd, Nat.reduceSub, Nat.reduceMul, Nat.reduceEqDiff, Nat.reduceLeDiff, Nat.reduceBEq, reduceIte, reduceCtorEq]) ?_
      rintro sv post ⟨rfl, rfl⟩
      simp (maxSteps := 4000000) only [push_cast, Int.reduceEq, Int.reduceBNe, Int.reduceBEq, Int.reduceAdd, Int.reduceSub, Int.reduceMul, Int.reduceNeg, Int.reduceLT, Int.reduceLE, Nat.reduceLT, Nat.reduceAdd, Nat.reduceSub, Nat.reduceMul, Nat.reduceEqDiff, Nat.reduceLeDiff, Nat.reduceBEq, reduceIte, reduceCtorEq, rg11]
      exact Fin.nil rfl (psv := .tup [x.sv .new, .i .i64 (bytesV size count).1, .i .i64 (bytesV size count).2]) (by simp (maxSteps := 4000000) only [push_cast, Int.reduceEq, Int.reduceBNe, Int.reduceBEq, Int.reduceAdd, Int.reduceSub, Int.reduceMul, Int.reduceNeg, Int.reduceLT, Int.reduceLE, Nat.reduceLT, Nat.reduceAdd, Nat.reduceSub, Nat.reduceMul, Nat.reduceEqDiff, Nat.reduceLeDiff, Nat.reduceBEq, reduceIte, reduceCtorEq, St.sv, St.cells]) ⟨rfl, rfl⟩
end Go.Proofs.Ytdbhgnjpjpmioaa
