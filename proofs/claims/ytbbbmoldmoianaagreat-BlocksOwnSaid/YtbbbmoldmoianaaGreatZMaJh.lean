/- Texts joined, in order: Ma, Mb, Me, Jh. -/
import Derived.Test.YtbbbmoldmoianaaGreatZLaOd
import Derived.Test.YtbbbmoldmoianaaGreatZLbJf
import Derived.Lib.Mul64
/- Blocks: how many bytes some elements are; what is asked first. -/
namespace Go.Proofs.YtbbbmoldmoianaaGreat
open Go Go.Eng
set_option maxHeartbeats 4000000
set_option linter.unusedSimpArgs false
set_option linter.unusedVariables false
set_option maxRecDepth 100000

theorem wrapu (n : Nat) (h : n < 18446744073709551616) : IntKind.u64.wrap (n : Int) = (n : Int) := by
  rw [IntKind.wrap_u64]; omega
theorem and32 (x : Nat) (h : x < 18446744073709551616) : andI .u64 (x : Int) 4294967295 = ((x % 4294967296 : Nat) : Int) := by
  have e : (BitVec.ofInt IntKind.u64.bits (x : Int) &&& BitVec.ofInt IntKind.u64.bits 4294967295).toNat = x % 4294967296 := by
    show (BitVec.ofInt 64 (x : Int) &&& BitVec.ofNat 64 4294967295).toNat = _
    rw [BitVec.toNat_and, BitVec.ofInt_natCast, BitVec.toNat_ofNat, Nat.mod_eq_of_lt h]
    exact Nat.and_two_pow_sub_one_eq_mod x 32
  unfold andI
  rw [e, wrapu _ (by omega)]
theorem shr32 (x : Nat) : shrI .u64 (x : Int) 32 = ((x / 4294967296 : Nat) : Int) := by
  show (x : Int).fdiv (2 ^ min (32 : Int).toNat 64) = _
  rw [Int.fdiv_eq_ediv_of_nonneg _ (by decide)]
  rfl
theorem mulc (x y : Nat) : (x : Int) * (y : Int) = ((x * y : Nat) : Int) := (Int.natCast_mul x y).symm
theorem addc (x y : Nat) : (x : Int) + (y : Int) = ((x + y : Nat) : Int) := (Int.natCast_add x y).symm

def hi64 (x y : Nat) : Int := ((x * y / 18446744073709551616 : Nat) : Int)
def lo64 (x y : Nat) : Int := ((x * y % 18446744073709551616 : Nat) : Int)
theorem mul64_c (x y : Int) (m n : Nat) (hm : x = m) (hn : y = n) (hx : m < 18446744073709551616) (hy : n < 18446744073709551616) : Contract Tryz.prog 94 nilSS [.i .u64 x, .i .u64 y] (fun sv post => sv = .tup [.i .u64 (hi64 m n), .i .u64 (lo64 m n)] ∧ post = nilSS) := by
  refine contract_ev Γok Tryz.func94 rfl rfl [] ?_
  simp (maxSteps := 4000000) only [push_cast, Int.reduceEq, Int.reduceBNe, Int.reduceBEq, Int.reduceAdd, Int.reduceSub, Int.reduceMul, Int.reduceNeg, Int.reduceLT, Int.reduceLE, Int.reduceToNat, Nat.reduceLT, Nat.reduceAdd, Nat.reduceSub, Nat.reduceMul, Nat.reduceEqDiff, Nat.reduceLeDiff, Nat.reduceBEq, reduceIte, reduceCtorEq, Tryz.f94]
  subst hm hn
  obtain ⟨h1, h2, h3, h4⟩ := Go.Lib.mul64_hi m n hx hy
  have b1 : m % 4294967296 < 4294967296 := by omega
  have b2 : n % 4294967296 < 4294967296 := by omega
  have b3 : m / 4294967296 < 4294967296 := by omega
  have b4 : n / 4294967296 < 4294967296 := by omega
  have p1 := Go.Lib.half_mul_le (a := m / 4294967296) (b := n / 4294967296) (by omega) (by omega)
  have p2 := Go.Lib.half_mul_le (a := m / 4294967296) (b := n % 4294967296) (by omega) (by omega)
  have p3 := Go.Lib.half_mul_le (a := m % 4294967296) (b := n / 4294967296) (by omega) (by omega)
  have p5 : m * n / 18446744073709551616 < 18446744073709551616 := by
    have := Nat.mul_lt_mul'' hx hy
    omega
  rw [← h4] at p5
  simp only [shr32, and32 _ hx, and32 _ hy]
  simp only [mulc]
  rw [wrapu (m % 4294967296 * (n % 4294967296)) h1, shr32, wrapu (m / 4294967296 * (n % 4294967296)) (by omega), addc, wrapu _ h2, shr32, and32 _ h2, wrapu (m % 4294967296 * (n / 4294967296)) (by omega), addc, wrapu _ h3, shr32, wrapu (m / 4294967296 * (n / 4294967296)) (by omega), addc, wrapu _ (by omega), addc, wrapu _ (by omega)]
  have e2 : IntKind.u64.wrap ((m * n : Nat) : Int) = lo64 m n := by
    unfold lo64
    rw [IntKind.wrap_u64]
    omega
  rw [h4, e2, show ((m * n / 18446744073709551616 : Nat) : Int) = hi64 m n from rfl]
  exact Fin.nil rfl (psv := .tup [.i .u64 (hi64 m n), .i .u64 (lo64 m n)]) (by simp (maxSteps := 4000000) only [push_cast, Int.reduceEq, Int.reduceBNe, Int.reduceBEq, Int.reduceAdd, Int.reduceSub, Int.reduceMul, Int.reduceNeg, Int.reduceLT, Int.reduceLE, Int.reduceToNat, Nat.reduceLT, Nat.reduceAdd, Nat.reduceSub, Nat.reduceMul, Nat.reduceEqDiff, Nat.reduceLeDiff, Nat.reduceBEq, reduceIte, reduceCtorEq]) ⟨rfl, rfl⟩

/-- How many bytes some elements are. -/
def bytesV (size count : Int) : Int × Int := if size < 0 ∨ count < 0 ∨ 1048576 < size * count then (0, 4) else (size * count, 0)
theorem bytes_c (size count : Int) (hs : size ≤ 9223372036854775807) (hc : count ≤ 9223372036854775807) : Contract Tryz.prog 69 nilSS [.i .i64 size, .i .i64 count] (fun sv post => sv = .tup [.i .i64 (bytesV size count).1, .i .i64 (bytesV size count).2] ∧ post = nilSS) := by
  refine contract_ev Γok Tryz.func69 rfl rfl [] ?_
  simp (maxSteps := 4000000) only [push_cast, Int.reduceEq, Int.reduceBNe, Int.reduceBEq, Int.reduceAdd, Int.reduceSub, Int.reduceMul, Int.reduceNeg, Int.reduceLT, Int.reduceLE, Int.reduceToNat, Nat.reduceLT, Nat.reduceAdd, Nat.reduceSub, Nat.reduceMul, Nat.reduceEqDiff, Nat.reduceLeDiff, Nat.reduceBEq, reduceIte, reduceCtorEq, Tryz.f69]
  refine ⟨fun h => ?_, fun h => ?_⟩
  · have e : bytesV size count = (0, 4) := if_pos (by omega)
    rw [e]
    exact Fin.nil rfl (psv := .tup [.i .i64 0, .i .i64 4]) (by simp (maxSteps := 4000000) only [push_cast, Int.reduceEq, Int.reduceBNe, Int.reduceBEq, Int.reduceAdd, Int.reduceSub, Int.reduceMul, Int.reduceNeg, Int.reduceLT, Int.reduceLE, Int.reduceToNat, Nat.reduceLT, Nat.reduceAdd, Nat.reduceSub, Nat.reduceMul, Nat.reduceEqDiff, Nat.reduceLeDiff, Nat.reduceBEq, reduceIte, reduceCtorEq]) ⟨rfl, rfl⟩
  obtain ⟨m, rfl⟩ : ∃ m : Nat, size = m := ⟨size.toNat, by omega⟩
  obtain ⟨n, rfl⟩ : ∃ n : Nat, count = n := ⟨count.toNat, by omega⟩
  rw [wrapu m (by omega), wrapu n (by omega)]
  refine call_w (mul64_c m n m n rfl rfl (by omega) (by omega)) [] (by simp (maxSteps := 4000000) only [push_cast, Int.reduceEq, Int.reduceBNe, Int.reduceBEq, Int.reduceAdd, Int.reduceSub, Int.reduceMul, Int.reduceNeg, Int.reduceLT, Int.reduceLE, Int.reduceToNat, Nat.reduceLT, Nat.reduceAdd, Nat.reduceSub, Nat.reduceMul, Nat.reduceEqDiff, Nat.reduceLeDiff, Nat.reduceBEq, reduceIte, reduceCtorEq]) ?_
  rintro sv post ⟨rfl, rfl⟩
  simp (maxSteps := 4000000) only [push_cast, Int.reduceEq, Int.reduceBNe, Int.reduceBEq, Int.reduceAdd, Int.reduceSub, Int.reduceMul, Int.reduceNeg, Int.reduceLT, Int.reduceLE, Int.reduceToNat, Nat.reduceLT, Nat.reduceAdd, Nat.reduceSub, Nat.reduceMul, Nat.reduceEqDiff, Nat.reduceLeDiff, Nat.reduceBEq, reduceIte, reduceCtorEq]
  have hm : (m : Int) * (n : Int) = ((m * n : Nat) : Int) := mulc m n
  have hlt : m * n < 9223372036854775808 * 9223372036854775808 := Nat.mul_lt_mul'' (by omega) (by omega)
  unfold bytesV
  rw [hm]
  generalize hq : m * n = q at *
  have eh : hi64 m n = ((q / 18446744073709551616 : Nat) : Int) := by unfold hi64; rw [hq]
  have el : lo64 m n = ((q % 18446744073709551616 : Nat) : Int) := by unfold lo64; rw [hq]
  rw [eh, el]
  refine ⟨fun h1 => ?_, fun h1 => ?_⟩
  · rw [if_pos (by omega)]
    exact Fin.nil rfl (psv := .tup [.i .i64 0, .i .i64 4]) (by simp (maxSteps := 4000000) only [push_cast, Int.reduceEq, Int.reduceBNe, Int.reduceBEq, Int.reduceAdd, Int.reduceSub, Int.reduceMul, Int.reduceNeg, Int.reduceLT, Int.reduceLE, Int.reduceToNat, Nat.reduceLT, Nat.reduceAdd, Nat.reduceSub, Nat.reduceMul, Nat.reduceEqDiff, Nat.reduceLeDiff, Nat.reduceBEq, reduceIte, reduceCtorEq]) ⟨rfl, rfl⟩
  · rw [if_neg (by omega), wrap64 (by omega) (by omega), show ((q % 18446744073709551616 : Nat) : Int) = q by omega]
    exact Fin.nil rfl (psv := .tup [.i .i64 q, .i .i64 0]) (by simp (maxSteps := 4000000) only [push_cast, Int.reduceEq, Int.reduceBNe, Int.reduceBEq, Int.reduceAdd, Int.reduceSub, Int.reduceMul, Int.reduceNeg, Int.reduceLT, Int.reduceLE, Int.reduceToNat, Nat.reduceLT, Nat.reduceAdd, Nat.reduceSub, Nat.reduceMul, Nat.reduceEqDiff, Nat.reduceLeDiff, Nat.reduceBEq, reduceIte, reduceCtorEq]) ⟨rfl, rfl⟩

/-- What is asked first: how many bytes, and what is wrong. -/
def St.asks (x : St) (size count : Int) : Int × Int := if x.May then (if x.cl = true then (0, 113) else bytesV size count) else (0, 51)
def isAB (x : St) (r : Int × Int) (sv : SV) (post : SS) : Prop := sv = .tup [x.sv .new, .i .i64 r.1, .i .i64 r.2] ∧ post = nilSS

set_option maxHeartbeats 2000000 in
theorem askedB_c (x : St) (hx : x.fits) (t : TypeId) (y : Value) (size count : Int) (hs : size ≤ 9223372036854775807) (hc : count ≤ 9223372036854775807) : Contract Tryz.prog 70 nilSS [x.sv .old, .ifc t (.raw y), .i .i64 size, .i .i64 count] (isAB x (x.asks size count)) := by
  have hx' := hx
  obtain ⟨ho, hi, hk⟩ := hx'
  refine contract_ev Γok Tryz.func70 rfl rfl [] ?_
  simp (maxSteps := 4000000) only [push_cast, Int.reduceEq, Int.reduceBNe, Int.reduceBEq, Int.reduceAdd, Int.reduceSub, Int.reduceMul, Int.reduceNeg, Int.reduceLT, Int.reduceLE, Int.reduceToNat, Nat.reduceLT, Nat.reduceAdd, Nat.reduceSub, Nat.reduceMul, Nat.reduceEqDiff, Nat.reduceLeDiff, Nat.reduceBEq, reduceIte, reduceCtorEq, Tryz.f70, rg11, St.sv, St.cells]
  refine (region_plan rfl Γok mixed (.pure 0 (.pure 1 (.pure 3 (.pure 4 (.pure 6 (.pure 7 (.eff (.cons 2 [4, 7] (.pure 9 (.eff (.cons 5 [7] (.eff (.cons 8 [] (.eff (.cons 10 [] (.pure 11 (.eff (.cons 12 [] (.pure 13 (.eff (.cons 14 [] .done .nil))) .nil))) .nil)) .nil)) .nil))) .nil)))))))) 51 rfl (by kernel_rfl) ?_)
  simp (maxSteps := 4000000) only [push_cast, Int.reduceEq, Int.reduceBNe, Int.reduceBEq, Int.reduceAdd, Int.reduceSub, Int.reduceMul, Int.reduceNeg, Int.reduceLT, Int.reduceLE, Int.reduceToNat, Nat.reduceLT, Nat.reduceAdd, Nat.reduceSub, Nat.reduceMul, Nat.reduceEqDiff, Nat.reduceLeDiff, Nat.reduceBEq, reduceIte, reduceCtorEq]
  refine call_w (sclone_c x.o ho) [] (by simp (maxSteps := 4000000) only [push_cast, Int.reduceEq, Int.reduceBNe, Int.reduceBEq, Int.reduceAdd, Int.reduceSub, Int.reduceMul, Int.reduceNeg, Int.reduceLT, Int.reduceLE, Int.reduceToNat, Nat.reduceLT, Nat.reduceAdd, Nat.reduceSub, Nat.reduceMul, Nat.reduceEqDiff, Nat.reduceLeDiff, Nat.reduceBEq, reduceIte, reduceCtorEq]) ?_
  rintro sv post ⟨rfl, rfl⟩
  simp (maxSteps := 4000000) only [push_cast, Int.reduceEq, Int.reduceBNe, Int.reduceBEq, Int.reduceAdd, Int.reduceSub, Int.reduceMul, Int.reduceNeg, Int.reduceLT, Int.reduceLE, Int.reduceToNat, Nat.reduceLT, Nat.reduceAdd, Nat.reduceSub, Nat.reduceMul, Nat.reduceEqDiff, Nat.reduceLeDiff, Nat.reduceBEq, reduceIte, reduceCtorEq]
  refine call_w (sclone_c x.i hi) [] (by simp (maxSteps := 4000000) only [push_cast, Int.reduceEq, Int.reduceBNe, Int.reduceBEq, Int.reduceAdd, Int.reduceSub, Int.reduceMul, Int.reduceNeg, Int.reduceLT, Int.reduceLE, Int.reduceToNat, Nat.reduceLT, Nat.reduceAdd, Nat.reduceSub, Nat.reduceMul, Nat.reduceEqDiff, Nat.reduceLeDiff, Nat.reduceBEq, reduceIte, reduceCtorEq]) ?_
  rintro sv post ⟨rfl, rfl⟩
  simp (maxSteps := 4000000) only [push_cast, Int.reduceEq, Int.reduceBNe, Int.reduceBEq, Int.reduceAdd, Int.reduceSub, Int.reduceMul, Int.reduceNeg, Int.reduceLT, Int.reduceLE, Int.reduceToNat, Nat.reduceLT, Nat.reduceAdd, Nat.reduceSub, Nat.reduceMul, Nat.reduceEqDiff, Nat.reduceLeDiff, Nat.reduceBEq, reduceIte, reduceCtorEq]
  refine call_w (sclone_c x.k hk) [] (by simp (maxSteps := 4000000) only [push_cast, Int.reduceEq, Int.reduceBNe, Int.reduceBEq, Int.reduceAdd, Int.reduceSub, Int.reduceMul, Int.reduceNeg, Int.reduceLT, Int.reduceLE, Int.reduceToNat, Nat.reduceLT, Nat.reduceAdd, Nat.reduceSub, Nat.reduceMul, Nat.reduceEqDiff, Nat.reduceLeDiff, Nat.reduceBEq, reduceIte, reduceCtorEq]) ?_
  rintro sv post ⟨rfl, rfl⟩
  simp (maxSteps := 4000000) only [push_cast, Int.reduceEq, Int.reduceBNe, Int.reduceBEq, Int.reduceAdd, Int.reduceSub, Int.reduceMul, Int.reduceNeg, Int.reduceLT, Int.reduceLE, Int.reduceToNat, Nat.reduceLT, Nat.reduceAdd, Nat.reduceSub, Nat.reduceMul, Nat.reduceEqDiff, Nat.reduceLeDiff, Nat.reduceBEq, reduceIte, reduceCtorEq, rg11]
  refine call_w (checkR_c x hx) [] (by simp (maxSteps := 4000000) only [push_cast, Int.reduceEq, Int.reduceBNe, Int.reduceBEq, Int.reduceAdd, Int.reduceSub, Int.reduceMul, Int.reduceNeg, Int.reduceLT, Int.reduceLE, Int.reduceToNat, Nat.reduceLT, Nat.reduceAdd, Nat.reduceSub, Nat.reduceMul, Nat.reduceEqDiff, Nat.reduceLeDiff, Nat.reduceBEq, reduceIte, reduceCtorEq, St.sv, St.cells]) ?_
  rintro sv post ⟨rfl, rfl⟩
  simp (maxSteps := 4000000) only [push_cast, Int.reduceEq, Int.reduceBNe, Int.reduceBEq, Int.reduceAdd, Int.reduceSub, Int.reduceMul, Int.reduceNeg, Int.reduceLT, Int.reduceLE, Int.reduceToNat, Nat.reduceLT, Nat.reduceAdd, Nat.reduceSub, Nat.reduceMul, Nat.reduceEqDiff, Nat.reduceLeDiff, Nat.reduceBEq, reduceIte, reduceCtorEq, rg11]
  unfold St.asks
  refine ⟨fun h => ?_, fun h => ?_⟩
  · have hm : ¬ x.May := fun hm => h (by rw [if_pos hm])
    rw [if_neg hm, if_neg hm]
    exact Fin.nil rfl (psv := .tup [x.sv .new, .i .i64 0, .i .i64 51]) (by simp (maxSteps := 4000000) only [push_cast, Int.reduceEq, Int.reduceBNe, Int.reduceBEq, Int.reduceAdd, Int.reduceSub, Int.reduceMul, Int.reduceNeg, Int.reduceLT, Int.reduceLE, Int.reduceToNat, Nat.reduceLT, Nat.reduceAdd, Nat.reduceSub, Nat.reduceMul, Nat.reduceEqDiff, Nat.reduceLeDiff, Nat.reduceBEq, reduceIte, reduceCtorEq, St.sv, St.cells]) ⟨rfl, rfl⟩
  · have hm : x.May := by
      by_cases hm : x.May
      · exact hm
      · rw [if_neg hm] at h; omega
    simp only [if_pos hm]
    refine ⟨fun h1 => ?_, fun h1 => ?_⟩
    · rw [if_pos h1]
      exact Fin.nil rfl (psv := .tup [x.sv .new, .i .i64 0, .i .i64 113]) (by simp (maxSteps := 4000000) only [push_cast, Int.reduceEq, Int.reduceBNe, Int.reduceBEq, Int.reduceAdd, Int.reduceSub, Int.reduceMul, Int.reduceNeg, Int.reduceLT, Int.reduceLE, Int.reduceToNat, Nat.reduceLT, Nat.reduceAdd, Nat.reduceSub, Nat.reduceMul, Nat.reduceEqDiff, Nat.reduceLeDiff, Nat.reduceBEq, reduceIte, reduceCtorEq, St.sv, St.cells]) ⟨rfl, rfl⟩
    · rw [if_neg (by simp [h1])]
      refine call_w (bytes_c size count hs hc) [] (by simp (maxSteps := 4000000) only [push_cast, Int.reduceEq, Int.reduceBNe, Int.reduceBEq, Int.reduceAdd, Int.reduceSub, Int.reduceMul, Int.reduceNeg, Int.reduceLT, Int.reduceLE, Int.reduceToNat, Nat.reduceLT, Nat.reduceAdd, Nat.reduceSub, Nat.reduceMul, Nat.reduceEqDiff, Nat.reduceLeDiff, Nat.reduceBEq, reduceIte, reduceCtorEq]) ?_
      rintro sv post ⟨rfl, rfl⟩
      simp (maxSteps := 4000000) only [push_cast, Int.reduceEq, Int.reduceBNe, Int.reduceBEq, Int.reduceAdd, Int.reduceSub, Int.reduceMul, Int.reduceNeg, Int.reduceLT, Int.reduceLE, Int.reduceToNat, Nat.reduceLT, Nat.reduceAdd, Nat.reduceSub, Nat.reduceMul, Nat.reduceEqDiff, Nat.reduceLeDiff, Nat.reduceBEq, reduceIte, reduceCtorEq, rg11]
      exact Fin.nil rfl (psv := .tup [x.sv .new, .i .i64 (bytesV size count).1, .i .i64 (bytesV size count).2]) (by simp (maxSteps := 4000000) only [push_cast, Int.reduceEq, Int.reduceBNe, Int.reduceBEq, Int.reduceAdd, Int.reduceSub, Int.reduceMul, Int.reduceNeg, Int.reduceLT, Int.reduceLE, Int.reduceToNat, Nat.reduceLT, Nat.reduceAdd, Nat.reduceSub, Nat.reduceMul, Nat.reduceEqDiff, Nat.reduceLeDiff, Nat.reduceBEq, reduceIte, reduceCtorEq, St.sv, St.cells]) ⟨rfl, rfl⟩
end Go.Proofs.YtbbbmoldmoianaaGreat
/- Blocks: elements in. -/
namespace Go.Proofs.YtbbbmoldmoianaaGreat
open Go Go.Eng
set_option maxHeartbeats 4000000
set_option linter.unusedSimpArgs false
set_option linter.unusedVariables false
set_option maxRecDepth 100000

/-- So many bytes, till one is not got. -/
def readGo (M : RawM) : Nat → St → M.σ → List Int → St × M.σ × List Int × Int
  | 0, x, g, out => (x, g, out, 0)
  | f + 1, x, g, out =>
    if (x.Get M g).2.2.2 ≠ 0 then ((x.Get M g).1, (x.Get M g).2.1, out, (x.Get M g).2.2.2)
    else readGo M f (x.Get M g).1 (x.Get M g).2.1 (out ++ [(x.Get M g).2.2.1])
def St.Read (M : RawM) (x : St) (g : M.σ) (size count : Int) : St × M.σ × List Int × Int × Int :=
  if (x.asks size count).2 ≠ 0 ∨ (x.asks size count).1 = 0 then (x, g, [], 0, (x.asks size count).2)
  else ((readGo M (x.asks size count).1.toNat x g []).1, (readGo M (x.asks size count).1.toNat x g []).2.1, (readGo M (x.asks size count).1.toNat x g []).2.2.1, ((readGo M (x.asks size count).1.toNat x g []).2.2.1.length : Int).tdiv size, (readGo M (x.asks size count).1.toNat x g []).2.2.2)
def isRB (M : RawM) (r : St × M.σ × List Int × Int × Int) (sv : SV) (post : SS) : Prop := sv = .tup [r.1.sv .new, .ints .u8 .new r.2.2.1, .i .i64 r.2.2.2.1, .i .i64 r.2.2.2.2] ∧ post = preR (M.res r.2.1)

theorem asks_rng {x : St} {size count : Int} (h : (x.asks size count).2 = 0) : x.May ∧ x.cl = false ∧ 0 ≤ size ∧ 0 ≤ count ∧ size * count ≤ 1048576 ∧ (x.asks size count).1 = size * count := by
  unfold St.asks bytesV at *
  by_cases hm : x.May
  · simp only [if_pos hm] at h ⊢
    cases hc : x.cl <;> simp only [hc, if_true, Bool.false_eq_true, if_false] at h ⊢
    · by_cases hq : size < 0 ∨ count < 0 ∨ 1048576 < size * count
      · rw [if_pos hq] at h; simp at h
      · rw [if_neg hq]; exact ⟨hm, trivial, by omega, by omega, by omega, rfl⟩
    · simp at h
  · rw [if_neg hm] at h; simp at h

theorem quo64 (n : Nat) (s : Int) (h : (n : Int) ≤ 9223372036854775807) (hs : 0 ≤ s) : IntKind.i64.wrap ((n : Int).tdiv s) = (n : Int).tdiv s := by
  have h1 : 0 ≤ (n : Int).tdiv s := Int.tdiv_nonneg (by omega) hs
  have h2 : (n : Int).tdiv s ≤ n := by
    rw [Int.tdiv_eq_ediv_of_nonneg (by omega)]
    exact Int.ediv_le_self s (by omega)
  exact wrap64 (by omega) (by omega)

set_option maxHeartbeats 2000000 in
theorem ReadB_c (M : RawM) (hR : M.Rd) (x : St) (hx : x.fits) (g : M.σ) (hg : M.ok g) (size count : Int) (hs : size ≤ 9223372036854775807) (hc : count ≤ 9223372036854775807) : Contract Tryz.prog 34 (preR (M.res g))
    [x.sv .old, M.v, .i .i64 size, .i .i64 count] (isRB M (x.Read M g size count)) := by
  refine contract_ev Γok Tryz.func34 rfl rfl [] ?_
  simp (maxSteps := 4000000) only [push_cast, Int.reduceEq, Int.reduceBNe, Int.reduceBEq, Int.reduceAdd, Int.reduceSub, Int.reduceMul, Int.reduceNeg, Int.reduceLT, Int.reduceLE, Int.reduceToNat, Nat.reduceLT, Nat.reduceAdd, Nat.reduceSub, Nat.reduceMul, Nat.reduceEqDiff, Nat.reduceLeDiff, Nat.reduceBEq, reduceIte, reduceCtorEq, Tryz.f34, St.sv, St.cells, RawM.v, rg11]
  refine call_w (askedB_c x hx M.t M.y size count hs hc) [] (by simp (maxSteps := 4000000) only [push_cast, Int.reduceEq, Int.reduceBNe, Int.reduceBEq, Int.reduceAdd, Int.reduceSub, Int.reduceMul, Int.reduceNeg, Int.reduceLT, Int.reduceLE, Int.reduceToNat, Nat.reduceLT, Nat.reduceAdd, Nat.reduceSub, Nat.reduceMul, Nat.reduceEqDiff, Nat.reduceLeDiff, Nat.reduceBEq, reduceIte, reduceCtorEq, St.sv, St.cells]) ?_
  rintro sv post ⟨rfl, rfl⟩
  simp (maxSteps := 4000000) only [push_cast, Int.reduceEq, Int.reduceBNe, Int.reduceBEq, Int.reduceAdd, Int.reduceSub, Int.reduceMul, Int.reduceNeg, Int.reduceLT, Int.reduceLE, Int.reduceToNat, Nat.reduceLT, Nat.reduceAdd, Nat.reduceSub, Nat.reduceMul, Nat.reduceEqDiff, Nat.reduceLeDiff, Nat.reduceBEq, reduceIte, reduceCtorEq, St.sv, St.cells, rg11]
  refine ⟨fun h => ?_, fun h => ?_⟩
  · have e : x.Read M g size count = (x, g, [], 0, (x.asks size count).2) := if_pos h
    rw [e]
    exact Fin.w [0] (.tup [x.sv .new, .ints .u8 .new [], .i .i64 0, .i .i64 (x.asks size count).2]) _ (by simp (maxSteps := 4000000) only [push_cast, Int.reduceEq, Int.reduceBNe, Int.reduceBEq, Int.reduceAdd, Int.reduceSub, Int.reduceMul, Int.reduceNeg, Int.reduceLT, Int.reduceLE, Int.reduceToNat, Nat.reduceLT, Nat.reduceAdd, Nat.reduceSub, Nat.reduceMul, Nat.reduceEqDiff, Nat.reduceLeDiff, Nat.reduceBEq, reduceIte, reduceCtorEq, St.sv, St.cells]) ⟨rfl, rfl⟩
  · have e : x.Read M g size count = ((readGo M (x.asks size count).1.toNat x g []).1, (readGo M (x.asks size count).1.toNat x g []).2.1, (readGo M (x.asks size count).1.toNat x g []).2.2.1, ((readGo M (x.asks size count).1.toNat x g []).2.2.1.length : Int).tdiv size, (readGo M (x.asks size count).1.toNat x g []).2.2.2) := if_neg (by omega)
    obtain ⟨hm, hcl, hs0, hc0, hn, hq⟩ := asks_rng h.1
    obtain ⟨n, hnn⟩ : ∃ n : Nat, (x.asks size count).1 = n := ⟨(x.asks size count).1.toNat, by have := Int.mul_nonneg hs0 hc0; omega⟩
    have hs1 : size ≠ 0 := by rintro rfl; rw [hq] at h; simp at h
    rw [e]
    have hk := h.1
    rw [hk]
    rw [hnn] at h hq ⊢
    simp only [Int.toNat_natCast]
    generalize hr : readGo M n x g [] = r
    refine CodeOK.sub (Sub.tokFr 15 rfl) ?_
    simp (maxSteps := 4000000) only [push_cast, Int.reduceEq, Int.reduceBNe, Int.reduceBEq, Int.reduceAdd, Int.reduceSub, Int.reduceMul, Int.reduceNeg, Int.reduceLT, Int.reduceLE, Int.reduceToNat, Nat.reduceLT, Nat.reduceAdd, Nat.reduceSub, Nat.reduceMul, Nat.reduceEqDiff, Nat.reduceLeDiff, Nat.reduceBEq, reduceIte, reduceCtorEq]
    refine loop_ok (ι := {q : Nat × St × M.σ × List Int // q.2.1.fits ∧ M.ok q.2.2.1 ∧ q.2.2.2.length + q.1 = n ∧ readGo M q.1 q.2.1 q.2.2.1 q.2.2.2 = r})
      (fun q => ⟨[.any, M.v, .i .i64 size, .any, .any, .any, .any, .any, .ptr 2 0, .any, .any, .any, .ptr 3 0, .any, .i .i64 0, .ints .u8 (.tok 4 true) q.1.2.2.2] ++ List.replicate 18 .any ++ [.i .i64 n, .i .i64 q.1.2.2.2.length] ++ List.replicate 22 .any, [(3, 43, q.1.2.1.cells .new .new .new), (2, 43, List.replicate 11 .any)], [4], [(0, M.res q.1.2.2.1)], 5, 1, []⟩)
      (fun q => q.1.1) ⟨(n, x, g, []), hx, hg, by simp, hr⟩ ?_ ?_
    · refine Sub.w [0, 1, 2, 3, 4] ?_
      simp (maxSteps := 4000000) only [push_cast, Int.reduceEq, Int.reduceBNe, Int.reduceBEq, Int.reduceAdd, Int.reduceSub, Int.reduceMul, Int.reduceNeg, Int.reduceLT, Int.reduceLE, Int.reduceToNat, Nat.reduceLT, Nat.reduceAdd, Nat.reduceSub, Nat.reduceMul, Nat.reduceEqDiff, Nat.reduceLeDiff, Nat.reduceBEq, reduceIte, reduceCtorEq, RawM.v, St.cells]
    · rintro ⟨⟨f, x', g', out⟩, hx', hg', hl, he⟩
      simp only at hx' hg' hl he
      have hkeep := Get_ok M hR x' g' hg'
      have hfit := Get_fits M x' g' hx'
      refine evCode_sound Γok _ _ _ ?_
      simp (maxSteps := 4000000) only [push_cast, Int.reduceEq, Int.reduceBNe, Int.reduceBEq, Int.reduceAdd, Int.reduceSub, Int.reduceMul, Int.reduceNeg, Int.reduceLT, Int.reduceLE, Int.reduceToNat, Nat.reduceLT, Nat.reduceAdd, Nat.reduceSub, Nat.reduceMul, Nat.reduceEqDiff, Nat.reduceLeDiff, Nat.reduceBEq, reduceIte, reduceCtorEq, RawM.v, St.cells, rg11]
      refine ⟨fun h1 => ?_, fun h1 => ?_⟩
      · obtain ⟨f, rfl⟩ : ∃ f', f = f' + 1 := ⟨f - 1, by omega⟩
        simp only [readGo] at he
        refine call_w (GetR_c M hR x' g' hg' hx') [0] (by simp (maxSteps := 4000000) only [push_cast, Int.reduceEq, Int.reduceBNe, Int.reduceBEq, Int.reduceAdd, Int.reduceSub, Int.reduceMul, Int.reduceNeg, Int.reduceLT, Int.reduceLE, Int.reduceToNat, Nat.reduceLT, Nat.reduceAdd, Nat.reduceSub, Nat.reduceMul, Nat.reduceEqDiff, Nat.reduceLeDiff, Nat.reduceBEq, reduceIte, reduceCtorEq, St.sv, St.cells, RawM.v]) ?_
        rintro sv post ⟨rfl, rfl⟩
        simp (maxSteps := 4000000) only [push_cast, Int.reduceEq, Int.reduceBNe, Int.reduceBEq, Int.reduceAdd, Int.reduceSub, Int.reduceMul, Int.reduceNeg, Int.reduceLT, Int.reduceLE, Int.reduceToNat, Nat.reduceLT, Nat.reduceAdd, Nat.reduceSub, Nat.reduceMul, Nat.reduceEqDiff, Nat.reduceLeDiff, Nat.reduceBEq, reduceIte, reduceCtorEq, St.sv, St.cells, rg11]
        refine ⟨fun h2 => ?_, fun h2 => ?_⟩
        · rw [if_pos h2] at he
          rw [← he]
          refine (region_plan rfl Γok mixed (.pure 0 (.pure 1 (.pure 2 (.pure 3 (.pure 4 (.pure 5 (.pure 6 (.eff (.cons 7 [] (.pure 8 (.pure 9 (.pure 10 .done))) .nil))))))))) 58 rfl (by kernel_rfl) ?_)
          simp (maxSteps := 4000000) only [push_cast, Int.reduceEq, Int.reduceBNe, Int.reduceBEq, Int.reduceAdd, Int.reduceSub, Int.reduceMul, Int.reduceNeg, Int.reduceLT, Int.reduceLE, Int.reduceToNat, Nat.reduceLT, Nat.reduceAdd, Nat.reduceSub, Nat.reduceMul, Nat.reduceEqDiff, Nat.reduceLeDiff, Nat.reduceBEq, reduceIte, reduceCtorEq, rg11]
          rw [quo64 out.length size (by omega) hs0]
          exact ⟨hs1, Fin.w [0] (.tup [(x'.Get M g').1.sv .new, .ints .u8 .new out, .i .i64 _, .i .i64 _]) _ (by simp (maxSteps := 4000000) only [push_cast, Int.reduceEq, Int.reduceBNe, Int.reduceBEq, Int.reduceAdd, Int.reduceSub, Int.reduceMul, Int.reduceNeg, Int.reduceLT, Int.reduceLE, Int.reduceToNat, Nat.reduceLT, Nat.reduceAdd, Nat.reduceSub, Nat.reduceMul, Nat.reduceEqDiff, Nat.reduceLeDiff, Nat.reduceBEq, reduceIte, reduceCtorEq, St.sv, St.cells]) ⟨rfl, rfl⟩⟩
        · rw [if_neg (by omega)] at he
          refine ⟨by omega, ⟨(f, (x'.Get M g').1, (x'.Get M g').2.1, out ++ [(x'.Get M g').2.2.1]), hfit, hkeep, by simp; omega, he⟩, by simp only; omega, Sub.w [0, 1, 2, 3, 6] ?_⟩
          simp (maxSteps := 4000000) only [push_cast, Int.reduceEq, Int.reduceBNe, Int.reduceBEq, Int.reduceAdd, Int.reduceSub, Int.reduceMul, Int.reduceNeg, Int.reduceLT, Int.reduceLE, Int.reduceToNat, Nat.reduceLT, Nat.reduceAdd, Nat.reduceSub, Nat.reduceMul, Nat.reduceEqDiff, Nat.reduceLeDiff, Nat.reduceBEq, reduceIte, reduceCtorEq, RawM.v, St.cells]
          exact ⟨by omega, by rw [wrap64 (by omega) (by omega)]; simp⟩
      · obtain rfl : f = 0 := by omega
        simp only [readGo] at he
        rw [← he]
        refine (region_plan rfl Γok mixed (.pure 0 (.pure 1 (.pure 2 (.pure 3 (.pure 4 (.pure 5 (.pure 6 (.eff (.cons 7 [] (.pure 8 (.pure 9 (.pure 10 .done))) .nil))))))))) 58 rfl (by kernel_rfl) ?_)
        simp (maxSteps := 4000000) only [push_cast, Int.reduceEq, Int.reduceBNe, Int.reduceBEq, Int.reduceAdd, Int.reduceSub, Int.reduceMul, Int.reduceNeg, Int.reduceLT, Int.reduceLE, Int.reduceToNat, Nat.reduceLT, Nat.reduceAdd, Nat.reduceSub, Nat.reduceMul, Nat.reduceEqDiff, Nat.reduceLeDiff, Nat.reduceBEq, reduceIte, reduceCtorEq, rg11]
        rw [quo64 out.length size (by omega) hs0]
        exact ⟨hs1, Fin.w [0] (.tup [x'.sv .new, .ints .u8 .new out, .i .i64 _, .i .i64 _]) _ (by simp (maxSteps := 4000000) only [push_cast, Int.reduceEq, Int.reduceBNe, Int.reduceBEq, Int.reduceAdd, Int.reduceSub, Int.reduceMul, Int.reduceNeg, Int.reduceLT, Int.reduceLE, Int.reduceToNat, Nat.reduceLT, Nat.reduceAdd, Nat.reduceSub, Nat.reduceMul, Nat.reduceEqDiff, Nat.reduceLeDiff, Nat.reduceBEq, reduceIte, reduceCtorEq, St.sv, St.cells]) ⟨rfl, rfl⟩⟩
end Go.Proofs.YtbbbmoldmoianaaGreat
/- Blocks: what the laws on reading need (texts Mc, Md where the seat has their functions). -/
namespace Go.Proofs.YtbbbmoldmoianaaGreat
open Go Go.Eng
set_option maxHeartbeats 4000000
set_option linter.unusedSimpArgs false
set_option linter.unusedVariables false
set_option maxRecDepth 100000

theorem num16_c (m : Int) : Contract Tryz.prog 36 nilSS [.i .i64 m] (fun sv post => sv = .i .i64 m ∧ post = nilSS) := by
  refine contract_ev Γok Tryz.func36 rfl rfl [] ?_
  simp (maxSteps := 4000000) only [push_cast, Int.reduceEq, Int.reduceBNe, Int.reduceBEq, Int.reduceAdd, Int.reduceSub, Int.reduceMul, Int.reduceNeg, Int.reduceLT, Int.reduceLE, Int.reduceToNat, Nat.reduceLT, Nat.reduceAdd, Nat.reduceSub, Nat.reduceMul, Nat.reduceEqDiff, Nat.reduceLeDiff, Nat.reduceBEq, reduceIte, reduceCtorEq, Tryz.f36]
  exact Fin.nil rfl (psv := .i .i64 _) ⟨rfl, rfl⟩ ⟨rfl, rfl⟩

theorem readGo_feeds {M : RawM} (hR : M.Rd) {rest : M.σ → List Int} (hF : Feeds M rest) : ∀ (f : Nat) (x : St) (g : M.σ) (out : List Int), Reads M rest x g →
    (readGo M f x g out).2.2.1 = out ++ (left M rest x g).take f ∧ (readGo M f x g out).2.2.2 = (if f ≤ (left M rest x g).length then 0 else 111)
  | 0, x, g, out, h => by simp [readGo]
  | f + 1, x, g, out, h => by
    obtain ⟨k1, k2⟩ := get_feeds hR hF h
    unfold readGo
    cases hl : left M rest x g with
    | nil =>
      rw [hl] at k2
      simp only at k2
      rw [k2.1]
      simp
    | cons c l =>
      rw [hl] at k2
      simp only at k2
      rw [k2.1]
      obtain ⟨e1, e2⟩ := readGo_feeds hR hF f _ _ (out ++ [c]) k1
      rw [k2.2.1] at e1 e2
      simp only [ne_eq, not_true_eq_false, if_false]
      rw [e1, e2]
      simp

theorem rd16a (b : Nat) : (newSt true false 3 4).Read (readerM [104, 101, 108, 108, 111] b) (0 : Int) 2 3 = (exSt [] true, (5 : Int), [104, 101, 108, 108, 111], 2, 111) := by kernel_rfl

set_option maxHeartbeats 2000000 in
theorem alive16_c : Contract Tryz.prog 33 nilSS [] (fun sv post => sv = .b true ∧ post = nilSS) := by
  have e0 : newSt true false 3 4 = ⟨true, false, 3, 4, [], [], [], 0, false, false, false⟩ := rfl
  have hR := fun b => readerM_rd [104, 101, 108, 108, 111] b (by simp)
  have hv : ∀ b, (readerM [104, 101, 108, 108, 111] b).v = .ifc 101 (.raw (.pointer (some ⟨b, 0, none⟩))) := fun b => rfl
  have hr : ∀ b (p : Int), (readerM [104, 101, 108, 108, 111] b).res p = (readerS [104, 101, 108, 108, 111] p).res b := fun b p => rfl
  have q1 : strOf [104, 101, 108, 108, 111] = ⟨#[104, 101, 108, 108, 111]⟩ := rfl
  have may0 : mayV 3 4 = 0 := rfl
  have bv : bytesV 1099511627776 1099511627776 = (0, 4) := by decide
  refine contract_ev Γok Tryz.func33 rfl rfl [] ?_
  simp (maxSteps := 4000000) only [push_cast, Int.reduceEq, Int.reduceBNe, Int.reduceBEq, Int.reduceAdd, Int.reduceSub, Int.reduceMul, Int.reduceNeg, Int.reduceLT, Int.reduceLE, Int.reduceToNat, Nat.reduceLT, Nat.reduceAdd, Nat.reduceSub, Nat.reduceMul, Nat.reduceEqDiff, Nat.reduceLeDiff, Nat.reduceBEq, reduceIte, reduceCtorEq, Tryz.f33]
  refine call_w (newReader_c [104, 101, 108, 108, 111] (by simp)) [] (by simp (maxSteps := 4000000) only [push_cast, Int.reduceEq, Int.reduceBNe, Int.reduceBEq, Int.reduceAdd, Int.reduceSub, Int.reduceMul, Int.reduceNeg, Int.reduceLT, Int.reduceLE, Int.reduceToNat, Nat.reduceLT, Nat.reduceAdd, Nat.reduceSub, Nat.reduceMul, Nat.reduceEqDiff, Nat.reduceLeDiff, Nat.reduceBEq, reduceIte, reduceCtorEq]) ?_
  rintro sv post ⟨b, rfl, rfl⟩
  simp (maxSteps := 4000000) only [push_cast, Int.reduceEq, Int.reduceBNe, Int.reduceBEq, Int.reduceAdd, Int.reduceSub, Int.reduceMul, Int.reduceNeg, Int.reduceLT, Int.reduceLE, Int.reduceToNat, Nat.reduceLT, Nat.reduceAdd, Nat.reduceSub, Nat.reduceMul, Nat.reduceEqDiff, Nat.reduceLeDiff, Nat.reduceBEq, reduceIte, reduceCtorEq]
  refine call_w (newS_c _ _ _ _ _ _ _ _ openR_c 3 4) [] (by simp (maxSteps := 4000000) only [push_cast, Int.reduceEq, Int.reduceBNe, Int.reduceBEq, Int.reduceAdd, Int.reduceSub, Int.reduceMul, Int.reduceNeg, Int.reduceLT, Int.reduceLE, Int.reduceToNat, Nat.reduceLT, Nat.reduceAdd, Nat.reduceSub, Nat.reduceMul, Nat.reduceEqDiff, Nat.reduceLeDiff, Nat.reduceBEq, reduceIte, reduceCtorEq, modeV]) ?_
  rintro sv post ⟨rfl, rfl⟩
  simp (maxSteps := 4000000) only [push_cast, Int.reduceEq, Int.reduceBNe, Int.reduceBEq, Int.reduceAdd, Int.reduceSub, Int.reduceMul, Int.reduceNeg, Int.reduceLT, Int.reduceLE, Int.reduceToNat, Nat.reduceLT, Nat.reduceAdd, Nat.reduceSub, Nat.reduceMul, Nat.reduceEqDiff, Nat.reduceLeDiff, Nat.reduceBEq, reduceIte, reduceCtorEq, St.sv, St.cells]
  refine call_w (num16_c 0) [] (by simp (maxSteps := 4000000) only [push_cast, Int.reduceEq, Int.reduceBNe, Int.reduceBEq, Int.reduceAdd, Int.reduceSub, Int.reduceMul, Int.reduceNeg, Int.reduceLT, Int.reduceLE, Int.reduceToNat, Nat.reduceLT, Nat.reduceAdd, Nat.reduceSub, Nat.reduceMul, Nat.reduceEqDiff, Nat.reduceLeDiff, Nat.reduceBEq, reduceIte, reduceCtorEq]) ?_
  rintro sv post ⟨rfl, rfl⟩
  simp (maxSteps := 4000000) only [push_cast, Int.reduceEq, Int.reduceBNe, Int.reduceBEq, Int.reduceAdd, Int.reduceSub, Int.reduceMul, Int.reduceNeg, Int.reduceLT, Int.reduceLE, Int.reduceToNat, Nat.reduceLT, Nat.reduceAdd, Nat.reduceSub, Nat.reduceMul, Nat.reduceEqDiff, Nat.reduceLeDiff, Nat.reduceBEq, reduceIte, reduceCtorEq, may0]
  refine call_w (num16_c 0) [] (by simp (maxSteps := 4000000) only [push_cast, Int.reduceEq, Int.reduceBNe, Int.reduceBEq, Int.reduceAdd, Int.reduceSub, Int.reduceMul, Int.reduceNeg, Int.reduceLT, Int.reduceLE, Int.reduceToNat, Nat.reduceLT, Nat.reduceAdd, Nat.reduceSub, Nat.reduceMul, Nat.reduceEqDiff, Nat.reduceLeDiff, Nat.reduceBEq, reduceIte, reduceCtorEq]) ?_
  rintro sv post ⟨rfl, rfl⟩
  simp (maxSteps := 4000000) only [push_cast, Int.reduceEq, Int.reduceBNe, Int.reduceBEq, Int.reduceAdd, Int.reduceSub, Int.reduceMul, Int.reduceNeg, Int.reduceLT, Int.reduceLE, Int.reduceToNat, Nat.reduceLT, Nat.reduceAdd, Nat.reduceSub, Nat.reduceMul, Nat.reduceEqDiff, Nat.reduceLeDiff, Nat.reduceBEq, reduceIte, reduceCtorEq, e0, rg11]
  refine call_w (ReadB_c (readerM [104, 101, 108, 108, 111] b) (hR b) (newSt true false 3 4) (by exact ⟨by decide, by decide, by decide⟩) (0 : Int) (by exact ⟨by decide, by decide⟩) 2 3 (by decide) (by decide)) [2] (by simp (maxSteps := 4000000) only [push_cast, Int.reduceEq, Int.reduceBNe, Int.reduceBEq, Int.reduceAdd, Int.reduceSub, Int.reduceMul, Int.reduceNeg, Int.reduceLT, Int.reduceLE, Int.reduceToNat, Nat.reduceLT, Nat.reduceAdd, Nat.reduceSub, Nat.reduceMul, Nat.reduceEqDiff, Nat.reduceLeDiff, Nat.reduceBEq, reduceIte, reduceCtorEq, hv, hr, St.sv, St.cells, e0, exSt]) ?_
  rintro sv post ⟨rfl, rfl⟩
  rw [rd16a b]
  simp (maxSteps := 4000000) only [push_cast, Int.reduceEq, Int.reduceBNe, Int.reduceBEq, Int.reduceAdd, Int.reduceSub, Int.reduceMul, Int.reduceNeg, Int.reduceLT, Int.reduceLE, Int.reduceToNat, Nat.reduceLT, Nat.reduceAdd, Nat.reduceSub, Nat.reduceMul, Nat.reduceEqDiff, Nat.reduceLeDiff, Nat.reduceBEq, reduceIte, reduceCtorEq, hv, hr, St.sv, St.cells, exSt, rg11]
  refine call_w (bytes_c 1099511627776 1099511627776 (by decide) (by decide)) [] (by simp (maxSteps := 4000000) only [push_cast, Int.reduceEq, Int.reduceBNe, Int.reduceBEq, Int.reduceAdd, Int.reduceSub, Int.reduceMul, Int.reduceNeg, Int.reduceLT, Int.reduceLE, Int.reduceToNat, Nat.reduceLT, Nat.reduceAdd, Nat.reduceSub, Nat.reduceMul, Nat.reduceEqDiff, Nat.reduceLeDiff, Nat.reduceBEq, reduceIte, reduceCtorEq]) ?_
  rintro sv post ⟨rfl, rfl⟩
  simp (maxSteps := 4000000) only [push_cast, Int.reduceEq, Int.reduceBNe, Int.reduceBEq, Int.reduceAdd, Int.reduceSub, Int.reduceMul, Int.reduceNeg, Int.reduceLT, Int.reduceLE, Int.reduceToNat, Nat.reduceLT, Nat.reduceAdd, Nat.reduceSub, Nat.reduceMul, Nat.reduceEqDiff, Nat.reduceLeDiff, Nat.reduceBEq, reduceIte, reduceCtorEq, bv, q1]
  refine call_w (num16_c 111) [] (by simp (maxSteps := 4000000) only [push_cast, Int.reduceEq, Int.reduceBNe, Int.reduceBEq, Int.reduceAdd, Int.reduceSub, Int.reduceMul, Int.reduceNeg, Int.reduceLT, Int.reduceLE, Int.reduceToNat, Nat.reduceLT, Nat.reduceAdd, Nat.reduceSub, Nat.reduceMul, Nat.reduceEqDiff, Nat.reduceLeDiff, Nat.reduceBEq, reduceIte, reduceCtorEq]) ?_
  rintro sv post ⟨rfl, rfl⟩
  simp (maxSteps := 4000000) only [push_cast, Int.reduceEq, Int.reduceBNe, Int.reduceBEq, Int.reduceAdd, Int.reduceSub, Int.reduceMul, Int.reduceNeg, Int.reduceLT, Int.reduceLE, Int.reduceToNat, Nat.reduceLT, Nat.reduceAdd, Nat.reduceSub, Nat.reduceMul, Nat.reduceEqDiff, Nat.reduceLeDiff, Nat.reduceBEq, reduceIte, reduceCtorEq]
  refine call_w (num16_c 4) [] (by simp (maxSteps := 4000000) only [push_cast, Int.reduceEq, Int.reduceBNe, Int.reduceBEq, Int.reduceAdd, Int.reduceSub, Int.reduceMul, Int.reduceNeg, Int.reduceLT, Int.reduceLE, Int.reduceToNat, Nat.reduceLT, Nat.reduceAdd, Nat.reduceSub, Nat.reduceMul, Nat.reduceEqDiff, Nat.reduceLeDiff, Nat.reduceBEq, reduceIte, reduceCtorEq]) ?_
  rintro sv post ⟨rfl, rfl⟩
  simp (maxSteps := 4000000) only [push_cast, Int.reduceEq, Int.reduceBNe, Int.reduceBEq, Int.reduceAdd, Int.reduceSub, Int.reduceMul, Int.reduceNeg, Int.reduceLT, Int.reduceLE, Int.reduceToNat, Nat.reduceLT, Nat.reduceAdd, Nat.reduceSub, Nat.reduceMul, Nat.reduceEqDiff, Nat.reduceLeDiff, Nat.reduceBEq, reduceIte, reduceCtorEq]
  exact Fin.nil rfl (psv := .b true) rfl ⟨rfl, rfl⟩

theorem tmod_rng' (x n : Int) (hn : 0 < n) (hn2 : n ≤ 1000000) : 0 ≤ (IntKind.i64.wrap (x.tmod n + n)).tmod n ∧ (IntKind.i64.wrap (x.tmod n + n)).tmod n < n := by
  have h1 : -n < x.tmod n := by
    have := Int.tmod_lt_of_pos (-x) hn
    rw [Int.neg_tmod] at this
    omega
  have h2 := Int.tmod_lt_of_pos x hn
  rw [wrap64 (n := x.tmod n + n) (by omega) (by omega)]
  exact ⟨Int.tmod_nonneg n (a := x.tmod n + n) (by omega), Int.tmod_lt_of_pos (x.tmod n + n) hn⟩
theorem lim_rng' (x n : Int) (hn : 0 < n) (hn2 : n ≤ 1000000) : 1 ≤ IntKind.i64.wrap (1 + (IntKind.i64.wrap (x.tmod n + n)).tmod n) ∧ IntKind.i64.wrap (1 + (IntKind.i64.wrap (x.tmod n + n)).tmod n) ≤ n := by
  obtain ⟨h1, h2⟩ := tmod_rng' x n hn hn2
  rw [wrap64 (n := 1 + _) (by omega) (by omega)]
  omega

theorem read_whole (text : List Int) (hlen : text.length ≤ 1048576) (b : Nat) {m s : Int} (hm : mayV m s = 0) (sz cn : Int) (h1 : 1 ≤ sz) (h2 : 0 ≤ cn) (h3 : sz * cn ≤ 1048576) :
    ∃ x' p', (newSt true false m s).Read (readerM text b) (0 : Int) sz cn = (x', p', text.take (sz * cn).toNat, (((min (sz * cn).toNat text.length : Nat) : Int)).tdiv sz, if sz * cn ≤ text.length then 0 else 111) := by
  have hmay := newSt_may true false hm
  have hcl : (newSt true false m s).cl = false := by rw [newSt_ok true false hm]
  have h0 := Int.mul_nonneg (show 0 ≤ sz by omega) h2
  have ha : (newSt true false m s).asks sz cn = (sz * cn, 0) := by
    unfold St.asks bytesV
    rw [if_pos hmay, hcl, if_neg (by simp), if_neg (by omega)]
  unfold St.Read
  rw [ha]
  by_cases hz : sz * cn = 0
  · rw [if_pos (.inr hz), hz]
    exact ⟨newSt true false m s, (0 : Int), by simp [Int.zero_tdiv]⟩
  · rw [if_neg (by simp [hz])]
    obtain ⟨e1, e2⟩ := readGo_feeds (readerM_rd text b hlen) (reader_feeds text b) (sz * cn).toNat _ _ [] (new_reads text b false hm)
    have el : left (readerM text b) (fun p => text.drop p.toNat) (newSt true false m s) (0 : Int) = text := by
      rw [newSt_ok true false hm]; simp [left]
    rw [el] at e1 e2
    obtain ⟨x', p', o', e', hq⟩ : ∃ x' p' o' e', readGo (readerM text b) (sz * cn).toNat (newSt true false m s) (0 : Int) [] = (x', p', o', e') := ⟨_, _, _, _, rfl⟩
    rw [hq] at e1 e2
    simp only [List.nil_append] at e1 e2
    subst e1 e2
    refine ⟨x', p', ?_⟩
    dsimp only
    rw [hq, List.length_take]
    simp only [show (sz * cn).toNat ≤ text.length ↔ sz * cn ≤ (text.length : Int) by omega]

end Go.Proofs.YtbbbmoldmoianaaGreat
/- Blocks: over a Raw that is nil; what is read, as a row of one's own. -/
namespace Go.Proofs.YtbbbmoldmoianaaGreat
open Go Go.Eng
set_option maxHeartbeats 4000000
set_option linter.unusedSimpArgs false
set_option linter.unusedVariables false
set_option maxRecDepth 100000

def isABN (x : St) (sv : SV) (post : SS) : Prop := sv = .tup [x.sv .new, .i .i64 0, .i .i64 x.nErr] ∧ post = nilSS
theorem askedBN_c (x : St) (hx : x.fits) (size count : Int) : Contract Tryz.prog 70 nilSS [x.sv .old, .nili, .i .i64 size, .i .i64 count] (isABN x) := by
  have hx' := hx
  obtain ⟨ho, hi, hk⟩ := hx'
  refine contract_ev Γok Tryz.func70 rfl rfl [] ?_
  simp (maxSteps := 4000000) only [push_cast, Int.reduceEq, Int.reduceBNe, Int.reduceBEq, Int.reduceAdd, Int.reduceSub, Int.reduceMul, Int.reduceNeg, Int.reduceLT, Int.reduceLE, Int.reduceToNat, Nat.reduceLT, Nat.reduceAdd, Nat.reduceSub, Nat.reduceMul, Nat.reduceEqDiff, Nat.reduceLeDiff, Nat.reduceBEq, reduceIte, reduceCtorEq, Tryz.f70, rg11, St.sv, St.cells]
  refine (region_plan rfl Γok mixed (.pure 0 (.pure 1 (.pure 3 (.pure 4 (.pure 6 (.pure 7 (.eff (.cons 2 [4, 7] (.pure 9 (.eff (.cons 5 [7] (.eff (.cons 8 [] (.eff (.cons 10 [] (.pure 11 (.eff (.cons 12 [] (.pure 13 (.eff (.cons 14 [] .done .nil))) .nil))) .nil)) .nil)) .nil))) .nil)))))))) 51 rfl (by kernel_rfl) ?_)
  simp (maxSteps := 4000000) only [push_cast, Int.reduceEq, Int.reduceBNe, Int.reduceBEq, Int.reduceAdd, Int.reduceSub, Int.reduceMul, Int.reduceNeg, Int.reduceLT, Int.reduceLE, Int.reduceToNat, Nat.reduceLT, Nat.reduceAdd, Nat.reduceSub, Nat.reduceMul, Nat.reduceEqDiff, Nat.reduceLeDiff, Nat.reduceBEq, reduceIte, reduceCtorEq]
  refine call_w (sclone_c x.o ho) [] (by simp (maxSteps := 4000000) only [push_cast, Int.reduceEq, Int.reduceBNe, Int.reduceBEq, Int.reduceAdd, Int.reduceSub, Int.reduceMul, Int.reduceNeg, Int.reduceLT, Int.reduceLE, Int.reduceToNat, Nat.reduceLT, Nat.reduceAdd, Nat.reduceSub, Nat.reduceMul, Nat.reduceEqDiff, Nat.reduceLeDiff, Nat.reduceBEq, reduceIte, reduceCtorEq]) ?_
  rintro sv post ⟨rfl, rfl⟩
  simp (maxSteps := 4000000) only [push_cast, Int.reduceEq, Int.reduceBNe, Int.reduceBEq, Int.reduceAdd, Int.reduceSub, Int.reduceMul, Int.reduceNeg, Int.reduceLT, Int.reduceLE, Int.reduceToNat, Nat.reduceLT, Nat.reduceAdd, Nat.reduceSub, Nat.reduceMul, Nat.reduceEqDiff, Nat.reduceLeDiff, Nat.reduceBEq, reduceIte, reduceCtorEq]
  refine call_w (sclone_c x.i hi) [] (by simp (maxSteps := 4000000) only [push_cast, Int.reduceEq, Int.reduceBNe, Int.reduceBEq, Int.reduceAdd, Int.reduceSub, Int.reduceMul, Int.reduceNeg, Int.reduceLT, Int.reduceLE, Int.reduceToNat, Nat.reduceLT, Nat.reduceAdd, Nat.reduceSub, Nat.reduceMul, Nat.reduceEqDiff, Nat.reduceLeDiff, Nat.reduceBEq, reduceIte, reduceCtorEq]) ?_
  rintro sv post ⟨rfl, rfl⟩
  simp (maxSteps := 4000000) only [push_cast, Int.reduceEq, Int.reduceBNe, Int.reduceBEq, Int.reduceAdd, Int.reduceSub, Int.reduceMul, Int.reduceNeg, Int.reduceLT, Int.reduceLE, Int.reduceToNat, Nat.reduceLT, Nat.reduceAdd, Nat.reduceSub, Nat.reduceMul, Nat.reduceEqDiff, Nat.reduceLeDiff, Nat.reduceBEq, reduceIte, reduceCtorEq]
  refine call_w (sclone_c x.k hk) [] (by simp (maxSteps := 4000000) only [push_cast, Int.reduceEq, Int.reduceBNe, Int.reduceBEq, Int.reduceAdd, Int.reduceSub, Int.reduceMul, Int.reduceNeg, Int.reduceLT, Int.reduceLE, Int.reduceToNat, Nat.reduceLT, Nat.reduceAdd, Nat.reduceSub, Nat.reduceMul, Nat.reduceEqDiff, Nat.reduceLeDiff, Nat.reduceBEq, reduceIte, reduceCtorEq]) ?_
  rintro sv post ⟨rfl, rfl⟩
  simp (maxSteps := 4000000) only [push_cast, Int.reduceEq, Int.reduceBNe, Int.reduceBEq, Int.reduceAdd, Int.reduceSub, Int.reduceMul, Int.reduceNeg, Int.reduceLT, Int.reduceLE, Int.reduceToNat, Nat.reduceLT, Nat.reduceAdd, Nat.reduceSub, Nat.reduceMul, Nat.reduceEqDiff, Nat.reduceLeDiff, Nat.reduceBEq, reduceIte, reduceCtorEq, rg11]
  refine call_w (checkR_c x hx) [] (by simp (maxSteps := 4000000) only [push_cast, Int.reduceEq, Int.reduceBNe, Int.reduceBEq, Int.reduceAdd, Int.reduceSub, Int.reduceMul, Int.reduceNeg, Int.reduceLT, Int.reduceLE, Int.reduceToNat, Nat.reduceLT, Nat.reduceAdd, Nat.reduceSub, Nat.reduceMul, Nat.reduceEqDiff, Nat.reduceLeDiff, Nat.reduceBEq, reduceIte, reduceCtorEq, St.sv, St.cells]) ?_
  rintro sv post ⟨rfl, rfl⟩
  simp (maxSteps := 4000000) only [push_cast, Int.reduceEq, Int.reduceBNe, Int.reduceBEq, Int.reduceAdd, Int.reduceSub, Int.reduceMul, Int.reduceNeg, Int.reduceLT, Int.reduceLE, Int.reduceToNat, Nat.reduceLT, Nat.reduceAdd, Nat.reduceSub, Nat.reduceMul, Nat.reduceEqDiff, Nat.reduceLeDiff, Nat.reduceBEq, reduceIte, reduceCtorEq, rg11]
  refine ⟨fun h => ?_, fun h => ?_⟩
  · have hm : ¬ x.May := fun hm => h (by rw [if_pos hm])
    have hn := nErr_51 h
    rw [if_neg hm]
    exact Fin.nil rfl (psv := .tup [x.sv .new, .i .i64 0, .i .i64 51]) (by simp (maxSteps := 4000000) only [push_cast, Int.reduceEq, Int.reduceBNe, Int.reduceBEq, Int.reduceAdd, Int.reduceSub, Int.reduceMul, Int.reduceNeg, Int.reduceLT, Int.reduceLE, Int.reduceToNat, Nat.reduceLT, Nat.reduceAdd, Nat.reduceSub, Nat.reduceMul, Nat.reduceEqDiff, Nat.reduceLeDiff, Nat.reduceBEq, reduceIte, reduceCtorEq, St.sv, St.cells]) ⟨by rw [hn], rfl⟩
  · have hn := nErr_2 h
    exact Fin.nil rfl (psv := .tup [x.sv .new, .i .i64 0, .i .i64 2]) (by simp (maxSteps := 4000000) only [push_cast, Int.reduceEq, Int.reduceBNe, Int.reduceBEq, Int.reduceAdd, Int.reduceSub, Int.reduceMul, Int.reduceNeg, Int.reduceLT, Int.reduceLE, Int.reduceToNat, Nat.reduceLT, Nat.reduceAdd, Nat.reduceSub, Nat.reduceMul, Nat.reduceEqDiff, Nat.reduceLeDiff, Nat.reduceBEq, reduceIte, reduceCtorEq, St.sv, St.cells]) ⟨by rw [hn], rfl⟩
def isRBN (x : St) (sv : SV) (post : SS) : Prop := sv = .tup [x.sv .new, .ints .u8 .new [], .i .i64 0, .i .i64 x.nErr] ∧ post = nilSS
theorem readBN_c (x : St) (hx : x.fits) (size count : Int) : Contract Tryz.prog 34 nilSS [x.sv .old, .nili, .i .i64 size, .i .i64 count] (isRBN x) := by
  have hne := nErr_ne x
  refine contract_ev Γok Tryz.func34 rfl rfl [] ?_
  simp (maxSteps := 4000000) only [push_cast, Int.reduceEq, Int.reduceBNe, Int.reduceBEq, Int.reduceAdd, Int.reduceSub, Int.reduceMul, Int.reduceNeg, Int.reduceLT, Int.reduceLE, Int.reduceToNat, Nat.reduceLT, Nat.reduceAdd, Nat.reduceSub, Nat.reduceMul, Nat.reduceEqDiff, Nat.reduceLeDiff, Nat.reduceBEq, reduceIte, reduceCtorEq, Tryz.f34, St.sv, St.cells, rg11]
  refine call_w (askedBN_c x hx size count) [] (by simp (maxSteps := 4000000) only [push_cast, Int.reduceEq, Int.reduceBNe, Int.reduceBEq, Int.reduceAdd, Int.reduceSub, Int.reduceMul, Int.reduceNeg, Int.reduceLT, Int.reduceLE, Int.reduceToNat, Nat.reduceLT, Nat.reduceAdd, Nat.reduceSub, Nat.reduceMul, Nat.reduceEqDiff, Nat.reduceLeDiff, Nat.reduceBEq, reduceIte, reduceCtorEq, St.sv, St.cells]) ?_
  rintro sv post ⟨rfl, rfl⟩
  simp (maxSteps := 4000000) only [push_cast, Int.reduceEq, Int.reduceBNe, Int.reduceBEq, Int.reduceAdd, Int.reduceSub, Int.reduceMul, Int.reduceNeg, Int.reduceLT, Int.reduceLE, Int.reduceToNat, Nat.reduceLT, Nat.reduceAdd, Nat.reduceSub, Nat.reduceMul, Nat.reduceEqDiff, Nat.reduceLeDiff, Nat.reduceBEq, reduceIte, reduceCtorEq, St.sv, St.cells, rg11]
  exact Fin.w [] (.tup [x.sv .new, .ints .u8 .new [], .i .i64 0, .i .i64 x.nErr]) _ (by simp (maxSteps := 4000000) only [push_cast, Int.reduceEq, Int.reduceBNe, Int.reduceBEq, Int.reduceAdd, Int.reduceSub, Int.reduceMul, Int.reduceNeg, Int.reduceLT, Int.reduceLE, Int.reduceToNat, Nat.reduceLT, Nat.reduceAdd, Nat.reduceSub, Nat.reduceMul, Nat.reduceEqDiff, Nat.reduceLeDiff, Nat.reduceBEq, reduceIte, reduceCtorEq, St.sv, St.cells]) ⟨rfl, rfl⟩
theorem writeBN_c (x : St) (hx : x.fits) (l : List Int) (size count : Int) : Contract Tryz.prog 35 nilSS [x.sv .old, .nili, .ints .u8 .old l, .i .i64 size, .i .i64 count] (isABN x) := by
  have hne := nErr_ne x
  refine contract_ev Γok Tryz.func35 rfl rfl [] ?_
  simp (maxSteps := 4000000) only [push_cast, Int.reduceEq, Int.reduceBNe, Int.reduceBEq, Int.reduceAdd, Int.reduceSub, Int.reduceMul, Int.reduceNeg, Int.reduceLT, Int.reduceLE, Int.reduceToNat, Nat.reduceLT, Nat.reduceAdd, Nat.reduceSub, Nat.reduceMul, Nat.reduceEqDiff, Nat.reduceLeDiff, Nat.reduceBEq, reduceIte, reduceCtorEq, Tryz.f35, St.sv, St.cells, rg11]
  refine call_w (askedBN_c x hx size count) [] (by simp (maxSteps := 4000000) only [push_cast, Int.reduceEq, Int.reduceBNe, Int.reduceBEq, Int.reduceAdd, Int.reduceSub, Int.reduceMul, Int.reduceNeg, Int.reduceLT, Int.reduceLE, Int.reduceToNat, Nat.reduceLT, Nat.reduceAdd, Nat.reduceSub, Nat.reduceMul, Nat.reduceEqDiff, Nat.reduceLeDiff, Nat.reduceBEq, reduceIte, reduceCtorEq, St.sv, St.cells]) ?_
  rintro sv post ⟨rfl, rfl⟩
  simp (maxSteps := 4000000) only [push_cast, Int.reduceEq, Int.reduceBNe, Int.reduceBEq, Int.reduceAdd, Int.reduceSub, Int.reduceMul, Int.reduceNeg, Int.reduceLT, Int.reduceLE, Int.reduceToNat, Nat.reduceLT, Nat.reduceAdd, Nat.reduceSub, Nat.reduceMul, Nat.reduceEqDiff, Nat.reduceLeDiff, Nat.reduceBEq, reduceIte, reduceCtorEq, St.sv, St.cells, rg11]
  refine ⟨fun _ => ?_, fun h => absurd h hne⟩
  exact Fin.w [] (.tup [x.sv .new, .i .i64 0, .i .i64 x.nErr]) _ (by simp (maxSteps := 4000000) only [push_cast, Int.reduceEq, Int.reduceBNe, Int.reduceBEq, Int.reduceAdd, Int.reduceSub, Int.reduceMul, Int.reduceNeg, Int.reduceLT, Int.reduceLE, Int.reduceToNat, Nat.reduceLT, Nat.reduceAdd, Nat.reduceSub, Nat.reduceMul, Nat.reduceEqDiff, Nat.reduceLeDiff, Nat.reduceBEq, reduceIte, reduceCtorEq, St.sv, St.cells]) ⟨rfl, rfl⟩
def isRBE (M : RawM) (x : St) (g : M.σ) (e : Int) (sv : SV) (post : SS) : Prop := sv = .tup [x.sv .new, .ints .u8 .nil [], .i .i64 0, .i .i64 e] ∧ post = preR (M.res g)
set_option maxHeartbeats 2000000 in
theorem ReadBE_c (M : RawM) (x : St) (hx : x.fits) (g : M.σ) (size count : Int) (hs : size ≤ 9223372036854775807) (hc : count ≤ 9223372036854775807) (hE : (x.asks size count).2 ≠ 0 ∨ (x.asks size count).1 = 0) : Contract Tryz.prog 34 (preR (M.res g))
    [x.sv .old, M.v, .i .i64 size, .i .i64 count] (isRBE M x g (x.asks size count).2) := by
  refine contract_ev Γok Tryz.func34 rfl rfl [] ?_
  simp (maxSteps := 4000000) only [push_cast, Int.reduceEq, Int.reduceBNe, Int.reduceBEq, Int.reduceAdd, Int.reduceSub, Int.reduceMul, Int.reduceNeg, Int.reduceLT, Int.reduceLE, Int.reduceToNat, Nat.reduceLT, Nat.reduceAdd, Nat.reduceSub, Nat.reduceMul, Nat.reduceEqDiff, Nat.reduceLeDiff, Nat.reduceBEq, reduceIte, reduceCtorEq, Tryz.f34, St.sv, St.cells, RawM.v, rg11]
  refine call_w (askedB_c x hx M.t M.y size count hs hc) [] (by simp (maxSteps := 4000000) only [push_cast, Int.reduceEq, Int.reduceBNe, Int.reduceBEq, Int.reduceAdd, Int.reduceSub, Int.reduceMul, Int.reduceNeg, Int.reduceLT, Int.reduceLE, Int.reduceToNat, Nat.reduceLT, Nat.reduceAdd, Nat.reduceSub, Nat.reduceMul, Nat.reduceEqDiff, Nat.reduceLeDiff, Nat.reduceBEq, reduceIte, reduceCtorEq, St.sv, St.cells]) ?_
  rintro sv post ⟨rfl, rfl⟩
  simp (maxSteps := 4000000) only [push_cast, Int.reduceEq, Int.reduceBNe, Int.reduceBEq, Int.reduceAdd, Int.reduceSub, Int.reduceMul, Int.reduceNeg, Int.reduceLT, Int.reduceLE, Int.reduceToNat, Nat.reduceLT, Nat.reduceAdd, Nat.reduceSub, Nat.reduceMul, Nat.reduceEqDiff, Nat.reduceLeDiff, Nat.reduceBEq, reduceIte, reduceCtorEq, St.sv, St.cells, rg11]
  refine ⟨fun h => ?_, fun h => ?_⟩
  · exact Fin.w [0] (.tup [x.sv .new, .ints .u8 .nil [], .i .i64 0, .i .i64 (x.asks size count).2]) _ (by simp (maxSteps := 4000000) only [push_cast, Int.reduceEq, Int.reduceBNe, Int.reduceBEq, Int.reduceAdd, Int.reduceSub, Int.reduceMul, Int.reduceNeg, Int.reduceLT, Int.reduceLE, Int.reduceToNat, Nat.reduceLT, Nat.reduceAdd, Nat.reduceSub, Nat.reduceMul, Nat.reduceEqDiff, Nat.reduceLeDiff, Nat.reduceBEq, reduceIte, reduceCtorEq, St.sv, St.cells]) ⟨rfl, rfl⟩
  · rcases hE with hE | hE
    · exact absurd h.1 hE
    · exact absurd hE h.2
def isRBR (M : RawM) (r : St × M.σ × List Int × Int) (n : Int) (sv : SV) (post : SS) : Prop := ∃ p c, sv = .tup [r.1.sv .new, .raw (.slice p r.2.2.1.length c), .i .i64 n, .i .i64 r.2.2.2] ∧ post = ⟨[], [], [], [(0, M.res r.2.1), (1, RowR .u8 p c r.2.2.1)], 2, 1, []⟩
set_option maxHeartbeats 2000000 in
theorem ReadBRow_c (M : RawM) (hR : M.Rd) (x : St) (hx : x.fits) (g : M.σ) (hg : M.ok g) (size count : Int) (hs : size ≤ 9223372036854775807) (hc : count ≤ 9223372036854775807) (n : Nat) (hE : (x.asks size count).2 = 0) (hn : (x.asks size count).1 = n) (hn0 : n ≠ 0) : Contract Tryz.prog 34 (preR (M.res g))
    [x.sv .old, M.v, .i .i64 size, .i .i64 count] (isRBR M (readGo M n x g []) (((readGo M n x g []).2.2.1.length : Int).tdiv size)) := by
  obtain ⟨hm, hcl, hs0, hc0, hnn, hq⟩ := asks_rng hE
  have hs1 : size ≠ 0 := by rintro rfl; rw [hq] at hn; simp at hn; omega
  refine contract_ev Γok Tryz.func34 rfl rfl [] ?_
  simp (maxSteps := 4000000) only [push_cast, Int.reduceEq, Int.reduceBNe, Int.reduceBEq, Int.reduceAdd, Int.reduceSub, Int.reduceMul, Int.reduceNeg, Int.reduceLT, Int.reduceLE, Int.reduceToNat, Nat.reduceLT, Nat.reduceAdd, Nat.reduceSub, Nat.reduceMul, Nat.reduceEqDiff, Nat.reduceLeDiff, Nat.reduceBEq, reduceIte, reduceCtorEq, Tryz.f34, St.sv, St.cells, RawM.v, rg11]
  refine call_w (askedB_c x hx M.t M.y size count hs hc) [] (by simp (maxSteps := 4000000) only [push_cast, Int.reduceEq, Int.reduceBNe, Int.reduceBEq, Int.reduceAdd, Int.reduceSub, Int.reduceMul, Int.reduceNeg, Int.reduceLT, Int.reduceLE, Int.reduceToNat, Nat.reduceLT, Nat.reduceAdd, Nat.reduceSub, Nat.reduceMul, Nat.reduceEqDiff, Nat.reduceLeDiff, Nat.reduceBEq, reduceIte, reduceCtorEq, St.sv, St.cells]) ?_
  rintro sv post ⟨rfl, rfl⟩
  simp (maxSteps := 4000000) only [push_cast, Int.reduceEq, Int.reduceBNe, Int.reduceBEq, Int.reduceAdd, Int.reduceSub, Int.reduceMul, Int.reduceNeg, Int.reduceLT, Int.reduceLE, Int.reduceToNat, Nat.reduceLT, Nat.reduceAdd, Nat.reduceSub, Nat.reduceMul, Nat.reduceEqDiff, Nat.reduceLeDiff, Nat.reduceBEq, reduceIte, reduceCtorEq, St.sv, St.cells, rg11]
  refine ⟨fun h => ?_, fun h => ?_⟩
  · rcases h with h | h
    · exact absurd hE h
    · exact absurd (hn.symm.trans h) (by omega)
  rw [hn, hE]
  rw [hq] at hn
  generalize hr : readGo M n x g [] = r
  refine CodeOK.sub (Sub.rowFr 15 .u8 rfl) ?_
  simp (maxSteps := 4000000) only [push_cast, Int.reduceEq, Int.reduceBNe, Int.reduceBEq, Int.reduceAdd, Int.reduceSub, Int.reduceMul, Int.reduceNeg, Int.reduceLT, Int.reduceLE, Int.reduceToNat, Nat.reduceLT, Nat.reduceAdd, Nat.reduceSub, Nat.reduceMul, Nat.reduceEqDiff, Nat.reduceLeDiff, Nat.reduceBEq, reduceIte, reduceCtorEq]
  refine loop_ok (ι := {q : Nat × St × M.σ × List Int × Option Addr × Nat // q.2.1.fits ∧ M.ok q.2.2.1 ∧ q.2.2.2.1.length + q.1 = n ∧ readGo M q.1 q.2.1 q.2.2.1 q.2.2.2.1 = r})
    (fun q => ⟨[.any, M.v, .i .i64 size, .any, .any, .any, .any, .any, .ptr 2 0, .any, .any, .any, .ptr 3 0, .any, .i .i64 0, .raw (.slice q.1.2.2.2.2.1 q.1.2.2.2.1.length q.1.2.2.2.2.2)] ++ List.replicate 18 .any ++ [.i .i64 n, .i .i64 q.1.2.2.2.1.length] ++ List.replicate 22 .any, [(3, 43, q.1.2.1.cells .new .new .new), (2, 43, List.replicate 11 .any)], [], [(0, M.res q.1.2.2.1), (4, RowR .u8 q.1.2.2.2.2.1 q.1.2.2.2.2.2 q.1.2.2.2.1)], 5, 1, []⟩)
    (fun q => q.1.1) ⟨(n, x, g, [], none, 0), hx, hg, by simp, hr⟩ ?_ ?_
  · refine Sub.w [0, 1, 2, 3, 4] ?_
    simp (maxSteps := 4000000) only [push_cast, Int.reduceEq, Int.reduceBNe, Int.reduceBEq, Int.reduceAdd, Int.reduceSub, Int.reduceMul, Int.reduceNeg, Int.reduceLT, Int.reduceLE, Int.reduceToNat, Nat.reduceLT, Nat.reduceAdd, Nat.reduceSub, Nat.reduceMul, Nat.reduceEqDiff, Nat.reduceLeDiff, Nat.reduceBEq, reduceIte, reduceCtorEq, RawM.v, St.cells, List.length_nil]
  · rintro ⟨⟨f, x', g', out, p, c⟩, hx', hg', hl, he⟩
    simp only at hx' hg' hl he
    have hkeep := Get_ok M hR x' g' hg'
    have hfit := Get_fits M x' g' hx'
    refine evCode_sound Γok _ _ _ ?_
    simp (maxSteps := 4000000) only [push_cast, Int.reduceEq, Int.reduceBNe, Int.reduceBEq, Int.reduceAdd, Int.reduceSub, Int.reduceMul, Int.reduceNeg, Int.reduceLT, Int.reduceLE, Int.reduceToNat, Nat.reduceLT, Nat.reduceAdd, Nat.reduceSub, Nat.reduceMul, Nat.reduceEqDiff, Nat.reduceLeDiff, Nat.reduceBEq, reduceIte, reduceCtorEq, RawM.v, St.cells, rg11]
    refine ⟨fun h1 => ?_, fun h1 => ?_⟩
    · obtain ⟨f, rfl⟩ : ∃ f', f = f' + 1 := ⟨f - 1, by omega⟩
      simp only [readGo] at he
      refine call_w (GetR_c M hR x' g' hg' hx') [0] (by simp (maxSteps := 4000000) only [push_cast, Int.reduceEq, Int.reduceBNe, Int.reduceBEq, Int.reduceAdd, Int.reduceSub, Int.reduceMul, Int.reduceNeg, Int.reduceLT, Int.reduceLE, Int.reduceToNat, Nat.reduceLT, Nat.reduceAdd, Nat.reduceSub, Nat.reduceMul, Nat.reduceEqDiff, Nat.reduceLeDiff, Nat.reduceBEq, reduceIte, reduceCtorEq, St.sv, St.cells, RawM.v]) ?_
      rintro sv post ⟨rfl, rfl⟩
      simp (maxSteps := 4000000) only [push_cast, Int.reduceEq, Int.reduceBNe, Int.reduceBEq, Int.reduceAdd, Int.reduceSub, Int.reduceMul, Int.reduceNeg, Int.reduceLT, Int.reduceLE, Int.reduceToNat, Nat.reduceLT, Nat.reduceAdd, Nat.reduceSub, Nat.reduceMul, Nat.reduceEqDiff, Nat.reduceLeDiff, Nat.reduceBEq, reduceIte, reduceCtorEq, St.sv, St.cells, rg11]
      refine ⟨fun h2 => ?_, fun h2 => ?_⟩
      · rw [if_pos h2] at he
        rw [← he]
        refine (region_plan rfl Γok mixed (.pure 0 (.pure 1 (.pure 2 (.pure 3 (.pure 4 (.pure 5 (.pure 6 (.eff (.cons 7 [] (.pure 8 (.pure 9 (.pure 10 .done))) .nil))))))))) 58 rfl (by kernel_rfl) ?_)
        simp (maxSteps := 4000000) only [push_cast, Int.reduceEq, Int.reduceBNe, Int.reduceBEq, Int.reduceAdd, Int.reduceSub, Int.reduceMul, Int.reduceNeg, Int.reduceLT, Int.reduceLE, Int.reduceToNat, Nat.reduceLT, Nat.reduceAdd, Nat.reduceSub, Nat.reduceMul, Nat.reduceEqDiff, Nat.reduceLeDiff, Nat.reduceBEq, reduceIte, reduceCtorEq, rg11]
        rw [quo64 out.length size (by omega) hs0]
        exact ⟨hs1, Fin.w [0, 4] (.tup [(x'.Get M g').1.sv .new, .raw (.slice p out.length c), .i .i64 _, .i .i64 _]) _ (by simp (maxSteps := 4000000) only [push_cast, Int.reduceEq, Int.reduceBNe, Int.reduceBEq, Int.reduceAdd, Int.reduceSub, Int.reduceMul, Int.reduceNeg, Int.reduceLT, Int.reduceLE, Int.reduceToNat, Nat.reduceLT, Nat.reduceAdd, Nat.reduceSub, Nat.reduceMul, Nat.reduceEqDiff, Nat.reduceLeDiff, Nat.reduceBEq, reduceIte, reduceCtorEq, St.sv, St.cells]) ⟨p, c, rfl, rfl⟩⟩
      · rw [if_neg (by omega)] at he
        refine ⟨4, .u8, out, [(x'.Get M g').2.2.1], .inr (.inl rfl), rfl, rfl, by simp, by simp; omega, fun p2 c2 => ?_⟩
        have hlen : out.length + [(x'.Get M g').2.2.1].length = (out ++ [(x'.Get M g').2.2.1]).length := by simp
        simp (maxSteps := 4000000) only [push_cast, Int.reduceEq, Int.reduceBNe, Int.reduceBEq, Int.reduceAdd, Int.reduceSub, Int.reduceMul, Int.reduceNeg, Int.reduceLT, Int.reduceLE, Int.reduceToNat, Nat.reduceLT, Nat.reduceAdd, Nat.reduceSub, Nat.reduceMul, Nat.reduceEqDiff, Nat.reduceLeDiff, Nat.reduceBEq, reduceIte, reduceCtorEq]
        refine ⟨⟨(f, (x'.Get M g').1, (x'.Get M g').2.1, out ++ [(x'.Get M g').2.2.1], p2, c2), hfit, hkeep, by simp; omega, he⟩, by simp only; omega, Sub.w [0, 1, 2, 3, 4] ?_⟩
        simp (maxSteps := 4000000) only [push_cast, Int.reduceEq, Int.reduceBNe, Int.reduceBEq, Int.reduceAdd, Int.reduceSub, Int.reduceMul, Int.reduceNeg, Int.reduceLT, Int.reduceLE, Int.reduceToNat, Nat.reduceLT, Nat.reduceAdd, Nat.reduceSub, Nat.reduceMul, Nat.reduceEqDiff, Nat.reduceLeDiff, Nat.reduceBEq, reduceIte, reduceCtorEq, RawM.v, St.cells, List.length_append]
        refine ⟨by omega, ?_⟩
        rw [wrap64 (by omega) (by omega)]
        try simp
    · obtain rfl : f = 0 := by omega
      simp only [readGo] at he
      rw [← he]
      refine (region_plan rfl Γok mixed (.pure 0 (.pure 1 (.pure 2 (.pure 3 (.pure 4 (.pure 5 (.pure 6 (.eff (.cons 7 [] (.pure 8 (.pure 9 (.pure 10 .done))) .nil))))))))) 58 rfl (by kernel_rfl) ?_)
      simp (maxSteps := 4000000) only [push_cast, Int.reduceEq, Int.reduceBNe, Int.reduceBEq, Int.reduceAdd, Int.reduceSub, Int.reduceMul, Int.reduceNeg, Int.reduceLT, Int.reduceLE, Int.reduceToNat, Nat.reduceLT, Nat.reduceAdd, Nat.reduceSub, Nat.reduceMul, Nat.reduceEqDiff, Nat.reduceLeDiff, Nat.reduceBEq, reduceIte, reduceCtorEq, rg11]
      rw [quo64 out.length size (by omega) hs0]
      exact ⟨hs1, Fin.w [0, 4] (.tup [x'.sv .new, .raw (.slice p out.length c), .i .i64 _, .i .i64 _]) _ (by simp (maxSteps := 4000000) only [push_cast, Int.reduceEq, Int.reduceBNe, Int.reduceBEq, Int.reduceAdd, Int.reduceSub, Int.reduceMul, Int.reduceNeg, Int.reduceLT, Int.reduceLE, Int.reduceToNat, Nat.reduceLT, Nat.reduceAdd, Nat.reduceSub, Nat.reduceMul, Nat.reduceEqDiff, Nat.reduceLeDiff, Nat.reduceBEq, reduceIte, reduceCtorEq, St.sv, St.cells]) ⟨p, c, rfl, rfl⟩⟩
end Go.Proofs.YtbbbmoldmoianaaGreat
