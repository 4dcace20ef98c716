/- Texts joined, in order: Ym, Ya, Yb, Yc, Yd, Ye. -/
import Derived.Test.YtmciepkhpocafaaGreatZCaRg
import Derived.Test.YtmciepkhpocafaaGreatZIxUd
import Derived.Lib.Mul64
/- Products of 64 bits (as in XMa; for seats without blocks). -/
namespace Go.Proofs.YtmciepkhpocafaaGreat
open Go Go.Eng
set_option maxHeartbeats 4000000
set_option linter.unusedSimpArgs false
set_option linter.unusedVariables false
set_option maxRecDepth 100000

theorem wrapu (n : Nat) (h : n < 18446744073709551616) : IntKind.u64.wrap (n : Int) = (n : Int) := by
  rw [IntKind.wrap_u64]; omega
theorem and32 (x : Nat) (h : x < 18446744073709551616) : andI .u64 (x : Int) 4294967295 = ((x % 4294967296 : Nat) : Int) := by
  have e : (BitVec.ofInt IntKind.u64.bits (x : Int) &&& BitVec.ofInt IntKind.u64.bits 4294967295).toNat = x % 4294967296 := by
    show (BitVec.ofInt 64 (x : Int) &&& BitVec.ofNat 64 4294967295).toNat = _
    rw [BitVec.toNat_and, BitVec.ofInt_natCast, BitVec.toNat_ofNat, Nat.mod_eq_of_lt h]
    exact Nat.and_two_pow_sub_one_eq_mod x 32
  unfold andI
  rw [e, wrapu _ (by omega)]
theorem shr32 (x : Nat) : shrI .u64 (x : Int) 32 = ((x / 4294967296 : Nat) : Int) := by
  show (x : Int).fdiv (2 ^ min (32 : Int).toNat 64) = _
  rw [Int.fdiv_eq_ediv_of_nonneg _ (by decide)]
  rfl
theorem mulc (x y : Nat) : (x : Int) * (y : Int) = ((x * y : Nat) : Int) := (Int.natCast_mul x y).symm
theorem addc (x y : Nat) : (x : Int) + (y : Int) = ((x + y : Nat) : Int) := (Int.natCast_add x y).symm

def hi64 (x y : Nat) : Int := ((x * y / 18446744073709551616 : Nat) : Int)
def lo64 (x y : Nat) : Int := ((x * y % 18446744073709551616 : Nat) : Int)
theorem mul64_c (x y : Int) (m n : Nat) (hm : x = m) (hn : y = n) (hx : m < 18446744073709551616) (hy : n < 18446744073709551616) : Contract Tryz.prog 96 nilSS [.i .u64 x, .i .u64 y] (fun sv post => sv = .tup [.i .u64 (hi64 m n), .i .u64 (lo64 m n)] ∧ post = nilSS) := by
  refine contract_ev Γok Tryz.func96 rfl rfl [] ?_
  simp (maxSteps := 4000000) only [push_cast, Int.reduceEq, Int.reduceBNe, Int.reduceBEq, Int.reduceAdd, Int.reduceSub, Int.reduceMul, Int.reduceNeg, Int.reduceLT, Int.reduceLE, Int.reduceToNat, Nat.reduceLT, Nat.reduceAdd, Nat.reduceSub, Nat.reduceMul, Nat.reduceEqDiff, Nat.reduceLeDiff, Nat.reduceBEq, reduceIte, reduceCtorEq, Tryz.f96]
  subst hm hn
  obtain ⟨h1, h2, h3, h4⟩ := Go.Lib.mul64_hi m n hx hy
  have b1 : m % 4294967296 < 4294967296 := by omega
  have b2 : n % 4294967296 < 4294967296 := by omega
  have b3 : m / 4294967296 < 4294967296 := by omega
  have b4 : n / 4294967296 < 4294967296 := by omega
  have p1 := Go.Lib.half_mul_le (a := m / 4294967296) (b := n / 4294967296) (by omega) (by omega)
  have p2 := Go.Lib.half_mul_le (a := m / 4294967296) (b := n % 4294967296) (by omega) (by omega)
  have p3 := Go.Lib.half_mul_le (a := m % 4294967296) (b := n / 4294967296) (by omega) (by omega)
  have p5 : m * n / 18446744073709551616 < 18446744073709551616 := by
    have := Nat.mul_lt_mul'' hx hy
    omega
  rw [← h4] at p5
  simp only [shr32, and32 _ hx, and32 _ hy]
  simp only [mulc]
  rw [wrapu (m % 4294967296 * (n % 4294967296)) h1, shr32, wrapu (m / 4294967296 * (n % 4294967296)) (by omega), addc, wrapu _ h2, shr32, and32 _ h2, wrapu (m % 4294967296 * (n / 4294967296)) (by omega), addc, wrapu _ h3, shr32, wrapu (m / 4294967296 * (n / 4294967296)) (by omega), addc, wrapu _ (by omega), addc, wrapu _ (by omega)]
  have e2 : IntKind.u64.wrap ((m * n : Nat) : Int) = lo64 m n := by
    unfold lo64
    rw [IntKind.wrap_u64]
    omega
  rw [h4, e2, show ((m * n / 18446744073709551616 : Nat) : Int) = hi64 m n from rfl]
  exact Fin.nil rfl (psv := .tup [.i .u64 (hi64 m n), .i .u64 (lo64 m n)]) (by simp (maxSteps := 4000000) only [push_cast, Int.reduceEq, Int.reduceBNe, Int.reduceBEq, Int.reduceAdd, Int.reduceSub, Int.reduceMul, Int.reduceNeg, Int.reduceLT, Int.reduceLE, Int.reduceToNat, Nat.reduceLT, Nat.reduceAdd, Nat.reduceSub, Nat.reduceMul, Nat.reduceEqDiff, Nat.reduceLeDiff, Nat.reduceBEq, reduceIte, reduceCtorEq]) ⟨rfl, rfl⟩

end Go.Proofs.YtmciepkhpocafaaGreat
/- Scan, the plain law: what a pattern reads out of a text, over lists of bytes. -/
namespace Go.Proofs.YtmciepkhpocafaaGreat
open Go Go.Eng
set_option maxHeartbeats 4000000
set_option linter.unusedSimpArgs false
set_option linter.unusedVariables false
set_option maxRecDepth 100000

/-- A pattern's part: verb 0 a byte that must stand there, verb 32 blanks, else a directive. -/
structure PartP where
  verb : UInt8
  c : UInt8
  mute : Bool
  width : Nat
deriving DecidableEq, Repr
def scanSet : List UInt8 := [100, 117, 120, 111, 99, 115]
def verbCut (n : Nat) (m : Bool) (w : Nat) : List UInt8 → Option (PartP × Nat)
  | [] => none
  | v :: q => if scanSet.contains v then some (⟨v, 0, m, w⟩, n - q.length) else none
/-- Behind a percent sign: n is the pattern's length. -/
def directP (n : Nat) (m : Bool) (r : List UInt8) : Option (PartP × Nat) :=
  if headIs 48 (digsP 4 r) || decide (4096 < valP (digsP 4 r)) then none
  else verbCut n m (valP (digsP 4 r)) (r.drop (digsP 4 r).length)
def cutP (l : List UInt8) : Option (PartP × Nat) :=
  match l with
  | [] => none
  | c :: r =>
    if c = 32 ∨ c = 10 then some (⟨32, 0, false, 0⟩, 1)
    else if ¬ c = 37 then some (⟨0, c, false, 0⟩, 1)
    else if headIs 37 r then some (⟨0, 37, false, 0⟩, 2)
    else if headIs 42 r then directP (r.length + 1) true (r.drop 1)
    else directP (r.length + 1) false r
/-- All parts; or the place of the first that is none. -/
def partsF : Nat → Nat → List UInt8 → List PartP → List PartP × Int × Nat
  | 0, at_, _, out => (out, 0, at_)
  | f + 1, at_, [], out => (out, 0, at_)
  | f + 1, at_, c :: r, out =>
    match cutP (c :: r) with
    | none => ([], 171, at_)
    | some (p, n) => partsF f (at_ + n) ((c :: r).drop n) (out ++ [p])
def partsP (l : List UInt8) : List PartP × Int × Nat := if 65536 < l.length then ([], 5, 0) else partsF (l.length + 1) 0 l []
def PartP.tells (p : PartP) : Bool := decide (p.verb ≠ 0) && decide (p.verb ≠ 32) && !p.mute

/-! What stands in a text: what is taken, what is left, whether the text came to its end. -/
structure Got where
  s : List UInt8
  rest : List UInt8
  ended : Bool
def takeP (fits : UInt8 → Bool) : Nat → List UInt8 → Got
  | 0, l => ⟨[], l, false⟩
  | _ + 1, [] => ⟨[], [], true⟩
  | n + 1, c :: r => if fits c then ⟨c :: (takeP fits n r).s, (takeP fits n r).rest, (takeP fits n r).ended⟩ else ⟨[], c :: r, false⟩
def isBlank (c : UInt8) : Bool := decide (c = 32) || decide (c = 10) || decide (c = 9)
def endE (b : Bool) : Int := if b then 111 else 0
def lackE (b : Bool) : Int := if b then 111 else 181

theorem directP_size {n : Nat} {m : Bool} {r : List UInt8} {p : PartP} {k : Nat} (hn : r.length ≤ n) (h : directP n m r = some (p, k)) : 1 ≤ k ∧ k ≤ n ∧ p.width ≤ 4096 := by
  unfold directP at h
  split at h
  · cases h
  · rename_i h1
    cases hd : r.drop (digsP 4 r).length with
    | nil => rw [hd] at h; simp [verbCut] at h
    | cons v q =>
      rw [hd] at h
      have hl := congrArg List.length hd
      rw [List.length_drop, List.length_cons] at hl
      simp only [verbCut] at h
      split at h
      · simp only [Option.some.injEq, Prod.mk.injEq] at h
        obtain ⟨rfl, rfl⟩ := h
        simp only [Bool.or_eq_true, decide_eq_true_eq, not_or] at h1
        refine ⟨by omega, by omega, by simp only; omega⟩
      · cases h
theorem cutP_size {c : UInt8} {r : List UInt8} {p : PartP} {k : Nat} (h : cutP (c :: r) = some (p, k)) : 1 ≤ k ∧ k ≤ r.length + 1 ∧ p.width ≤ 4096 := by
  simp only [cutP] at h
  split at h
  · simp only [Option.some.injEq, Prod.mk.injEq] at h
    obtain ⟨rfl, rfl⟩ := h
    exact ⟨Nat.le_refl _, by omega, by simp⟩
  split at h
  · simp only [Option.some.injEq, Prod.mk.injEq] at h
    obtain ⟨rfl, rfl⟩ := h
    exact ⟨Nat.le_refl _, by omega, by simp⟩
  split at h
  · rename_i hh
    simp only [Option.some.injEq, Prod.mk.injEq] at h
    obtain ⟨rfl, rfl⟩ := h
    cases r with
    | nil => simp [headIs] at hh
    | cons x r => exact ⟨by omega, by simp, by simp⟩
  split at h
  · exact directP_size (by rw [List.length_drop]; omega) h
  · exact directP_size (by omega) h
end Go.Proofs.YtmciepkhpocafaaGreat
/- Scan: a pattern's first part. -/
namespace Go.Proofs.YtmciepkhpocafaaGreat
open Go Go.Eng
set_option maxHeartbeats 4000000
set_option linter.unusedSimpArgs false
set_option linter.unusedVariables false
set_option maxRecDepth 100000

theorem prefix1 (s : List UInt8) (c : UInt8) : (decide (1 ≤ (s.length : Int)) && ((bs (List.take 1 s)).toList == (bs [c]).toList)) = headIs c s := by
  rw [bs_beq]
  cases s with
  | nil => simp [headIs]
  | cons d r =>
    have : (1 : Int) ≤ ((d :: r).length : Nat) := by simp only [List.length_cons]; omega
    simp [headIs, List.take, this]
    intro h; omega
theorem lite1_c (s : List UInt8) (c : UInt8) : Contract Tryz.prog 79 nilSS [.s (bs s), .s (bs [c])] (fun sv post => sv = .b (headIs c s) ∧ post = nilSS) := by
  refine contract_ev Γok Tryz.func79 rfl rfl [] ?_
  simp (maxSteps := 4000000) only [push_cast, Int.reduceEq, Int.reduceBNe, Int.reduceBEq, Int.reduceAdd, Int.reduceSub, Int.reduceMul, Int.reduceNeg, Int.reduceLT, Int.reduceLE, Int.reduceToNat, Nat.reduceLT, Nat.reduceAdd, Nat.reduceSub, Nat.reduceMul, Nat.reduceEqDiff, Nat.reduceLeDiff, Nat.reduceBEq, reduceIte, reduceCtorEq, Tryz.f79, bs_size, bs_cut]
  rw [prefix1]
  exact Fin.w [] (.b (headIs c s)) _ (by simp (maxSteps := 4000000) only [push_cast, Int.reduceEq, Int.reduceBNe, Int.reduceBEq, Int.reduceAdd, Int.reduceSub, Int.reduceMul, Int.reduceNeg, Int.reduceLT, Int.reduceLE, Int.reduceToNat, Nat.reduceLT, Nat.reduceAdd, Nat.reduceSub, Nat.reduceMul, Nat.reduceEqDiff, Nat.reduceLeDiff, Nat.reduceBEq, reduceIte, reduceCtorEq]) ⟨rfl, rfl⟩
theorem pre1_c (s : List UInt8) (c : UInt8) : Contract Tryz.prog 47 nilSS [.s (bs s), .s (bs [c])] (fun sv post => sv = .b (headIs c s) ∧ post = nilSS) := by
  refine contract_ev Γok Tryz.func47 rfl rfl [] ?_
  simp (maxSteps := 4000000) only [push_cast, Int.reduceEq, Int.reduceBNe, Int.reduceBEq, Int.reduceAdd, Int.reduceSub, Int.reduceMul, Int.reduceNeg, Int.reduceLT, Int.reduceLE, Int.reduceToNat, Nat.reduceLT, Nat.reduceAdd, Nat.reduceSub, Nat.reduceMul, Nat.reduceEqDiff, Nat.reduceLeDiff, Nat.reduceBEq, reduceIte, reduceCtorEq, Tryz.f47]
  refine call_w (lite1_c s c) [] (by simp (maxSteps := 4000000) only [push_cast, Int.reduceEq, Int.reduceBNe, Int.reduceBEq, Int.reduceAdd, Int.reduceSub, Int.reduceMul, Int.reduceNeg, Int.reduceLT, Int.reduceLE, Int.reduceToNat, Nat.reduceLT, Nat.reduceAdd, Nat.reduceSub, Nat.reduceMul, Nat.reduceEqDiff, Nat.reduceLeDiff, Nat.reduceBEq, reduceIte, reduceCtorEq]) ?_
  rintro sv post ⟨rfl, rfl⟩
  simp (maxSteps := 4000000) only [push_cast, Int.reduceEq, Int.reduceBNe, Int.reduceBEq, Int.reduceAdd, Int.reduceSub, Int.reduceMul, Int.reduceNeg, Int.reduceLT, Int.reduceLE, Int.reduceToNat, Nat.reduceLT, Nat.reduceAdd, Nat.reduceSub, Nat.reduceMul, Nat.reduceEqDiff, Nat.reduceLeDiff, Nat.reduceBEq, reduceIte, reduceCtorEq]
  exact Fin.w [] (.b (headIs c s)) _ (by simp (maxSteps := 4000000) only [push_cast, Int.reduceEq, Int.reduceBNe, Int.reduceBEq, Int.reduceAdd, Int.reduceSub, Int.reduceMul, Int.reduceNeg, Int.reduceLT, Int.reduceLE, Int.reduceToNat, Nat.reduceLT, Nat.reduceAdd, Nat.reduceSub, Nat.reduceMul, Nat.reduceEqDiff, Nat.reduceLeDiff, Nat.reduceBEq, reduceIte, reduceCtorEq]) ⟨rfl, rfl⟩
def cutPreP (c : UInt8) (s : List UInt8) : List UInt8 := if headIs c s then s.drop 1 else s
theorem litecut1_c (s : List UInt8) (c : UInt8) : Contract Tryz.prog 80 nilSS [.s (bs s), .s (bs [c])] (fun sv post => sv = .tup [.s (bs (cutPreP c s)), .b (headIs c s)] ∧ post = nilSS) := by
  refine contract_ev Γok Tryz.func80 rfl rfl [] ?_
  simp (maxSteps := 4000000) only [push_cast, Int.reduceEq, Int.reduceBNe, Int.reduceBEq, Int.reduceAdd, Int.reduceSub, Int.reduceMul, Int.reduceNeg, Int.reduceLT, Int.reduceLE, Int.reduceToNat, Nat.reduceLT, Nat.reduceAdd, Nat.reduceSub, Nat.reduceMul, Nat.reduceEqDiff, Nat.reduceLeDiff, Nat.reduceBEq, reduceIte, reduceCtorEq, Tryz.f80]
  refine call_w (lite1_c s c) [] (by simp (maxSteps := 4000000) only [push_cast, Int.reduceEq, Int.reduceBNe, Int.reduceBEq, Int.reduceAdd, Int.reduceSub, Int.reduceMul, Int.reduceNeg, Int.reduceLT, Int.reduceLE, Int.reduceToNat, Nat.reduceLT, Nat.reduceAdd, Nat.reduceSub, Nat.reduceMul, Nat.reduceEqDiff, Nat.reduceLeDiff, Nat.reduceBEq, reduceIte, reduceCtorEq]) ?_
  rintro sv post ⟨rfl, rfl⟩
  simp (maxSteps := 4000000) only [push_cast, Int.reduceEq, Int.reduceBNe, Int.reduceBEq, Int.reduceAdd, Int.reduceSub, Int.reduceMul, Int.reduceNeg, Int.reduceLT, Int.reduceLE, Int.reduceToNat, Nat.reduceLT, Nat.reduceAdd, Nat.reduceSub, Nat.reduceMul, Nat.reduceEqDiff, Nat.reduceLeDiff, Nat.reduceBEq, reduceIte, reduceCtorEq, bs_size, bs_cut]
  refine ⟨fun h => ?_, fun h => ?_⟩
  · rw [h]
    have e : cutPreP c s = s := by unfold cutPreP; rw [if_neg (by rw [h]; simp)]
    exact Fin.w [] (.tup [.s (bs s), .b false]) _ (by simp (maxSteps := 4000000) only [push_cast, Int.reduceEq, Int.reduceBNe, Int.reduceBEq, Int.reduceAdd, Int.reduceSub, Int.reduceMul, Int.reduceNeg, Int.reduceLT, Int.reduceLE, Int.reduceToNat, Nat.reduceLT, Nat.reduceAdd, Nat.reduceSub, Nat.reduceMul, Nat.reduceEqDiff, Nat.reduceLeDiff, Nat.reduceBEq, reduceIte, reduceCtorEq]) ⟨by rw [e], rfl⟩
  · rw [h]
    have e : cutPreP c s = s.drop 1 := by unfold cutPreP; rw [if_pos h]
    have h1 : 1 ≤ s.length := by
      cases s with
      | nil => simp [headIs] at h
      | cons d r => simp
    rw [List.take_length]
    exact ⟨by omega, Fin.w [] (.tup [.s (bs (s.drop 1)), .b true]) _ (by simp (maxSteps := 4000000) only [push_cast, Int.reduceEq, Int.reduceBNe, Int.reduceBEq, Int.reduceAdd, Int.reduceSub, Int.reduceMul, Int.reduceNeg, Int.reduceLT, Int.reduceLE, Int.reduceToNat, Nat.reduceLT, Nat.reduceAdd, Nat.reduceSub, Nat.reduceMul, Nat.reduceEqDiff, Nat.reduceLeDiff, Nat.reduceBEq, reduceIte, reduceCtorEq]) ⟨by rw [e], rfl⟩⟩
theorem cut1_c (s : List UInt8) (c : UInt8) : Contract Tryz.prog 48 nilSS [.s (bs s), .s (bs [c])] (fun sv post => sv = .tup [.s (bs (cutPreP c s)), .b (headIs c s)] ∧ post = nilSS) := by
  refine contract_ev Γok Tryz.func48 rfl rfl [] ?_
  simp (maxSteps := 4000000) only [push_cast, Int.reduceEq, Int.reduceBNe, Int.reduceBEq, Int.reduceAdd, Int.reduceSub, Int.reduceMul, Int.reduceNeg, Int.reduceLT, Int.reduceLE, Int.reduceToNat, Nat.reduceLT, Nat.reduceAdd, Nat.reduceSub, Nat.reduceMul, Nat.reduceEqDiff, Nat.reduceLeDiff, Nat.reduceBEq, reduceIte, reduceCtorEq, Tryz.f48]
  refine call_w (litecut1_c s c) [] (by simp (maxSteps := 4000000) only [push_cast, Int.reduceEq, Int.reduceBNe, Int.reduceBEq, Int.reduceAdd, Int.reduceSub, Int.reduceMul, Int.reduceNeg, Int.reduceLT, Int.reduceLE, Int.reduceToNat, Nat.reduceLT, Nat.reduceAdd, Nat.reduceSub, Nat.reduceMul, Nat.reduceEqDiff, Nat.reduceLeDiff, Nat.reduceBEq, reduceIte, reduceCtorEq]) ?_
  rintro sv post ⟨rfl, rfl⟩
  simp (maxSteps := 4000000) only [push_cast, Int.reduceEq, Int.reduceBNe, Int.reduceBEq, Int.reduceAdd, Int.reduceSub, Int.reduceMul, Int.reduceNeg, Int.reduceLT, Int.reduceLE, Int.reduceToNat, Nat.reduceLT, Nat.reduceAdd, Nat.reduceSub, Nat.reduceMul, Nat.reduceEqDiff, Nat.reduceLeDiff, Nat.reduceBEq, reduceIte, reduceCtorEq]
  exact Fin.w [] (.tup [.s (bs (cutPreP c s)), .b (headIs c s)]) _ (by simp (maxSteps := 4000000) only [push_cast, Int.reduceEq, Int.reduceBNe, Int.reduceBEq, Int.reduceAdd, Int.reduceSub, Int.reduceMul, Int.reduceNeg, Int.reduceLT, Int.reduceLE, Int.reduceToNat, Nat.reduceLT, Nat.reduceAdd, Nat.reduceSub, Nat.reduceMul, Nat.reduceEqDiff, Nat.reduceLeDiff, Nat.reduceBEq, reduceIte, reduceCtorEq]) ⟨rfl, rfl⟩

def partC (p : PartP) : List SV := [.i .u8 p.verb.toNat, .i .u8 p.c.toNat, .b p.mute, .i .i64 p.width]
def isCut (l : List UInt8) (sv : SV) (post : SS) : Prop :=
  post = nilSS ∧ match cutP l with
    | some (p, n) => sv = .tup [.agg (partC p), .i .i64 n]
    | none => ∃ (v c : Int) (m : Bool) (w : Int), sv = .tup [.agg [.i .u8 v, .i .u8 c, .b m, .i .i64 w], .i .i64 0]
theorem u8iY (v w : UInt8) : ((v.toNat : Int) = (w.toNat : Int)) ↔ v = w := ⟨fun h => UInt8.toNat_inj.1 (by omega), fun h => by rw [h]⟩
theorem u32 (v : UInt8) : ((v.toNat : Int) = 32) = (v = 32) := propext (u8iY v 32)
theorem u10 (v : UInt8) : ((v.toNat : Int) = 10) = (v = 10) := propext (u8iY v 10)
theorem u37 (v : UInt8) : ((v.toNat : Int) = 37) = (v = 37) := propext (u8iY v 37)
theorem cut_c (c : UInt8) (r : List UInt8) (hr : r.length ≤ 100000) : Contract Tryz.prog 30 nilSS [.s (bs (c :: r))] (isCut (c :: r)) := by
  refine contract_ev Γok Tryz.func30 rfl rfl [] ?_
  simp (maxSteps := 4000000) only [push_cast, Int.reduceEq, Int.reduceBNe, Int.reduceBEq, Int.reduceAdd, Int.reduceSub, Int.reduceMul, Int.reduceNeg, Int.reduceLT, Int.reduceLE, Int.reduceToNat, Nat.reduceLT, Nat.reduceAdd, Nat.reduceSub, Nat.reduceMul, Nat.reduceEqDiff, Nat.reduceLeDiff, Nat.reduceBEq, reduceIte, reduceCtorEq, Tryz.f30, bs_at0, bs_size, mk_bs, u32, u10, u37]
  have bad : ∀ (S : SS) (v k : Int) (m : Bool) (w : Int), S.k = 0 → cutP (c :: r) = none → Fin (isCut (c :: r)) (.tup [.agg [.i .u8 v, .i .u8 k, .b m, .i .i64 w], .i .i64 0]) S := by
    intro S v k m w hS hc
    refine Fin.nil hS (psv := .tup [.agg [.i .u8 v, .i .u8 k, .b m, .i .i64 w], .i .i64 0]) (by simp (maxSteps := 4000000) only [push_cast, Int.reduceEq, Int.reduceBNe, Int.reduceBEq, Int.reduceAdd, Int.reduceSub, Int.reduceMul, Int.reduceNeg, Int.reduceLT, Int.reduceLE, Int.reduceToNat, Nat.reduceLT, Nat.reduceAdd, Nat.reduceSub, Nat.reduceMul, Nat.reduceEqDiff, Nat.reduceLeDiff, Nat.reduceBEq, reduceIte, reduceCtorEq]) ⟨rfl, ?_⟩
    rw [hc]
    exact ⟨v, k, m, w, rfl⟩
  have good : ∀ (S : SS) (p : PartP) (n : Nat) (v k w : Int), S.k = 0 → cutP (c :: r) = some (p, n) → v = p.verb.toNat → k = p.c.toNat → w = p.width → Fin (isCut (c :: r)) (.tup [.agg [.i .u8 v, .i .u8 k, .b p.mute, .i .i64 w], .i .i64 n]) S := by
    rintro S p n v k w hS hc rfl rfl rfl
    refine Fin.nil hS (psv := .tup [.agg (partC p), .i .i64 n]) (by simp (maxSteps := 4000000) only [push_cast, Int.reduceEq, Int.reduceBNe, Int.reduceBEq, Int.reduceAdd, Int.reduceSub, Int.reduceMul, Int.reduceNeg, Int.reduceLT, Int.reduceLE, Int.reduceToNat, Nat.reduceLT, Nat.reduceAdd, Nat.reduceSub, Nat.reduceMul, Nat.reduceEqDiff, Nat.reduceLeDiff, Nat.reduceBEq, reduceIte, reduceCtorEq, partC]) ⟨rfl, ?_⟩
    rw [hc]
  refine ⟨by omega, fun h => ?_, fun h => ⟨fun h1 => ?_, fun h1 => ⟨by omega, ?_⟩⟩⟩
  · exact good _ ⟨32, 0, false, 0⟩ 1 _ _ _ rfl (by simp only [cutP]; rw [if_pos h]) rfl rfl rfl
  · exact good _ ⟨0, c, false, 0⟩ 1 _ _ _ rfl (by simp only [cutP]; rw [if_neg (by rintro (h5 | h5); exact h.1 h5; exact h.2 h5), if_pos h1]) rfl rfl rfl
  subst h1
  have e1 : (bs (37 :: r)).extract 1 (r.length + 1) = bs r := by rw [bs_cut]; simp
  rw [e1]
  refine call_w (pre1_c r 37) [] (by simp (maxSteps := 4000000) only [push_cast, Int.reduceEq, Int.reduceBNe, Int.reduceBEq, Int.reduceAdd, Int.reduceSub, Int.reduceMul, Int.reduceNeg, Int.reduceLT, Int.reduceLE, Int.reduceToNat, Nat.reduceLT, Nat.reduceAdd, Nat.reduceSub, Nat.reduceMul, Nat.reduceEqDiff, Nat.reduceLeDiff, Nat.reduceBEq, reduceIte, reduceCtorEq]) ?_
  rintro sv post ⟨rfl, rfl⟩
  simp (maxSteps := 4000000) only [push_cast, Int.reduceEq, Int.reduceBNe, Int.reduceBEq, Int.reduceAdd, Int.reduceSub, Int.reduceMul, Int.reduceNeg, Int.reduceLT, Int.reduceLE, Int.reduceToNat, Nat.reduceLT, Nat.reduceAdd, Nat.reduceSub, Nat.reduceMul, Nat.reduceEqDiff, Nat.reduceLeDiff, Nat.reduceBEq, reduceIte, reduceCtorEq, e1]
  refine ⟨fun h2 => ?_, fun h2 => ?_⟩
  · exact good _ ⟨0, 37, false, 0⟩ 2 _ _ _ rfl (by simp only [cutP]; rw [if_neg (by decide), if_neg (by decide), if_pos h2]) rfl rfl rfl
  refine call_w (cut1_c r 42) [] (by simp (maxSteps := 4000000) only [push_cast, Int.reduceEq, Int.reduceBNe, Int.reduceBEq, Int.reduceAdd, Int.reduceSub, Int.reduceMul, Int.reduceNeg, Int.reduceLT, Int.reduceLE, Int.reduceToNat, Nat.reduceLT, Nat.reduceAdd, Nat.reduceSub, Nat.reduceMul, Nat.reduceEqDiff, Nat.reduceLeDiff, Nat.reduceBEq, reduceIte, reduceCtorEq]) ?_
  rintro sv post ⟨rfl, rfl⟩
  simp (maxSteps := 4000000) only [push_cast, Int.reduceEq, Int.reduceBNe, Int.reduceBEq, Int.reduceAdd, Int.reduceSub, Int.reduceMul, Int.reduceNeg, Int.reduceLT, Int.reduceLE, Int.reduceToNat, Nat.reduceLT, Nat.reduceAdd, Nat.reduceSub, Nat.reduceMul, Nat.reduceEqDiff, Nat.reduceLeDiff, Nat.reduceBEq, reduceIte, reduceCtorEq]
  have hcut : cutP (37 :: r) = directP (r.length + 1) (headIs 42 r) (cutPreP 42 r) := by
    simp only [cutP]
    rw [if_neg (by decide), if_neg (by decide), if_neg (by rw [h2]; simp)]
    unfold cutPreP
    by_cases h4 : headIs 42 r = true
    · rw [if_pos h4, if_pos h4, h4]
    · have h5 : headIs 42 r = false := by simpa using h4
      rw [if_neg h4, if_neg h4, h5]
  have hlen : (cutPreP 42 r).length ≤ r.length := by unfold cutPreP; split <;> simp
  generalize headIs 42 r = mu at hcut ⊢
  generalize cutPreP 42 r = q at hcut hlen ⊢
  refine loop_ok (ι := {n : Nat // n ≤ 4 ∧ n ≤ q.length ∧ digsP 4 q = q.take n ++ digsP (4 - n) (q.drop n)}) (fun n => ⟨[.s (bs (37 :: r)), .any, .ptr 0 0, .any, .any, .s (bs q), .ptr 1 0, .i .i64 n.1] ++ List.replicate 91 .any, [(0, 102, [.i .u8 0, .i .u8 0, .b false, .i .i64 0]), (1, 102, [.i .u8 0, .i .u8 0, .b mu, .i .i64 (valP (q.take n.1))])], [], [], 2, 0, []⟩) (fun n => 4 - n.1) ⟨0, by omega, by omega, by simp⟩ ?_ ?_
  · refine Sub.w [0, 1] ?_
    simp (maxSteps := 4000000) only [push_cast, Int.reduceEq, Int.reduceBNe, Int.reduceBEq, Int.reduceAdd, Int.reduceSub, Int.reduceMul, Int.reduceNeg, Int.reduceLT, Int.reduceLE, Int.reduceToNat, Nat.reduceLT, Nat.reduceAdd, Nat.reduceSub, Nat.reduceMul, Nat.reduceEqDiff, Nat.reduceLeDiff, Nat.reduceBEq, reduceIte, reduceCtorEq]
    rfl
  rintro ⟨n, n1, n2, n3⟩
  refine evCode_sound Γok _ _ _ ?_
  simp (maxSteps := 4000000) only [push_cast, Int.reduceEq, Int.reduceBNe, Int.reduceBEq, Int.reduceAdd, Int.reduceSub, Int.reduceMul, Int.reduceNeg, Int.reduceLT, Int.reduceLE, Int.reduceToNat, Nat.reduceLT, Nat.reduceAdd, Nat.reduceSub, Nat.reduceMul, Nat.reduceEqDiff, Nat.reduceLeDiff, Nat.reduceBEq, reduceIte, reduceCtorEq, bs_size, bs_at, Int.toNat_natCast]
  generalize hc : (q[n]?).getD 0 = c
  refine ⟨fun h => by omega, fun h => by omega, fun h5 => ?_, fun h5 => ?_⟩
  · have hn : n < q.length := by omega
    have hd : isDig c = true := by unfold isDig; simp; omega
    have hv := valP_lt n (q.take n) (by simp; omega) (fun x hx => digsP_dig 4 q x (by rw [n3]; exact List.mem_append_left _ hx))
    have hp : 10 ^ n ≤ 10 ^ 3 := Nat.pow_le_pow_right (by omega) (by omega)
    have e : valP (q.take (n + 1)) = 10 * valP (q.take n) + (c.toNat - 48) := by
      rw [← List.take_append_getElem hn, valP_app]
      rw [getD_lt hn] at hc
      rw [hc]
    refine (region_plan rfl Γok mixed (.pure 0 (.pure 1 (.pure 2 (.pure 3 (.pure 4 (.pure 5 (.pure 6 (.pure 7 (.pure 8 (.pure 9 (.eff (.cons 10 [] .done .nil)))))))))))) 99 rfl (by kernel_rfl) ?_)
    simp (maxSteps := 4000000) only [push_cast, Int.reduceEq, Int.reduceBNe, Int.reduceBEq, Int.reduceAdd, Int.reduceSub, Int.reduceMul, Int.reduceNeg, Int.reduceLT, Int.reduceLE, Int.reduceToNat, Nat.reduceLT, Nat.reduceAdd, Nat.reduceSub, Nat.reduceMul, Nat.reduceEqDiff, Nat.reduceLeDiff, Nat.reduceBEq, reduceIte, reduceCtorEq, bs_size, bs_at, Int.toNat_natCast, hc]
    refine ⟨by omega, ⟨n + 1, by omega, by omega, digs_next (by omega) (by omega) (by rw [hc]; exact hd) n3⟩, by show 4 - (n + 1) < 4 - n; omega, Sub.w [0, 1] ?_⟩
    simp (maxSteps := 4000000) only [push_cast, Int.reduceEq, Int.reduceBNe, Int.reduceBEq, Int.reduceAdd, Int.reduceSub, Int.reduceMul, Int.reduceNeg, Int.reduceLT, Int.reduceLE, Int.reduceToNat, Nat.reduceLT, Nat.reduceAdd, Nat.reduceSub, Nat.reduceMul, Nat.reduceEqDiff, Nat.reduceLeDiff, Nat.reduceBEq, reduceIte, reduceCtorEq]
    rw [e]
    have e1 : IntKind.u8.wrap ((c.toNat : Int) - 48) = c.toNat - 48 := by rw [IntKind.wrap_u8]; omega
    have e2 : IntKind.i64.wrap ((c.toNat : Int) - 48) = c.toNat - 48 := wrap64 (n := (c.toNat : Int) - 48) (by omega) (by omega)
    have e3 : IntKind.i64.wrap (10 * (valP (q.take n) : Int)) = 10 * (valP (q.take n) : Int) := wrap64 (n := 10 * (valP (q.take n) : Int)) (by omega) (by omega)
    rw [e1, e2, e3, wrap64 (n := 10 * (valP (q.take n) : Int) + ((c.toNat : Int) - 48)) (by omega) (by omega), wrap64 (n := (n : Int) + 1) (by omega) (by omega)]
    exact ⟨rfl, by omega⟩
  · have e := digs_stop (m := 4) (n := n) (l := q) (by
      rcases h5 with ((h5 | h5) | h5) | h5
      · omega
      · omega
      · exact .inr (.inr (by rw [hc]; unfold isDig; simp; omega))
      · exact .inr (.inr (by rw [hc]; unfold isDig; simp; omega))) n3
    have hhead : headIs 48 (q.take n) = decide (0 < (n : Int) ∧ (((q[0]?).getD 0).toNat : Int) = 48) := by
      cases q with
      | nil => simp [headIs]
      | cons x y =>
        cases n with
        | zero => simp [headIs]
        | succ n =>
          have h0 : (0 : Int) < ((n + 1 : Nat) : Int) := by omega
          have h1 : ((x.toNat : Int) = 48) = (x = 48) := propext (u8iY x 48)
          simp only [List.take_succ_cons, headIs, List.getElem?_cons_zero, Option.getD_some, h0, h1, true_and]
          rfl
    have hdir : cutP (37 :: r) = if (headIs 48 (q.take n) || decide (4096 < valP (q.take n))) = true then none else verbCut (r.length + 1) mu (valP (q.take n)) (q.drop n) := by
      rw [hcut]
      unfold directP
      rw [e, List.length_take, Nat.min_eq_left n2]
    rw [hhead] at hdir
    refine ⟨fun h6 => by omega, fun h6 => bad _ _ _ _ _ rfl (by rw [hdir, if_pos (by simp only [Bool.or_eq_true, decide_eq_true_eq]; omega)]), fun h6 => ?_⟩
    rw [if_neg (by simp only [Bool.or_eq_true, decide_eq_true_eq]; omega)] at hdir
    rw [bs_cut, List.take_length]
    have hql : (q.drop n).length = q.length - n := List.length_drop
    generalize q.drop n = z at hdir hql ⊢
    simp only [bs_tl]
    have bad2 : ∀ (S : SS), S.k = 0 → z = [] → Fin (isCut (37 :: r)) (.tup [.agg [.i .u8 0, .i .u8 0, .b mu, .i .i64 (valP (q.take n))], .i .i64 0]) S := fun S hS hz => bad S _ _ _ _ hS (by rw [hdir, hz]; rfl)
    refine ⟨by omega, fun hz => ?_, fun hz => ⟨hz, ?_⟩, fun hz => ?_⟩
    · rw [bs_size]
      rcases z with _ | ⟨v, w⟩
      · exact absurd rfl hz
      · simp only [List.length_cons]; omega
    · obtain ⟨v, w, rfl⟩ : ∃ v w, z = v :: w := by
        cases z with
        | nil => exact absurd rfl hz
        | cons v w => exact ⟨v, w, rfl⟩
      have hne : ((v :: w : List UInt8) = []) = False := by simp
      rw [bs_at0]
      refine call_w (indexU_c [100, 117, 120, 111, 99, 115] v) [] (by simp (maxSteps := 4000000) only [push_cast, Int.reduceEq, Int.reduceBNe, Int.reduceBEq, Int.reduceAdd, Int.reduceSub, Int.reduceMul, Int.reduceNeg, Int.reduceLT, Int.reduceLE, Int.reduceToNat, Nat.reduceLT, Nat.reduceAdd, Nat.reduceSub, Nat.reduceMul, Nat.reduceEqDiff, Nat.reduceLeDiff, Nat.reduceBEq, reduceIte, reduceCtorEq]) ?_
      rintro sv post ⟨rfl, rfl⟩
      simp only [bs_size, List.length_cons] at hql ⊢
      simp (maxSteps := 4000000) only [push_cast, Int.reduceEq, Int.reduceBNe, Int.reduceBEq, Int.reduceAdd, Int.reduceSub, Int.reduceMul, Int.reduceNeg, Int.reduceLT, Int.reduceLE, Int.reduceToNat, Nat.reduceLT, Nat.reduceAdd, Nat.reduceSub, Nat.reduceMul, Nat.reduceEqDiff, Nat.reduceLeDiff, Nat.reduceBEq, reduceIte, reduceCtorEq, bs_size, bs_at0, bs_tl, hne, idx_ng, idx_nn, List.length_cons]
      have hww : IntKind.i64.wrap (IntKind.i64.wrap ((r.length : Int) + 1 - ((w.length : Int) + 1)) + 1) = ((r.length + 1 - w.length : Nat) : Int) := by
        rw [wrap64 (n := (r.length : Int) + 1 - ((w.length : Int) + 1)) (by omega) (by omega), wrap64 (by omega) (by omega)]
        omega
      rw [hww]
      refine ⟨fun hv => bad _ _ _ _ _ rfl ?_, fun hv => ⟨by omega, good _ ⟨v, 0, mu, valP (q.take n)⟩ (r.length + 1 - w.length) _ _ _ rfl ?_ rfl rfl rfl⟩⟩
      · rw [hdir]
        show (if scanSet.contains v = true then _ else none) = none
        rw [if_neg]
        rcases hv with hv | hv
        · exact hv.elim
        · rw [show scanSet.contains v = false from hv]; simp
      · rw [hdir]
        show (if scanSet.contains v = true then _ else none) = _
        rw [if_pos (show scanSet.contains v = true from hv)]
    · exact ⟨fun h => absurd hz h, fun _ => bad2 _ rfl hz, fun h => absurd hz h⟩
end Go.Proofs.YtmciepkhpocafaaGreat
/- Scan: a pattern's parts. -/
namespace Go.Proofs.YtmciepkhpocafaaGreat
open Go Go.Eng
set_option maxHeartbeats 4000000
set_option linter.unusedSimpArgs false
set_option linter.unusedVariables false
set_option maxRecDepth 100000

theorem elOf_app : ∀ (A B : List (List SV)) (i j : Nat), elOf (A ++ B) i j = catEl A.length (elOf A) (elOf B) i j
  | [], B, i, j => by simp [catEl]
  | a :: r, B, 0, j => by simp [catEl]; rfl
  | a :: r, B, i + 1, j => by
    have := elOf_app r B i j
    show elOf (r ++ B) i j = _
    rw [this]
    simp only [catEl, List.length_cons]
    by_cases h : i < r.length
    · rw [if_pos h, if_pos (by omega)]; rfl
    · rw [if_neg h, if_neg (by omega), Nat.add_sub_add_right]
theorem elOf_appf (A B : List (List SV)) : catEl A.length (elOf A) (elOf B) = elOf (A ++ B) := by
  funext i j
  exact (elOf_app A B i j).symm
def partEl (ps : List PartP) : Nat → Nat → SV := elOf (ps.map partC)
theorem partEl_app (ps : List PartP) (p : PartP) : catEl ps.length (partEl ps) (elOf [partC p]) = partEl (ps ++ [p]) := by
  unfold partEl
  rw [List.map_append, ← elOf_appf, List.length_map]
  rfl
theorem W_part (f : Nat → Nat) : ∀ (ps : List PartP) (i j : Nat), W false f (partEl ps i j) (partEl ps i j)
  | [], i, j => by simp only [partEl, elOf, List.map_nil, pickL, lget, W]
  | a :: r, 0, j => by
    show W false f (lget (partC a) j) (lget (partC a) j)
    match j with
    | 0 => simp only [partC, lget, W]; exact ⟨trivial, trivial⟩
    | 1 => simp only [partC, lget, W]; exact ⟨trivial, trivial⟩
    | 2 => simp only [partC, lget, W]
    | 3 => simp only [partC, lget, W]; exact ⟨trivial, trivial⟩
    | n + 4 => simp only [partC, lget, W]
  | a :: r, i + 1, j => W_part f r i j
def isParts (L : List PartP × Int × Nat) (sv : SV) (post : SS) : Prop :=
  post = nilSS ∧ ((L.2.1 = 0 ∧ sv = .tup [.sl 4 .old L.1.length (partEl L.1), .i .i64 0, .i .i64 L.2.2]) ∨ (L.2.1 ≠ 0 ∧ sv = .tup [.ints .u8 .nil [], .i .i64 L.2.1, .i .i64 L.2.2]))
theorem partsF_bad {f at_ : Nat} {c : UInt8} {r : List UInt8} {out : List PartP} (h : cutP (c :: r) = none) : partsF (f + 1) at_ (c :: r) out = ([], 171, at_) := by simp only [partsF, h]
theorem partsF_go {f at_ : Nat} {c : UInt8} {r : List UInt8} {out : List PartP} {p : PartP} {n : Nat} (h : cutP (c :: r) = some (p, n)) : partsF (f + 1) at_ (c :: r) out = partsF f (at_ + n) ((c :: r).drop n) (out ++ [p]) := by simp only [partsF, h]
theorem parts_c (l : List UInt8) : Contract Tryz.prog 13 nilSS [.s (bs l)] (isParts (partsP l)) := by
  refine contract_of Γok Tryz.func13 rfl rfl (stop := []) ?_
  refine evCode_sound Γok _ _ _ ?_
  simp (maxSteps := 4000000) only [push_cast, Int.reduceEq, Int.reduceBNe, Int.reduceBEq, Int.reduceAdd, Int.reduceSub, Int.reduceMul, Int.reduceNeg, Int.reduceLT, Int.reduceLE, Int.reduceToNat, Nat.reduceLT, Nat.reduceAdd, Nat.reduceSub, Nat.reduceMul, Nat.reduceEqDiff, Nat.reduceLeDiff, Nat.reduceBEq, reduceIte, reduceCtorEq, Tryz.f13, bs_size]
  have err : ∀ (S : SS) (e : Int) (at_ : Nat), S.k = 0 → e ≠ 0 → partsP l = ([], e, at_) → Fin (isParts (partsP l)) (.tup [.ints .u8 .nil [], .i .i64 e, .i .i64 at_]) S := by
    intro S e at_ hS hne he
    rw [he]
    exact Fin.nil hS (psv := .tup [.ints .u8 .nil [], .i .i64 e, .i .i64 at_]) (by simp (maxSteps := 4000000) only [push_cast, Int.reduceEq, Int.reduceBNe, Int.reduceBEq, Int.reduceAdd, Int.reduceSub, Int.reduceMul, Int.reduceNeg, Int.reduceLT, Int.reduceLE, Int.reduceToNat, Nat.reduceLT, Nat.reduceAdd, Nat.reduceSub, Nat.reduceMul, Nat.reduceEqDiff, Nat.reduceLeDiff, Nat.reduceBEq, reduceIte, reduceCtorEq]) ⟨rfl, .inr ⟨hne, rfl⟩⟩
  refine ⟨fun h => err _ 5 0 rfl (by decide) (if_pos (by omega)), fun h => ?_⟩
  have e0 : partsP l = partsF (l.length + 1) 0 l [] := if_neg (by omega)
  refine loop_ok (ι := {q : Nat × List UInt8 × Nat × List PartP // partsF q.1 q.2.2.1 q.2.1 q.2.2.2 = partsF (l.length + 1) 0 l [] ∧ q.2.1.length < q.1 ∧ l.drop q.2.2.1 = q.2.1 ∧ q.2.2.1 + q.2.1.length = l.length ∧ q.2.2.2.length ≤ q.2.2.1})
    (fun q => ⟨[.s (bs l), .any, .any, .any, .any, .sl 4 (.tok 0 true) q.1.2.2.2.length (partEl q.1.2.2.2), .i .i64 q.1.2.2.1] ++ List.replicate 29 .any, [], [0], [], 1, 0, []⟩) (fun q => q.1.1) ⟨(l.length + 1, l, 0, []), rfl, Nat.lt_succ_self _, rfl, by simp, by simp⟩ ?_ ?_
  · refine Sub.trans (Sub.tokFrS 5 4 (partEl []) rfl) (Sub.w [0] ?_)
    simp (maxSteps := 4000000) only [push_cast, Int.reduceEq, Int.reduceBNe, Int.reduceBEq, Int.reduceAdd, Int.reduceSub, Int.reduceMul, Int.reduceNeg, Int.reduceLT, Int.reduceLE, Int.reduceToNat, Nat.reduceLT, Nat.reduceAdd, Nat.reduceSub, Nat.reduceMul, Nat.reduceEqDiff, Nat.reduceLeDiff, Nat.reduceBEq, reduceIte, reduceCtorEq]
    exact fun i hi => absurd hi (Nat.not_lt_zero _)
  rintro ⟨⟨f, r, at_, out⟩, h1, h2, h3, h4, h5⟩
  simp only at h1 h2 h3 h4 h5
  obtain ⟨f, rfl⟩ : ∃ k, f = k + 1 := ⟨f - 1, by omega⟩
  refine evCode_sound Γok _ _ _ ?_
  simp (maxSteps := 4000000) only [push_cast, Int.reduceEq, Int.reduceBNe, Int.reduceBEq, Int.reduceAdd, Int.reduceSub, Int.reduceMul, Int.reduceNeg, Int.reduceLT, Int.reduceLE, Int.reduceToNat, Nat.reduceLT, Nat.reduceAdd, Nat.reduceSub, Nat.reduceMul, Nat.reduceEqDiff, Nat.reduceLeDiff, Nat.reduceBEq, reduceIte, reduceCtorEq, bs_size, bs_cut, List.take_length]
  refine ⟨fun h7 => ?_, fun h7 => ?_⟩
  · obtain ⟨ch, r, rfl⟩ : ∃ d r', r = d :: r' := by
      cases r with
      | nil => simp only [List.length_nil] at h4; omega
      | cons d r => exact ⟨d, r, rfl⟩
    simp only [List.length_cons] at h2 h4
    rw [Int.toNat_natCast, h3]
    refine ⟨by omega, ?_⟩
    refine call_w (cut_c ch r (by omega)) [] (by simp (maxSteps := 4000000) only [push_cast, Int.reduceEq, Int.reduceBNe, Int.reduceBEq, Int.reduceAdd, Int.reduceSub, Int.reduceMul, Int.reduceNeg, Int.reduceLT, Int.reduceLE, Int.reduceToNat, Nat.reduceLT, Nat.reduceAdd, Nat.reduceSub, Nat.reduceMul, Nat.reduceEqDiff, Nat.reduceLeDiff, Nat.reduceBEq, reduceIte, reduceCtorEq]) ?_
    rintro sv post ⟨rfl, hp⟩
    cases hcc : cutP (ch :: r) with
    | none =>
      rw [hcc] at hp
      obtain ⟨v, c, m, w, rfl⟩ := hp
      simp (maxSteps := 4000000) only [push_cast, Int.reduceEq, Int.reduceBNe, Int.reduceBEq, Int.reduceAdd, Int.reduceSub, Int.reduceMul, Int.reduceNeg, Int.reduceLT, Int.reduceLE, Int.reduceToNat, Nat.reduceLT, Nat.reduceAdd, Nat.reduceSub, Nat.reduceMul, Nat.reduceEqDiff, Nat.reduceLeDiff, Nat.reduceBEq, reduceIte, reduceCtorEq]
      exact err _ 171 at_ rfl (by decide) (by rw [e0, ← h1, partsF_bad hcc])
    | some pn =>
      obtain ⟨p, n⟩ := pn
      rw [hcc] at hp
      simp only at hp
      subst hp
      obtain ⟨s1, s2, s3⟩ := cutP_size hcc
      simp (maxSteps := 4000000) only [push_cast, Int.reduceEq, Int.reduceBNe, Int.reduceBEq, Int.reduceAdd, Int.reduceSub, Int.reduceMul, Int.reduceNeg, Int.reduceLT, Int.reduceLE, Int.reduceToNat, Nat.reduceLT, Nat.reduceAdd, Nat.reduceSub, Nat.reduceMul, Nat.reduceEqDiff, Nat.reduceLeDiff, Nat.reduceBEq, reduceIte, reduceCtorEq, partC]
      refine ⟨fun h8 => by omega, fun h8 => ⟨by omega, fun i hi j hj => ?_, ?_⟩⟩
      · obtain rfl : i = 0 := by omega
        match j, hj with
        | 0, _ => rfl
        | 1, _ => rfl
        | 2, _ => rfl
        | 3, _ => rfl
      · rw [wrap64 (n := (at_ : Int) + n) (by omega) (by omega)]
        refine ⟨⟨(f, (ch :: r).drop n, at_ + n, out ++ [p]), by rw [← partsF_go hcc]; exact h1, by simp only [List.length_drop, List.length_cons]; omega, by rw [← List.drop_drop, h3], by simp only [List.length_drop, List.length_cons]; omega, by simp only [List.length_append, List.length_cons, List.length_nil]; omega⟩, by simp only; omega, ?_⟩
        have e : catEl out.length (partEl out) (elOf [[SV.i .u8 (p.verb.toNat : Int), .i .u8 (p.c.toNat : Int), .b p.mute, .i .i64 (p.width : Int)]]) = partEl (out ++ [p]) := partEl_app out p
        refine Sub.w [3] ?_
        simp (maxSteps := 4000000) only [push_cast, Int.reduceEq, Int.reduceBNe, Int.reduceBEq, Int.reduceAdd, Int.reduceSub, Int.reduceMul, Int.reduceNeg, Int.reduceLT, Int.reduceLE, Int.reduceToNat, Nat.reduceLT, Nat.reduceAdd, Nat.reduceSub, Nat.reduceMul, Nat.reduceEqDiff, Nat.reduceLeDiff, Nat.reduceBEq, reduceIte, reduceCtorEq, e, List.length_append]
        exact fun i _ j _ => W_part _ (out ++ [p]) i j
  · have hr : r = [] := List.eq_nil_of_length_eq_zero (by omega)
    subst hr
    simp only [List.length_nil] at h4
    have hL : partsP l = (out, 0, at_) := by rw [e0, ← h1]; simp only [partsF]
    rw [hL, show (l.length : Int) = at_ by omega]
    exact Fin.w [] (.tup [.sl 4 .old out.length (partEl out), .i .i64 0, .i .i64 at_]) _ (by simp (maxSteps := 4000000) only [push_cast, Int.reduceEq, Int.reduceBNe, Int.reduceBEq, Int.reduceAdd, Int.reduceSub, Int.reduceMul, Int.reduceNeg, Int.reduceLT, Int.reduceLE, Int.reduceToNat, Nat.reduceLT, Nat.reduceAdd, Nat.reduceSub, Nat.reduceMul, Nat.reduceEqDiff, Nat.reduceLeDiff, Nat.reduceBEq, reduceIte, reduceCtorEq]; exact fun i _ j _ => W_part _ out i j) ⟨rfl, .inl ⟨rfl, rfl⟩⟩
end Go.Proofs.YtmciepkhpocafaaGreat
/- Scan: bytes as a source; what is taken of it. -/
namespace Go.Proofs.YtmciepkhpocafaaGreat
open Go Go.Eng
set_option maxHeartbeats 4000000
set_option linter.unusedSimpArgs false
set_option linter.unusedVariables false
set_option maxRecDepth 100000

theorem ent_w {P : Program} {f : FuncId} {pre : SS} {pargs : List SV} {R : SV → SS → Prop} (hC : Contract P f pre pargs R) (im : List Nat) {st : SS} {args : List SV} {K : SV → SS → Prop}
    (h : CallW im pre pargs st args) (hK : ∀ sv post, R sv post → K (ren (fmap (im.take pre.k) st.nx) sv) (st.back (lentOf im st.nx pre) (im.take pre.k) post)) : CallEnt P f args st K :=
  let ⟨h1, h2, h3, h4, h5, h6, h7, h8, h9⟩ := h
  call_ent hC im h1 h2 h3 h4 h5 h6 h7 h8 h9 hK

theorem blank_c (c : UInt8) : Contract Tryz.prog 57 nilSS [.i .u8 (c.toNat : Int)] (fun sv post => sv = .b (isBlank c) ∧ post = nilSS) := by
  refine contract_ev Γok Tryz.func57 rfl rfl [] ?_
  simp (maxSteps := 4000000) only [push_cast, Int.reduceEq, Int.reduceBNe, Int.reduceBEq, Int.reduceAdd, Int.reduceSub, Int.reduceMul, Int.reduceNeg, Int.reduceLT, Int.reduceLE, Int.reduceToNat, Nat.reduceLT, Nat.reduceAdd, Nat.reduceSub, Nat.reduceMul, Nat.reduceEqDiff, Nat.reduceLeDiff, Nat.reduceBEq, reduceIte, reduceCtorEq, Tryz.f57]
  have h9 : ((c.toNat : Int) = 9) = (c = 9) := propext (u8iY c 9)
  have e : (((c.toNat : Int) == 32 || (c.toNat : Int) == 10) || (c.toNat : Int) == 9) = isBlank c := by
    unfold isBlank
    rw [Bool.eq_iff_iff]
    simp only [Bool.or_eq_true, beq_iff_eq, decide_eq_true_eq, u32, u10, h9]
  rw [e]
  exact Fin.w [] (.b (isBlank c)) _ (by simp (maxSteps := 4000000) only [push_cast, Int.reduceEq, Int.reduceBNe, Int.reduceBEq, Int.reduceAdd, Int.reduceSub, Int.reduceMul, Int.reduceNeg, Int.reduceLT, Int.reduceLE, Int.reduceToNat, Nat.reduceLT, Nat.reduceAdd, Nat.reduceSub, Nat.reduceMul, Nat.reduceEqDiff, Nat.reduceLeDiff, Nat.reduceBEq, reduceIte, reduceCtorEq]) ⟨rfl, rfl⟩
theorem tells_c (p : PartP) : Contract Tryz.prog 32 nilSS [.agg (partC p)] (fun sv post => sv = .b p.tells ∧ post = nilSS) := by
  refine contract_ev Γok Tryz.func32 rfl rfl [] ?_
  simp (maxSteps := 4000000) only [push_cast, Int.reduceEq, Int.reduceBNe, Int.reduceBEq, Int.reduceAdd, Int.reduceSub, Int.reduceMul, Int.reduceNeg, Int.reduceLT, Int.reduceLE, Int.reduceToNat, Nat.reduceLT, Nat.reduceAdd, Nat.reduceSub, Nat.reduceMul, Nat.reduceEqDiff, Nat.reduceLeDiff, Nat.reduceBEq, reduceIte, reduceCtorEq, Tryz.f32, partC]
  have h0 : ((p.verb.toNat : Int) = 0) = (p.verb = 0) := propext (u8iY p.verb 0)
  have e : ((((p.verb.toNat : Int) != 0) && ((p.verb.toNat : Int) != 32)) && !p.mute) = p.tells := by
    unfold PartP.tells
    rw [Bool.eq_iff_iff]
    simp only [Bool.and_eq_true, bne_iff_ne, ne_eq, decide_eq_true_eq, u32, h0, Bool.not_eq_true']
  rw [e]
  exact Fin.w [] (.b p.tells) _ (by simp (maxSteps := 4000000) only [push_cast, Int.reduceEq, Int.reduceBNe, Int.reduceBEq, Int.reduceAdd, Int.reduceSub, Int.reduceMul, Int.reduceNeg, Int.reduceLT, Int.reduceLE, Int.reduceToNat, Nat.reduceLT, Nat.reduceAdd, Nat.reduceSub, Nat.reduceMul, Nat.reduceEqDiff, Nat.reduceLeDiff, Nat.reduceBEq, reduceIte, reduceCtorEq]) ⟨rfl, rfl⟩

def fixL (b : List UInt8) (at_ : Nat) : List SV := [.ints .u8 .old (ofU b), .i .i64 at_]
def fixS (b : List UInt8) (at_ : Nat) : SS := ⟨[], [(0, 66, fixL b at_)], [], [], 1, 1, []⟩
def isNext (b : List UInt8) (at_ : Nat) (sv : SV) (post : SS) : Prop :=
  match b.drop at_ with
  | [] => sv = .tup [.i .u8 0, .i .i64 111] ∧ post = fixS b at_
  | c :: _ => sv = .tup [.i .u8 c.toNat, .i .i64 0] ∧ post = fixS b (at_ + 1)
theorem next_c (b : List UInt8) (at_ : Nat) (hb : b.length ≤ 140737488355328) (hat : at_ ≤ b.length) : Contract Tryz.prog 140 (fixS b at_) [.ptr 0 0] (isNext b at_) := by
  refine contract_ev Γok Tryz.func140 rfl rfl [1] ?_
  simp (maxSteps := 4000000) only [push_cast, Int.reduceEq, Int.reduceBNe, Int.reduceBEq, Int.reduceAdd, Int.reduceSub, Int.reduceMul, Int.reduceNeg, Int.reduceLT, Int.reduceLE, Int.reduceToNat, Nat.reduceLT, Nat.reduceAdd, Nat.reduceSub, Nat.reduceMul, Nat.reduceEqDiff, Nat.reduceLeDiff, Nat.reduceBEq, reduceIte, reduceCtorEq, Tryz.f140, fixS, fixL]
  refine (region_plan rfl Γok mixed (.pure 0 (.pure 1 (.pure 2 (.pure 3 (.pure 4 (.pure 5 (.pure 6 (.pure 7 (.pure 8 (.pure 9 .done)))))))))) 32 rfl (by kernel_rfl) ?_)
  simp (maxSteps := 4000000) only [push_cast, Int.reduceEq, Int.reduceBNe, Int.reduceBEq, Int.reduceAdd, Int.reduceSub, Int.reduceMul, Int.reduceNeg, Int.reduceLT, Int.reduceLE, Int.reduceToNat, Nat.reduceLT, Nat.reduceAdd, Nat.reduceSub, Nat.reduceMul, Nat.reduceEqDiff, Nat.reduceLeDiff, Nat.reduceBEq, reduceIte, reduceCtorEq, ofU_len]
  refine ⟨fun h => ?_, fun h => ?_⟩
  · have hR : isNext b at_ (.tup [.i .u8 0, .i .i64 111]) (fixS b at_) := by
      unfold isNext
      rw [List.drop_eq_nil_of_le (by omega)]
      exact ⟨rfl, rfl⟩
    exact Fin.w [0] _ (fixS b at_) (by simp (maxSteps := 4000000) only [push_cast, Int.reduceEq, Int.reduceBNe, Int.reduceBEq, Int.reduceAdd, Int.reduceSub, Int.reduceMul, Int.reduceNeg, Int.reduceLT, Int.reduceLE, Int.reduceToNat, Nat.reduceLT, Nat.reduceAdd, Nat.reduceSub, Nat.reduceMul, Nat.reduceEqDiff, Nat.reduceLeDiff, Nat.reduceBEq, reduceIte, reduceCtorEq, fixS, fixL]) hR
  · have hlt : at_ < b.length := by omega
    have hR : isNext b at_ (.tup [.i .u8 b[at_].toNat, .i .i64 0]) (fixS b (at_ + 1)) := by
      unfold isNext
      rw [List.drop_eq_getElem_cons hlt]
      exact ⟨rfl, rfl⟩
    have w1 : IntKind.i64.wrap ((at_ : Int) + 1) = (at_ : Int) + 1 := wrap64 (n := (at_ : Int) + 1) (by omega) (by omega)
    have w2 : IntKind.i64.wrap ((at_ : Int) + 1 - 1) = (at_ : Int) := by rw [show (at_ : Int) + 1 - 1 = at_ by omega]; exact wrap64 (n := (at_ : Int)) (by omega) (by omega)
    rw [w1]
    refine (region_plan rfl Γok mixed (.pure 0 (.pure 1 (.pure 2 (.pure 3 (.pure 4 (.pure 5 (.pure 6 (.pure 7 (.pure 8 (.pure 9 (.pure 10 (.pure 11 (.pure 12 .done))))))))))))) 32 rfl (by kernel_rfl) ?_)
    simp (maxSteps := 4000000) only [push_cast, Int.reduceEq, Int.reduceBNe, Int.reduceBEq, Int.reduceAdd, Int.reduceSub, Int.reduceMul, Int.reduceNeg, Int.reduceLT, Int.reduceLE, Int.reduceToNat, Nat.reduceLT, Nat.reduceAdd, Nat.reduceSub, Nat.reduceMul, Nat.reduceEqDiff, Nat.reduceLeDiff, Nat.reduceBEq, reduceIte, reduceCtorEq, ofU_len, w2]
    have e : (ofU b).getD (at_ : Int).toNat 0 = (b[at_].toNat : Int) := by
      rw [Int.toNat_natCast]
      simp [ofU, List.getD, hlt]
    rw [e]
    refine ⟨by omega, Fin.w [0] _ (fixS b (at_ + 1)) (by simp (maxSteps := 4000000) only [push_cast, Int.reduceEq, Int.reduceBNe, Int.reduceBEq, Int.reduceAdd, Int.reduceSub, Int.reduceMul, Int.reduceNeg, Int.reduceLT, Int.reduceLE, Int.reduceToNat, Nat.reduceLT, Nat.reduceAdd, Nat.reduceSub, Nat.reduceMul, Nat.reduceEqDiff, Nat.reduceLeDiff, Nat.reduceBEq, reduceIte, reduceCtorEq, fixS, fixL]) hR⟩
theorem back_c (b : List UInt8) (at_ : Nat) (c : Int) (h0 : 1 ≤ at_) (hat : at_ ≤ 140737488355328) : Contract Tryz.prog 139 (fixS b at_) [.ptr 0 0, .i .u8 c] (fun sv post => sv = .tup [] ∧ post = fixS b (at_ - 1)) := by
  refine contract_ev Γok Tryz.func139 rfl rfl [] ?_
  simp (maxSteps := 4000000) only [push_cast, Int.reduceEq, Int.reduceBNe, Int.reduceBEq, Int.reduceAdd, Int.reduceSub, Int.reduceMul, Int.reduceNeg, Int.reduceLT, Int.reduceLE, Int.reduceToNat, Nat.reduceLT, Nat.reduceAdd, Nat.reduceSub, Nat.reduceMul, Nat.reduceEqDiff, Nat.reduceLeDiff, Nat.reduceBEq, reduceIte, reduceCtorEq, Tryz.f139, fixS, fixL]
  rw [wrap64 (n := (at_ : Int) - 1) (by omega) (by omega)]
  exact Fin.w [0] (.tup []) (fixS b (at_ - 1)) (by simp (maxSteps := 4000000) only [push_cast, Int.reduceEq, Int.reduceBNe, Int.reduceBEq, Int.reduceAdd, Int.reduceSub, Int.reduceMul, Int.reduceNeg, Int.reduceLT, Int.reduceLE, Int.reduceToNat, Nat.reduceLT, Nat.reduceAdd, Nat.reduceSub, Nat.reduceMul, Nat.reduceEqDiff, Nat.reduceLeDiff, Nat.reduceBEq, reduceIte, reduceCtorEq, fixS, fixL]; omega) ⟨rfl, rfl⟩

theorem nextM : MethodIs Tryz.prog 64 "millrace/scan.next" 140 := methodIs_of (by kernel_rfl)
theorem backM : MethodIs Tryz.prog 64 "millrace/scan.back" 139 := methodIs_of (by kernel_rfl)
def rdL (e : Int) : List SV := [.ifc 64 (.ptr 0 0), .i .i64 e]
def rdS (b : List UInt8) (at_ : Nat) (e : Int) : SS := ⟨[], [(0, 66, fixL b at_), (1, 72, rdL e)], [], [], 2, 2, []⟩
theorem takeP_len (fits : UInt8 → Bool) : ∀ (n : Nat) (l : List UInt8), (takeP fits n l).s.length ≤ n ∧ (takeP fits n l).s.length ≤ l.length
  | 0, l => by simp [takeP]
  | n + 1, [] => by simp [takeP]
  | n + 1, c :: r => by
    have := takeP_len fits n r
    simp only [takeP]
    split <;> simp <;> omega
def isTake (fits : UInt8 → Bool) (most : Nat) (b : List UInt8) (at_ : Nat) (e : Int) (sv : SV) (post : SS) : Prop :=
  sv = .s (bs (takeP fits most (b.drop at_)).s) ∧ post = rdS b (at_ + (takeP fits most (b.drop at_)).s.length) (if most = 0 then e else endE (takeP fits most (b.drop at_)).ended)
theorem takeA_c (fits : UInt8 → Bool) (g : FuncId) (hg : ∀ c : UInt8, Contract Tryz.prog g nilSS [.i .u8 (c.toNat : Int)] (fun sv post => sv = .b (fits c) ∧ post = nilSS)) (most : Nat) (hm : most ≤ 100000) (b : List UInt8) (at_ : Nat) (e : Int) (hb : b.length ≤ 140737488355328) (hat : at_ ≤ b.length) :
    Contract Tryz.prog 50 (rdS b at_ e) [.ptr 1 0, .i .i64 most, .fn (.func g) [] []] (isTake fits most b at_ e) := by
  refine contract_ev Γok Tryz.func50 rfl rfl [] ?_
  simp (maxSteps := 4000000) only [push_cast, Int.reduceEq, Int.reduceBNe, Int.reduceBEq, Int.reduceAdd, Int.reduceSub, Int.reduceMul, Int.reduceNeg, Int.reduceLT, Int.reduceLE, Int.reduceToNat, Nat.reduceLT, Nat.reduceAdd, Nat.reduceSub, Nat.reduceMul, Nat.reduceEqDiff, Nat.reduceLeDiff, Nat.reduceBEq, reduceIte, reduceCtorEq, Tryz.f50, rdS, rdL, fixL]
  refine loop_ok (ι := {q : List UInt8 × Nat × List UInt8 // (takeP fits most (b.drop at_)).s = q.1 ++ (takeP fits q.2.1 q.2.2).s ∧ (takeP fits most (b.drop at_)).ended = (takeP fits q.2.1 q.2.2).ended ∧ q.1.length + q.2.1 = most ∧ b.drop (at_ + q.1.length) = q.2.2 ∧ at_ + q.1.length ≤ b.length})
    (fun q => ⟨[.ptr 1 0, .i .i64 most, .fn (.func g) [] [], .any, .any, .any, .any, .ints .u8 (.tok 2 true) (ofU q.1.1)] ++ List.replicate 36 .any, [(0, 66, fixL b (at_ + q.1.1.length)), (1, 72, rdL (if q.1.1 = [] then e else 0))], [2], [], 3, 2, []⟩) (fun q => q.1.2.1) ⟨([], most, b.drop at_), by simp, rfl, by simp, by simp, by simpa using hat⟩ ?_ ?_
  · refine Sub.trans (Sub.tokFr 7 rfl) (Sub.w [0, 1, 2] ?_)
    simp (maxSteps := 4000000) only [push_cast, Int.reduceEq, Int.reduceBNe, Int.reduceBEq, Int.reduceAdd, Int.reduceSub, Int.reduceMul, Int.reduceNeg, Int.reduceLT, Int.reduceLE, Int.reduceToNat, Nat.reduceLT, Nat.reduceAdd, Nat.reduceSub, Nat.reduceMul, Nat.reduceEqDiff, Nat.reduceLeDiff, Nat.reduceBEq, reduceIte, reduceCtorEq, fixL, rdL]
    rfl
  rintro ⟨⟨out, k, r⟩, h1, h2, h3, h4, h5⟩
  simp only at h1 h2 h3 h4 h5
  refine evCode_sound Γok _ _ _ ?_
  simp (maxSteps := 4000000) only [push_cast, Int.reduceEq, Int.reduceBNe, Int.reduceBEq, Int.reduceAdd, Int.reduceSub, Int.reduceMul, Int.reduceNeg, Int.reduceLT, Int.reduceLE, Int.reduceToNat, Nat.reduceLT, Nat.reduceAdd, Nat.reduceSub, Nat.reduceMul, Nat.reduceEqDiff, Nat.reduceLeDiff, Nat.reduceBEq, reduceIte, reduceCtorEq, ofU_len, rdL, fixL]
  have fin : ∀ (x : Int), (takeP fits most (b.drop at_)).s = out → x = (if most = 0 then e else endE (takeP fits most (b.drop at_)).ended) → isTake fits most b at_ e (.s (bs out)) (rdS b (at_ + out.length) x) := by
    rintro x hs rfl
    unfold isTake
    rw [hs]
    exact ⟨rfl, rfl⟩
  refine ⟨fun h => ?_, fun h => ?_⟩
  · obtain ⟨k, rfl⟩ : ∃ k', k = k' + 1 := ⟨k - 1, by omega⟩
    refine inv_of nextM (ent_w (next_c b (at_ + out.length) hb h5) [0] (by simp (maxSteps := 4000000) only [push_cast, Int.reduceEq, Int.reduceBNe, Int.reduceBEq, Int.reduceAdd, Int.reduceSub, Int.reduceMul, Int.reduceNeg, Int.reduceLT, Int.reduceLE, Int.reduceToNat, Nat.reduceLT, Nat.reduceAdd, Nat.reduceSub, Nat.reduceMul, Nat.reduceEqDiff, Nat.reduceLeDiff, Nat.reduceBEq, reduceIte, reduceCtorEq, fixS, fixL]) ?_)
    intro sv post hN
    unfold isNext at hN
    rw [h4] at hN
    cases r with
    | nil =>
      obtain ⟨rfl, rfl⟩ := hN
      simp (maxSteps := 4000000) only [push_cast, Int.reduceEq, Int.reduceBNe, Int.reduceBEq, Int.reduceAdd, Int.reduceSub, Int.reduceMul, Int.reduceNeg, Int.reduceLT, Int.reduceLE, Int.reduceToNat, Nat.reduceLT, Nat.reduceAdd, Nat.reduceSub, Nat.reduceMul, Nat.reduceEqDiff, Nat.reduceLeDiff, Nat.reduceBEq, reduceIte, reduceCtorEq, fixS, fixL, ofU_len]
      rw [bs_str]
      exact Fin.w [0, 1] _ (rdS b (at_ + out.length) 111) (by simp (maxSteps := 4000000) only [push_cast, Int.reduceEq, Int.reduceBNe, Int.reduceBEq, Int.reduceAdd, Int.reduceSub, Int.reduceMul, Int.reduceNeg, Int.reduceLT, Int.reduceLE, Int.reduceToNat, Nat.reduceLT, Nat.reduceAdd, Nat.reduceSub, Nat.reduceMul, Nat.reduceEqDiff, Nat.reduceLeDiff, Nat.reduceBEq, reduceIte, reduceCtorEq, rdS, rdL, fixL]) (fin 111 (by rw [h1]; simp [takeP]) (by rw [if_neg (by omega), h2]; rfl))
    | cons c r =>
      obtain ⟨rfl, rfl⟩ := hN
      simp (maxSteps := 4000000) only [push_cast, Int.reduceEq, Int.reduceBNe, Int.reduceBEq, Int.reduceAdd, Int.reduceSub, Int.reduceMul, Int.reduceNeg, Int.reduceLT, Int.reduceLE, Int.reduceToNat, Nat.reduceLT, Nat.reduceAdd, Nat.reduceSub, Nat.reduceMul, Nat.reduceEqDiff, Nat.reduceLeDiff, Nat.reduceBEq, reduceIte, reduceCtorEq, fixS, fixL, ofU_len]
      refine call_w (hg c) [] (by simp (maxSteps := 4000000) only [push_cast, Int.reduceEq, Int.reduceBNe, Int.reduceBEq, Int.reduceAdd, Int.reduceSub, Int.reduceMul, Int.reduceNeg, Int.reduceLT, Int.reduceLE, Int.reduceToNat, Nat.reduceLT, Nat.reduceAdd, Nat.reduceSub, Nat.reduceMul, Nat.reduceEqDiff, Nat.reduceLeDiff, Nat.reduceBEq, reduceIte, reduceCtorEq]) ?_
      rintro sv post ⟨rfl, rfl⟩
      simp (maxSteps := 4000000) only [push_cast, Int.reduceEq, Int.reduceBNe, Int.reduceBEq, Int.reduceAdd, Int.reduceSub, Int.reduceMul, Int.reduceNeg, Int.reduceLT, Int.reduceLE, Int.reduceToNat, Nat.reduceLT, Nat.reduceAdd, Nat.reduceSub, Nat.reduceMul, Nat.reduceEqDiff, Nat.reduceLeDiff, Nat.reduceBEq, reduceIte, reduceCtorEq]
      refine ⟨fun hf => ?_, fun hf => ?_⟩
      · have ht : takeP fits (k + 1) (c :: r) = ⟨[], c :: r, false⟩ := by simp only [takeP]; rw [if_neg (by rw [hf]; simp)]
        rw [ht] at h1 h2
        refine inv_of backM (ent_w (back_c b (at_ + out.length + 1) c.toNat (by omega) (by have := congrArg List.length h4; simp at this; omega)) [0] (by simp (maxSteps := 4000000) only [push_cast, Int.reduceEq, Int.reduceBNe, Int.reduceBEq, Int.reduceAdd, Int.reduceSub, Int.reduceMul, Int.reduceNeg, Int.reduceLT, Int.reduceLE, Int.reduceToNat, Nat.reduceLT, Nat.reduceAdd, Nat.reduceSub, Nat.reduceMul, Nat.reduceEqDiff, Nat.reduceLeDiff, Nat.reduceBEq, reduceIte, reduceCtorEq, fixS, fixL]) ?_)
        rintro sv post ⟨rfl, rfl⟩
        simp (maxSteps := 4000000) only [push_cast, Int.reduceEq, Int.reduceBNe, Int.reduceBEq, Int.reduceAdd, Int.reduceSub, Int.reduceMul, Int.reduceNeg, Int.reduceLT, Int.reduceLE, Int.reduceToNat, Nat.reduceLT, Nat.reduceAdd, Nat.reduceSub, Nat.reduceMul, Nat.reduceEqDiff, Nat.reduceLeDiff, Nat.reduceBEq, reduceIte, reduceCtorEq, fixS, fixL, Nat.add_sub_cancel]
        rw [bs_str]
        exact Fin.w [0, 1] _ (rdS b (at_ + out.length) 0) (by simp (maxSteps := 4000000) only [push_cast, Int.reduceEq, Int.reduceBNe, Int.reduceBEq, Int.reduceAdd, Int.reduceSub, Int.reduceMul, Int.reduceNeg, Int.reduceLT, Int.reduceLE, Int.reduceToNat, Nat.reduceLT, Nat.reduceAdd, Nat.reduceSub, Nat.reduceMul, Nat.reduceEqDiff, Nat.reduceLeDiff, Nat.reduceBEq, reduceIte, reduceCtorEq, rdS, rdL, fixL]) (fin 0 (by rw [h1]; simp) (by rw [if_neg (by omega), h2]; rfl))
      · have ht : takeP fits (k + 1) (c :: r) = ⟨c :: (takeP fits k r).s, (takeP fits k r).rest, (takeP fits k r).ended⟩ := by simp only [takeP]; rw [if_pos hf]
        rw [ht] at h1 h2
        have hlt : at_ + out.length < b.length := by
          have := congrArg List.length h4
          rw [List.length_drop, List.length_cons] at this
          omega
        refine ⟨by rw [ofU_len]; omega, ⟨(out ++ [c], k, r), by rw [h1, List.append_assoc]; rfl, h2, by simp only [List.length_append, List.length_cons, List.length_nil]; omega, by simp only [List.length_append, List.length_cons, List.length_nil]; rw [← Nat.add_assoc, ← List.drop_drop, h4]; rfl, by simp only [List.length_append, List.length_cons, List.length_nil]; omega⟩, by simp only; omega, Sub.w [0, 1, 4] ?_⟩
        simp (maxSteps := 4000000) only [push_cast, Int.reduceEq, Int.reduceBNe, Int.reduceBEq, Int.reduceAdd, Int.reduceSub, Int.reduceMul, Int.reduceNeg, Int.reduceLT, Int.reduceLE, Int.reduceToNat, Nat.reduceLT, Nat.reduceAdd, Nat.reduceSub, Nat.reduceMul, Nat.reduceEqDiff, Nat.reduceLeDiff, Nat.reduceBEq, reduceIte, reduceCtorEq, ofU_app, List.length_append]
        exact ⟨rfl, by omega, if_neg (by simp)⟩
  · obtain rfl : k = 0 := by omega
    rw [bs_str]
    refine Fin.w [0, 1] _ (rdS b (at_ + out.length) (if out = [] then e else 0)) (by simp (maxSteps := 4000000) only [push_cast, Int.reduceEq, Int.reduceBNe, Int.reduceBEq, Int.reduceAdd, Int.reduceSub, Int.reduceMul, Int.reduceNeg, Int.reduceLT, Int.reduceLE, Int.reduceToNat, Nat.reduceLT, Nat.reduceAdd, Nat.reduceSub, Nat.reduceMul, Nat.reduceEqDiff, Nat.reduceLeDiff, Nat.reduceBEq, reduceIte, reduceCtorEq, rdS, rdL, fixL]) (fin _ (by rw [h1]; simp [takeP]) ?_)
    rw [h2]
    by_cases hm0 : most = 0
    · rw [if_pos hm0, if_pos (List.eq_nil_of_length_eq_zero (by omega))]
    · rw [if_neg hm0, if_neg (by rintro rfl; simp at h3; omega)]
      rfl
end Go.Proofs.YtmciepkhpocafaaGreat
/- Scan: the reader's small methods. -/
namespace Go.Proofs.YtmciepkhpocafaaGreat
open Go Go.Eng
set_option maxHeartbeats 4000000
set_option linter.unusedSimpArgs false
set_option linter.unusedVariables false
set_option maxRecDepth 100000

theorem lacks_c (b : List UInt8) (at_ : Nat) (e : Int) : Contract Tryz.prog 52 (rdS b at_ e) [.ptr 1 0] (fun sv post => sv = .i .i64 (if e = 0 then 181 else e) ∧ post = rdS b at_ e) := by
  refine contract_ev Γok Tryz.func52 rfl rfl [] ?_
  simp (maxSteps := 4000000) only [push_cast, Int.reduceEq, Int.reduceBNe, Int.reduceBEq, Int.reduceAdd, Int.reduceSub, Int.reduceMul, Int.reduceNeg, Int.reduceLT, Int.reduceLE, Int.reduceToNat, Nat.reduceLT, Nat.reduceAdd, Nat.reduceSub, Nat.reduceMul, Nat.reduceEqDiff, Nat.reduceLeDiff, Nat.reduceBEq, reduceIte, reduceCtorEq, Tryz.f52, rdS, rdL, fixL]
  refine ⟨fun h => ?_, fun h => ?_⟩
  · exact Fin.w [0, 1] (.i .i64 e) (rdS b at_ e) (by simp (maxSteps := 4000000) only [push_cast, Int.reduceEq, Int.reduceBNe, Int.reduceBEq, Int.reduceAdd, Int.reduceSub, Int.reduceMul, Int.reduceNeg, Int.reduceLT, Int.reduceLE, Int.reduceToNat, Nat.reduceLT, Nat.reduceAdd, Nat.reduceSub, Nat.reduceMul, Nat.reduceEqDiff, Nat.reduceLeDiff, Nat.reduceBEq, reduceIte, reduceCtorEq, rdS, rdL, fixL]) ⟨by rw [if_neg h], rfl⟩
  · subst h
    exact Fin.w [0, 1] (.i .i64 181) (rdS b at_ 0) (by simp (maxSteps := 4000000) only [push_cast, Int.reduceEq, Int.reduceBNe, Int.reduceBEq, Int.reduceAdd, Int.reduceSub, Int.reduceMul, Int.reduceNeg, Int.reduceLT, Int.reduceLE, Int.reduceToNat, Nat.reduceLT, Nat.reduceAdd, Nat.reduceSub, Nat.reduceMul, Nat.reduceEqDiff, Nat.reduceLeDiff, Nat.reduceBEq, reduceIte, reduceCtorEq, rdS, rdL, fixL]) ⟨rfl, rfl⟩
theorem soft_c (b : List UInt8) (at_ : Nat) (e : Int) : Contract Tryz.prog 54 (rdS b at_ e) [.ptr 1 0] (fun sv post => sv = .i .i64 (if e = 111 then 0 else e) ∧ post = rdS b at_ (if e = 111 then 0 else e)) := by
  refine contract_ev Γok Tryz.func54 rfl rfl [] ?_
  simp (maxSteps := 4000000) only [push_cast, Int.reduceEq, Int.reduceBNe, Int.reduceBEq, Int.reduceAdd, Int.reduceSub, Int.reduceMul, Int.reduceNeg, Int.reduceLT, Int.reduceLE, Int.reduceToNat, Nat.reduceLT, Nat.reduceAdd, Nat.reduceSub, Nat.reduceMul, Nat.reduceEqDiff, Nat.reduceLeDiff, Nat.reduceBEq, reduceIte, reduceCtorEq, Tryz.f54, rdS, rdL, fixL]
  refine ⟨fun h => ?_, fun h => ?_⟩
  · exact Fin.w [0, 1] (.i .i64 0) (rdS b at_ 0) (by simp (maxSteps := 4000000) only [push_cast, Int.reduceEq, Int.reduceBNe, Int.reduceBEq, Int.reduceAdd, Int.reduceSub, Int.reduceMul, Int.reduceNeg, Int.reduceLT, Int.reduceLE, Int.reduceToNat, Nat.reduceLT, Nat.reduceAdd, Nat.reduceSub, Nat.reduceMul, Nat.reduceEqDiff, Nat.reduceLeDiff, Nat.reduceBEq, reduceIte, reduceCtorEq, rdS, rdL, fixL]) ⟨by rw [if_pos h], by rw [if_pos h]; rfl⟩
  · exact Fin.w [0, 1] (.i .i64 e) (rdS b at_ e) (by simp (maxSteps := 4000000) only [push_cast, Int.reduceEq, Int.reduceBNe, Int.reduceBEq, Int.reduceAdd, Int.reduceSub, Int.reduceMul, Int.reduceNeg, Int.reduceLT, Int.reduceLE, Int.reduceToNat, Nat.reduceLT, Nat.reduceAdd, Nat.reduceSub, Nat.reduceMul, Nat.reduceEqDiff, Nat.reduceLeDiff, Nat.reduceBEq, reduceIte, reduceCtorEq, rdS, rdL, fixL]) ⟨by rw [if_neg h], by rw [if_neg h]; rfl⟩

/-- Blanks: how many there are; whether the text came to its end. -/
def skipP : List UInt8 → Nat
  | [] => 0
  | c :: r => if isBlank c then skipP r + 1 else 0
theorem skipP_le : ∀ l : List UInt8, skipP l ≤ l.length
  | [] => Nat.le_refl _
  | c :: r => by
    have := skipP_le r
    simp only [skipP, List.length_cons]
    split <;> omega
def isBlanks (b : List UInt8) (at_ : Nat) (sv : SV) (post : SS) : Prop :=
  sv = .tup [] ∧ post = rdS b (at_ + skipP (b.drop at_)) (endE (decide (skipP (b.drop at_) = (b.drop at_).length)))
theorem blanks_c (b : List UInt8) (at_ : Nat) (e : Int) (hb : b.length ≤ 140737488355328) (hat : at_ ≤ b.length) : Contract Tryz.prog 53 (rdS b at_ e) [.ptr 1 0] (isBlanks b at_) := by
  refine contract_ev Γok Tryz.func53 rfl rfl [] ?_
  simp (maxSteps := 4000000) only [push_cast, Int.reduceEq, Int.reduceBNe, Int.reduceBEq, Int.reduceAdd, Int.reduceSub, Int.reduceMul, Int.reduceNeg, Int.reduceLT, Int.reduceLE, Int.reduceToNat, Nat.reduceLT, Nat.reduceAdd, Nat.reduceSub, Nat.reduceMul, Nat.reduceEqDiff, Nat.reduceLeDiff, Nat.reduceBEq, reduceIte, reduceCtorEq, Tryz.f53, rdS, rdL, fixL]
  refine loop_ok (ι := {q : Nat × List UInt8 // skipP (b.drop at_) = q.1 + skipP q.2 ∧ b.drop (at_ + q.1) = q.2 ∧ at_ + q.1 ≤ b.length})
    (fun q => ⟨[.ptr 1 0] ++ List.replicate 12 .any, [(0, 66, fixL b (at_ + q.1.1)), (1, 72, rdL 0)], [], [], 2, 2, []⟩) (fun q => q.1.2.length) ⟨(0, b.drop at_), by simp, by simp, by simpa using hat⟩ ?_ ?_
  · refine Sub.w [0, 1] ?_
    simp (maxSteps := 4000000) only [push_cast, Int.reduceEq, Int.reduceBNe, Int.reduceBEq, Int.reduceAdd, Int.reduceSub, Int.reduceMul, Int.reduceNeg, Int.reduceLT, Int.reduceLE, Int.reduceToNat, Nat.reduceLT, Nat.reduceAdd, Nat.reduceSub, Nat.reduceMul, Nat.reduceEqDiff, Nat.reduceLeDiff, Nat.reduceBEq, reduceIte, reduceCtorEq, fixL, rdL]
  rintro ⟨⟨n, r⟩, h1, h2, h3⟩
  simp only at h1 h2 h3
  refine evCode_sound Γok _ _ _ ?_
  simp (maxSteps := 4000000) only [push_cast, Int.reduceEq, Int.reduceBNe, Int.reduceBEq, Int.reduceAdd, Int.reduceSub, Int.reduceMul, Int.reduceNeg, Int.reduceLT, Int.reduceLE, Int.reduceToNat, Nat.reduceLT, Nat.reduceAdd, Nat.reduceSub, Nat.reduceMul, Nat.reduceEqDiff, Nat.reduceLeDiff, Nat.reduceBEq, reduceIte, reduceCtorEq, rdL, fixL]
  refine call_w (takeA_c isBlank 57 blank_c 1 (by omega) b (at_ + n) 0 hb h3) [0, 1] (by simp (maxSteps := 4000000) only [push_cast, Int.reduceEq, Int.reduceBNe, Int.reduceBEq, Int.reduceAdd, Int.reduceSub, Int.reduceMul, Int.reduceNeg, Int.reduceLT, Int.reduceLE, Int.reduceToNat, Nat.reduceLT, Nat.reduceAdd, Nat.reduceSub, Nat.reduceMul, Nat.reduceEqDiff, Nat.reduceLeDiff, Nat.reduceBEq, reduceIte, reduceCtorEq, rdS, rdL, fixL]) ?_
  rintro sv post ⟨rfl, rfl⟩
  rw [h2]
  have hlen : (b.drop at_).length = n + r.length := by
    have := congrArg List.length h2
    rw [List.length_drop] at this ⊢
    omega
  have fin : ∀ x : Int, skipP r = 0 → x = endE (decide (r.length = 0)) → isBlanks b at_ (.tup []) (rdS b (at_ + n) x) := by
    rintro x hs rfl
    unfold isBlanks
    rw [h1, hs, hlen]
    refine ⟨rfl, ?_⟩
    congr 2
    rw [decide_eq_decide]
    omega
  cases r with
  | nil =>
    have ht : takeP isBlank 1 [] = ⟨[], [], true⟩ := rfl
    rw [ht]
    simp (maxSteps := 4000000) only [push_cast, Int.reduceEq, Int.reduceBNe, Int.reduceBEq, Int.reduceAdd, Int.reduceSub, Int.reduceMul, Int.reduceNeg, Int.reduceLT, Int.reduceLE, Int.reduceToNat, Nat.reduceLT, Nat.reduceAdd, Nat.reduceSub, Nat.reduceMul, Nat.reduceEqDiff, Nat.reduceLeDiff, Nat.reduceBEq, reduceIte, reduceCtorEq, rdS, rdL, fixL, mk_bs]
    exact Fin.w [0, 1] (.tup []) (rdS b (at_ + n) 111) (by simp (maxSteps := 4000000) only [push_cast, Int.reduceEq, Int.reduceBNe, Int.reduceBEq, Int.reduceAdd, Int.reduceSub, Int.reduceMul, Int.reduceNeg, Int.reduceLT, Int.reduceLE, Int.reduceToNat, Nat.reduceLT, Nat.reduceAdd, Nat.reduceSub, Nat.reduceMul, Nat.reduceEqDiff, Nat.reduceLeDiff, Nat.reduceBEq, reduceIte, reduceCtorEq, rdS, rdL, fixL]; rfl) (fin 111 rfl rfl)
  | cons c r =>
    rcases hbk : isBlank c with _ | _
    · have ht : takeP isBlank 1 (c :: r) = ⟨[], c :: r, false⟩ := by simp only [takeP, hbk]; rfl
      rw [ht]
      simp (maxSteps := 4000000) only [push_cast, Int.reduceEq, Int.reduceBNe, Int.reduceBEq, Int.reduceAdd, Int.reduceSub, Int.reduceMul, Int.reduceNeg, Int.reduceLT, Int.reduceLE, Int.reduceToNat, Nat.reduceLT, Nat.reduceAdd, Nat.reduceSub, Nat.reduceMul, Nat.reduceEqDiff, Nat.reduceLeDiff, Nat.reduceBEq, reduceIte, reduceCtorEq, rdS, rdL, fixL, mk_bs]
      exact Fin.w [0, 1] (.tup []) (rdS b (at_ + n) 0) (by simp (maxSteps := 4000000) only [push_cast, Int.reduceEq, Int.reduceBNe, Int.reduceBEq, Int.reduceAdd, Int.reduceSub, Int.reduceMul, Int.reduceNeg, Int.reduceLT, Int.reduceLE, Int.reduceToNat, Nat.reduceLT, Nat.reduceAdd, Nat.reduceSub, Nat.reduceMul, Nat.reduceEqDiff, Nat.reduceLeDiff, Nat.reduceBEq, reduceIte, reduceCtorEq, rdS, rdL, fixL]; rfl) (fin 0 (by simp only [skipP, hbk]; rfl) rfl)
    · have ht : takeP isBlank 1 (c :: r) = ⟨[c], r, false⟩ := by simp only [takeP, hbk]; rfl
      rw [ht]
      have hlt : at_ + n < b.length := by
        rw [List.length_drop, List.length_cons] at hlen
        omega
      simp (maxSteps := 4000000) only [push_cast, Int.reduceEq, Int.reduceBNe, Int.reduceBEq, Int.reduceAdd, Int.reduceSub, Int.reduceMul, Int.reduceNeg, Int.reduceLT, Int.reduceLE, Int.reduceToNat, Nat.reduceLT, Nat.reduceAdd, Nat.reduceSub, Nat.reduceMul, Nat.reduceEqDiff, Nat.reduceLeDiff, Nat.reduceBEq, reduceIte, reduceCtorEq, rdS, rdL, fixL, mk_bs, bs_tl]
      refine ⟨⟨(n + 1, r), by rw [h1]; simp only [skipP, hbk, if_true]; omega, by rw [← Nat.add_assoc, ← List.drop_drop, h2]; rfl, by simp only; omega⟩, by simp only [List.length_cons]; omega, Sub.w [0, 1] ?_⟩
      simp (maxSteps := 4000000) only [push_cast, Int.reduceEq, Int.reduceBNe, Int.reduceBEq, Int.reduceAdd, Int.reduceSub, Int.reduceMul, Int.reduceNeg, Int.reduceLT, Int.reduceLE, Int.reduceToNat, Nat.reduceLT, Nat.reduceAdd, Nat.reduceSub, Nat.reduceMul, Nat.reduceEqDiff, Nat.reduceLeDiff, Nat.reduceBEq, reduceIte, reduceCtorEq, fixL, rdL]
      exact ⟨by omega, rfl⟩
end Go.Proofs.YtmciepkhpocafaaGreat
