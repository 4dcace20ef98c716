/- Texts joined, in order: Zp, Zq, Zr, Zs. -/
import Derived.Test.YtlgpcngfcglanaaGreatZPaPd
import Derived.Test.YtlgpcngfcglanaaGreatZZeZk
/- The kernel's file: written. -/
namespace Go.Proofs.YtlgpcngfcglanaaGreat
open Go Go.Eng
set_option maxHeartbeats 4000000
set_option linter.unusedSimpArgs false
set_option linter.unusedVariables false
set_option maxRecDepth 100000

def grownTo (data : List Int) (n : Nat) : List Int := data ++ List.replicate (n - data.length) 0
theorem fileGrow_c (p : Option Addr) (c : Nat) (data : List Int) (n : Nat) (hn : n ≤ 1048576) (hd : data.length ≤ 1048576) : Contract Tryz.prog 113 (fileS p c data) [.ptr 0 0, .i .i64 n] (fun sv post => ∃ p' c', sv = .tup [] ∧ post = fileS p' c' (grownTo data n)) := by
  refine contract_row 1 rfl fun hc hp => ?_
  refine contract_ev Γok Tryz.func113 rfl rfl [] ?_
  simp (maxSteps := 4000000) only [push_cast, Int.reduceEq, Int.reduceBNe, Int.reduceBEq, Int.reduceAdd, Int.reduceSub, Int.reduceMul, Int.reduceNeg, Int.reduceLT, Int.reduceLE, Int.reduceToNat, Nat.reduceLT, Nat.reduceAdd, Nat.reduceSub, Nat.reduceMul, Nat.reduceEqDiff, Nat.reduceLeDiff, Nat.reduceBEq, reduceIte, reduceCtorEq, Tryz.f113, fileS]
  refine ⟨fun h => ?_, fun h => ?_⟩
  · refine (region_plan rfl Γok mixed (.pure 0 (.pure 1 (.pure 2 (.pure 3 (.pure 4 (.pure 5 (.pure 6 (.pure 7 (.pure 8 (.pure 9 (.pure 10 (.pure 11 (.eff (.cons 12 [] (.pure 13 (.pure 14 (.eff (.cons 15 [] .done .nil)))) .nil)))))))))))))) 26 rfl (by kernel_rfl) ?_)
    simp (maxSteps := 4000000) only [push_cast, Int.reduceEq, Int.reduceBNe, Int.reduceBEq, Int.reduceAdd, Int.reduceSub, Int.reduceMul, Int.reduceNeg, Int.reduceLT, Int.reduceLE, Int.reduceToNat, Nat.reduceLT, Nat.reduceAdd, Nat.reduceSub, Nat.reduceMul, Nat.reduceEqDiff, Nat.reduceLeDiff, Nat.reduceBEq, reduceIte, reduceCtorEq]
    rw [wrap64 (n := (n : Int) - data.length) (by omega) (by omega)]
    refine ⟨1, .u8, data, .i64, .inl rfl, rfl, rfl, by omega, by omega, rfl, fun p' c' => ?_⟩
    simp (maxSteps := 4000000) only [push_cast, Int.reduceEq, Int.reduceBNe, Int.reduceBEq, Int.reduceAdd, Int.reduceSub, Int.reduceMul, Int.reduceNeg, Int.reduceLT, Int.reduceLE, Int.reduceToNat, Nat.reduceLT, Nat.reduceAdd, Nat.reduceSub, Nat.reduceMul, Nat.reduceEqDiff, Nat.reduceLeDiff, Nat.reduceBEq, reduceIte, reduceCtorEq]
    have hz : ((n : Int) - data.length).toNat = n - data.length := by omega
    have hl1 : data.length + (n - data.length) = (grownTo data n).length := by simp [grownTo]
    have hg : data ++ List.replicate (n - data.length) (0 : Int) = grownTo data n := rfl
    rw [hz, hg, hl1]
    exact Fin.w [0, 1] (.tup []) (fileS p' c' (grownTo data n)) (by simp (maxSteps := 4000000) only [push_cast, Int.reduceEq, Int.reduceBNe, Int.reduceBEq, Int.reduceAdd, Int.reduceSub, Int.reduceMul, Int.reduceNeg, Int.reduceLT, Int.reduceLE, Int.reduceToNat, Nat.reduceLT, Nat.reduceAdd, Nat.reduceSub, Nat.reduceMul, Nat.reduceEqDiff, Nat.reduceLeDiff, Nat.reduceBEq, reduceIte, reduceCtorEq, fileS]) ⟨p', c', rfl, rfl⟩
  · have : grownTo data n = data := by
      unfold grownTo
      rw [show n - data.length = 0 by omega]
      simp
    rw [this]
    exact Fin.w [0, 1] (.tup []) (fileS p c data) (by simp (maxSteps := 4000000) only [push_cast, Int.reduceEq, Int.reduceBNe, Int.reduceBEq, Int.reduceAdd, Int.reduceSub, Int.reduceMul, Int.reduceNeg, Int.reduceLT, Int.reduceLE, Int.reduceToNat, Nat.reduceLT, Nat.reduceAdd, Nat.reduceSub, Nat.reduceMul, Nat.reduceEqDiff, Nat.reduceLeDiff, Nat.reduceBEq, reduceIte, reduceCtorEq, fileS]) ⟨p, c, rfl, rfl⟩
theorem within1_c (a : Int) (h1 : 0 ≤ a) (h2 : a ≤ 1048576) : Contract Tryz.prog 112 nilSS [.ints .i64 .old [a]] (fun sv post => sv = .b true ∧ post = nilSS) := by
  have n0 : ((0 : Nat) : Int) = 0 := rfl
  have n1 : ((1 : Nat) : Int) = 1 := rfl
  have w1 : IntKind.i64.wrap 1 = 1 := rfl
  have g0 : [a].getD 0 0 = a := rfl
  refine contract_ev Γok Tryz.func112 rfl rfl [] ?_
  simp (maxSteps := 4000000) only [push_cast, Int.reduceEq, Int.reduceBNe, Int.reduceBEq, Int.reduceAdd, Int.reduceSub, Int.reduceMul, Int.reduceNeg, Int.reduceLT, Int.reduceLE, Int.reduceToNat, Nat.reduceLT, Nat.reduceAdd, Nat.reduceSub, Nat.reduceMul, Nat.reduceEqDiff, Nat.reduceLeDiff, Nat.reduceBEq, reduceIte, reduceCtorEq, Tryz.f112, n0, n1]
  refine loop_unroll 2 ?_
  simp (maxSteps := 4000000) only [push_cast, Int.reduceEq, Int.reduceBNe, Int.reduceBEq, Int.reduceAdd, Int.reduceSub, Int.reduceMul, Int.reduceNeg, Int.reduceLT, Int.reduceLE, Int.reduceToNat, Nat.reduceLT, Nat.reduceAdd, Nat.reduceSub, Nat.reduceMul, Nat.reduceEqDiff, Nat.reduceLeDiff, Nat.reduceBEq, reduceIte, reduceCtorEq, n0, n1]
  refine evCode_sound Γok _ _ _ ?_
  simp (maxSteps := 4000000) only [push_cast, Int.reduceEq, Int.reduceBNe, Int.reduceBEq, Int.reduceAdd, Int.reduceSub, Int.reduceMul, Int.reduceNeg, Int.reduceLT, Int.reduceLE, Int.reduceToNat, Nat.reduceLT, Nat.reduceAdd, Nat.reduceSub, Nat.reduceMul, Nat.reduceEqDiff, Nat.reduceLeDiff, Nat.reduceBEq, reduceIte, reduceCtorEq, n0, n1, w1, g0]
  refine ⟨fun h => by omega, fun _ => ?_⟩
  refine evCode_sound Γok _ _ _ ?_
  simp (maxSteps := 4000000) only [push_cast, Int.reduceEq, Int.reduceBNe, Int.reduceBEq, Int.reduceAdd, Int.reduceSub, Int.reduceMul, Int.reduceNeg, Int.reduceLT, Int.reduceLE, Int.reduceToNat, Nat.reduceLT, Nat.reduceAdd, Nat.reduceSub, Nat.reduceMul, Nat.reduceEqDiff, Nat.reduceLeDiff, Nat.reduceBEq, reduceIte, reduceCtorEq, n0, n1, w1, g0]
  exact Fin.nil rfl (psv := .b true) (by simp (maxSteps := 4000000) only [push_cast, Int.reduceEq, Int.reduceBNe, Int.reduceBEq, Int.reduceAdd, Int.reduceSub, Int.reduceMul, Int.reduceNeg, Int.reduceLT, Int.reduceLE, Int.reduceToNat, Nat.reduceLT, Nat.reduceAdd, Nat.reduceSub, Nat.reduceMul, Nat.reduceEqDiff, Nat.reduceLeDiff, Nat.reduceBEq, reduceIte, reduceCtorEq]) ⟨rfl, rfl⟩
theorem fileWrite_c (p : Option Addr) (c : Nat) (data : List Int) (at_ : Nat) (b : List Int) (hd : data.length ≤ 1048576) (hb : at_ + b.length ≤ 1048576) (hne : b ≠ []) : Contract Tryz.prog 220 (fileS p c data) [.ptr 0 0, .i .i64 at_, .ints .u8 .old b] (fun sv post => ∃ p' c', sv = .i .i64 0 ∧ post = fileS p' c' (wrote data at_ b)) := by
  have hpos := List.length_pos_iff.2 hne
  refine contract_ev Γok Tryz.func220 rfl rfl [10] ?_
  simp (maxSteps := 4000000) only [push_cast, Int.reduceEq, Int.reduceBNe, Int.reduceBEq, Int.reduceAdd, Int.reduceSub, Int.reduceMul, Int.reduceNeg, Int.reduceLT, Int.reduceLE, Int.reduceToNat, Nat.reduceLT, Nat.reduceAdd, Nat.reduceSub, Nat.reduceMul, Nat.reduceEqDiff, Nat.reduceLeDiff, Nat.reduceBEq, reduceIte, reduceCtorEq, Tryz.f220, fileS]
  refine call_w (within1_c at_ (by omega) (by omega)) [] (by simp (maxSteps := 4000000) only [push_cast, Int.reduceEq, Int.reduceBNe, Int.reduceBEq, Int.reduceAdd, Int.reduceSub, Int.reduceMul, Int.reduceNeg, Int.reduceLT, Int.reduceLE, Int.reduceToNat, Nat.reduceLT, Nat.reduceAdd, Nat.reduceSub, Nat.reduceMul, Nat.reduceEqDiff, Nat.reduceLeDiff, Nat.reduceBEq, reduceIte, reduceCtorEq]) ?_
  rintro sv post ⟨rfl, rfl⟩
  simp (maxSteps := 4000000) only [push_cast, Int.reduceEq, Int.reduceBNe, Int.reduceBEq, Int.reduceAdd, Int.reduceSub, Int.reduceMul, Int.reduceNeg, Int.reduceLT, Int.reduceLE, Int.reduceToNat, Nat.reduceLT, Nat.reduceAdd, Nat.reduceSub, Nat.reduceMul, Nat.reduceEqDiff, Nat.reduceLeDiff, Nat.reduceBEq, reduceIte, reduceCtorEq]
  rw [wrap64 (n := 1048576 - (at_ : Int)) (by omega) (by omega), wrap64 (n := (at_ : Int) + b.length) (by omega) (by omega)]
  refine ⟨fun h => by omega, fun h => ⟨fun h => by omega, fun h => ?_⟩⟩
  rw [show (at_ : Int) + b.length = ((at_ + b.length : Nat) : Int) by omega]
  refine call_w (fileGrow_c p c data (at_ + b.length) hb hd) [0, 1] (by simp (maxSteps := 4000000) only [push_cast, Int.reduceEq, Int.reduceBNe, Int.reduceBEq, Int.reduceAdd, Int.reduceSub, Int.reduceMul, Int.reduceNeg, Int.reduceLT, Int.reduceLE, Int.reduceToNat, Nat.reduceLT, Nat.reduceAdd, Nat.reduceSub, Nat.reduceMul, Nat.reduceEqDiff, Nat.reduceLeDiff, Nat.reduceBEq, reduceIte, reduceCtorEq, fileS]) ?_
  rintro sv post ⟨p', c', rfl, rfl⟩
  have hl2 : at_ + b.length ≤ (grownTo data (at_ + b.length)).length := by unfold grownTo; simp; omega
  have hw : wrote data at_ b = (grownTo data (at_ + b.length)).take at_ ++ b ++ (grownTo data (at_ + b.length)).drop (at_ + b.length) := by
    unfold wrote grownTo
    congr 1
    rw [List.drop_append]
    by_cases hc : at_ + b.length ≤ data.length
    · rw [show at_ + b.length - data.length = 0 by omega]
      simp
    · rw [List.drop_of_length_le (by omega)]
      simp
  rw [hw]
  generalize grownTo data (at_ + b.length) = d1 at hl2 ⊢
  simp (maxSteps := 4000000) only [push_cast, Int.reduceEq, Int.reduceBNe, Int.reduceBEq, Int.reduceAdd, Int.reduceSub, Int.reduceMul, Int.reduceNeg, Int.reduceLT, Int.reduceLE, Int.reduceToNat, Nat.reduceLT, Nat.reduceAdd, Nat.reduceSub, Nat.reduceMul, Nat.reduceEqDiff, Nat.reduceLeDiff, Nat.reduceBEq, reduceIte, reduceCtorEq, fileS]
  refine code_row 1 rfl fun hc' hp' => ?_
  refine region_run Γok ?_
  simp (maxSteps := 4000000) only [push_cast, Int.reduceEq, Int.reduceBNe, Int.reduceBEq, Int.reduceAdd, Int.reduceSub, Int.reduceMul, Int.reduceNeg, Int.reduceLT, Int.reduceLE, Int.reduceToNat, Nat.reduceLT, Nat.reduceAdd, Nat.reduceSub, Nat.reduceMul, Nat.reduceEqDiff, Nat.reduceLeDiff, Nat.reduceBEq, reduceIte, reduceCtorEq]
  refine ⟨⟨⟨by omega, by omega⟩, hc'⟩, 1, .u8, p', c', d1, at_, b, _, .r, .inl rfl, (shows_cut (by omega) hc').within hc', rfl, rfl, ?_⟩
  have ht : b.take (d1.length - at_) = b := List.take_of_length_le (by omega)
  simp (maxSteps := 4000000) only [push_cast, Int.reduceEq, Int.reduceBNe, Int.reduceBEq, Int.reduceAdd, Int.reduceSub, Int.reduceMul, Int.reduceNeg, Int.reduceLT, Int.reduceLE, Int.reduceToNat, Nat.reduceLT, Nat.reduceAdd, Nat.reduceSub, Nat.reduceMul, Nat.reduceEqDiff, Nat.reduceLeDiff, Nat.reduceBEq, reduceIte, reduceCtorEq, Int.toNat_natCast]
  rw [ht]
  refine Fin.w [0, 1] (.i .i64 0) (fileS p' c' (d1.take at_ ++ b ++ d1.drop (at_ + b.length))) ?_ ⟨p', c', rfl, rfl⟩
  simp (maxSteps := 4000000) only [push_cast, Int.reduceEq, Int.reduceBNe, Int.reduceBEq, Int.reduceAdd, Int.reduceSub, Int.reduceMul, Int.reduceNeg, Int.reduceLT, Int.reduceLE, Int.reduceToNat, Nat.reduceLT, Nat.reduceAdd, Nat.reduceSub, Nat.reduceMul, Nat.reduceEqDiff, Nat.reduceLeDiff, Nat.reduceBEq, reduceIte, reduceCtorEq, fileS]
  simp
  omega
end Go.Proofs.YtlgpcngfcglanaaGreat
/- The kernel's Write. -/
namespace Go.Proofs.YtlgpcngfcglanaaGreat
open Go Go.Eng
set_option maxHeartbeats 4000000
set_option linter.unusedSimpArgs false
set_option linter.unusedVariables false
set_option maxRecDepth 100000

theorem nilOKW_of {P : Program} {t : TypeId} {name : String} {f : FuncId} (hm : methodWB P t name f = true) (y : Value) : NilOK P name (.ifc t (.raw y)) := by
  intro E v hv
  simp only [Den] at hv
  obtain ⟨y', rfl, rfl⟩ := hv
  exact ⟨t, _, rfl, fun w => (methodW_of hm _ w).2⟩
/-- Where a write goes. -/
def kPlace (flags : Int) (data : List Int) (at_ : Int) : Int := if flags = 7 then data.length else at_
theorem diskPlace_c (p : Option Addr) (c : Nat) (data : List Int) (flags at_ : Int) (hf : flags = 3 ∨ flags = 7) : Contract Tryz.prog 219 (diskS p c data flags at_) [.agg [.ptr 1 0], .ptr 0 0] (fun sv post => sv = .i .i64 (kPlace flags data at_) ∧ post = diskS p c data flags at_) := by
  have a3 : andI .i64 3 4 = 0 := by decide
  have a7 : andI .i64 7 4 = 4 := by decide
  refine contract_ev Γok Tryz.func219 rfl rfl [] ?_
  rcases hf with rfl | rfl
  · simp (maxSteps := 4000000) only [push_cast, Int.reduceEq, Int.reduceBNe, Int.reduceBEq, Int.reduceAdd, Int.reduceSub, Int.reduceMul, Int.reduceNeg, Int.reduceLT, Int.reduceLE, Int.reduceToNat, Nat.reduceLT, Nat.reduceAdd, Nat.reduceSub, Nat.reduceMul, Nat.reduceEqDiff, Nat.reduceLeDiff, Nat.reduceBEq, reduceIte, reduceCtorEq, Tryz.f219, diskS, a3]
    exact Fin.w [0, 1, 2] (.i .i64 at_) (diskS p c data 3 at_) (by simp (maxSteps := 4000000) only [push_cast, Int.reduceEq, Int.reduceBNe, Int.reduceBEq, Int.reduceAdd, Int.reduceSub, Int.reduceMul, Int.reduceNeg, Int.reduceLT, Int.reduceLE, Int.reduceToNat, Nat.reduceLT, Nat.reduceAdd, Nat.reduceSub, Nat.reduceMul, Nat.reduceEqDiff, Nat.reduceLeDiff, Nat.reduceBEq, reduceIte, reduceCtorEq, diskS]) ⟨rfl, rfl⟩
  · simp (maxSteps := 4000000) only [push_cast, Int.reduceEq, Int.reduceBNe, Int.reduceBEq, Int.reduceAdd, Int.reduceSub, Int.reduceMul, Int.reduceNeg, Int.reduceLT, Int.reduceLE, Int.reduceToNat, Nat.reduceLT, Nat.reduceAdd, Nat.reduceSub, Nat.reduceMul, Nat.reduceEqDiff, Nat.reduceLeDiff, Nat.reduceBEq, reduceIte, reduceCtorEq, Tryz.f219, diskS, a7]
    refine call_w (fileSize_c p c data) [1, 2] (by simp (maxSteps := 4000000) only [push_cast, Int.reduceEq, Int.reduceBNe, Int.reduceBEq, Int.reduceAdd, Int.reduceSub, Int.reduceMul, Int.reduceNeg, Int.reduceLT, Int.reduceLE, Int.reduceToNat, Nat.reduceLT, Nat.reduceAdd, Nat.reduceSub, Nat.reduceMul, Nat.reduceEqDiff, Nat.reduceLeDiff, Nat.reduceBEq, reduceIte, reduceCtorEq, fileS]) ?_
    rintro sv post ⟨rfl, rfl⟩
    simp (maxSteps := 4000000) only [push_cast, Int.reduceEq, Int.reduceBNe, Int.reduceBEq, Int.reduceAdd, Int.reduceSub, Int.reduceMul, Int.reduceNeg, Int.reduceLT, Int.reduceLE, Int.reduceToNat, Nat.reduceLT, Nat.reduceAdd, Nat.reduceSub, Nat.reduceMul, Nat.reduceEqDiff, Nat.reduceLeDiff, Nat.reduceBEq, reduceIte, reduceCtorEq, fileS]
    exact Fin.w [0, 1, 2] (.i .i64 data.length) (diskS p c data 7 at_) (by simp (maxSteps := 4000000) only [push_cast, Int.reduceEq, Int.reduceBNe, Int.reduceBEq, Int.reduceAdd, Int.reduceSub, Int.reduceMul, Int.reduceNeg, Int.reduceLT, Int.reduceLE, Int.reduceToNat, Nat.reduceLT, Nat.reduceAdd, Nat.reduceSub, Nat.reduceMul, Nat.reduceEqDiff, Nat.reduceLeDiff, Nat.reduceBEq, reduceIte, reduceCtorEq, diskS]) ⟨rfl, rfl⟩
def kRoom (flags : Int) (data : List Int) (at_ n : Int) : Int × Int := if kPlace flags data at_ < 1048576 then (minI n (1048576 - kPlace flags data at_), 0) else (0, 31)
theorem kPlace_rng {flags : Int} {data : List Int} {at_ : Int} (h0 : 0 ≤ at_) (h1 : at_ ≤ 1048576) (hd : data.length ≤ 1048576) : 0 ≤ kPlace flags data at_ ∧ kPlace flags data at_ ≤ 1048576 := by
  unfold kPlace
  split <;> omega
theorem diskRoom_c (p : Option Addr) (c : Nat) (data : List Int) (flags at_ n : Int) (hf : flags = 3 ∨ flags = 7) (h0 : 0 ≤ at_) (h1 : at_ ≤ 1048576) (hd : data.length ≤ 1048576) : Contract Tryz.prog 216 (diskS p c data flags at_) [.agg [.ptr 1 0], .ptr 0 0, .i .i64 n] (fun sv post => sv = .tup [.i .i64 (kRoom flags data at_ n).1, .i .i64 (kRoom flags data at_ n).2] ∧ post = diskS p c data flags at_) := by
  obtain ⟨k1, k2⟩ := kPlace_rng (flags := flags) h0 h1 hd
  refine contract_ev Γok Tryz.func216 rfl rfl [] ?_
  simp (maxSteps := 4000000) only [push_cast, Int.reduceEq, Int.reduceBNe, Int.reduceBEq, Int.reduceAdd, Int.reduceSub, Int.reduceMul, Int.reduceNeg, Int.reduceLT, Int.reduceLE, Int.reduceToNat, Nat.reduceLT, Nat.reduceAdd, Nat.reduceSub, Nat.reduceMul, Nat.reduceEqDiff, Nat.reduceLeDiff, Nat.reduceBEq, reduceIte, reduceCtorEq, Tryz.f216, diskS]
  refine call_w (diskPlace_c p c data flags at_ hf) [0, 1, 2] (by simp (maxSteps := 4000000) only [push_cast, Int.reduceEq, Int.reduceBNe, Int.reduceBEq, Int.reduceAdd, Int.reduceSub, Int.reduceMul, Int.reduceNeg, Int.reduceLT, Int.reduceLE, Int.reduceToNat, Nat.reduceLT, Nat.reduceAdd, Nat.reduceSub, Nat.reduceMul, Nat.reduceEqDiff, Nat.reduceLeDiff, Nat.reduceBEq, reduceIte, reduceCtorEq, diskS]) ?_
  rintro sv post ⟨rfl, rfl⟩
  simp (maxSteps := 4000000) only [push_cast, Int.reduceEq, Int.reduceBNe, Int.reduceBEq, Int.reduceAdd, Int.reduceSub, Int.reduceMul, Int.reduceNeg, Int.reduceLT, Int.reduceLE, Int.reduceToNat, Nat.reduceLT, Nat.reduceAdd, Nat.reduceSub, Nat.reduceMul, Nat.reduceEqDiff, Nat.reduceLeDiff, Nat.reduceBEq, reduceIte, reduceCtorEq, diskS]
  unfold kRoom
  generalize kPlace flags data at_ = pl at k1 k2
  rw [wrap64 (n := 1048576 - pl) (by omega) (by omega)]
  refine ⟨fun h => ?_, fun h => ?_⟩
  · rw [if_pos (by omega)]
    exact Fin.w [0, 1, 2] (.tup [.i .i64 (minI n (1048576 - pl)), .i .i64 0]) (diskS p c data flags at_) (by simp (maxSteps := 4000000) only [push_cast, Int.reduceEq, Int.reduceBNe, Int.reduceBEq, Int.reduceAdd, Int.reduceSub, Int.reduceMul, Int.reduceNeg, Int.reduceLT, Int.reduceLE, Int.reduceToNat, Nat.reduceLT, Nat.reduceAdd, Nat.reduceSub, Nat.reduceMul, Nat.reduceEqDiff, Nat.reduceLeDiff, Nat.reduceBEq, reduceIte, reduceCtorEq, diskS]) ⟨rfl, rfl⟩
  · rw [if_neg (by omega)]
    exact Fin.w [0, 1, 2] (.tup [.i .i64 0, .i .i64 31]) (diskS p c data flags at_) (by simp (maxSteps := 4000000) only [push_cast, Int.reduceEq, Int.reduceBNe, Int.reduceBEq, Int.reduceAdd, Int.reduceSub, Int.reduceMul, Int.reduceNeg, Int.reduceLT, Int.reduceLE, Int.reduceToNat, Nat.reduceLT, Nat.reduceAdd, Nat.reduceSub, Nat.reduceMul, Nat.reduceEqDiff, Nat.reduceLeDiff, Nat.reduceBEq, reduceIte, reduceCtorEq, diskS]) ⟨rfl, rfl⟩
theorem diskWrite_c (p : Option Addr) (c : Nat) (data : List Int) (flags at_ : Int) (b : List Int) (most : Nat) (hf : flags = 3 ∨ flags = 7) (h0 : 0 ≤ at_) (h1 : at_ ≤ 1048576) (hd : data.length ≤ 1048576) (hm : 1 ≤ most) (hml : most ≤ b.length) (hb : b.length ≤ 1048576) (hr : kPlace flags data at_ + most ≤ 1048576) :
    Contract Tryz.prog 217 (diskS p c data flags at_) [.agg [.ptr 1 0], .ptr 0 0, .ints .u8 .old b, .i .i64 most] (fun sv post => ∃ p' c', sv = .i .i64 most ∧ post = diskS p' c' (wrote data (kPlace flags data at_).toNat (b.take most)) flags (kPlace flags data at_ + most)) := by
  obtain ⟨k1, k2⟩ := kPlace_rng (flags := flags) h0 h1 hd
  refine contract_ev Γok Tryz.func217 rfl rfl [] ?_
  simp (maxSteps := 4000000) only [push_cast, Int.reduceEq, Int.reduceBNe, Int.reduceBEq, Int.reduceAdd, Int.reduceSub, Int.reduceMul, Int.reduceNeg, Int.reduceLT, Int.reduceLE, Int.reduceToNat, Nat.reduceLT, Nat.reduceAdd, Nat.reduceSub, Nat.reduceMul, Nat.reduceEqDiff, Nat.reduceLeDiff, Nat.reduceBEq, reduceIte, reduceCtorEq, Tryz.f217, diskS]
  have em : minI (b.length : Int) (most : Int) = most := by unfold minI; split <;> omega
  rw [em]
  have et : ((most : Int)).toNat = most := Int.toNat_natCast _
  rw [et]
  have hlt : (b.take most).length = most := by simp; omega
  refine ⟨by omega, ?_⟩
  refine call_w (diskPlace_c p c data flags at_ hf) [0, 1, 2] (by simp (maxSteps := 4000000) only [push_cast, Int.reduceEq, Int.reduceBNe, Int.reduceBEq, Int.reduceAdd, Int.reduceSub, Int.reduceMul, Int.reduceNeg, Int.reduceLT, Int.reduceLE, Int.reduceToNat, Nat.reduceLT, Nat.reduceAdd, Nat.reduceSub, Nat.reduceMul, Nat.reduceEqDiff, Nat.reduceLeDiff, Nat.reduceBEq, reduceIte, reduceCtorEq, diskS]) ?_
  rintro sv post ⟨rfl, rfl⟩
  simp (maxSteps := 4000000) only [push_cast, Int.reduceEq, Int.reduceBNe, Int.reduceBEq, Int.reduceAdd, Int.reduceSub, Int.reduceMul, Int.reduceNeg, Int.reduceLT, Int.reduceLE, Int.reduceToNat, Nat.reduceLT, Nat.reduceAdd, Nat.reduceSub, Nat.reduceMul, Nat.reduceEqDiff, Nat.reduceLeDiff, Nat.reduceBEq, reduceIte, reduceCtorEq, diskS]
  obtain ⟨pl, hpl⟩ : ∃ pl : Nat, kPlace flags data at_ = pl := ⟨(kPlace flags data at_).toNat, by omega⟩
  rw [hpl] at hr ⊢
  rw [Int.toNat_natCast]
  refine (region_plan rfl Γok mixed (.pure 0 (.pure 1 (.pure 2 (.pure 3 (.pure 4 (.pure 5 (.pure 6 (.eff (.cons 7 [] .done .nil))))))))) 40 rfl (by kernel_rfl) ?_)
  simp (maxSteps := 4000000) only [push_cast, Int.reduceEq, Int.reduceBNe, Int.reduceBEq, Int.reduceAdd, Int.reduceSub, Int.reduceMul, Int.reduceNeg, Int.reduceLT, Int.reduceLE, Int.reduceToNat, Nat.reduceLT, Nat.reduceAdd, Nat.reduceSub, Nat.reduceMul, Nat.reduceEqDiff, Nat.reduceLeDiff, Nat.reduceBEq, reduceIte, reduceCtorEq]
  refine call_w (fileWrite_c p c data pl (b.take most) hd (by omega) (by intro h0; rw [h0] at hlt; simp at hlt; omega)) [1, 2] (by simp (maxSteps := 4000000) only [push_cast, Int.reduceEq, Int.reduceBNe, Int.reduceBEq, Int.reduceAdd, Int.reduceSub, Int.reduceMul, Int.reduceNeg, Int.reduceLT, Int.reduceLE, Int.reduceToNat, Nat.reduceLT, Nat.reduceAdd, Nat.reduceSub, Nat.reduceMul, Nat.reduceEqDiff, Nat.reduceLeDiff, Nat.reduceBEq, reduceIte, reduceCtorEq, fileS]) ?_
  rintro sv post ⟨p', c', rfl, rfl⟩
  simp (maxSteps := 4000000) only [push_cast, Int.reduceEq, Int.reduceBNe, Int.reduceBEq, Int.reduceAdd, Int.reduceSub, Int.reduceMul, Int.reduceNeg, Int.reduceLT, Int.reduceLE, Int.reduceToNat, Nat.reduceLT, Nat.reduceAdd, Nat.reduceSub, Nat.reduceMul, Nat.reduceEqDiff, Nat.reduceLeDiff, Nat.reduceBEq, reduceIte, reduceCtorEq, fileS]
  rw [hlt, wrap64 (n := (pl : Int) + most) (by omega) (by omega)]
  exact Fin.w [0, 1, 2] (.i .i64 most) (diskS p' c' (wrote data pl (b.take most)) flags (pl + most)) (by simp (maxSteps := 4000000) only [push_cast, Int.reduceEq, Int.reduceBNe, Int.reduceBEq, Int.reduceAdd, Int.reduceSub, Int.reduceMul, Int.reduceNeg, Int.reduceLT, Int.reduceLE, Int.reduceToNat, Nat.reduceLT, Nat.reduceAdd, Nat.reduceSub, Nat.reduceMul, Nat.reduceEqDiff, Nat.reduceLeDiff, Nat.reduceBEq, reduceIte, reduceCtorEq, diskS]) ⟨p', c', rfl, rfl⟩
/-- A write: what is taken. -/
def kMost (flags : Int) (s : KSt) (n : Int) : Int := minI (nextF s.F n).1 (minI n (1048576 - kPlace flags s.data s.at_))
def kWr (flags : Int) (s : KSt) (b : List Int) : KSt × Int × Int :=
  if ¬ kPlace flags s.data s.at_ < 1048576 then (s, 0, 31)
  else if (nextF s.F b.length).2.1 ≠ 0 then (⟨s.data, s.at_, (nextF s.F b.length).2.2, s.rc, w64 (s.wc + 1)⟩, 0, (nextF s.F b.length).2.1)
  else (⟨wrote s.data (kPlace flags s.data s.at_).toNat (b.take (kMost flags s b.length).toNat), kPlace flags s.data s.at_ + kMost flags s b.length, (nextF s.F b.length).2.2, s.rc, w64 (s.wc + 1)⟩, kMost flags s b.length, 0)
theorem kernWrite_c (p : Option Addr) (c : Nat) (flags : Int) (s : KSt) (b : List Int) (hf : flags = 3 ∨ flags = 7) (hs : KOk s) (hb : b.length ≤ 1048576) (hne : b ≠ []) :
    Contract Tryz.prog 189 (kernS p c s.data s.F flags s.at_ s.rc s.wc) [.ptr 0 0, .i .i64 1, .ints .u8 .old b] (fun sv post => sv = .tup [.i .i64 (kWr flags s b).2.1, .i .i64 (kWr flags s b).2.2] ∧ ∃ p' c', post = kernS p' c' (kWr flags s b).1.data (kWr flags s b).1.F flags (kWr flags s b).1.at_ (kWr flags s b).1.rc (kWr flags s b).1.wc) := by
  have hpos := List.length_pos_iff.2 hne
  obtain ⟨data, at_, F, rc, wc⟩ := s
  obtain ⟨h0, h1, hd, hF, hFl⟩ := hs
  simp only at h0 h1 hd hF hFl ⊢
  have f1 : andI .i64 flags 2 = 2 := by rcases hf with rfl | rfl <;> decide
  obtain ⟨k1, k2⟩ := kPlace_rng (flags := flags) h0 h1 hd
  refine contract_ev Γok Tryz.func189 rfl rfl [] ?_
  simp (maxSteps := 4000000) only [push_cast, Int.reduceEq, Int.reduceBNe, Int.reduceBEq, Int.reduceAdd, Int.reduceSub, Int.reduceMul, Int.reduceNeg, Int.reduceLT, Int.reduceLE, Int.reduceToNat, Nat.reduceLT, Nat.reduceAdd, Nat.reduceSub, Nat.reduceMul, Nat.reduceEqDiff, Nat.reduceLeDiff, Nat.reduceBEq, reduceIte, reduceCtorEq, Tryz.f189, kernS]
  refine call_w (kernFind_c p c data F flags at_ rc wc 2 f1) [0, 1, 2, 3, 4, 5, 6, 7] (by simp (maxSteps := 4000000) only [push_cast, Int.reduceEq, Int.reduceBNe, Int.reduceBEq, Int.reduceAdd, Int.reduceSub, Int.reduceMul, Int.reduceNeg, Int.reduceLT, Int.reduceLE, Int.reduceToNat, Nat.reduceLT, Nat.reduceAdd, Nat.reduceSub, Nat.reduceMul, Nat.reduceEqDiff, Nat.reduceLeDiff, Nat.reduceBEq, reduceIte, reduceCtorEq, kernS]; exact fun i _ j _ => W_fault _ F i j) ?_
  rintro sv post ⟨rfl, rfl⟩
  simp (maxSteps := 4000000) only [push_cast, Int.reduceEq, Int.reduceBNe, Int.reduceBEq, Int.reduceAdd, Int.reduceSub, Int.reduceMul, Int.reduceNeg, Int.reduceLT, Int.reduceLE, Int.reduceToNat, Nat.reduceLT, Nat.reduceAdd, Nat.reduceSub, Nat.reduceMul, Nat.reduceEqDiff, Nat.reduceLeDiff, Nat.reduceBEq, reduceIte, reduceCtorEq, kernS, ren_faultF]
  refine ⟨fun h => by omega, fun _ => ⟨fun h => by omega, fun _ => ?_⟩⟩
  refine inv_ofV (f := 216) (by kernel_rfl) ?_
  refine call_ce (diskRoom_c p c data flags at_ b.length hf h0 h1 hd) [7, 5, 6] (fun _ _ _ _ h => h) (by simp (maxSteps := 4000000) only [push_cast, Int.reduceEq, Int.reduceBNe, Int.reduceBEq, Int.reduceAdd, Int.reduceSub, Int.reduceMul, Int.reduceNeg, Int.reduceLT, Int.reduceLE, Int.reduceToNat, Nat.reduceLT, Nat.reduceAdd, Nat.reduceSub, Nat.reduceMul, Nat.reduceEqDiff, Nat.reduceLeDiff, Nat.reduceBEq, reduceIte, reduceCtorEq, diskS]) ?_
  rintro sv post ⟨rfl, rfl⟩
  simp (maxSteps := 4000000) only [push_cast, Int.reduceEq, Int.reduceBNe, Int.reduceBEq, Int.reduceAdd, Int.reduceSub, Int.reduceMul, Int.reduceNeg, Int.reduceLT, Int.reduceLE, Int.reduceToNat, Nat.reduceLT, Nat.reduceAdd, Nat.reduceSub, Nat.reduceMul, Nat.reduceEqDiff, Nat.reduceLeDiff, Nat.reduceBEq, reduceIte, reduceCtorEq, diskS]
  unfold kWr
  dsimp only
  by_cases hpl : kPlace flags data at_ < 1048576
  · have er : kRoom flags data at_ b.length = (minI b.length (1048576 - kPlace flags data at_), 0) := by unfold kRoom; rw [if_pos hpl]
    rw [er, if_neg (by omega)]
    simp (maxSteps := 4000000) only [push_cast, Int.reduceEq, Int.reduceBNe, Int.reduceBEq, Int.reduceAdd, Int.reduceSub, Int.reduceMul, Int.reduceNeg, Int.reduceLT, Int.reduceLE, Int.reduceToNat, Nat.reduceLT, Nat.reduceAdd, Nat.reduceSub, Nat.reduceMul, Nat.reduceEqDiff, Nat.reduceLeDiff, Nat.reduceBEq, reduceIte, reduceCtorEq]
    refine (region_plan rfl Γok mixed (.pure 0 (.pure 1 (.pure 2 (.pure 3 (.pure 4 (.pure 5 (.pure 6 (.pure 7 (.pure 8 (.eff (.cons 9 [] .done .nil))))))))))) 76 rfl (by kernel_rfl) ?_)
    simp (maxSteps := 4000000) only [push_cast, Int.reduceEq, Int.reduceBNe, Int.reduceBEq, Int.reduceAdd, Int.reduceSub, Int.reduceMul, Int.reduceNeg, Int.reduceLT, Int.reduceLE, Int.reduceToNat, Nat.reduceLT, Nat.reduceAdd, Nat.reduceSub, Nat.reduceMul, Nat.reduceEqDiff, Nat.reduceLeDiff, Nat.reduceBEq, reduceIte, reduceCtorEq]
    refine call_w (faultNext_c F b.length (by omega) (by omega)) [4] (by simp (maxSteps := 4000000) only [push_cast, Int.reduceEq, Int.reduceBNe, Int.reduceBEq, Int.reduceAdd, Int.reduceSub, Int.reduceMul, Int.reduceNeg, Int.reduceLT, Int.reduceLE, Int.reduceToNat, Nat.reduceLT, Nat.reduceAdd, Nat.reduceSub, Nat.reduceMul, Nat.reduceEqDiff, Nat.reduceLeDiff, Nat.reduceBEq, reduceIte, reduceCtorEq, planS]; exact fun i _ j _ => W_fault _ F i j) ?_
    rintro sv post ⟨rfl, rfl⟩
    simp (maxSteps := 4000000) only [push_cast, Int.reduceEq, Int.reduceBNe, Int.reduceBEq, Int.reduceAdd, Int.reduceSub, Int.reduceMul, Int.reduceNeg, Int.reduceLT, Int.reduceLE, Int.reduceToNat, Nat.reduceLT, Nat.reduceAdd, Nat.reduceSub, Nat.reduceMul, Nat.reduceEqDiff, Nat.reduceLeDiff, Nat.reduceBEq, reduceIte, reduceCtorEq, planS, ren_faultF]
    have hk := nextF_le hF (n := b.length) (by omega)
    refine ⟨fun h => ?_, fun h => ?_⟩
    · rw [if_pos h]
      exact Fin.w [0, 1, 2, 3, 4, 5, 6, 7] (.tup [.i .i64 0, .i .i64 (nextF F b.length).2.1]) (kernS p c data (nextF F b.length).2.2 flags at_ rc (w64 (wc + 1))) (by simp (maxSteps := 4000000) only [push_cast, Int.reduceEq, Int.reduceBNe, Int.reduceBEq, Int.reduceAdd, Int.reduceSub, Int.reduceMul, Int.reduceNeg, Int.reduceLT, Int.reduceLE, Int.reduceToNat, Nat.reduceLT, Nat.reduceAdd, Nat.reduceSub, Nat.reduceMul, Nat.reduceEqDiff, Nat.reduceLeDiff, Nat.reduceBEq, reduceIte, reduceCtorEq, kernS, w64]; exact fun i _ j _ => W_fault _ _ i j) ⟨rfl, p, c, rfl⟩
    · have hk := hk h
      rw [if_neg (by omega)]
      have em : minI (nextF F b.length).1 (minI b.length (1048576 - kPlace flags data at_)) = kMost flags ⟨data, at_, F, rc, wc⟩ b.length := rfl
      have hm : 1 ≤ kMost flags ⟨data, at_, F, rc, wc⟩ b.length ∧ kMost flags ⟨data, at_, F, rc, wc⟩ b.length ≤ b.length ∧ kMost flags ⟨data, at_, F, rc, wc⟩ b.length ≤ 1048576 - kPlace flags data at_ := by
        rw [← em]
        unfold minI
        split <;> (try split) <;> omega
      rw [em]
      generalize kMost flags ⟨data, at_, F, rc, wc⟩ b.length = most at hm ⊢
      obtain ⟨mo, rfl⟩ : ∃ mo : Nat, most = mo := ⟨most.toNat, by omega⟩
      rw [Int.toNat_natCast]
      refine inv_ofV (f := 217) (by kernel_rfl) ?_
      refine call_ce (diskWrite_c p c data flags at_ b mo hf h0 h1 hd (by omega) (by omega) hb (by omega)) [7, 5, 6] (fun _ _ _ _ h => h) (by simp (maxSteps := 4000000) only [push_cast, Int.reduceEq, Int.reduceBNe, Int.reduceBEq, Int.reduceAdd, Int.reduceSub, Int.reduceMul, Int.reduceNeg, Int.reduceLT, Int.reduceLE, Int.reduceToNat, Nat.reduceLT, Nat.reduceAdd, Nat.reduceSub, Nat.reduceMul, Nat.reduceEqDiff, Nat.reduceLeDiff, Nat.reduceBEq, reduceIte, reduceCtorEq, diskS]) ?_
      rintro sv post ⟨p', c', rfl, rfl⟩
      simp (maxSteps := 4000000) only [push_cast, Int.reduceEq, Int.reduceBNe, Int.reduceBEq, Int.reduceAdd, Int.reduceSub, Int.reduceMul, Int.reduceNeg, Int.reduceLT, Int.reduceLE, Int.reduceToNat, Nat.reduceLT, Nat.reduceAdd, Nat.reduceSub, Nat.reduceMul, Nat.reduceEqDiff, Nat.reduceLeDiff, Nat.reduceBEq, reduceIte, reduceCtorEq, diskS]
      exact Fin.w [0, 1, 2, 3, 4, 5, 6, 7] (.tup [.i .i64 mo, .i .i64 0]) (kernS p' c' (wrote data (kPlace flags data at_).toNat (b.take mo)) (nextF F b.length).2.2 flags (kPlace flags data at_ + mo) rc (w64 (wc + 1))) (by simp (maxSteps := 4000000) only [push_cast, Int.reduceEq, Int.reduceBNe, Int.reduceBEq, Int.reduceAdd, Int.reduceSub, Int.reduceMul, Int.reduceNeg, Int.reduceLT, Int.reduceLE, Int.reduceToNat, Nat.reduceLT, Nat.reduceAdd, Nat.reduceSub, Nat.reduceMul, Nat.reduceEqDiff, Nat.reduceLeDiff, Nat.reduceBEq, reduceIte, reduceCtorEq, kernS, w64]; exact fun i _ j _ => W_fault _ _ i j) ⟨rfl, p', c', rfl⟩
  · have er : kRoom flags data at_ b.length = (0, 31) := by unfold kRoom; rw [if_neg hpl]
    rw [er, if_pos hpl]
    simp (maxSteps := 4000000) only [push_cast, Int.reduceEq, Int.reduceBNe, Int.reduceBEq, Int.reduceAdd, Int.reduceSub, Int.reduceMul, Int.reduceNeg, Int.reduceLT, Int.reduceLE, Int.reduceToNat, Nat.reduceLT, Nat.reduceAdd, Nat.reduceSub, Nat.reduceMul, Nat.reduceEqDiff, Nat.reduceLeDiff, Nat.reduceBEq, reduceIte, reduceCtorEq]
    exact Fin.w [0, 1, 2, 3, 4, 5, 6, 7] (.tup [.i .i64 0, .i .i64 31]) (kernS p c data F flags at_ rc wc) (by simp (maxSteps := 4000000) only [push_cast, Int.reduceEq, Int.reduceBNe, Int.reduceBEq, Int.reduceAdd, Int.reduceSub, Int.reduceMul, Int.reduceNeg, Int.reduceLT, Int.reduceLE, Int.reduceToNat, Nat.reduceLT, Nat.reduceAdd, Nat.reduceSub, Nat.reduceMul, Nat.reduceEqDiff, Nat.reduceLeDiff, Nat.reduceBEq, reduceIte, reduceCtorEq, kernS]; exact fun i _ j _ => W_fault _ F i j) ⟨rfl, p, c, rfl⟩
theorem kernWriteR_c (b : Nat) (flags : Int) (hf : flags = 3 ∨ flags = 7) (s : KSt) (hs : KOk s) (l : List Int) (h1 : l ≠ []) (h2 : l.length ≤ 1048576) : Contract Tryz.prog 189 (preR (kernR b flags s)) [.raw (.pointer (some ⟨b, 0, none⟩)), .i .i64 1, .ints .u8 .old l] (fun sv post => sv = .tup [.i .i64 (kWr flags s l).2.1, .i .i64 (kWr flags s l).2.2] ∧ post = preR (kernR b flags (kWr flags s l).1)) := by
  refine kern_fold b flags s (kWr flags s l).1 [.i .i64 1, .ints .u8 .old l] (by simp [NNL, NN, NNT]) (fun sv => sv = .tup [.i .i64 (kWr flags s l).2.1, .i .i64 (kWr flags s l).2.2]) ?_ fun p c => ?_
  · rintro sv rfl
    exact ⟨by simp (maxSteps := 4000000) only [push_cast, Int.reduceEq, Int.reduceBNe, Int.reduceBEq, Int.reduceAdd, Int.reduceSub, Int.reduceMul, Int.reduceNeg, Int.reduceLT, Int.reduceLE, Int.reduceToNat, Nat.reduceLT, Nat.reduceAdd, Nat.reduceSub, Nat.reduceMul, Nat.reduceEqDiff, Nat.reduceLeDiff, Nat.reduceBEq, reduceIte, reduceCtorEq], by simp [NN, NNL, NNT]⟩
  · exact kernWrite_c p c flags s l hf hs h2 h1
theorem hdlWrite_c (b : Nat) (flags : Int) (hf : flags = 3 ∨ flags = 7) (s : KSt) (hs : KOk s) (l : List Int) (h1 : l ≠ []) (h2 : l.length ≤ 1048576) : Contract Tryz.prog 206 (preR (kernR b flags s)) [hdl b, .ints .u8 .old l] (fun sv post => sv = .tup [.i .i64 (kWr flags s l).2.1, .i .i64 (kWr flags s l).2.2] ∧ post = preR (kernR b flags (kWr flags s l).1)) := by
  refine contract_ev Γok Tryz.func206 rfl rfl [] ?_
  simp (maxSteps := 4000000) only [push_cast, Int.reduceEq, Int.reduceBNe, Int.reduceBEq, Int.reduceAdd, Int.reduceSub, Int.reduceMul, Int.reduceNeg, Int.reduceLT, Int.reduceLE, Int.reduceToNat, Nat.reduceLT, Nat.reduceAdd, Nat.reduceSub, Nat.reduceMul, Nat.reduceEqDiff, Nat.reduceLeDiff, Nat.reduceBEq, reduceIte, reduceCtorEq, Tryz.f206, hdl]
  refine call_w (kernWriteR_c b flags hf s hs l h1 h2) [0] (by simp (maxSteps := 4000000) only [push_cast, Int.reduceEq, Int.reduceBNe, Int.reduceBEq, Int.reduceAdd, Int.reduceSub, Int.reduceMul, Int.reduceNeg, Int.reduceLT, Int.reduceLE, Int.reduceToNat, Nat.reduceLT, Nat.reduceAdd, Nat.reduceSub, Nat.reduceMul, Nat.reduceEqDiff, Nat.reduceLeDiff, Nat.reduceBEq, reduceIte, reduceCtorEq, preR]) ?_
  rintro sv post ⟨rfl, rfl⟩
  simp (maxSteps := 4000000) only [push_cast, Int.reduceEq, Int.reduceBNe, Int.reduceBEq, Int.reduceAdd, Int.reduceSub, Int.reduceMul, Int.reduceNeg, Int.reduceLT, Int.reduceLE, Int.reduceToNat, Nat.reduceLT, Nat.reduceAdd, Nat.reduceSub, Nat.reduceMul, Nat.reduceEqDiff, Nat.reduceLeDiff, Nat.reduceBEq, reduceIte, reduceCtorEq, preR]
  exact Fin.w [0] (.tup [.i .i64 (kWr flags s l).2.1, .i .i64 (kWr flags s l).2.2]) (preR (kernR b flags (kWr flags s l).1)) (by simp (maxSteps := 4000000) only [push_cast, Int.reduceEq, Int.reduceBNe, Int.reduceBEq, Int.reduceAdd, Int.reduceSub, Int.reduceMul, Int.reduceNeg, Int.reduceLT, Int.reduceLE, Int.reduceToNat, Nat.reduceLT, Nat.reduceAdd, Nat.reduceSub, Nat.reduceMul, Nat.reduceEqDiff, Nat.reduceLeDiff, Nat.reduceBEq, reduceIte, reduceCtorEq, preR]) ⟨rfl, rfl⟩
/-- A kernel's file as a Raw. -/
def kernW (b : Nat) (flags : Int) : RawM where
  σ := KSt
  t := 149
  y := hdlV b
  res s := kernR b flags s
  ok s := KOk s
  rd s n := kRd s n
  wr s l := kWr flags s l
  sk s o w := kSk s o w
theorem kernW_rd (b : Nat) (flags : Int) (hf : flags = 3 ∨ flags = 7) : (kernW b flags).Rd :=
  ⟨fun s n h h1 h2 => kRd_ok h h1 h2, fun s n h h1 h2 => invW_of (f := 204) (by kernel_rfl) (hdl_den b) (hdlRead_c b flags hf s h n h1 h2)⟩
theorem kSk_ok {s : KSt} (hs : KOk s) (off w : Int) : KOk (kSk s off w).1 := by
  obtain ⟨a0, a1, d, f, fl⟩ := hs
  have h : 0 ≤ (gK 1048576 s.data s.at_ off w).1.2 ∧ (gK 1048576 s.data s.at_ off w).1.2 ≤ 1048576 := by
    unfold gK
    have hb : 0 ≤ (if w = 0 then (0 : Int) else if w = 1 then s.at_ else s.data.length) ∧ (if w = 0 then (0 : Int) else if w = 1 then s.at_ else s.data.length) ≤ 1048576 := by
      split
      · omega
      · split <;> omega
    generalize (if w = 0 then (0 : Int) else if w = 1 then s.at_ else s.data.length) = base at hb ⊢
    split
    · exact ⟨a0, a1⟩
    · split
      · exact ⟨a0, a1⟩
      · dsimp only
        omega
  exact ⟨h.1, h.2, d, f, fl⟩
theorem kWr_ok {flags : Int} {s : KSt} (hs : KOk s) {l : List Int} (hne : l ≠ []) (hl : l.length ≤ 1048576) : KOk (kWr flags s l).1 := by
  have hpos := List.length_pos_iff.2 hne
  have hs2 := hs
  obtain ⟨a0, a1, d, f, fl⟩ := hs
  obtain ⟨k1, k2⟩ := kPlace_rng (flags := flags) a0 a1 d
  have hfl := Nat.le_trans (nextF_len s.F l.length) fl
  unfold kWr
  split
  · exact hs2
  · split
    · exact ⟨a0, a1, d, okF_next f _, hfl⟩
    · rename_i h1 h2
      have hk := nextF_le f (n := l.length) (by omega) (by omega)
      have hm : 1 ≤ kMost flags s l.length ∧ kMost flags s l.length ≤ l.length ∧ kMost flags s l.length ≤ 1048576 - kPlace flags s.data s.at_ := by
        unfold kMost minI
        split <;> (try split) <;> omega
      refine ⟨by show 0 ≤ kPlace flags s.data s.at_ + _; omega, by show kPlace flags s.data s.at_ + _ ≤ _; omega, ?_, okF_next f _, hfl⟩
      show (wrote s.data _ _).length ≤ _
      rw [wrote_len, List.length_take]
      omega
theorem kernW_wr (b : Nat) (flags : Int) (hf : flags = 3 ∨ flags = 7) : (kernW b flags).Wr := by
  refine ⟨?_, fun s l h h1 h2 h3 => ⟨kWr_ok h h1 h2, ?_⟩, fun s l h h1 h2 _ => invW_of (f := 206) (by kernel_rfl) (hdl_den b) (hdlWrite_c b flags hf s h l h1 h2)⟩
  · exact nilOKW_of (t := 149) (f := 206) (by kernel_rfl) (hdlV b)
  · show (1125899906842624 : Nat) ≤ 1125899906842624 + _
    omega
theorem kernW_sk (b : Nat) (flags : Int) (hf : flags = 3 ∨ flags = 7) : (kernW b flags).Sk :=
  ⟨fun s o w h => kSk_ok h o w, fun s o w h => invW_of (f := 205) (by kernel_rfl) (hdl_den b) (hdlSeek_c b flags hf s h o w)⟩
end Go.Proofs.YtlgpcngfcglanaaGreat
/- The kernel's files. -/
namespace Go.Proofs.YtlgpcngfcglanaaGreat
open Go Go.Eng
set_option maxHeartbeats 4000000
set_option linter.unusedSimpArgs false
set_option linter.unusedVariables false
set_option maxRecDepth 100000

theorem bits1_c : Contract Tryz.prog 105 nilSS [.i .u64 1] (fun sv post => sv = .i .i64 1 ∧ post = nilSS) := by
  refine contract_ev Γok Tryz.func105 rfl rfl [] ?_
  simp (maxSteps := 4000000) only [push_cast, Int.reduceEq, Int.reduceBNe, Int.reduceBEq, Int.reduceAdd, Int.reduceSub, Int.reduceMul, Int.reduceNeg, Int.reduceLT, Int.reduceLE, Int.reduceToNat, Nat.reduceLT, Nat.reduceAdd, Nat.reduceSub, Nat.reduceMul, Nat.reduceEqDiff, Nat.reduceLeDiff, Nat.reduceBEq, reduceIte, reduceCtorEq, Tryz.f105]
  refine ⟨⟨by decide, by decide⟩, ?_⟩
  exact Fin.nil rfl (psv := .i .i64 1) ⟨rfl, by kernel_rfl⟩ ⟨rfl, rfl⟩
theorem bits_c : Contract Tryz.prog 70 nilSS [.i .u64 1] (fun sv post => sv = .i .i64 1 ∧ post = nilSS) := by
  refine contract_ev Γok Tryz.func70 rfl rfl [] ?_
  simp (maxSteps := 4000000) only [push_cast, Int.reduceEq, Int.reduceBNe, Int.reduceBEq, Int.reduceAdd, Int.reduceSub, Int.reduceMul, Int.reduceNeg, Int.reduceLT, Int.reduceLE, Int.reduceToNat, Nat.reduceLT, Nat.reduceAdd, Nat.reduceSub, Nat.reduceMul, Nat.reduceEqDiff, Nat.reduceLeDiff, Nat.reduceBEq, reduceIte, reduceCtorEq, Tryz.f70]
  refine call_w bits1_c [] (by simp (maxSteps := 4000000) only [push_cast, Int.reduceEq, Int.reduceBNe, Int.reduceBEq, Int.reduceAdd, Int.reduceSub, Int.reduceMul, Int.reduceNeg, Int.reduceLT, Int.reduceLE, Int.reduceToNat, Nat.reduceLT, Nat.reduceAdd, Nat.reduceSub, Nat.reduceMul, Nat.reduceEqDiff, Nat.reduceLeDiff, Nat.reduceBEq, reduceIte, reduceCtorEq]) ?_
  rintro sv post ⟨rfl, rfl⟩
  simp (maxSteps := 4000000) only [push_cast, Int.reduceEq, Int.reduceBNe, Int.reduceBEq, Int.reduceAdd, Int.reduceSub, Int.reduceMul, Int.reduceNeg, Int.reduceLT, Int.reduceLE, Int.reduceToNat, Nat.reduceLT, Nat.reduceAdd, Nat.reduceSub, Nat.reduceMul, Nat.reduceEqDiff, Nat.reduceLeDiff, Nat.reduceBEq, reduceIte, reduceCtorEq]
  exact Fin.nil rfl (psv := .i .i64 1) (by simp (maxSteps := 4000000) only [push_cast, Int.reduceEq, Int.reduceBNe, Int.reduceBEq, Int.reduceAdd, Int.reduceSub, Int.reduceMul, Int.reduceNeg, Int.reduceLT, Int.reduceLE, Int.reduceToNat, Nat.reduceLT, Nat.reduceAdd, Nat.reduceSub, Nat.reduceMul, Nat.reduceEqDiff, Nat.reduceLeDiff, Nat.reduceBEq, reduceIte, reduceCtorEq]) ⟨rfl, rfl⟩
theorem ins1_c (el : Nat → Nat → SV) : Contract Tryz.prog 95 nilSS [.sl 1 .old 1 el, .i .i64 0, .i .i64 1] (fun sv post => sv = .tup [] ∧ post = nilSS) := by
  have w1 : IntKind.i64.wrap 1 = 1 := rfl
  refine contract_ev Γok Tryz.func95 rfl rfl [] ?_
  simp (maxSteps := 4000000) only [push_cast, Int.reduceEq, Int.reduceBNe, Int.reduceBEq, Int.reduceAdd, Int.reduceSub, Int.reduceMul, Int.reduceNeg, Int.reduceLT, Int.reduceLE, Int.reduceToNat, Nat.reduceLT, Nat.reduceAdd, Nat.reduceSub, Nat.reduceMul, Nat.reduceEqDiff, Nat.reduceLeDiff, Nat.reduceBEq, reduceIte, reduceCtorEq, Tryz.f95]
  refine loop_unroll 1 ?_
  simp (maxSteps := 4000000) only [push_cast, Int.reduceEq, Int.reduceBNe, Int.reduceBEq, Int.reduceAdd, Int.reduceSub, Int.reduceMul, Int.reduceNeg, Int.reduceLT, Int.reduceLE, Int.reduceToNat, Nat.reduceLT, Nat.reduceAdd, Nat.reduceSub, Nat.reduceMul, Nat.reduceEqDiff, Nat.reduceLeDiff, Nat.reduceBEq, reduceIte, reduceCtorEq, w1]
  refine evCode_sound Γok _ _ _ ?_
  simp (maxSteps := 4000000) only [push_cast, Int.reduceEq, Int.reduceBNe, Int.reduceBEq, Int.reduceAdd, Int.reduceSub, Int.reduceMul, Int.reduceNeg, Int.reduceLT, Int.reduceLE, Int.reduceToNat, Nat.reduceLT, Nat.reduceAdd, Nat.reduceSub, Nat.reduceMul, Nat.reduceEqDiff, Nat.reduceLeDiff, Nat.reduceBEq, reduceIte, reduceCtorEq, w1]
  exact Fin.nil rfl (psv := .tup []) (by simp (maxSteps := 4000000) only [push_cast, Int.reduceEq, Int.reduceBNe, Int.reduceBEq, Int.reduceAdd, Int.reduceSub, Int.reduceMul, Int.reduceNeg, Int.reduceLT, Int.reduceLE, Int.reduceToNat, Nat.reduceLT, Nat.reduceAdd, Nat.reduceSub, Nat.reduceMul, Nat.reduceEqDiff, Nat.reduceLeDiff, Nat.reduceBEq, reduceIte, reduceCtorEq]) ⟨rfl, rfl⟩
theorem pdq1_c (el : Nat → Nat → SV) (hW : ∀ f, ∀ i, i < 1 → ∀ j, j < 1 → W false f (el i j) (el i j)) : Contract Tryz.prog 69 nilSS [.sl 1 .old 1 el, .i .i64 0, .i .i64 1, .i .i64 1] (fun sv post => sv = .tup [] ∧ post = nilSS) := by
  have w1 : IntKind.i64.wrap 1 = 1 := rfl
  refine contract_ev Γok Tryz.func69 rfl rfl [] ?_
  simp (maxSteps := 4000000) only [push_cast, Int.reduceEq, Int.reduceBNe, Int.reduceBEq, Int.reduceAdd, Int.reduceSub, Int.reduceMul, Int.reduceNeg, Int.reduceLT, Int.reduceLE, Int.reduceToNat, Nat.reduceLT, Nat.reduceAdd, Nat.reduceSub, Nat.reduceMul, Nat.reduceEqDiff, Nat.reduceLeDiff, Nat.reduceBEq, reduceIte, reduceCtorEq, Tryz.f69]
  refine loop_unroll 1 ?_
  simp (maxSteps := 4000000) only [push_cast, Int.reduceEq, Int.reduceBNe, Int.reduceBEq, Int.reduceAdd, Int.reduceSub, Int.reduceMul, Int.reduceNeg, Int.reduceLT, Int.reduceLE, Int.reduceToNat, Nat.reduceLT, Nat.reduceAdd, Nat.reduceSub, Nat.reduceMul, Nat.reduceEqDiff, Nat.reduceLeDiff, Nat.reduceBEq, reduceIte, reduceCtorEq, w1]
  refine evCode_sound Γok _ _ _ ?_
  simp (maxSteps := 4000000) only [push_cast, Int.reduceEq, Int.reduceBNe, Int.reduceBEq, Int.reduceAdd, Int.reduceSub, Int.reduceMul, Int.reduceNeg, Int.reduceLT, Int.reduceLE, Int.reduceToNat, Nat.reduceLT, Nat.reduceAdd, Nat.reduceSub, Nat.reduceMul, Nat.reduceEqDiff, Nat.reduceLeDiff, Nat.reduceBEq, reduceIte, reduceCtorEq, w1]
  refine call_w (ins1_c el) [] (by simp (maxSteps := 4000000) only [push_cast, Int.reduceEq, Int.reduceBNe, Int.reduceBEq, Int.reduceAdd, Int.reduceSub, Int.reduceMul, Int.reduceNeg, Int.reduceLT, Int.reduceLE, Int.reduceToNat, Nat.reduceLT, Nat.reduceAdd, Nat.reduceSub, Nat.reduceMul, Nat.reduceEqDiff, Nat.reduceLeDiff, Nat.reduceBEq, reduceIte, reduceCtorEq]; exact hW _) ?_
  rintro sv post ⟨rfl, rfl⟩
  simp (maxSteps := 4000000) only [push_cast, Int.reduceEq, Int.reduceBNe, Int.reduceBEq, Int.reduceAdd, Int.reduceSub, Int.reduceMul, Int.reduceNeg, Int.reduceLT, Int.reduceLE, Int.reduceToNat, Nat.reduceLT, Nat.reduceAdd, Nat.reduceSub, Nat.reduceMul, Nat.reduceEqDiff, Nat.reduceLeDiff, Nat.reduceBEq, reduceIte, reduceCtorEq]
  exact Fin.nil rfl (psv := .tup []) (by simp (maxSteps := 4000000) only [push_cast, Int.reduceEq, Int.reduceBNe, Int.reduceBEq, Int.reduceAdd, Int.reduceSub, Int.reduceMul, Int.reduceNeg, Int.reduceLT, Int.reduceLE, Int.reduceToNat, Nat.reduceLT, Nat.reduceAdd, Nat.reduceSub, Nat.reduceMul, Nat.reduceEqDiff, Nat.reduceLeDiff, Nat.reduceBEq, reduceIte, reduceCtorEq]) ⟨rfl, rfl⟩
theorem sort1_c (el : Nat → Nat → SV) (hW : ∀ f, ∀ i, i < 1 → ∀ j, j < 1 → W false f (el i j) (el i j)) : Contract Tryz.prog 48 nilSS [.sl 1 .old 1 el] (fun sv post => sv = .tup [] ∧ post = nilSS) := by
  refine contract_ev Γok Tryz.func48 rfl rfl [] ?_
  have u1 : IntKind.u64.wrap 1 = 1 := rfl
  simp (maxSteps := 4000000) only [push_cast, Int.reduceEq, Int.reduceBNe, Int.reduceBEq, Int.reduceAdd, Int.reduceSub, Int.reduceMul, Int.reduceNeg, Int.reduceLT, Int.reduceLE, Int.reduceToNat, Nat.reduceLT, Nat.reduceAdd, Nat.reduceSub, Nat.reduceMul, Nat.reduceEqDiff, Nat.reduceLeDiff, Nat.reduceBEq, reduceIte, reduceCtorEq, Tryz.f48, u1]
  refine call_w bits_c [] (by simp (maxSteps := 4000000) only [push_cast, Int.reduceEq, Int.reduceBNe, Int.reduceBEq, Int.reduceAdd, Int.reduceSub, Int.reduceMul, Int.reduceNeg, Int.reduceLT, Int.reduceLE, Int.reduceToNat, Nat.reduceLT, Nat.reduceAdd, Nat.reduceSub, Nat.reduceMul, Nat.reduceEqDiff, Nat.reduceLeDiff, Nat.reduceBEq, reduceIte, reduceCtorEq]) ?_
  rintro sv post ⟨rfl, rfl⟩
  simp (maxSteps := 4000000) only [push_cast, Int.reduceEq, Int.reduceBNe, Int.reduceBEq, Int.reduceAdd, Int.reduceSub, Int.reduceMul, Int.reduceNeg, Int.reduceLT, Int.reduceLE, Int.reduceToNat, Nat.reduceLT, Nat.reduceAdd, Nat.reduceSub, Nat.reduceMul, Nat.reduceEqDiff, Nat.reduceLeDiff, Nat.reduceBEq, reduceIte, reduceCtorEq]
  refine call_w (pdq1_c el hW) [] (by simp (maxSteps := 4000000) only [push_cast, Int.reduceEq, Int.reduceBNe, Int.reduceBEq, Int.reduceAdd, Int.reduceSub, Int.reduceMul, Int.reduceNeg, Int.reduceLT, Int.reduceLE, Int.reduceToNat, Nat.reduceLT, Nat.reduceAdd, Nat.reduceSub, Nat.reduceMul, Nat.reduceEqDiff, Nat.reduceLeDiff, Nat.reduceBEq, reduceIte, reduceCtorEq]; exact hW _) ?_
  rintro sv post ⟨rfl, rfl⟩
  simp (maxSteps := 4000000) only [push_cast, Int.reduceEq, Int.reduceBNe, Int.reduceBEq, Int.reduceAdd, Int.reduceSub, Int.reduceMul, Int.reduceNeg, Int.reduceLT, Int.reduceLE, Int.reduceToNat, Nat.reduceLT, Nat.reduceAdd, Nat.reduceSub, Nat.reduceMul, Nat.reduceEqDiff, Nat.reduceLeDiff, Nat.reduceBEq, reduceIte, reduceCtorEq]
  exact Fin.nil rfl (psv := .tup []) (by simp (maxSteps := 4000000) only [push_cast, Int.reduceEq, Int.reduceBNe, Int.reduceBEq, Int.reduceAdd, Int.reduceSub, Int.reduceMul, Int.reduceNeg, Int.reduceLT, Int.reduceLE, Int.reduceToNat, Nat.reduceLT, Nat.reduceAdd, Nat.reduceSub, Nat.reduceMul, Nat.reduceEqDiff, Nat.reduceLeDiff, Nat.reduceBEq, reduceIte, reduceCtorEq]) ⟨rfl, rfl⟩
theorem fileBytes_c (p : Option Addr) (c : Nat) (data : List Int) (hd : data.length ≤ 1048576) : Contract Tryz.prog 49 (fileS p c data) [.ptr 0 0] (fun sv post => sv = .ints .u8 .new data ∧ post = fileS p c data) := by
  refine contract_row 1 rfl fun hc hp => ?_
  refine contract_ev Γok Tryz.func49 rfl rfl [] ?_
  simp (maxSteps := 4000000) only [push_cast, Int.reduceEq, Int.reduceBNe, Int.reduceBEq, Int.reduceAdd, Int.reduceSub, Int.reduceMul, Int.reduceNeg, Int.reduceLT, Int.reduceLE, Int.reduceToNat, Nat.reduceLT, Nat.reduceAdd, Nat.reduceSub, Nat.reduceMul, Nat.reduceEqDiff, Nat.reduceLeDiff, Nat.reduceBEq, reduceIte, reduceCtorEq, Tryz.f49, fileS]
  refine call_w (bcloneR_c p c data p data.length c 0 (by have h := shows_cut (p := p) (i := 0) (n := data.length) (by omega) hc; rwa [cutp_zero] at h) (by omega)) [1] (by simp (maxSteps := 4000000) only [push_cast, Int.reduceEq, Int.reduceBNe, Int.reduceBEq, Int.reduceAdd, Int.reduceSub, Int.reduceMul, Int.reduceNeg, Int.reduceLT, Int.reduceLE, Int.reduceToNat, Nat.reduceLT, Nat.reduceAdd, Nat.reduceSub, Nat.reduceMul, Nat.reduceEqDiff, Nat.reduceLeDiff, Nat.reduceBEq, reduceIte, reduceCtorEq]) ?_
  rintro sv post ⟨rfl, rfl⟩
  simp (maxSteps := 4000000) only [push_cast, Int.reduceEq, Int.reduceBNe, Int.reduceBEq, Int.reduceAdd, Int.reduceSub, Int.reduceMul, Int.reduceNeg, Int.reduceLT, Int.reduceLE, Int.reduceToNat, Nat.reduceLT, Nat.reduceAdd, Nat.reduceSub, Nat.reduceMul, Nat.reduceEqDiff, Nat.reduceLeDiff, Nat.reduceBEq, reduceIte, reduceCtorEq]
  have e0 : (data.drop 0).take data.length = data := by rw [List.drop_zero, List.take_length]
  try rw [e0]
  exact Fin.w [0, 1] (.ints .u8 .new data) (fileS p c data) (by simp (maxSteps := 4000000) only [push_cast, Int.reduceEq, Int.reduceBNe, Int.reduceBEq, Int.reduceAdd, Int.reduceSub, Int.reduceMul, Int.reduceNeg, Int.reduceLT, Int.reduceLE, Int.reduceToNat, Nat.reduceLT, Nat.reduceAdd, Nat.reduceSub, Nat.reduceMul, Nat.reduceEqDiff, Nat.reduceLeDiff, Nat.reduceBEq, reduceIte, reduceCtorEq, fileS]; try exact e0.symm) ⟨rfl, rfl⟩
/-- The entry at which a walk over a map of one entry stands. -/
theorem entry1_ok {P : Program} {Γ : Tab} (hΓ : Γ.ok P) {B : Ctx} {id : Nat} {o : Oper} {rest : List Oper} {it : Operand} {s : SS} {K : Ex → SS → Prop} (i n : Nat) (k v : SV)
    (ho : o.op = .entry it) (hg : o.guard = none) (hit : opd s it = .ptr i 0) (hc : ovc s true it) (hi : hfind s.hp i = some (1000001, [.mp n, .i .i64 1, .i .i64 0])) (hn : hfind s.hp n = some (1000000, [k, v]))
    (h : evOps P Γ (o :: rest) (K .normal) rest (s.put o.dst (.tup [k, v]))) : CodeOK P B (.region id (o :: rest).toArray false) s K := by
  intro E a w hb hf hw
  refine wpIn_region_lit ?_
  have hv := opd_den hf rfl hc
  rw [hit] at hv
  simp only [Den] at hv
  have hnd : ∀ c, o.op ≠ .defer c := by intro c hc; rw [ho] at hc; cases hc
  simp only [wpListIn]
  rw [if_pos (by unfold Region.wanted; rw [hg])]
  refine wpIn_of hnd not_letsOut ?_
  have fin : ∀ (E' : Env) (st' : SS) (a' : Act) (w' : World), E.Ext E' → Fr E' st' a' → Eng.Good E' st' w' → evOps P Γ (o :: rest) (K .normal) rest st' → wpListIn (wideR B.rd) 0 P (o :: rest).toArray (QK (B.base E) K) rest a' w' := fun E' st' a' w' h1 h2 h3 h4 =>
    evOps_soundIn (Q := QK (B.base E) K) hΓ not_letsOut rest E' st' a' w' h2 h3 h4 (fun E2 st2 a2 w2 k1 k2 k3 k4 => ⟨E2, st2, .normal, hb.base.trans (h1.trans k1.ext), k2, k3, trivial, k4⟩)
  obtain ⟨κ, ho2⟩ := hw.own
  obtain ⟨r, ci, hr, hri, hdi, -, -⟩ := ho2.hp _ _ _ hi
  obtain ⟨bm, cm, hbm, hrm, hdm, -, -⟩ := ho2.hp _ _ _ hn
  obtain ⟨cl, hcl⟩ : ∃ cl, ci.toList = cl := ⟨_, rfl⟩
  rw [objOf_iter, hcl] at hri
  rw [hcl] at hdi
  obtain ⟨v1, cl1, rfl, d1, hdi1⟩ := denL_cons hdi
  obtain ⟨v2, cl2, rfl, d2, hdi2⟩ := denL_cons hdi1
  obtain ⟨v3, cl3, rfl, d3, hdi3⟩ := denL_cons hdi2
  obtain rfl := denL_nil hdi3
  simp only [Den] at d1 d2 d3
  obtain ⟨b1, hb1, rfl⟩ := d1
  subst d2 d3
  rw [hbm] at hb1
  injection hb1 with hb1
  subst hb1
  rw [objOf_map] at hrm
  obtain ⟨cml, hcml⟩ : ∃ cml, cm.toList = cml := ⟨_, rfl⟩
  have hsz : cm.size = cml.length := by rw [← hcml]; simp
  rw [hsz, hcml] at hrm
  rw [hcml] at hdm
  obtain ⟨kv, cm1, rfl, m1, hm1⟩ := denL_cons hdm
  obtain ⟨vv, cm2, rfl, m2, hm2⟩ := denL_cons hm1
  obtain rfl := denL_nil hm2
  have hri' : w.heap[r]? = some (.mapIter (some bm) 1 #[0] 1) := hri
  have hrm' : w.heap[bm]? = some (.map #[⟨kv, vv, 0⟩] 1) := by rw [hrm]; simp [entsOf]
  obtain ⟨r', hr', hv⟩ : ∃ r', E.ρ i = some r' ∧ a.eval it = .pointer (some ⟨r', 0, none⟩) := by
    obtain ⟨b, hb, e⟩ := hv
    exact ⟨b, hb, by simpa using e⟩
  rw [hr] at hr'
  injection hr' with hr'
  subst hr'
  refine wp_value (v := .tuple #[kv, vv]) (w' := w) ?_ ?_
  · simp only [execOp, ho, hv]
    simp [Instr.entry, getObj, Sem.run_bind, Sem.run, hri', hrm']
  · exact fin E _ _ _ (Env.Ext.refl E) (hf.put o.dst (by simp only [Den]; exact ⟨_, rfl, by simp only [DenL]; exact ⟨m1, m2, trivial⟩⟩)) (hw.put _ _) h
def fEl (data : List Int) (i j : Nat) : SV := if j = 0 then .s (bs [102]) else .ints .u8 .new data
theorem fEl_V (data : List Int) (f : Nat → Nat) : ∀ i, i < 1 → ∀ j, j < 2 → W false f (fEl data i j) (fEl data i j) := by
  intro i hi j hj
  obtain rfl : i = 0 := by omega
  rcases (show j = 0 ∨ j = 1 by omega) with rfl | rfl
  · exact rfl
  · simp [fEl, W, TW]
theorem fEl_W (data : List Int) (f : Nat → Nat) : ∀ i, i < 1 → ∀ j, j < 2 → W false f (fEl data i j) (elOf [[.s (bs [102]), .ints .u8 .new data]] i j) := by
  intro i hi j hj
  obtain rfl : i = 0 := by omega
  rcases (show j = 0 ∨ j = 1 by omega) with rfl | rfl
  · exact rfl
  · simp [fEl, elOf, pickL, W, TW, lget]
theorem kernFiles_c (p : Option Addr) (c : Nat) (data : List Int) (F : List (Int × Int)) (flags at_ rc wc : Int) (hd : data.length ≤ 1048576) :
    Contract Tryz.prog 24 (kernS p c data F flags at_ rc wc) [.ptr 0 0] (fun sv post => sv = .sl 2 .new 1 (fEl data) ∧ post = kernS p c data F flags at_ rc wc) := by
  refine contract_ev Γok Tryz.func24 rfl rfl [6] ?_
  simp (maxSteps := 4000000) only [push_cast, Int.reduceEq, Int.reduceBNe, Int.reduceBEq, Int.reduceAdd, Int.reduceSub, Int.reduceMul, Int.reduceNeg, Int.reduceLT, Int.reduceLE, Int.reduceToNat, Nat.reduceLT, Nat.reduceAdd, Nat.reduceSub, Nat.reduceMul, Nat.reduceEqDiff, Nat.reduceLeDiff, Nat.reduceBEq, reduceIte, reduceCtorEq, Tryz.f24, kernS]
  refine call_w (kernNone_c p c data F flags at_ rc wc) [0, 1, 2, 3, 4, 5, 6, 7] (by simp (maxSteps := 4000000) only [push_cast, Int.reduceEq, Int.reduceBNe, Int.reduceBEq, Int.reduceAdd, Int.reduceSub, Int.reduceMul, Int.reduceNeg, Int.reduceLT, Int.reduceLE, Int.reduceToNat, Nat.reduceLT, Nat.reduceAdd, Nat.reduceSub, Nat.reduceMul, Nat.reduceEqDiff, Nat.reduceLeDiff, Nat.reduceBEq, reduceIte, reduceCtorEq, kernS]; exact fun i _ j _ => W_fault _ F i j) ?_
  rintro sv post ⟨rfl, rfl⟩
  simp (maxSteps := 4000000) only [push_cast, Int.reduceEq, Int.reduceBNe, Int.reduceBEq, Int.reduceAdd, Int.reduceSub, Int.reduceMul, Int.reduceNeg, Int.reduceLT, Int.reduceLE, Int.reduceToNat, Nat.reduceLT, Nat.reduceAdd, Nat.reduceSub, Nat.reduceMul, Nat.reduceEqDiff, Nat.reduceLeDiff, Nat.reduceBEq, reduceIte, reduceCtorEq, kernS, ren_faultF]
  refine loop_unroll 2 ?_
  simp (maxSteps := 4000000) only [push_cast, Int.reduceEq, Int.reduceBNe, Int.reduceBEq, Int.reduceAdd, Int.reduceSub, Int.reduceMul, Int.reduceNeg, Int.reduceLT, Int.reduceLE, Int.reduceToNat, Nat.reduceLT, Nat.reduceAdd, Nat.reduceSub, Nat.reduceMul, Nat.reduceEqDiff, Nat.reduceLeDiff, Nat.reduceBEq, reduceIte, reduceCtorEq]
  refine evCode_sound Γok _ _ _ ?_
  simp (maxSteps := 4000000) only [push_cast, Int.reduceEq, Int.reduceBNe, Int.reduceBEq, Int.reduceAdd, Int.reduceSub, Int.reduceMul, Int.reduceNeg, Int.reduceLT, Int.reduceLE, Int.reduceToNat, Nat.reduceLT, Nat.reduceAdd, Nat.reduceSub, Nat.reduceMul, Nat.reduceEqDiff, Nat.reduceLeDiff, Nat.reduceBEq, reduceIte, reduceCtorEq]
  refine entry1_ok Γok 8 1 (.s (bs [102])) (.ptr 5 0) rfl rfl rfl (by simp (maxSteps := 4000000) only [push_cast, Int.reduceEq, Int.reduceBNe, Int.reduceBEq, Int.reduceAdd, Int.reduceSub, Int.reduceMul, Int.reduceNeg, Int.reduceLT, Int.reduceLE, Int.reduceToNat, Nat.reduceLT, Nat.reduceAdd, Nat.reduceSub, Nat.reduceMul, Nat.reduceEqDiff, Nat.reduceLeDiff, Nat.reduceBEq, reduceIte, reduceCtorEq]) rfl rfl ?_
  simp (maxSteps := 4000000) only [push_cast, Int.reduceEq, Int.reduceBNe, Int.reduceBEq, Int.reduceAdd, Int.reduceSub, Int.reduceMul, Int.reduceNeg, Int.reduceLT, Int.reduceLE, Int.reduceToNat, Nat.reduceLT, Nat.reduceAdd, Nat.reduceSub, Nat.reduceMul, Nat.reduceEqDiff, Nat.reduceLeDiff, Nat.reduceBEq, reduceIte, reduceCtorEq]
  refine evCode_sound Γok _ _ _ ?_
  simp (maxSteps := 4000000) only [push_cast, Int.reduceEq, Int.reduceBNe, Int.reduceBEq, Int.reduceAdd, Int.reduceSub, Int.reduceMul, Int.reduceNeg, Int.reduceLT, Int.reduceLE, Int.reduceToNat, Nat.reduceLT, Nat.reduceAdd, Nat.reduceSub, Nat.reduceMul, Nat.reduceEqDiff, Nat.reduceLeDiff, Nat.reduceBEq, reduceIte, reduceCtorEq]
  refine call_w (sort1_c (elOf [[.s (bs [102])]]) ?hW) [] (by simp (maxSteps := 4000000) only [push_cast, Int.reduceEq, Int.reduceBNe, Int.reduceBEq, Int.reduceAdd, Int.reduceSub, Int.reduceMul, Int.reduceNeg, Int.reduceLT, Int.reduceLE, Int.reduceToNat, Nat.reduceLT, Nat.reduceAdd, Nat.reduceSub, Nat.reduceMul, Nat.reduceEqDiff, Nat.reduceLeDiff, Nat.reduceBEq, reduceIte, reduceCtorEq]; exact ?hW _) ?_
  case hW =>
    intro f i hi j hj
    obtain rfl : i = 0 := by omega
    obtain rfl : j = 0 := by omega
    exact rfl
  rintro sv post ⟨rfl, rfl⟩
  simp (maxSteps := 4000000) only [push_cast, Int.reduceEq, Int.reduceBNe, Int.reduceBEq, Int.reduceAdd, Int.reduceSub, Int.reduceMul, Int.reduceNeg, Int.reduceLT, Int.reduceLE, Int.reduceToNat, Nat.reduceLT, Nat.reduceAdd, Nat.reduceSub, Nat.reduceMul, Nat.reduceEqDiff, Nat.reduceLeDiff, Nat.reduceBEq, reduceIte, reduceCtorEq]
  have w1 : IntKind.i64.wrap 1 = 1 := rfl
  refine loop_unroll 2 ?_
  simp (maxSteps := 4000000) only [push_cast, Int.reduceEq, Int.reduceBNe, Int.reduceBEq, Int.reduceAdd, Int.reduceSub, Int.reduceMul, Int.reduceNeg, Int.reduceLT, Int.reduceLE, Int.reduceToNat, Nat.reduceLT, Nat.reduceAdd, Nat.reduceSub, Nat.reduceMul, Nat.reduceEqDiff, Nat.reduceLeDiff, Nat.reduceBEq, reduceIte, reduceCtorEq]
  refine evCode_sound Γok _ _ _ ?_
  simp (maxSteps := 4000000) only [push_cast, Int.reduceEq, Int.reduceBNe, Int.reduceBEq, Int.reduceAdd, Int.reduceSub, Int.reduceMul, Int.reduceNeg, Int.reduceLT, Int.reduceLE, Int.reduceToNat, Nat.reduceLT, Nat.reduceAdd, Nat.reduceSub, Nat.reduceMul, Nat.reduceEqDiff, Nat.reduceLeDiff, Nat.reduceBEq, reduceIte, reduceCtorEq]
  have ef : elOf [[SV.s (bs [102])]] 0 0 = .s (bs [102]) := rfl
  refine call_w (fileBytes_c p c data hd) [5, 6] (by simp (maxSteps := 4000000) only [push_cast, Int.reduceEq, Int.reduceBNe, Int.reduceBEq, Int.reduceAdd, Int.reduceSub, Int.reduceMul, Int.reduceNeg, Int.reduceLT, Int.reduceLE, Int.reduceToNat, Nat.reduceLT, Nat.reduceAdd, Nat.reduceSub, Nat.reduceMul, Nat.reduceEqDiff, Nat.reduceLeDiff, Nat.reduceBEq, reduceIte, reduceCtorEq, fileS]) ?_
  rintro sv post ⟨rfl, rfl⟩
  simp (maxSteps := 4000000) only [push_cast, Int.reduceEq, Int.reduceBNe, Int.reduceBEq, Int.reduceAdd, Int.reduceSub, Int.reduceMul, Int.reduceNeg, Int.reduceLT, Int.reduceLE, Int.reduceToNat, Nat.reduceLT, Nat.reduceAdd, Nat.reduceSub, Nat.reduceMul, Nat.reduceEqDiff, Nat.reduceLeDiff, Nat.reduceBEq, reduceIte, reduceCtorEq, fileS, w1, ren_faultF]
  refine evCode_sound Γok _ _ _ ?_
  simp (maxSteps := 4000000) only [push_cast, Int.reduceEq, Int.reduceBNe, Int.reduceBEq, Int.reduceAdd, Int.reduceSub, Int.reduceMul, Int.reduceNeg, Int.reduceLT, Int.reduceLE, Int.reduceToNat, Nat.reduceLT, Nat.reduceAdd, Nat.reduceSub, Nat.reduceMul, Nat.reduceEqDiff, Nat.reduceLeDiff, Nat.reduceBEq, reduceIte, reduceCtorEq, w1, ren_faultF]
  refine Fin.w [0, 1, 2, 3, 4, 5, 6, 7] (.sl 2 .new 1 (fEl data)) (kernS p c data F flags at_ rc wc) (by simp (maxSteps := 4000000) only [push_cast, Int.reduceEq, Int.reduceBNe, Int.reduceBEq, Int.reduceAdd, Int.reduceSub, Int.reduceMul, Int.reduceNeg, Int.reduceLT, Int.reduceLE, Int.reduceToNat, Nat.reduceLT, Nat.reduceAdd, Nat.reduceSub, Nat.reduceMul, Nat.reduceEqDiff, Nat.reduceLeDiff, Nat.reduceBEq, reduceIte, reduceCtorEq, kernS]; (and_intros; all_goals first | exact fun i _ j _ => W_fault _ F i j | exact fEl_W data _)) ⟨rfl, rfl⟩
theorem kernFilesR_c (b : Nat) (flags : Int) (s : KSt) (hs : KOk s) : Contract Tryz.prog 24 (preR (kernR b flags s)) [.raw (.pointer (some ⟨b, 0, none⟩))] (fun sv post => sv = .sl 2 .new 1 (fEl s.data) ∧ post = preR (kernR b flags s)) := by
  refine kern_fold b flags s s [] (by simp [NNL, NN, NNT]) (fun sv => sv = .sl 2 .new 1 (fEl s.data)) ?_ fun p c => ?_
  · rintro sv rfl
    refine ⟨?_, ?_⟩
    · simp (maxSteps := 4000000) only [push_cast, Int.reduceEq, Int.reduceBNe, Int.reduceBEq, Int.reduceAdd, Int.reduceSub, Int.reduceMul, Int.reduceNeg, Int.reduceLT, Int.reduceLE, Int.reduceToNat, Nat.reduceLT, Nat.reduceAdd, Nat.reduceSub, Nat.reduceMul, Nat.reduceEqDiff, Nat.reduceLeDiff, Nat.reduceBEq, reduceIte, reduceCtorEq]
      exact fEl_V s.data _
    · simp only [NN, NNT]
      refine ⟨trivial, fun i j => ?_⟩
      unfold fEl
      split <;> simp only [NN, NNT]
  · refine (kernFiles_c p c s.data s.F flags s.at_ s.rc s.wc hs.d).mono ?_
    rintro sv post ⟨rfl, rfl⟩
    exact ⟨rfl, p, c, rfl⟩
end Go.Proofs.YtlgpcngfcglanaaGreat
/- A kernel's file that is appended to takes all that is put, whatever faults there are. -/
namespace Go.Proofs.YtlgpcngfcglanaaGreat
open Go Go.Eng
set_option maxHeartbeats 4000000
set_option linter.unusedSimpArgs false
set_option linter.unusedVariables false
set_option maxRecDepth 100000

theorem wrote_end (data m : List Int) : wrote data data.length m = data ++ m := by
  unfold wrote
  rw [List.take_append_of_le_length (by omega), List.take_length, List.drop_of_length_le (by omega), List.append_nil]
theorem kernW_at (b : Nat) (s : KSt) (l : List Int) : (kernW b 7).wr s l = kWr 7 s l := by dsimp only [kernW]
theorem kern_putGo (b : Nat) : ∀ (f : Nat) (s : KSt) (rest : List Int) (p : Nat), KOk s → s.data.length + rest.length ≤ 1048576 → p + s.F.length < 8192 → rest.length + s.F.length < f →
    ∃ s', (kernW b 7).putGo f s rest p = (s', [], 0) ∧ KOk s' ∧ s'.data = s.data ++ rest ∧ (rest ≠ [] → s'.at_ = s'.data.length) ∧ (rest = [] → s' = s)
  | 0, s, rest, p, hs, hl, hp, hf => by omega
  | f + 1, s, rest, p, hs, hl, hp, hf => by
    by_cases hr : rest = []
    · subst hr
      exact ⟨s, (RawM.putGo.eq_2 (kernW b 7) s [] p f).trans (if_pos rfl), hs, by simp, fun h => absurd rfl h, fun _ => rfl⟩
    · have hpos := List.length_pos_iff.2 hr
      have hpl : kPlace 7 s.data s.at_ = s.data.length := by unfold kPlace; rw [if_pos rfl]
      have hk2 := kWr_ok (flags := 7) hs hr (by omega)
      by_cases he : (nextF s.F rest.length).2.1 = 0
      · have hk := nextF_le hs.f (n := rest.length) (by omega) he
        obtain ⟨m, hm⟩ : ∃ m : Nat, kMost 7 s rest.length = m := ⟨(kMost 7 s rest.length).toNat, by unfold kMost minI; rw [hpl]; split <;> (try split) <;> omega⟩
        have hm2 : 1 ≤ m ∧ m ≤ rest.length := by
          unfold kMost minI at hm
          rw [hpl] at hm
          split at hm <;> (try split at hm) <;> omega
        have e : kWr 7 s rest = ((⟨s.data ++ rest.take m, s.data.length + m, (nextF s.F rest.length).2.2, s.rc, w64 (s.wc + 1)⟩ : KSt), (m : Int), (0 : Int)) := by
          unfold kWr
          rw [hpl, if_neg (by omega), if_neg (by omega), hm, Int.toNat_natCast, Int.toNat_natCast, wrote_end]
        have e' : (kernW b 7).wr s rest = ((⟨s.data ++ rest.take m, s.data.length + m, (nextF s.F rest.length).2.2, s.rc, w64 (s.wc + 1)⟩ : KSt), (m : Int), (0 : Int)) := (kernW_at b s rest).trans e
        rw [e] at hk2
        have hF := nextF_len s.F rest.length
        obtain ⟨s', i1, i2, i3, i4, i5⟩ := kern_putGo b f ⟨s.data ++ rest.take m, s.data.length + m, (nextF s.F rest.length).2.2, s.rc, w64 (s.wc + 1)⟩ (rest.drop m) 0 hk2
          (by simp only [List.length_append, List.length_take, List.length_drop]; omega) (by have := hs.fl; dsimp only; omega) (by simp only [List.length_drop]; omega)
        refine ⟨s', ?_, i2, ?_, fun _ => ?_, fun h => absurd h hr⟩
        · refine (RawM.putGo.eq_2 (kernW b 7) s rest p f).trans ?_
          rw [if_neg hr, e']
          dsimp only
          rw [if_neg (by omega), if_neg (by simp), if_neg (by omega), Int.toNat_natCast]
          exact i1
        · rw [i3]
          simp only [List.append_assoc, List.take_append_drop]
        · by_cases hd : rest.drop m = []
          · have hs' := i5 hd
            rw [hs']
            simp only [List.length_append, List.length_take]
            omega
          · exact i4 hd
      · obtain ⟨e1, e2⟩ := nextF_err rest.length he
        have e : kWr 7 s rest = ((⟨s.data, s.at_, (nextF s.F rest.length).2.2, s.rc, w64 (s.wc + 1)⟩ : KSt), (0 : Int), (nextF s.F rest.length).2.1) := by
          unfold kWr
          rw [hpl, if_neg (by omega), if_pos he]
        have e' : (kernW b 7).wr s rest = ((⟨s.data, s.at_, (nextF s.F rest.length).2.2, s.rc, w64 (s.wc + 1)⟩ : KSt), (0 : Int), (nextF s.F rest.length).2.1) := (kernW_at b s rest).trans e
        rw [e] at hk2
        obtain ⟨s', i1, i2, i3, i4, i5⟩ := kern_putGo b f ⟨s.data, s.at_, (nextF s.F rest.length).2.2, s.rc, w64 (s.wc + 1)⟩ rest (p + 1) hk2 hl (by dsimp only; omega) (by dsimp only; omega)
        refine ⟨s', ?_, i2, i3, i4, fun h => absurd h hr⟩
        refine (RawM.putGo.eq_2 (kernW b 7) s rest p f).trans ?_
        rw [if_neg hr, e']
        dsimp only
        rw [if_pos (by rcases e1 with e1 | e1 <;> simp [e1]), if_neg (by omega)]
        exact i1
theorem kern_putV (b : Nat) (s : KSt) (l : List Int) (hs : KOk s) (hl : s.data.length + l.length ≤ 1048576) :
    ∃ s', putV (kernW b 7) s l = (s', [], 0) ∧ KOk s' ∧ s'.data = s.data ++ l ∧ (l ≠ [] → s'.at_ = s'.data.length) ∧ (l = [] → s' = s) := by
  have hf := hs.fl
  unfold putV
  generalize hn : 8193 * (l.length + 1) = n
  exact kern_putGo b n s l 0 hs hl (by omega) (by omega)

/-- A stream that appends: what is there and what is held is what was wanted. -/
structure AW (x : St) (s : KSt) (want : List Int) : Prop where
  may : x.May
  r : x.r = true
  w : x.w = true
  cl : x.cl = false
  d : x.d ≠ 1
  iz : x.i = []
  kz : x.k = []
  ok : KOk s
  all : s.data ++ x.o = want
  len : want.length ≤ 100000
def AQ (x : St) (s : KSt) : Prop := x.o = [] → s.at_ = s.data.length
theorem AW.bErr {x : St} {s : KSt} {want : List Int} (h : AW x s want) : x.bErr = 0 := by
  unfold St.bErr; rw [if_pos h.may, if_neg (by simp [h.cl])]
theorem AW.fits {x : St} {s : KSt} {want : List Int} (h : AW x s want) : x.fits := by
  obtain ⟨b1, b2, b3, b4⟩ := May.bd h.may
  exact ⟨by omega, by omega, by omega⟩
theorem AW.ol {x : St} {s : KSt} {want : List Int} (h : AW x s want) : x.o.length ≤ 65536 := (May.bd h.may).2.1
theorem AW.room {x : St} {s : KSt} {want : List Int} (h : AW x s want) : s.data.length + x.o.length ≤ 100000 := by
  have := h.all
  have h2 := h.len
  rw [← this, List.length_append] at h2
  exact h2
theorem aw_deliver (b : Nat) {x : St} {s : KSt} {want : List Int} (h : AW x s want) (hd : x.d = 2) : ∃ s', x.deliver (kernW b 7) s = ({ x with o := [] }, s', 0) ∧ AW { x with o := [] } s' want ∧ (AQ x s → s'.at_ = s'.data.length) ∧ (x.o ≠ [] → s'.at_ = s'.data.length) := by
  have hr := h.room
  obtain ⟨s', i1, i2, i3, i4, i5⟩ := kern_putV b s x.o h.ok (by omega)
  refine ⟨s', ?_, ?_, ?_, fun h0 => i4 h0⟩
  · unfold St.deliver
    rw [i1]
    simp [St.noted]
  · obtain ⟨m1, m2, m3, m4, m5, m6, m7⟩ := h.may
    have := may_zero' m1
    refine ⟨⟨m1, by simp; omega, .inr rfl, m4, m5, .inl h.cl, .inr (.inr ⟨hd, h.w, by simp [h.iz], by simp [h.kz]⟩)⟩, h.r, h.w, h.cl, h.d, h.iz, h.kz, i2, ?_, h.len⟩
    rw [i3, ← h.all, List.append_nil]
  · intro hq
    by_cases h0 : x.o = []
    · rw [i5 h0]; exact hq h0
    · exact i4 h0
theorem AW.dd {x : St} {s : KSt} {want : List Int} (h : AW x s want) (ho : x.o ≠ []) : x.d = 2 := by
  obtain ⟨m1, m2, m3, m4, m5, m6, m7⟩ := h.may
  have := List.length_pos_iff.2 ho
  rcases m7 with m7 | m7 | m7
  · omega
  · omega
  · exact m7.1
theorem aw_settled (b : Nat) {x : St} {s : KSt} {want : List Int} (h : AW x s want) : ∃ s', x.settled (kernW b 7) s false = ({ x with o := [] }, s', 0) ∧ AW { x with o := [] } s' want ∧ (AQ x s → s'.at_ = s'.data.length) := by
  have hb := h.bErr
  by_cases ho : x.o = []
  · have e : ({ x with o := [] } : St) = x := by rw [← ho]
    rw [e]
    refine ⟨s, ?_, h, fun hq => hq ho⟩
    unfold St.settled
    rw [if_neg (by rw [hb]; simp), if_neg (by simp), if_pos (by rw [ho]; rfl)]
  · have hd := h.dd ho
    obtain ⟨s', i1, i2, i3, i4⟩ := aw_deliver b h hd
    refine ⟨s', ?_, i2, i3⟩
    have hpos := List.length_pos_iff.2 ho
    unfold St.settled St.Flush
    rw [if_neg (by rw [hb]; simp), if_neg (by simp), if_neg (by omega), if_neg (by rw [hb]; simp), if_pos hd, i1]
    dsimp only
    rw [if_pos rfl]
    try simp [hd]
theorem kSk_here {s : KSt} (hs : KOk s) : kSk s 0 1 = (s, s.at_, 0) := by
  unfold kSk
  rw [gK_here s.data s.at_ hs.a0 hs.a1]
theorem aw_tell (b : Nat) {x : St} {s : KSt} {want : List Int} (h : AW x s want) : ∃ x' s' n, x.Tell (kernW b 7) s = (x', s', n, 0) ∧ AW x' s' want ∧ (AQ x s → n = want.length) ∧ x'.o = [] := by
  obtain ⟨s', i1, i2, i3⟩ := aw_settled b h
  have a0 := i2.ok.a0
  have a1 := i2.ok.a1
  refine ⟨{ x with o := [] }, s', s'.at_, ?_, i2, fun hq => ?_, rfl⟩
  · have e : (kernW b 7).sk s' 0 1 = (s', s'.at_, 0) := kSk_here i2.ok
    have e2 : ({ x with o := [] } : St).here (kernW b 7) s' = (s', s'.at_, 0) := by
      unfold St.here
      rw [e]
      dsimp only
      rw [if_neg (by simp), h.iz, h.kz]
      simp only [List.length_nil, Int.natCast_zero, Int.sub_zero]
      have hw : IntKind.i64.wrap s'.at_ = s'.at_ := wrap64 (by omega) (by omega)
      rw [hw, hw]
      try rfl
    have hp0 : ¬ (s'.at_ < 0) := by omega
    unfold St.Tell
    rw [i1]
    dsimp only
    rw [e2]
    dsimp only
    simp [hp0]
    try rfl
  · rw [i3 hq]
    have := i2.all
    rw [← this, List.append_nil]
theorem aw_seek (b : Nat) {x : St} {s : KSt} {want : List Int} (h : AW x s want) (off : Int) : ∃ x' s' n e, x.Seek (kernW b 7) s off 0 = (x', s', n, e) ∧ AW x' s' want := by
  obtain ⟨s', i1, i2, i3⟩ := aw_settled b h
  have hk : AW { x with o := [] } (kSk s' off 0).1 want := ⟨i2.may, i2.r, i2.w, i2.cl, i2.d, i2.iz, i2.kz, kSk_ok i2.ok off 0, i2.all, i2.len⟩
  have e0 : x.settled (kernW b 7) s (decide ((0 : Int) < 0) || decide ((2 : Int) < 0)) = ({ x with o := [] }, s', 0) := i1
  have e1 : x.Seek (kernW b 7) s off 0 = ({ x with o := [] } : St).sought (kernW b 7) (kSk s' off 0) := by
    unfold St.Seek
    rw [e0]
    dsimp only
    rw [if_neg (by simp), if_neg (by omega)]
    rfl
  rw [e1]
  unfold St.sought
  split
  · exact ⟨_, _, _, _, rfl, hk⟩
  · refine ⟨_, _, _, _, rfl, ?_⟩
    obtain ⟨m1, m2, m3, m4, m5, m6, m7⟩ := h.may
    have := may_zero' m1
    exact ⟨⟨m1, by simp; omega, .inr rfl, by simp, by simp, .inl h.cl, .inl ⟨rfl, rfl, rfl, rfl⟩⟩, h.r, h.w, h.cl, by simp, rfl, rfl, hk.ok, hk.all, hk.len⟩
theorem aw_put (b : Nat) {x : St} {s : KSt} {want : List Int} (h : AW x s want) (c : Int) (hl : want.length < 100000) : ∃ x' s', x.Put (kernW b 7) s c = (x', s', 0) ∧ AW x' s' (want ++ [c]) ∧ AQ x' s' := by
  have hb := h.bErr
  have hwe : x.wErr = 0 := by
    unfold St.wErr
    rw [if_neg (by simp [h.w]), if_neg (by intro h0; exact h.d h0.1)]
  obtain ⟨m1, m2, m3, m4, m5, m6, m7⟩ := h.may
  have hms := may_zero' m1
  have hroom := h.room
  have hall := h.all
  unfold St.Put St.put
  rw [if_neg (by rw [hb]; simp), if_neg (by rw [hwe]; simp)]
  have h2 : AW { x with d := 2 } s want := by
    exact ⟨⟨m1, m2, m3, m4, m5, .inl h.cl, .inr (.inr ⟨rfl, h.w, by simp [h.iz], by simp [h.kz]⟩)⟩, h.r, h.w, h.cl, by simp, h.iz, h.kz, h.ok, h.all, h.len⟩
  -- a byte more is held
  have held : ∀ (y : St) (t : KSt), AW y t want → y.d = 2 → ¬ y.m = 1 → (y.o.length : Int) < y.s → ∃ x' s', ({ y with o := y.o ++ [c] } : St).put1 (kernW b 7) t c = (x', s', 0) ∧ AW x' s' (want ++ [c]) ∧ AQ x' s' := by
    intro y t hy hyd hym hyo
    obtain ⟨n1, n2, n3, n4, n5, n6, n7⟩ := hy.may
    have h3 : AW { y with o := y.o ++ [c] } t (want ++ [c]) := by
      refine ⟨⟨n1, by simp only [List.length_append, List.length_cons, List.length_nil]; omega, .inl hym, n4, n5, .inl hy.cl, .inr (.inr ⟨hyd, hy.w, by simp [hy.iz], by simp [hy.kz]⟩)⟩, hy.r, hy.w, hy.cl, hy.d, hy.iz, hy.kz, hy.ok, ?_, ?_⟩
      · rw [← hy.all, List.append_assoc]
      · rw [List.length_append]; simp; omega
    unfold St.put1
    split
    · obtain ⟨s', i1, i2, i3, i4⟩ := aw_deliver b h3 hyd
      exact ⟨_, s', i1, i2, fun _ => i4 (by simp)⟩
    · exact ⟨_, _, rfl, h3, fun h0 => by simp at h0⟩
  split
  · rename_i hm
    have ho : x.o = [] := by
      rcases m3 with m3 | m3
      · exact absurd hm m3
      · exact List.length_eq_zero_iff.1 m3
    obtain ⟨s', i1, i2, i3, i4, i5⟩ := kern_putV b s [c] h.ok (by simp; omega)
    rw [i1]
    refine ⟨{ x with d := 2 }, s', by simp [St.noted], ⟨h2.may, h.r, h.w, h.cl, by simp, h.iz, h.kz, i2, ?_, by rw [List.length_append]; simp; omega⟩, fun _ => i4 (by simp)⟩
    show s'.data ++ x.o = _
    rw [i3, ← hall, ho]
    simp
  · rename_i hm
    split
    · rename_i hf
      obtain ⟨s', i1, i2, i3, i4⟩ := aw_deliver b h2 rfl
      dsimp only
      rw [i1]
      dsimp only
      rw [if_neg (by simp)]
      exact held { x with d := 2, o := [] } s' i2 rfl hm (by simp; omega)
    · rename_i hf
      exact held { x with d := 2 } s h2 rfl hm (by dsimp only; omega)
theorem new_aw {F : List (Int × Int)} {text : List Int} {m s : Int} (h : mayV m s = 0) (hk : KOk ⟨text, 0, F, 0, 0⟩) (hl : text.length ≤ 5000) : AW (newSt true true m s) ⟨text, 0, F, 0, 0⟩ text := by
  have e := newSt_ok true true h
  exact ⟨newSt_may true true h, by rw [e], by rw [e], by rw [e], by rw [e]; simp, by rw [e], by rw [e], hk, by rw [e]; simp, by omega⟩
end Go.Proofs.YtlgpcngfcglanaaGreat
