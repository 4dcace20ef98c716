/- Texts joined, in order: Ui, Uj, Uk, Ul. -/
import Derived.Test.YtciokebdmnaobaaDoorZShUo
/- The page's patterns: a directive is read. -/
namespace Go.Proofs.YtciokebdmnaobaaDoor
open Go Go.Eng
set_option maxHeartbeats 4000000
set_option linter.unusedSimpArgs false
set_option linter.unusedVariables false
set_option maxRecDepth 100000

theorem digit17_c (c : UInt8) : Contract Tryd.prog 68 nilSS [.i .u8 (c.toNat : Int)] (fun sv post => sv = .b (isDig c) ∧ post = nilSS) := by
  refine contract_ev Γok Tryd.func68 rfl rfl [] ?_
  simp (maxSteps := 4000000) only [push_cast, Int.reduceEq, Int.reduceBNe, Int.reduceBEq, Int.reduceAdd, Int.reduceSub, Int.reduceMul, Int.reduceNeg, Int.reduceLT, Int.reduceLE, Int.reduceToNat, Nat.reduceLT, Nat.reduceAdd, Nat.reduceSub, Nat.reduceMul, Nat.reduceEqDiff, Nat.reduceLeDiff, Nat.reduceBEq, reduceIte, reduceCtorEq, Tryd.f68]
  refine Fin.nil rfl (psv := .b (isDig c)) ?_ ⟨rfl, rfl⟩
  simp (maxSteps := 4000000) only [push_cast, Int.reduceEq, Int.reduceBNe, Int.reduceBEq, Int.reduceAdd, Int.reduceSub, Int.reduceMul, Int.reduceNeg, Int.reduceLT, Int.reduceLE, Int.reduceToNat, Nat.reduceLT, Nat.reduceAdd, Nat.reduceSub, Nat.reduceMul, Nat.reduceEqDiff, Nat.reduceLeDiff, Nat.reduceBEq, reduceIte, reduceCtorEq]
  unfold isDig
  by_cases h : 48 ≤ c.toNat <;> by_cases h2 : c.toNat ≤ 57 <;> simp [h, h2] <;> omega

theorem number17_c (l : List UInt8) (at_ : Nat) (hl : l.length ≤ 100000) (hat : at_ ≤ 200000) : Contract Tryd.prog 50 nilSS [.s (bs l), .i .i64 at_] (fun sv post => sv = .tup [.i .i64 (valP (digsP 4 (l.drop at_))), .i .i64 (digsP 4 (l.drop at_)).length] ∧ post = nilSS) := by
  refine contract_ev Γok Tryd.func50 rfl rfl [] ?_
  simp (maxSteps := 4000000) only [push_cast, Int.reduceEq, Int.reduceBNe, Int.reduceBEq, Int.reduceAdd, Int.reduceSub, Int.reduceMul, Int.reduceNeg, Int.reduceLT, Int.reduceLE, Int.reduceToNat, Nat.reduceLT, Nat.reduceAdd, Nat.reduceSub, Nat.reduceMul, Nat.reduceEqDiff, Nat.reduceLeDiff, Nat.reduceBEq, reduceIte, reduceCtorEq, Tryd.f50]
  generalize hr : l.drop at_ = r
  have hrl : r.length = l.length - at_ := by rw [← hr]; simp
  refine loop_ok (ι := {n : Nat // n ≤ 4 ∧ n ≤ r.length ∧ digsP 4 r = r.take n ++ digsP (4 - n) (r.drop n)}) (fun n => ⟨[.s (bs l), .i .i64 at_, .any, .any, .any, .any, .i .i64 (valP (r.take n.1)), .i .i64 n.1] ++ List.replicate 32 .any, [], [], [], 0, 0, []⟩) (fun n => 4 - n.1) ⟨0, by omega, by omega, by simp⟩ ?_ ?_
  · exact Sub.w [] (by simp (maxSteps := 4000000) only [push_cast, Int.reduceEq, Int.reduceBNe, Int.reduceBEq, Int.reduceAdd, Int.reduceSub, Int.reduceMul, Int.reduceNeg, Int.reduceLT, Int.reduceLE, Int.reduceToNat, Nat.reduceLT, Nat.reduceAdd, Nat.reduceSub, Nat.reduceMul, Nat.reduceEqDiff, Nat.reduceLeDiff, Nat.reduceBEq, reduceIte, reduceCtorEq]; rfl)
  rintro ⟨n, h1, h2, h3⟩
  have hbyte : n < r.length → (l[at_ + n]?).getD 0 = (r[n]?).getD 0 := fun h => by rw [← hr, List.getElem?_drop]
  refine evCode_sound Γok _ _ _ ?_
  simp (maxSteps := 4000000) only [push_cast, Int.reduceEq, Int.reduceBNe, Int.reduceBEq, Int.reduceAdd, Int.reduceSub, Int.reduceMul, Int.reduceNeg, Int.reduceLT, Int.reduceLE, Int.reduceToNat, Nat.reduceLT, Nat.reduceAdd, Nat.reduceSub, Nat.reduceMul, Nat.reduceEqDiff, Nat.reduceLeDiff, Nat.reduceBEq, reduceIte, reduceCtorEq, bs_size, bs_at]
  rw [wrap64 (n := (at_ : Int) + n) (by omega) (by omega), show ((at_ : Int) + n).toNat = at_ + n by omega]
  refine ⟨fun h => by omega, fun h => ⟨h, call_w (digit17_c ((l[at_ + n]?).getD 0)) [] (by simp (maxSteps := 4000000) only [push_cast, Int.reduceEq, Int.reduceBNe, Int.reduceBEq, Int.reduceAdd, Int.reduceSub, Int.reduceMul, Int.reduceNeg, Int.reduceLT, Int.reduceLE, Int.reduceToNat, Nat.reduceLT, Nat.reduceAdd, Nat.reduceSub, Nat.reduceMul, Nat.reduceEqDiff, Nat.reduceLeDiff, Nat.reduceBEq, reduceIte, reduceCtorEq]) ?_⟩, fun h => ⟨fun h4 => by omega, fun h4 => h4.2.elim, ?_⟩⟩
  · rintro sv post ⟨rfl, rfl⟩
    have hn : n < r.length := by omega
    rw [hbyte hn]
    generalize hc : (r[n]?).getD 0 = c
    simp (maxSteps := 4000000) only [push_cast, Int.reduceEq, Int.reduceBNe, Int.reduceBEq, Int.reduceAdd, Int.reduceSub, Int.reduceMul, Int.reduceNeg, Int.reduceLT, Int.reduceLE, Int.reduceToNat, Nat.reduceLT, Nat.reduceAdd, Nat.reduceSub, Nat.reduceMul, Nat.reduceEqDiff, Nat.reduceLeDiff, Nat.reduceBEq, reduceIte, reduceCtorEq, bs_size, bs_at]
    rw [wrap64 (n := (at_ : Int) + n) (by omega) (by omega), show ((at_ : Int) + n).toNat = at_ + n by omega, hbyte hn, hc]
    refine ⟨fun h5 => ?_, fun h5 => ?_⟩
    · have hd := h5.2
      have hd' := hd
      simp only [isDig, Bool.and_eq_true, decide_eq_true_eq] at hd'
      have hv := valP_lt n (r.take n) (by simp; omega) (fun x hx => by
        have hh := digsP_dig 4 r x (by rw [h3]; exact List.mem_append_left _ hx)
        exact hh)
      have hp : 10 ^ n ≤ 10 ^ 3 := Nat.pow_le_pow_right (by omega) (by omega)
      have e : valP (r.take (n + 1)) = 10 * valP (r.take n) + (c.toNat - 48) := by
        rw [← List.take_append_getElem hn, valP_app]
        rw [getD_lt hn] at hc
        rw [hc]
      refine ⟨by omega, ⟨n + 1, by omega, by omega, digs_next (by omega) (by omega) (by rw [hc]; exact hd) h3⟩, by simp only; omega, Sub.w [] ?_⟩
      simp (maxSteps := 4000000) only [push_cast, Int.reduceEq, Int.reduceBNe, Int.reduceBEq, Int.reduceAdd, Int.reduceSub, Int.reduceMul, Int.reduceNeg, Int.reduceLT, Int.reduceLE, Int.reduceToNat, Nat.reduceLT, Nat.reduceAdd, Nat.reduceSub, Nat.reduceMul, Nat.reduceEqDiff, Nat.reduceLeDiff, Nat.reduceBEq, reduceIte, reduceCtorEq]
      rw [e]
      have e1 : IntKind.u8.wrap ((c.toNat : Int) - 48) = c.toNat - 48 := by rw [IntKind.wrap_u8]; omega
      have e2 : IntKind.i64.wrap ((c.toNat : Int) - 48) = c.toNat - 48 := wrap64 (n := (c.toNat : Int) - 48) (by omega) (by omega)
      have e3 : IntKind.i64.wrap ((valP (r.take n) : Int) * 10) = (valP (r.take n) : Int) * 10 := wrap64 (n := (valP (r.take n) : Int) * 10) (by omega) (by omega)
      rw [e1, e2, e3, wrap64 (n := (valP (r.take n) : Int) * 10 + ((c.toNat : Int) - 48)) (by omega) (by omega), wrap64 (n := (n : Int) + 1) (by omega) (by omega)]
      omega
    · have e := digs_stop (m := 4) (n := n) (l := r) (by
        rcases h5 with h5 | h5
        · omega
        · exact .inr (.inr (by rw [hc]; exact h5))) h3
      have el : (digsP 4 r).length = n := by rw [e]; simp; omega
      rw [el]
      rw [← e]
      exact Fin.nil rfl (psv := .tup [.i .i64 _, .i .i64 n]) (by simp (maxSteps := 4000000) only [push_cast, Int.reduceEq, Int.reduceBNe, Int.reduceBEq, Int.reduceAdd, Int.reduceSub, Int.reduceMul, Int.reduceNeg, Int.reduceLT, Int.reduceLE, Int.reduceToNat, Nat.reduceLT, Nat.reduceAdd, Nat.reduceSub, Nat.reduceMul, Nat.reduceEqDiff, Nat.reduceLeDiff, Nat.reduceBEq, reduceIte, reduceCtorEq]) ⟨rfl, rfl⟩
  · have e := digs_stop (m := 4) (n := n) (l := r) (by omega) h3
    have el : (digsP 4 r).length = n := by rw [e]; simp; omega
    rw [el]
    rw [← e]
    exact Fin.nil rfl (psv := .tup [.i .i64 _, .i .i64 n]) (by simp (maxSteps := 4000000) only [push_cast, Int.reduceEq, Int.reduceBNe, Int.reduceBEq, Int.reduceAdd, Int.reduceSub, Int.reduceMul, Int.reduceNeg, Int.reduceLT, Int.reduceLE, Int.reduceToNat, Nat.reduceLT, Nat.reduceAdd, Nat.reduceSub, Nat.reduceMul, Nat.reduceEqDiff, Nat.reduceLeDiff, Nat.reduceBEq, reduceIte, reduceCtorEq]) ⟨rfl, rfl⟩

theorem verb17_c (c : UInt8) : Contract Tryd.prog 51 nilSS [.i .u8 (c.toNat : Int)] (fun sv post => sv = .b (verbSet.contains c) ∧ post = nilSS) := by
  refine contract_ev Γok Tryd.func51 rfl rfl [] ?_
  simp (maxSteps := 4000000) only [push_cast, Int.reduceEq, Int.reduceBNe, Int.reduceBEq, Int.reduceAdd, Int.reduceSub, Int.reduceMul, Int.reduceNeg, Int.reduceLT, Int.reduceLE, Int.reduceToNat, Nat.reduceLT, Nat.reduceAdd, Nat.reduceSub, Nat.reduceMul, Nat.reduceEqDiff, Nat.reduceLeDiff, Nat.reduceBEq, reduceIte, reduceCtorEq, Tryd.f51]
  refine loop_ok (ι := {n : Nat // n ≤ 7 ∧ (verbSet.take n).contains c = false}) (fun n => ⟨[.i .u8 (c.toNat : Int), .any, .any, .i .i64 n.1] ++ List.replicate 8 .any, [], [], [], 0, 0, []⟩) (fun n => 7 - n.1) ⟨0, by omega, by simp⟩ ?_ ?_
  · exact Sub.w [] (by simp (maxSteps := 4000000) only [push_cast, Int.reduceEq, Int.reduceBNe, Int.reduceBEq, Int.reduceAdd, Int.reduceSub, Int.reduceMul, Int.reduceNeg, Int.reduceLT, Int.reduceLE, Int.reduceToNat, Nat.reduceLT, Nat.reduceAdd, Nat.reduceSub, Nat.reduceMul, Nat.reduceEqDiff, Nat.reduceLeDiff, Nat.reduceBEq, reduceIte, reduceCtorEq])
  rintro ⟨n, h1, h2⟩
  refine evCode_sound Γok _ _ _ ?_
  simp (maxSteps := 4000000) only [push_cast, Int.reduceEq, Int.reduceBNe, Int.reduceBEq, Int.reduceAdd, Int.reduceSub, Int.reduceMul, Int.reduceNeg, Int.reduceLT, Int.reduceLE, Int.reduceToNat, Nat.reduceLT, Nat.reduceAdd, Nat.reduceSub, Nat.reduceMul, Nat.reduceEqDiff, Nat.reduceLeDiff, Nat.reduceBEq, reduceIte, reduceCtorEq, mk_bs, bs_size, bs_at, Int.toNat_natCast]
  rw [show ([100, 117, 120, 88, 111, 99, 115] : List UInt8) = verbSet from rfl]
  have hlen : verbSet.length = 7 := rfl
  refine ⟨fun h => ⟨by omega, fun h3 => ?_, fun h3 => ?_⟩, fun h => ?_⟩
  · have hn : n < verbSet.length := by omega
    rw [u8i, getD_lt hn] at h3
    have : verbSet.contains c = true := by rw [List.contains_iff_mem, ← h3]; exact List.getElem_mem hn
    rw [this]
    exact Fin.nil rfl (psv := .b true) (by simp (maxSteps := 4000000) only [push_cast, Int.reduceEq, Int.reduceBNe, Int.reduceBEq, Int.reduceAdd, Int.reduceSub, Int.reduceMul, Int.reduceNeg, Int.reduceLT, Int.reduceLE, Int.reduceToNat, Nat.reduceLT, Nat.reduceAdd, Nat.reduceSub, Nat.reduceMul, Nat.reduceEqDiff, Nat.reduceLeDiff, Nat.reduceBEq, reduceIte, reduceCtorEq]) ⟨rfl, rfl⟩
  · have hn : n < verbSet.length := by omega
    rw [u8i, getD_lt hn] at h3
    refine ⟨⟨n + 1, by omega, ?_⟩, by simp only; omega, Sub.w [] ?_⟩
    · rw [← List.take_append_getElem hn]
      have h4 : c ∉ verbSet.take n := by rw [← List.contains_iff_mem, h2]; simp
      have : c ∉ verbSet.take n ++ [verbSet[n]] := by
        rw [List.mem_append, List.mem_singleton]
        rintro (h | h)
        · exact h4 h
        · exact h3 h.symm
      rw [← Bool.not_eq_true, List.contains_iff_mem]
      exact this
    · simp (maxSteps := 4000000) only [push_cast, Int.reduceEq, Int.reduceBNe, Int.reduceBEq, Int.reduceAdd, Int.reduceSub, Int.reduceMul, Int.reduceNeg, Int.reduceLT, Int.reduceLE, Int.reduceToNat, Nat.reduceLT, Nat.reduceAdd, Nat.reduceSub, Nat.reduceMul, Nat.reduceEqDiff, Nat.reduceLeDiff, Nat.reduceBEq, reduceIte, reduceCtorEq]
      exact (wrap64 (n := (n : Int) + 1) (by omega) (by omega)).symm
  · have : verbSet.contains c = false := by rw [show n = 7 by omega] at h2; exact h2
    rw [this]
    exact Fin.nil rfl (psv := .b false) (by simp (maxSteps := 4000000) only [push_cast, Int.reduceEq, Int.reduceBNe, Int.reduceBEq, Int.reduceAdd, Int.reduceSub, Int.reduceMul, Int.reduceNeg, Int.reduceLT, Int.reduceLE, Int.reduceToNat, Nat.reduceLT, Nat.reduceAdd, Nat.reduceSub, Nat.reduceMul, Nat.reduceEqDiff, Nat.reduceLeDiff, Nat.reduceBEq, reduceIte, reduceCtorEq]) ⟨rfl, rfl⟩

theorem kind17_c (c : UInt8) : Contract Tryd.prog 36 nilSS [.i .u8 (c.toNat : Int)] (fun sv post => sv = .i .i64 (wantsP c) ∧ post = nilSS) := by
  refine contract_ev Γok Tryd.func36 rfl rfl [] ?_
  simp (maxSteps := 4000000) only [push_cast, Int.reduceEq, Int.reduceBNe, Int.reduceBEq, Int.reduceAdd, Int.reduceSub, Int.reduceMul, Int.reduceNeg, Int.reduceLT, Int.reduceLE, Int.reduceToNat, Nat.reduceLT, Nat.reduceAdd, Nat.reduceSub, Nat.reduceMul, Nat.reduceEqDiff, Nat.reduceLeDiff, Nat.reduceBEq, reduceIte, reduceCtorEq, Tryd.f36, v100, v99, v115]
  refine ⟨fun h => ?_, fun h => ⟨fun h1 => ?_, fun h1 => ⟨fun h2 => ?_, fun h2 => ?_⟩⟩⟩
  all_goals
    refine Fin.nil rfl (psv := .i .i64 _) (by simp (maxSteps := 4000000) only [push_cast, Int.reduceEq, Int.reduceBNe, Int.reduceBEq, Int.reduceAdd, Int.reduceSub, Int.reduceMul, Int.reduceNeg, Int.reduceLT, Int.reduceLE, Int.reduceToNat, Nat.reduceLT, Nat.reduceAdd, Nat.reduceSub, Nat.reduceMul, Nat.reduceEqDiff, Nat.reduceLeDiff, Nat.reduceBEq, reduceIte, reduceCtorEq]; rfl) ⟨?_, rfl⟩
    simp [wantsP, *]

def rC (acc : List UInt8) (w p v e : Int) : List SV := [.b (acc.contains 45), .b (acc.contains 43), .b (acc.contains 48), .b (acc.contains 32), .i .i64 w, .i .i64 p, .i .u8 v, .i .i64 e]
def rS (acc : List UInt8) (w p v e : Int) : SS := ⟨[], [(0, 69, rC acc w p v e)], [], [], 1, 1, []⟩
theorem v43 (v : UInt8) : ((v.toNat : Int) = 43) = (v = 43) := propext (u8i v 43)
theorem v48 (v : UInt8) : ((v.toNat : Int) = 48) = (v = 48) := propext (u8i v 48)
theorem v32 (v : UInt8) : ((v.toNat : Int) = 32) = (v = 32) := propext (u8i v 32)
theorem v46 (v : UInt8) : ((v.toNat : Int) = 46) = (v = 46) := propext (u8i v 46)
def flagOK (acc : List UInt8) (c : UInt8) : Bool := flagSet.contains c && !acc.contains c
def isFlagR (acc : List UInt8) (w p v e : Int) (c : UInt8) (sv : SV) (post : SS) : Prop := sv = .b (flagOK acc c) ∧ post = rS (if flagOK acc c = true then acc ++ [c] else acc) w p v e
theorem flag_c (acc : List UInt8) (w p v e : Int) (c : UInt8) : Contract Tryd.prog 49 (rS acc w p v e) [.ptr 0 0, .i .u8 (c.toNat : Int)] (isFlagR acc w p v e c) := by
  refine contract_ev Γok Tryd.func49 rfl rfl [] ?_
  simp (maxSteps := 4000000) only [push_cast, Int.reduceEq, Int.reduceBNe, Int.reduceBEq, Int.reduceAdd, Int.reduceSub, Int.reduceMul, Int.reduceNeg, Int.reduceLT, Int.reduceLE, Int.reduceToNat, Nat.reduceLT, Nat.reduceAdd, Nat.reduceSub, Nat.reduceMul, Nat.reduceEqDiff, Nat.reduceLeDiff, Nat.reduceBEq, reduceIte, reduceCtorEq, Tryd.f49, rS, rC, v45, v43, v48, v32]
  have yes : ∀ x : UInt8, c = x → flagSet.contains x = true → acc.contains x = false → flagOK acc c = true := fun x hx h1 h2 => by unfold flagOK; rw [hx, h1, h2]; rfl
  have app : ∀ x y : UInt8, (acc ++ [x]).contains y = (acc.contains y || x == y) := fun x y => by
    rw [Bool.eq_iff_iff]
    simp
    constructor
    · rintro (h | h)
      · exact .inl h
      · exact .inr h.symm
    · rintro (h | h)
      · exact .inl h
      · exact .inr h.symm
  refine ⟨fun h => ?_, fun h1 => ⟨fun h => ?_, fun h2 => ⟨fun h => ?_, fun h3 => ⟨fun h => ?_, fun h4 => ?_⟩⟩⟩⟩
  · have hf := yes 45 h.1 (by decide) h.2
    obtain rfl := h.1
    exact Fin.w [0] (.b true) (rS (acc ++ [45]) w p v e) (by simp (maxSteps := 4000000) only [push_cast, Int.reduceEq, Int.reduceBNe, Int.reduceBEq, Int.reduceAdd, Int.reduceSub, Int.reduceMul, Int.reduceNeg, Int.reduceLT, Int.reduceLE, Int.reduceToNat, Nat.reduceLT, Nat.reduceAdd, Nat.reduceSub, Nat.reduceMul, Nat.reduceEqDiff, Nat.reduceLeDiff, Nat.reduceBEq, reduceIte, reduceCtorEq, rS, rC]; simp only [app]; simp [h.2]) ⟨by rw [hf], by rw [if_pos hf]⟩
  · have hf := yes 43 h.1 (by decide) h.2
    obtain rfl := h.1
    exact Fin.w [0] (.b true) (rS (acc ++ [43]) w p v e) (by simp (maxSteps := 4000000) only [push_cast, Int.reduceEq, Int.reduceBNe, Int.reduceBEq, Int.reduceAdd, Int.reduceSub, Int.reduceMul, Int.reduceNeg, Int.reduceLT, Int.reduceLE, Int.reduceToNat, Nat.reduceLT, Nat.reduceAdd, Nat.reduceSub, Nat.reduceMul, Nat.reduceEqDiff, Nat.reduceLeDiff, Nat.reduceBEq, reduceIte, reduceCtorEq, rS, rC]; simp only [app]; simp [h.2]) ⟨by rw [hf], by rw [if_pos hf]⟩
  · have hf := yes 48 h.1 (by decide) h.2
    obtain rfl := h.1
    exact Fin.w [0] (.b true) (rS (acc ++ [48]) w p v e) (by simp (maxSteps := 4000000) only [push_cast, Int.reduceEq, Int.reduceBNe, Int.reduceBEq, Int.reduceAdd, Int.reduceSub, Int.reduceMul, Int.reduceNeg, Int.reduceLT, Int.reduceLE, Int.reduceToNat, Nat.reduceLT, Nat.reduceAdd, Nat.reduceSub, Nat.reduceMul, Nat.reduceEqDiff, Nat.reduceLeDiff, Nat.reduceBEq, reduceIte, reduceCtorEq, rS, rC]; simp only [app]; simp [h.2]) ⟨by rw [hf], by rw [if_pos hf]⟩
  · have hf := yes 32 h.1 (by decide) h.2
    obtain rfl := h.1
    exact Fin.w [0] (.b true) (rS (acc ++ [32]) w p v e) (by simp (maxSteps := 4000000) only [push_cast, Int.reduceEq, Int.reduceBNe, Int.reduceBEq, Int.reduceAdd, Int.reduceSub, Int.reduceMul, Int.reduceNeg, Int.reduceLT, Int.reduceLE, Int.reduceToNat, Nat.reduceLT, Nat.reduceAdd, Nat.reduceSub, Nat.reduceMul, Nat.reduceEqDiff, Nat.reduceLeDiff, Nat.reduceBEq, reduceIte, reduceCtorEq, rS, rC]; simp only [app]; simp [h.2]) ⟨by rw [hf], by rw [if_pos hf]⟩
  · have hf : flagOK acc c = false := by
      unfold flagOK
      cases hs : flagSet.contains c with
      | false => rfl
      | true =>
        have hm : c = 45 ∨ c = 43 ∨ c = 48 ∨ c = 32 := by simpa [flagSet] using hs
        rcases hm with rfl | rfl | rfl | rfl
        · rcases h1 with h1 | h1
          · exact absurd rfl h1
          · rw [h1]; rfl
        · rcases h2 with h2 | h2
          · exact absurd rfl h2
          · rw [h2]; rfl
        · rcases h3 with h3 | h3
          · exact absurd rfl h3
          · rw [h3]; rfl
        · rcases h4 with h4 | h4
          · exact absurd rfl h4
          · rw [h4]; rfl
    exact Fin.w [0] (.b false) (rS acc w p v e) (by simp (maxSteps := 4000000) only [push_cast, Int.reduceEq, Int.reduceBNe, Int.reduceBEq, Int.reduceAdd, Int.reduceSub, Int.reduceMul, Int.reduceNeg, Int.reduceLT, Int.reduceLE, Int.reduceToNat, Nat.reduceLT, Nat.reduceAdd, Nat.reduceSub, Nat.reduceMul, Nat.reduceEqDiff, Nat.reduceLeDiff, Nat.reduceBEq, reduceIte, reduceCtorEq, rS, rC]) ⟨by rw [hf], by rw [if_neg (by rw [hf]; simp)]⟩
end Go.Proofs.YtciokebdmnaobaaDoor
/- The page's patterns: a directive is read, whole. -/
namespace Go.Proofs.YtciokebdmnaobaaDoor
open Go Go.Eng
set_option maxHeartbeats 4000000
set_option linter.unusedSimpArgs false
set_option linter.unusedVariables false
set_option maxRecDepth 100000

def isRead (r : List UInt8) (at_ : Nat) (sv : SV) (post : SS) : Prop :=
  post = nilSS ∧ match parseP r with
    | some d => sv = .tup [.agg (rC d.flags d.width d.prec d.verb.toNat (at_ + d.size : Nat)), .b true]
    | none => ∃ (b1 b2 b3 b4 : Bool) (w p v e : Int), sv = .tup [.agg [.b b1, .b b2, .b b3, .b b4, .i .i64 w, .i .i64 p, .i .u8 v, .i .i64 e], .b false]
theorem flagOK_goOn (acc : List UInt8) (d : UInt8) (r : List UInt8) : goOn acc (d :: r) = flagOK acc d := rfl
theorem head_drop {l r : List UInt8} {i : Nat} (h : l.drop i = r) : (l[i]?).getD 0 = (r[0]?).getD 0 := by
  have := congrArg (fun x => x[0]?) h
  simp only [List.getElem?_drop] at this
  rw [Nat.add_zero] at this
  rw [this]

theorem headIs_digs (rest : List UInt8) : headIs 48 (digsP 4 rest) = true ↔ (0 < (digsP 4 rest).length ∧ (rest[0]?).getD 0 = 48) := by
  cases rest with
  | nil => simp [digsP, headIs]
  | cons d r =>
    have e : digsP 4 (d :: r) = if isDig d then d :: digsP 3 r else [] := rfl
    rw [e]
    split
    · simp [headIs]
    · simp [headIs]
theorem read17_c (l : List UInt8) (at_ : Nat) (hl : l.length ≤ 100000) (hat : at_ < l.length) : Contract Tryd.prog 35 nilSS [.s (bs l), .i .i64 at_] (isRead (l.drop (at_ + 1)) at_) := by
  generalize hr : l.drop (at_ + 1) = r
  have hrl : r.length = l.length - (at_ + 1) := by rw [← hr]; simp
  have w1 : IntKind.i64.wrap ((at_ : Int) + 1) = ((at_ + 1 : Nat) : Int) := by rw [wrap64 (n := (at_ : Int) + 1) (by omega) (by omega)]; omega
  refine contract_of Γok Tryd.func35 rfl rfl (stop := []) ?_
  simp only [Tryd.f35]
  refine CodeOK.seq (evCode_sound Γok _ _ _ ?_)
  simp (maxSteps := 4000000) only [push_cast, Int.reduceEq, Int.reduceBNe, Int.reduceBEq, Int.reduceAdd, Int.reduceSub, Int.reduceMul, Int.reduceNeg, Int.reduceLT, Int.reduceLE, Int.reduceToNat, Nat.reduceLT, Nat.reduceAdd, Nat.reduceSub, Nat.reduceMul, Nat.reduceEqDiff, Nat.reduceLeDiff, Nat.reduceBEq, reduceIte, reduceCtorEq]
  refine CodeOK.seq (evCode_sound Γok _ _ _ ?_)
  simp (maxSteps := 4000000) only [push_cast, Int.reduceEq, Int.reduceBNe, Int.reduceBEq, Int.reduceAdd, Int.reduceSub, Int.reduceMul, Int.reduceNeg, Int.reduceLT, Int.reduceLE, Int.reduceToNat, Nat.reduceLT, Nat.reduceAdd, Nat.reduceSub, Nat.reduceMul, Nat.reduceEqDiff, Nat.reduceLeDiff, Nat.reduceBEq, reduceIte, reduceCtorEq]
  refine CodeOK.seq (evCode_sound Γok _ _ _ ?_)
  simp (maxSteps := 4000000) only [push_cast, Int.reduceEq, Int.reduceBNe, Int.reduceBEq, Int.reduceAdd, Int.reduceSub, Int.reduceMul, Int.reduceNeg, Int.reduceLT, Int.reduceLE, Int.reduceToNat, Nat.reduceLT, Nat.reduceAdd, Nat.reduceSub, Nat.reduceMul, Nat.reduceEqDiff, Nat.reduceLeDiff, Nat.reduceBEq, reduceIte, reduceCtorEq]
  refine CodeOK.seq (evCode_sound Γok _ _ _ ?_)
  simp (maxSteps := 4000000) only [push_cast, Int.reduceEq, Int.reduceBNe, Int.reduceBEq, Int.reduceAdd, Int.reduceSub, Int.reduceMul, Int.reduceNeg, Int.reduceLT, Int.reduceLE, Int.reduceToNat, Nat.reduceLT, Nat.reduceAdd, Nat.reduceSub, Nat.reduceMul, Nat.reduceEqDiff, Nat.reduceLeDiff, Nat.reduceBEq, reduceIte, reduceCtorEq, bs_size, bs_at, v37]
  rw [wrap64 (n := (at_ : Int) + 1) (by omega) (by omega), wrap64 (n := (at_ : Int) + 1 + 1) (by omega) (by omega), show ((at_ : Int) + 1).toNat = at_ + 1 by omega, head_drop hr]
  refine ⟨fun h => by omega, fun h => ?_, fun h => ?_⟩
  · obtain ⟨d, r, rfl⟩ : ∃ d r', r = d :: r' := by
      cases r with
      | nil => simp only [List.length_nil] at hrl; omega
      | cons d r => exact ⟨d, r, rfl⟩
    obtain rfl : d = 37 := h.2
    have e : parseP (37 :: r) = some ⟨[], 0, -1, 37, 2⟩ := rfl
    refine Fin.nil rfl (psv := .tup [.agg (rC [] 0 (-1) 37 (at_ + 1 + 1)), .b true]) (by simp (maxSteps := 4000000) only [push_cast, Int.reduceEq, Int.reduceBNe, Int.reduceBEq, Int.reduceAdd, Int.reduceSub, Int.reduceMul, Int.reduceNeg, Int.reduceLT, Int.reduceLE, Int.reduceToNat, Nat.reduceLT, Nat.reduceAdd, Nat.reduceSub, Nat.reduceMul, Nat.reduceEqDiff, Nat.reduceLeDiff, Nat.reduceBEq, reduceIte, reduceCtorEq, rC]; exact ⟨rfl, rfl, rfl, rfl⟩) ⟨rfl, ?_⟩
    rw [e]
    simp only [rC]
    congr
  have e0 : parseP r = widthP (flagsP [] r).1 (r.length + 1) (flagsP [] r).2 := by
    unfold parseP
    rw [if_neg]
    cases r with
    | nil => simp [headIs]
    | cons d r =>
      simp only [headIs, beq_iff_eq]
      intro hd
      rcases h with h | h
      · simp only [List.length_cons] at hrl; omega
      · exact h hd
  refine code_cutI (ι := {q : List UInt8 × Nat // flagsP [] r = (q.1, l.drop q.2) ∧ q.2 ≤ l.length ∧ at_ + 1 ≤ q.2}) (fun q => ⟨[.s (bs l), .any, .any, .any, .ptr 0 0, .b false, .ptr 1 0, .i .i64 q.1.2] ++ List.replicate 105 .any, [(0, 69, [.b false, .b false, .b false, .b false, .i .i64 0, .i .i64 0, .i .u8 0, .i .i64 0]), (1, 69, rC q.1.1 0 (-1) 0 0)], [], [], 2, 0, []⟩) (evCode_sound Γok _ _ _ ?_) ?_
  · simp (maxSteps := 4000000) only [push_cast, Int.reduceEq, Int.reduceBNe, Int.reduceBEq, Int.reduceAdd, Int.reduceSub, Int.reduceMul, Int.reduceNeg, Int.reduceLT, Int.reduceLE, Int.reduceToNat, Nat.reduceLT, Nat.reduceAdd, Nat.reduceSub, Nat.reduceMul, Nat.reduceEqDiff, Nat.reduceLeDiff, Nat.reduceBEq, reduceIte, reduceCtorEq]
    refine loop_ok (ι := {q : List UInt8 × Nat // flagsP [] r = flagsP q.1 (l.drop q.2) ∧ q.2 ≤ l.length ∧ at_ + 1 ≤ q.2}) (fun q => ⟨[.s (bs l), .any, .any, .any, .ptr 0 0, .b false, .ptr 1 0, .i .i64 q.1.2] ++ List.replicate 105 .any, [(0, 69, [.b false, .b false, .b false, .b false, .i .i64 0, .i .i64 0, .i .u8 0, .i .i64 0]), (1, 69, rC q.1.1 0 (-1) 0 0)], [], [], 2, 0, []⟩) (fun q => l.length - q.1.2) ⟨([], at_ + 1), by rw [← hr], by simp only; omega, by simp⟩ ?_ ?_
    · refine Sub.w [0, 1] ?_
      simp (maxSteps := 4000000) only [push_cast, Int.reduceEq, Int.reduceBNe, Int.reduceBEq, Int.reduceAdd, Int.reduceSub, Int.reduceMul, Int.reduceNeg, Int.reduceLT, Int.reduceLE, Int.reduceToNat, Nat.reduceLT, Nat.reduceAdd, Nat.reduceSub, Nat.reduceMul, Nat.reduceEqDiff, Nat.reduceLeDiff, Nat.reduceBEq, reduceIte, reduceCtorEq, rC]
      exact ⟨rfl, rfl, rfl, rfl⟩
    rintro ⟨⟨acc, i⟩, h1, h2, h3⟩
    simp only at h1 h2 h3
    obtain ⟨rest, hrest⟩ : ∃ rest, l.drop i = rest := ⟨_, rfl⟩
    have hrestl : rest.length = l.length - i := by rw [← hrest]; simp
    refine evCode_sound Γok _ _ _ ?_
    simp (maxSteps := 4000000) only [push_cast, Int.reduceEq, Int.reduceBNe, Int.reduceBEq, Int.reduceAdd, Int.reduceSub, Int.reduceMul, Int.reduceNeg, Int.reduceLT, Int.reduceLE, Int.reduceToNat, Nat.reduceLT, Nat.reduceAdd, Nat.reduceSub, Nat.reduceMul, Nat.reduceEqDiff, Nat.reduceLeDiff, Nat.reduceBEq, reduceIte, reduceCtorEq, bs_size, bs_at, Int.toNat_natCast]
    rw [hrest] at h1
    rw [head_drop hrest]
    refine ⟨fun h4 => by omega, fun h4 => ⟨h4, call_w (flag_c acc 0 (-1) 0 0 ((rest[0]?).getD 0)) [1] (by simp (maxSteps := 4000000) only [push_cast, Int.reduceEq, Int.reduceBNe, Int.reduceBEq, Int.reduceAdd, Int.reduceSub, Int.reduceMul, Int.reduceNeg, Int.reduceLT, Int.reduceLE, Int.reduceToNat, Nat.reduceLT, Nat.reduceAdd, Nat.reduceSub, Nat.reduceMul, Nat.reduceEqDiff, Nat.reduceLeDiff, Nat.reduceBEq, reduceIte, reduceCtorEq, rS, rC]) ?_⟩, fun h4 => ?_⟩
    · rintro sv post ⟨rfl, rfl⟩
      obtain ⟨d, rest, rfl⟩ : ∃ d r', rest = d :: r' := by
        cases rest with
        | nil => simp only [List.length_nil] at hrestl; omega
        | cons d r => exact ⟨d, r, rfl⟩
      rw [show ((d :: rest)[0]?).getD 0 = d from rfl]
      simp (maxSteps := 4000000) only [push_cast, Int.reduceEq, Int.reduceBNe, Int.reduceBEq, Int.reduceAdd, Int.reduceSub, Int.reduceMul, Int.reduceNeg, Int.reduceLT, Int.reduceLE, Int.reduceToNat, Nat.reduceLT, Nat.reduceAdd, Nat.reduceSub, Nat.reduceMul, Nat.reduceEqDiff, Nat.reduceLeDiff, Nat.reduceBEq, reduceIte, reduceCtorEq, rS]
      refine ⟨fun h5 => ?_, fun h5 => ?_⟩
      · rw [if_pos h5.2]
        refine ⟨⟨(acc ++ [d], i + 1), by rw [h1, flagsP_on (by rw [flagOK_goOn]; exact h5.2)]; simp only; rw [← List.drop_drop, hrest]; rfl, by simp only; omega, by simp only; omega⟩, by simp only; omega, Sub.w [0, 1] ?_⟩
        simp (maxSteps := 4000000) only [push_cast, Int.reduceEq, Int.reduceBNe, Int.reduceBEq, Int.reduceAdd, Int.reduceSub, Int.reduceMul, Int.reduceNeg, Int.reduceLT, Int.reduceLE, Int.reduceToNat, Nat.reduceLT, Nat.reduceAdd, Nat.reduceSub, Nat.reduceMul, Nat.reduceEqDiff, Nat.reduceLeDiff, Nat.reduceBEq, reduceIte, reduceCtorEq, rC]
        exact (wrap64 (n := (i : Int) + 1) (by omega) (by omega)).symm
      · rw [if_neg (by
          rcases h5 with h5 | h5
          · omega
          · rw [h5]; simp)]
        have e := flagsP_off (acc := acc) (r := d :: rest) (by
          rw [flagOK_goOn]
          rcases h5 with h5 | h5
          · omega
          · exact h5)
        refine ⟨⟨(acc, i), by rw [h1, e, hrest], h2, h3⟩, Sub.w [0, 1] ?_⟩
        simp (maxSteps := 4000000) only [push_cast, Int.reduceEq, Int.reduceBNe, Int.reduceBEq, Int.reduceAdd, Int.reduceSub, Int.reduceMul, Int.reduceNeg, Int.reduceLT, Int.reduceLE, Int.reduceToNat, Nat.reduceLT, Nat.reduceAdd, Nat.reduceSub, Nat.reduceMul, Nat.reduceEqDiff, Nat.reduceLeDiff, Nat.reduceBEq, reduceIte, reduceCtorEq, rC]
    · refine ⟨fun h6 => by omega, fun h6 => h6.2.elim, ⟨(acc, i), ?_, h2, h3⟩, Sub.w [0, 1] ?_⟩
      · obtain rfl : rest = [] := List.eq_nil_of_length_eq_zero (by omega)
        rw [h1, hrest]; rfl
      · simp (maxSteps := 4000000) only [push_cast, Int.reduceEq, Int.reduceBNe, Int.reduceBEq, Int.reduceAdd, Int.reduceSub, Int.reduceMul, Int.reduceNeg, Int.reduceLT, Int.reduceLE, Int.reduceToNat, Nat.reduceLT, Nat.reduceAdd, Nat.reduceSub, Nat.reduceMul, Nat.reduceEqDiff, Nat.reduceLeDiff, Nat.reduceBEq, reduceIte, reduceCtorEq, rC]
  rintro ⟨⟨acc, i⟩, h1, h2, h3⟩
  simp only at h1 h2 h3
  obtain ⟨rest, hrest⟩ : ∃ rest, l.drop i = rest := ⟨_, rfl⟩
  have hrestl : rest.length = l.length - i := by rw [← hrest]; simp
  rw [hrest] at h1
  rw [h1] at e0
  simp only at e0
  have hk := digsP_le 4 rest
  have hw := valP_lt _ (digsP 4 rest) rfl (digsP_dig 4 rest)
  have hw2 : 10 ^ (digsP 4 rest).length ≤ 10 ^ 4 := Nat.pow_le_pow_right (by omega) (by omega)
  refine CodeOK.seq (evCode_sound Γok _ _ _ ?_)
  simp (maxSteps := 4000000) only [push_cast, Int.reduceEq, Int.reduceBNe, Int.reduceBEq, Int.reduceAdd, Int.reduceSub, Int.reduceMul, Int.reduceNeg, Int.reduceLT, Int.reduceLE, Int.reduceToNat, Nat.reduceLT, Nat.reduceAdd, Nat.reduceSub, Nat.reduceMul, Nat.reduceEqDiff, Nat.reduceLeDiff, Nat.reduceBEq, reduceIte, reduceCtorEq]
  refine call_w (number17_c l i hl (by omega)) [] (by simp (maxSteps := 4000000) only [push_cast, Int.reduceEq, Int.reduceBNe, Int.reduceBEq, Int.reduceAdd, Int.reduceSub, Int.reduceMul, Int.reduceNeg, Int.reduceLT, Int.reduceLE, Int.reduceToNat, Nat.reduceLT, Nat.reduceAdd, Nat.reduceSub, Nat.reduceMul, Nat.reduceEqDiff, Nat.reduceLeDiff, Nat.reduceBEq, reduceIte, reduceCtorEq]) ?_
  rintro sv post ⟨rfl, rfl⟩
  rw [hrest]
  simp (maxSteps := 4000000) only [push_cast, Int.reduceEq, Int.reduceBNe, Int.reduceBEq, Int.reduceAdd, Int.reduceSub, Int.reduceMul, Int.reduceNeg, Int.reduceLT, Int.reduceLE, Int.reduceToNat, Nat.reduceLT, Nat.reduceAdd, Nat.reduceSub, Nat.reduceMul, Nat.reduceEqDiff, Nat.reduceLeDiff, Nat.reduceBEq, reduceIte, reduceCtorEq]
  refine CodeOK.seq (evCode_sound Γok _ _ _ ?_)
  simp (maxSteps := 4000000) only [push_cast, Int.reduceEq, Int.reduceBNe, Int.reduceBEq, Int.reduceAdd, Int.reduceSub, Int.reduceMul, Int.reduceNeg, Int.reduceLT, Int.reduceLE, Int.reduceToNat, Nat.reduceLT, Nat.reduceAdd, Nat.reduceSub, Nat.reduceMul, Nat.reduceEqDiff, Nat.reduceLeDiff, Nat.reduceBEq, reduceIte, reduceCtorEq, bs_size, bs_at, Int.toNat_natCast, v48, rC]
  rw [head_drop hrest]
  refine ⟨fun h4 => by omega, fun h4 => ?_, fun h4 => ?_⟩
  · refine Fin.nil rfl (psv := .tup [.agg [.b (acc.contains 45), .b (acc.contains 43), .b (acc.contains 48), .b (acc.contains 32), .i .i64 0, .i .i64 (-1), .i .u8 0, .i .i64 0], .b false]) (by simp (maxSteps := 4000000) only [push_cast, Int.reduceEq, Int.reduceBNe, Int.reduceBEq, Int.reduceAdd, Int.reduceSub, Int.reduceMul, Int.reduceNeg, Int.reduceLT, Int.reduceLE, Int.reduceToNat, Nat.reduceLT, Nat.reduceAdd, Nat.reduceSub, Nat.reduceMul, Nat.reduceEqDiff, Nat.reduceLeDiff, Nat.reduceBEq, reduceIte, reduceCtorEq]) ⟨rfl, ?_⟩
    rw [e0]
    unfold widthP
    rw [if_pos ((headIs_digs rest).2 ⟨by omega, h4.2⟩)]
    exact ⟨_, _, _, _, _, _, _, _, rfl⟩
  unfold widthP at e0
  rw [if_neg (by
    rw [headIs_digs]
    rintro ⟨c1, c2⟩
    rcases h4 with h4 | h4
    · omega
    · exact h4 c2)] at e0
  refine CodeOK.seq (evCode_sound Γok _ _ _ ?_)
  simp (maxSteps := 4000000) only [push_cast, Int.reduceEq, Int.reduceBNe, Int.reduceBEq, Int.reduceAdd, Int.reduceSub, Int.reduceMul, Int.reduceNeg, Int.reduceLT, Int.reduceLE, Int.reduceToNat, Nat.reduceLT, Nat.reduceAdd, Nat.reduceSub, Nat.reduceMul, Nat.reduceEqDiff, Nat.reduceLeDiff, Nat.reduceBEq, reduceIte, reduceCtorEq]
  refine CodeOK.seq (evCode_sound Γok _ _ _ ?_)
  simp (maxSteps := 4000000) only [push_cast, Int.reduceEq, Int.reduceBNe, Int.reduceBEq, Int.reduceAdd, Int.reduceSub, Int.reduceMul, Int.reduceNeg, Int.reduceLT, Int.reduceLE, Int.reduceToNat, Nat.reduceLT, Nat.reduceAdd, Nat.reduceSub, Nat.reduceMul, Nat.reduceEqDiff, Nat.reduceLeDiff, Nat.reduceBEq, reduceIte, reduceCtorEq]
  rw [wrap64 (n := (i : Int) + (digsP 4 rest).length) (by omega) (by omega)]
  have hd2 : l.drop (i + (digsP 4 rest).length) = rest.drop (digsP 4 rest).length := by rw [← List.drop_drop, hrest]
  have hi2 : (i : Int) + ((digsP 4 rest).length : Nat) = ((i + (digsP 4 rest).length : Nat) : Int) := by omega
  rw [hi2]
  generalize valP (digsP 4 rest) = wd at hw e0 ⊢
  have hi3 : i + (digsP 4 rest).length ≤ l.length := by omega
  have hi4 : at_ + 1 ≤ i + (digsP 4 rest).length := by omega
  generalize i + (digsP 4 rest).length = i2 at hd2 hi3 hi4 ⊢
  generalize rest.drop (digsP 4 rest).length = r2 at e0 hd2 ⊢
  have hr2l : r2.length = l.length - i2 := by rw [← hd2]; simp
  refine code_cutI (ι := {q : Int × Nat // parseP r = verbP acc wd q.1 (r.length + 1) (l.drop q.2) ∧ q.2 ≤ l.length ∧ at_ + 1 ≤ q.2 ∧ -1 ≤ q.1 ∧ q.1 ≤ 10000}) (fun q => ⟨[.s (bs l), .any, .any, .any, .ptr 0 0, .any, .ptr 1 0, .i .i64 q.1.2] ++ List.replicate 105 .any, [(0, 69, [.b false, .b false, .b false, .b false, .i .i64 0, .i .i64 0, .i .u8 0, .i .i64 0]), (1, 69, rC acc wd q.1.1 0 0)], [], [], 2, 0, []⟩) (evCode_sound Γok _ _ _ ?_) ?_
  · simp (maxSteps := 4000000) only [push_cast, Int.reduceEq, Int.reduceBNe, Int.reduceBEq, Int.reduceAdd, Int.reduceSub, Int.reduceMul, Int.reduceNeg, Int.reduceLT, Int.reduceLE, Int.reduceToNat, Nat.reduceLT, Nat.reduceAdd, Nat.reduceSub, Nat.reduceMul, Nat.reduceEqDiff, Nat.reduceLeDiff, Nat.reduceBEq, reduceIte, reduceCtorEq, bs_size, bs_at, Int.toNat_natCast, v46]
    rw [head_drop hd2]
    refine ⟨fun h5 => by omega, fun h5 => ?_, fun h5 => ?_⟩
    · obtain ⟨d, r2, rfl⟩ : ∃ d r', r2 = d :: r' := by
        cases r2 with
        | nil => simp only [List.length_nil] at hr2l; omega
        | cons d r => exact ⟨d, r, rfl⟩
      have hd : d = 46 := h5.2
      rw [show precP (d :: r2) = ((valP (digsP 4 r2) : Int), r2.drop (digsP 4 r2).length) from if_pos hd] at e0
      simp only at e0
      have hk2 := digsP_le 4 r2
      have hw3 := valP_lt _ (digsP 4 r2) rfl (digsP_dig 4 r2)
      have hw4 : 10 ^ (digsP 4 r2).length ≤ 10 ^ 4 := Nat.pow_le_pow_right (by omega) (by omega)
      have hd3 : l.drop (i2 + 1) = r2 := by rw [← List.drop_drop, hd2]; rfl
      simp only [List.length_cons] at hr2l
      rw [wrap64 (n := (i2 : Int) + 1) (by omega) (by omega)]
      rw [show (i2 : Int) + 1 = ((i2 + 1 : Nat) : Int) by omega]
      refine call_w (number17_c l (i2 + 1) hl (by omega)) [] (by simp (maxSteps := 4000000) only [push_cast, Int.reduceEq, Int.reduceBNe, Int.reduceBEq, Int.reduceAdd, Int.reduceSub, Int.reduceMul, Int.reduceNeg, Int.reduceLT, Int.reduceLE, Int.reduceToNat, Nat.reduceLT, Nat.reduceAdd, Nat.reduceSub, Nat.reduceMul, Nat.reduceEqDiff, Nat.reduceLeDiff, Nat.reduceBEq, reduceIte, reduceCtorEq]) ?_
      rintro sv post ⟨rfl, rfl⟩
      rw [hd3]
      simp (maxSteps := 4000000) only [push_cast, Int.reduceEq, Int.reduceBNe, Int.reduceBEq, Int.reduceAdd, Int.reduceSub, Int.reduceMul, Int.reduceNeg, Int.reduceLT, Int.reduceLE, Int.reduceToNat, Nat.reduceLT, Nat.reduceAdd, Nat.reduceSub, Nat.reduceMul, Nat.reduceEqDiff, Nat.reduceLeDiff, Nat.reduceBEq, reduceIte, reduceCtorEq]
      refine ⟨⟨((valP (digsP 4 r2) : Int), i2 + 1 + (digsP 4 r2).length), ?_, by simp only; omega, by simp only; omega, by simp only; omega, by simp only; omega⟩, Sub.w [0, 1] ?_⟩
      · simp only
        rw [← List.drop_drop, hd3]
        exact e0
      · simp (maxSteps := 4000000) only [push_cast, Int.reduceEq, Int.reduceBNe, Int.reduceBEq, Int.reduceAdd, Int.reduceSub, Int.reduceMul, Int.reduceNeg, Int.reduceLT, Int.reduceLE, Int.reduceToNat, Nat.reduceLT, Nat.reduceAdd, Nat.reduceSub, Nat.reduceMul, Nat.reduceEqDiff, Nat.reduceLeDiff, Nat.reduceBEq, reduceIte, reduceCtorEq, rC]
        rw [wrap64 (n := (i2 : Int) + 1) (by omega) (by omega), wrap64 (n := (i2 : Int) + 1 + (digsP 4 r2).length) (by omega) (by omega)]
    · have e : precP r2 = (-1, r2) := by
        cases r2 with
        | nil => rfl
        | cons d r =>
          refine if_neg (fun hd => ?_)
          rcases h5 with h5 | h5
          · simp only [List.length_cons] at hr2l; omega
          · exact h5 hd
      rw [e] at e0
      simp only at e0
      refine ⟨⟨(-1, i2), by simp only; rw [hd2]; exact e0, by simp only; omega, by simp only; omega, by simp, by simp⟩, Sub.w [0, 1] ?_⟩
      simp (maxSteps := 4000000) only [push_cast, Int.reduceEq, Int.reduceBNe, Int.reduceBEq, Int.reduceAdd, Int.reduceSub, Int.reduceMul, Int.reduceNeg, Int.reduceLT, Int.reduceLE, Int.reduceToNat, Nat.reduceLT, Nat.reduceAdd, Nat.reduceSub, Nat.reduceMul, Nat.reduceEqDiff, Nat.reduceLeDiff, Nat.reduceBEq, reduceIte, reduceCtorEq, rC]
  rintro ⟨⟨p, i3⟩, k1, k2, k3, k4, k5⟩
  simp only at k1 k2 k3 k4 k5
  obtain ⟨r3, hr3⟩ : ∃ r3, l.drop i3 = r3 := ⟨_, rfl⟩
  have hr3l : r3.length = l.length - i3 := by rw [← hr3]; simp
  rw [hr3] at k1
  refine evCode_sound Γok _ _ _ ?_
  simp (maxSteps := 4000000) only [push_cast, Int.reduceEq, Int.reduceBNe, Int.reduceBEq, Int.reduceAdd, Int.reduceSub, Int.reduceMul, Int.reduceNeg, Int.reduceLT, Int.reduceLE, Int.reduceToNat, Nat.reduceLT, Nat.reduceAdd, Nat.reduceSub, Nat.reduceMul, Nat.reduceEqDiff, Nat.reduceLeDiff, Nat.reduceBEq, reduceIte, reduceCtorEq, bs_size, bs_at, Int.toNat_natCast, rC]
  rw [head_drop hr3]
  refine ⟨fun h5 => by omega, fun h5 => ⟨h5, call_w (verb17_c ((r3[0]?).getD 0)) [] (by simp (maxSteps := 4000000) only [push_cast, Int.reduceEq, Int.reduceBNe, Int.reduceBEq, Int.reduceAdd, Int.reduceSub, Int.reduceMul, Int.reduceNeg, Int.reduceLT, Int.reduceLE, Int.reduceToNat, Nat.reduceLT, Nat.reduceAdd, Nat.reduceSub, Nat.reduceMul, Nat.reduceEqDiff, Nat.reduceLeDiff, Nat.reduceBEq, reduceIte, reduceCtorEq]) ?_⟩, fun h5 => ⟨fun h6 => by omega, ?_⟩⟩
  · rintro sv post ⟨rfl, rfl⟩
    obtain ⟨v, r3, rfl⟩ : ∃ d r', r3 = d :: r' := by
      cases r3 with
      | nil => simp only [List.length_nil] at hr3l; omega
      | cons d r => exact ⟨d, r, rfl⟩
    have hat3 : (l[i3]?).getD 0 = v := by rw [head_drop hr3]; rfl
    rw [show ((v :: r3)[0]?).getD 0 = v from rfl]
    simp only [List.length_cons] at hr3l
    simp (maxSteps := 4000000) only [push_cast, Int.reduceEq, Int.reduceBNe, Int.reduceBEq, Int.reduceAdd, Int.reduceSub, Int.reduceMul, Int.reduceNeg, Int.reduceLT, Int.reduceLE, Int.reduceToNat, Nat.reduceLT, Nat.reduceAdd, Nat.reduceSub, Nat.reduceMul, Nat.reduceEqDiff, Nat.reduceLeDiff, Nat.reduceBEq, reduceIte, reduceCtorEq, bs_size, bs_at, Int.toNat_natCast]
    rw [hat3]
    refine ⟨fun h6 => ?_, fun h6 => ⟨by omega, ?_⟩⟩
    · refine Fin.nil rfl (psv := .tup [.agg [.b (acc.contains 45), .b (acc.contains 43), .b (acc.contains 48), .b (acc.contains 32), .i .i64 wd, .i .i64 p, .i .u8 0, .i .i64 0], .b false]) (by simp (maxSteps := 4000000) only [push_cast, Int.reduceEq, Int.reduceBNe, Int.reduceBEq, Int.reduceAdd, Int.reduceSub, Int.reduceMul, Int.reduceNeg, Int.reduceLT, Int.reduceLE, Int.reduceToNat, Nat.reduceLT, Nat.reduceAdd, Nat.reduceSub, Nat.reduceMul, Nat.reduceEqDiff, Nat.reduceLeDiff, Nat.reduceBEq, reduceIte, reduceCtorEq]) ⟨rfl, ?_⟩
      rw [k1]
      have : verbP acc wd p (r.length + 1) (v :: r3) = none := by
        refine if_neg ?_
        simp only [Bool.and_eq_true, decide_eq_true_eq]
        rintro ⟨⟨c1, c2⟩, c3⟩
        rcases h6 with ((h6 | h6) | h6) | h6
        · omega
        · rw [c1] at h6; cases h6
        · omega
        · omega
      rw [this]
      exact ⟨_, _, _, _, _, _, _, _, rfl⟩
    · have : verbP acc wd p (r.length + 1) (v :: r3) = some ⟨acc, wd, p, v, r.length + 1 - r3.length⟩ := by
        refine if_pos ?_
        simp only [Bool.and_eq_true, decide_eq_true_eq]
        exact ⟨⟨h6.1.1.2, by omega⟩, h6.2⟩
      rw [wrap64 (n := (i3 : Int) + 1) (by omega) (by omega), show (i3 : Int) + 1 = ((at_ + (r.length + 1 - r3.length) : Nat) : Int) by omega]
      refine Fin.nil rfl (psv := .tup [.agg (rC acc wd p v.toNat (at_ + (r.length + 1 - r3.length) : Nat)), .b true]) (by simp (maxSteps := 4000000) only [push_cast, Int.reduceEq, Int.reduceBNe, Int.reduceBEq, Int.reduceAdd, Int.reduceSub, Int.reduceMul, Int.reduceNeg, Int.reduceLT, Int.reduceLE, Int.reduceToNat, Nat.reduceLT, Nat.reduceAdd, Nat.reduceSub, Nat.reduceMul, Nat.reduceEqDiff, Nat.reduceLeDiff, Nat.reduceBEq, reduceIte, reduceCtorEq, rC]) ⟨rfl, ?_⟩
      rw [k1, this]
  · obtain rfl : r3 = [] := List.eq_nil_of_length_eq_zero (by omega)
    refine Fin.nil rfl (psv := .tup [.agg [.b (acc.contains 45), .b (acc.contains 43), .b (acc.contains 48), .b (acc.contains 32), .i .i64 wd, .i .i64 p, .i .u8 0, .i .i64 0], .b false]) (by simp (maxSteps := 4000000) only [push_cast, Int.reduceEq, Int.reduceBNe, Int.reduceBEq, Int.reduceAdd, Int.reduceSub, Int.reduceMul, Int.reduceNeg, Int.reduceLT, Int.reduceLE, Int.reduceToNat, Nat.reduceLT, Nat.reduceAdd, Nat.reduceSub, Nat.reduceMul, Nat.reduceEqDiff, Nat.reduceLeDiff, Nat.reduceBEq, reduceIte, reduceCtorEq]) ⟨rfl, ?_⟩
    rw [k1]
    exact ⟨_, _, _, _, _, _, _, _, rfl⟩
end Go.Proofs.YtciokebdmnaobaaDoor
/- The page's patterns: a value as a text. -/
namespace Go.Proofs.YtciokebdmnaobaaDoor
open Go Go.Eng
set_option maxHeartbeats 4000000
set_option linter.unusedSimpArgs false
set_option linter.unusedVariables false
set_option maxRecDepth 100000

theorem ofU_rep (n : Nat) (c : UInt8) : ofU (List.replicate n c) ++ [(c.toNat : Int)] = ofU (List.replicate (n + 1) c) := by
  rw [List.replicate_succ', ofU_app]; rfl
theorem many_c (c : UInt8) (n : Int) (hn : n ≤ 100000) : Contract Tryd.prog 53 nilSS [.i .u8 (c.toNat : Int), .i .i64 n] (fun sv post => sv = .s (bs (List.replicate n.toNat c)) ∧ post = nilSS) := by
  refine contract_ev Γok Tryd.func53 rfl rfl [] ?_
  simp (maxSteps := 4000000) only [push_cast, Int.reduceEq, Int.reduceBNe, Int.reduceBEq, Int.reduceAdd, Int.reduceSub, Int.reduceMul, Int.reduceNeg, Int.reduceLT, Int.reduceLE, Int.reduceToNat, Nat.reduceLT, Nat.reduceAdd, Nat.reduceSub, Nat.reduceMul, Nat.reduceEqDiff, Nat.reduceLeDiff, Nat.reduceBEq, reduceIte, reduceCtorEq, Tryd.f53]
  refine loop_ok (ι := {i : Nat // i ≤ n.toNat}) (fun i => ⟨[.i .u8 (c.toNat : Int), .i .i64 n, .any, .any, .any, .ints .u8 (.tok 0 true) (ofU (List.replicate i.1 c)), .i .i64 i.1] ++ List.replicate 11 .any, [], [0], [], 1, 0, []⟩) (fun i => n.toNat - i.1) ⟨0, Nat.zero_le _⟩ ?_ ?_
  · refine Sub.trans (Sub.tokFr 5 rfl) (Sub.w [0] ?_)
    simp (maxSteps := 4000000) only [push_cast, Int.reduceEq, Int.reduceBNe, Int.reduceBEq, Int.reduceAdd, Int.reduceSub, Int.reduceMul, Int.reduceNeg, Int.reduceLT, Int.reduceLE, Int.reduceToNat, Nat.reduceLT, Nat.reduceAdd, Nat.reduceSub, Nat.reduceMul, Nat.reduceEqDiff, Nat.reduceLeDiff, Nat.reduceBEq, reduceIte, reduceCtorEq]
    rfl
  rintro ⟨i, hi⟩
  refine evCode_sound Γok _ _ _ ?_
  simp (maxSteps := 4000000) only [push_cast, Int.reduceEq, Int.reduceBNe, Int.reduceBEq, Int.reduceAdd, Int.reduceSub, Int.reduceMul, Int.reduceNeg, Int.reduceLT, Int.reduceLE, Int.reduceToNat, Nat.reduceLT, Nat.reduceAdd, Nat.reduceSub, Nat.reduceMul, Nat.reduceEqDiff, Nat.reduceLeDiff, Nat.reduceBEq, reduceIte, reduceCtorEq]
  have hl : (ofU (List.replicate i c)).length = i := by rw [ofU_len]; simp
  refine ⟨fun h => ?_, fun h => ?_⟩
  · rw [hl, ofU_rep]
    refine ⟨by omega, ⟨i + 1, by omega⟩, by simp only; omega, Sub.w [2] ?_⟩
    simp (maxSteps := 4000000) only [push_cast, Int.reduceEq, Int.reduceBNe, Int.reduceBEq, Int.reduceAdd, Int.reduceSub, Int.reduceMul, Int.reduceNeg, Int.reduceLT, Int.reduceLE, Int.reduceToNat, Nat.reduceLT, Nat.reduceAdd, Nat.reduceSub, Nat.reduceMul, Nat.reduceEqDiff, Nat.reduceLeDiff, Nat.reduceBEq, reduceIte, reduceCtorEq]
    exact (wrap64 (n := (i : Int) + 1) (by omega) (by omega)).symm
  · rw [bs_str, show i = n.toNat by omega]
    exact Fin.nil rfl (psv := .s _) (by simp (maxSteps := 4000000) only [push_cast, Int.reduceEq, Int.reduceBNe, Int.reduceBEq, Int.reduceAdd, Int.reduceSub, Int.reduceMul, Int.reduceNeg, Int.reduceLT, Int.reduceLE, Int.reduceToNat, Nat.reduceLT, Nat.reduceAdd, Nat.reduceSub, Nat.reduceMul, Nat.reduceEqDiff, Nat.reduceLeDiff, Nat.reduceBEq, reduceIte, reduceCtorEq]) ⟨rfl, rfl⟩

theorem places17_c (n b : Nat) (hn : n < 18446744073709551616) (hb : 2 ≤ b) (hb2 : b ≤ 16) : Contract Tryd.prog 69 nilSS [.i .u64 n, .i .i64 b] (fun sv post => sv = .s (bs (placesP n b)) ∧ post = nilSS) := by
  refine contract_ev Γok Tryd.func69 rfl rfl [] ?_
  simp (maxSteps := 4000000) only [push_cast, Int.reduceEq, Int.reduceBNe, Int.reduceBEq, Int.reduceAdd, Int.reduceSub, Int.reduceMul, Int.reduceNeg, Int.reduceLT, Int.reduceLE, Int.reduceToNat, Nat.reduceLT, Nat.reduceAdd, Nat.reduceSub, Nat.reduceMul, Nat.reduceEqDiff, Nat.reduceLeDiff, Nat.reduceBEq, reduceIte, reduceCtorEq, Tryd.f69, mk_bs]
  have e1 : IntKind.u64.wrap (b : Int) = b := by rw [IntKind.wrap_u64]; omega
  refine loop_ok (ι := {q : List UInt8 × Nat × Nat // q.1 ++ lowF q.2.2 q.2.1 b = lowF 64 n b ∧ 1 ≤ q.2.2 ∧ q.2.1 < 2 ^ q.2.2 ∧ q.1.length + q.2.2 ≤ 64 ∧ q.2.1 < 18446744073709551616}) (fun q => ⟨[.i .u64 q.1.2.1, .i .i64 b, .any, .any, .any, .s (bs q.1.1.reverse)] ++ List.replicate 16 .any, [], [], [], 0, 0, []⟩) (fun q => q.1.2.2) ⟨([], n, 64), rfl, by simp, hn, by simp, hn⟩ ?_ ?_
  · exact Sub.w [] (by simp (maxSteps := 4000000) only [push_cast, Int.reduceEq, Int.reduceBNe, Int.reduceBEq, Int.reduceAdd, Int.reduceSub, Int.reduceMul, Int.reduceNeg, Int.reduceLT, Int.reduceLE, Int.reduceToNat, Nat.reduceLT, Nat.reduceAdd, Nat.reduceSub, Nat.reduceMul, Nat.reduceEqDiff, Nat.reduceLeDiff, Nat.reduceBEq, reduceIte, reduceCtorEq]; rfl)
  rintro ⟨⟨acc, m, f⟩, r1, r2, r3, q3, q4⟩
  simp only at r1 r2 r3 q3 q4
  refine evCode_sound Γok _ _ _ ?_
  simp (maxSteps := 4000000) only [push_cast, Int.reduceEq, Int.reduceBNe, Int.reduceBEq, Int.reduceAdd, Int.reduceSub, Int.reduceMul, Int.reduceNeg, Int.reduceLT, Int.reduceLE, Int.reduceToNat, Nat.reduceLT, Nat.reduceAdd, Nat.reduceSub, Nat.reduceMul, Nat.reduceEqDiff, Nat.reduceLeDiff, Nat.reduceBEq, reduceIte, reduceCtorEq, mk_bs, bs_size, bs_at]
  rw [e1]
  have hb0 : ¬ (b : Int) = 0 := by omega
  have t1 : (m : Int).tmod b = ((m % b : Nat) : Int) := by rw [Int.tmod_eq_emod_of_nonneg (by omega)]; rfl
  have t2 : IntKind.u64.wrap ((m : Int).tdiv b) = ((m / b : Nat) : Int) := by
    have h1 : m / b ≤ m := Nat.div_le_self _ _
    rw [Int.tdiv_eq_ediv_of_nonneg (by omega), show (m : Int) / b = ((m / b : Nat) : Int) from rfl, IntKind.wrap_u64]
    generalize m / b = k at h1 ⊢
    omega
  have t3 : m % b < b := Nat.mod_lt _ (by omega)
  have t4 : lowF f m b = dchar (m % b) :: (if m / b = 0 then [] else lowF (f - 1) (m / b) b) := by
    obtain ⟨k, rfl⟩ : ∃ k, f = k + 1 := ⟨f - 1, by omega⟩
    rfl
  have t5 : m / b < 2 ^ (f - 1) := by
    have h2 : (2 : Nat) ^ f = 2 * 2 ^ (f - 1) := by rw [← Nat.pow_succ']; congr 1; omega
    have h3 : m / b ≤ m / 2 := Nat.div_le_div_left hb (by omega)
    omega
  have t6 : m / b ≤ m := Nat.div_le_self _ _
  rw [t1, t2]
  generalize m % b = d at t3 t4 ⊢
  generalize m / b = m2 at t4 t5 t6 ⊢
  clear t1 t2
  rw [Int.toNat_natCast, show ([48, 49, 50, 51, 52, 53, 54, 55, 56, 57, 97, 98, 99, 100, 101, 102] : List UInt8) = hexs from rfl, hexs_at d (by omega), show ([((dchar d).toNat : Int)] : List Int) = ofU [dchar d] from rfl, bs_str, bs_app, bs_size]
  have hrev : [dchar d] ++ acc.reverse = (acc ++ [dchar d]).reverse := by simp
  rw [hrev]
  refine ⟨hb0, by omega, by simp only [List.length_cons, List.length_nil, List.length_reverse]; omega, hb0, fun h => ?_, fun h => ?_⟩
  · rw [if_pos (by omega)] at t4
    have : placesP n b = (acc ++ [dchar d]).reverse := by unfold placesP; rw [← r1, t4]
    rw [← this]
    exact Fin.nil rfl (psv := .s _) (by simp (maxSteps := 4000000) only [push_cast, Int.reduceEq, Int.reduceBNe, Int.reduceBEq, Int.reduceAdd, Int.reduceSub, Int.reduceMul, Int.reduceNeg, Int.reduceLT, Int.reduceLE, Int.reduceToNat, Nat.reduceLT, Nat.reduceAdd, Nat.reduceSub, Nat.reduceMul, Nat.reduceEqDiff, Nat.reduceLeDiff, Nat.reduceBEq, reduceIte, reduceCtorEq]) ⟨rfl, rfl⟩
  · rw [if_neg (by omega)] at t4
    refine ⟨⟨(acc ++ [dchar d], m2, f - 1), by rw [List.append_assoc]; exact (by rw [← r1, t4]; rfl), ?_, t5, by simp only [List.length_append, List.length_cons, List.length_nil]; omega, by simp only; omega⟩, by simp only; omega, Sub.w [] (by simp (maxSteps := 4000000) only [push_cast, Int.reduceEq, Int.reduceBNe, Int.reduceBEq, Int.reduceAdd, Int.reduceSub, Int.reduceMul, Int.reduceNeg, Int.reduceLT, Int.reduceLE, Int.reduceToNat, Nat.reduceLT, Nat.reduceAdd, Nat.reduceSub, Nat.reduceMul, Nat.reduceEqDiff, Nat.reduceLeDiff, Nat.reduceBEq, reduceIte, reduceCtorEq])⟩
    rcases Nat.eq_zero_or_pos (f - 1) with h3 | h3
    · rw [h3] at t5; omega
    · exact h3

theorem upper17_c (s : List UInt8) (hs : s.length ≤ 140737488355328) : Contract Tryd.prog 70 nilSS [.s (bs s)] (fun sv post => sv = .s (bs (s.map upC)) ∧ post = nilSS) := by
  refine contract_ev Γok Tryd.func70 rfl rfl [] ?_
  simp (maxSteps := 4000000) only [push_cast, Int.reduceEq, Int.reduceBNe, Int.reduceBEq, Int.reduceAdd, Int.reduceSub, Int.reduceMul, Int.reduceNeg, Int.reduceLT, Int.reduceLE, Int.reduceToNat, Nat.reduceLT, Nat.reduceAdd, Nat.reduceSub, Nat.reduceMul, Nat.reduceEqDiff, Nat.reduceLeDiff, Nat.reduceBEq, reduceIte, reduceCtorEq, Tryd.f70]
  refine loop_ok (ι := {i : Nat // i ≤ s.length}) (fun i => ⟨[.s (bs s), .any, .any, .ints .u8 (.tok 0 true) (ofU ((s.take i.1).map upC)), .i .i64 i.1] ++ List.replicate 24 .any, [], [0], [], 1, 0, []⟩) (fun i => s.length - i.1) ⟨0, Nat.zero_le _⟩ ?_ ?_
  · refine Sub.trans (Sub.tokFr 3 rfl) (Sub.w [0] ?_)
    simp (maxSteps := 4000000) only [push_cast, Int.reduceEq, Int.reduceBNe, Int.reduceBEq, Int.reduceAdd, Int.reduceSub, Int.reduceMul, Int.reduceNeg, Int.reduceLT, Int.reduceLE, Int.reduceToNat, Nat.reduceLT, Nat.reduceAdd, Nat.reduceSub, Nat.reduceMul, Nat.reduceEqDiff, Nat.reduceLeDiff, Nat.reduceBEq, reduceIte, reduceCtorEq]
    rfl
  rintro ⟨i, hi⟩
  refine evCode_sound Γok _ _ _ ?_
  simp (maxSteps := 4000000) only [push_cast, Int.reduceEq, Int.reduceBNe, Int.reduceBEq, Int.reduceAdd, Int.reduceSub, Int.reduceMul, Int.reduceNeg, Int.reduceLT, Int.reduceLE, Int.reduceToNat, Nat.reduceLT, Nat.reduceAdd, Nat.reduceSub, Nat.reduceMul, Nat.reduceEqDiff, Nat.reduceLeDiff, Nat.reduceBEq, reduceIte, reduceCtorEq, bs_size, bs_at, Int.toNat_natCast]
  generalize hc : (s[i]?).getD 0 = c
  have hl : (ofU ((s.take i).map upC)).length = i := by rw [ofU_len]; simp; omega
  rw [hl]
  have hc2 := u8_lt c
  refine ⟨fun h => ?_, fun h => ?_⟩
  · have hn : i < s.length := by omega
    rw [getD_lt hn] at hc
    have e : ofU ((s.take (i + 1)).map upC) = ofU ((s.take i).map upC) ++ [((upC c).toNat : Int)] := by
      rw [← List.take_append_getElem hn, hc, List.map_append, ofU_app]; rfl
    refine ⟨by omega, fun h1 => ⟨by omega, ⟨i + 1, hn⟩, by simp only; omega, Sub.w [2] ?_⟩, fun h1 => ⟨by omega, ⟨i + 1, hn⟩, by simp only; omega, Sub.w [2] ?_⟩⟩
    · have hu : upC c = c - 32 := if_pos (by simp; omega)
      have hv : ((upC c).toNat : Int) = IntKind.u8.wrap ((c.toNat : Int) - 32) := by
        rw [hu, UInt8.toNat_sub_of_le c 32 (by rw [UInt8.le_iff_toNat_le]; show 32 ≤ _; omega), IntKind.wrap_u8]
        show ((c.toNat - 32 : Nat) : Int) = _
        omega
      simp (maxSteps := 4000000) only [push_cast, Int.reduceEq, Int.reduceBNe, Int.reduceBEq, Int.reduceAdd, Int.reduceSub, Int.reduceMul, Int.reduceNeg, Int.reduceLT, Int.reduceLE, Int.reduceToNat, Nat.reduceLT, Nat.reduceAdd, Nat.reduceSub, Nat.reduceMul, Nat.reduceEqDiff, Nat.reduceLeDiff, Nat.reduceBEq, reduceIte, reduceCtorEq]
      rw [e, hv]
      exact ⟨rfl, (wrap64 (n := (i : Int) + 1) (by omega) (by omega)).symm⟩
    · have hu : upC c = c := if_neg (by simp; omega)
      simp (maxSteps := 4000000) only [push_cast, Int.reduceEq, Int.reduceBNe, Int.reduceBEq, Int.reduceAdd, Int.reduceSub, Int.reduceMul, Int.reduceNeg, Int.reduceLT, Int.reduceLE, Int.reduceToNat, Nat.reduceLT, Nat.reduceAdd, Nat.reduceSub, Nat.reduceMul, Nat.reduceEqDiff, Nat.reduceLeDiff, Nat.reduceBEq, reduceIte, reduceCtorEq]
      rw [e, hu]
      exact ⟨rfl, (wrap64 (n := (i : Int) + 1) (by omega) (by omega)).symm⟩
  · rw [bs_str, List.take_of_length_le (by omega)]
    exact Fin.nil rfl (psv := .s _) (by simp (maxSteps := 4000000) only [push_cast, Int.reduceEq, Int.reduceBNe, Int.reduceBEq, Int.reduceAdd, Int.reduceSub, Int.reduceMul, Int.reduceNeg, Int.reduceLT, Int.reduceLE, Int.reduceToNat, Nat.reduceLT, Nat.reduceAdd, Nat.reduceSub, Nat.reduceMul, Nat.reduceEqDiff, Nat.reduceLeDiff, Nat.reduceBEq, reduceIte, reduceCtorEq]) ⟨rfl, rfl⟩
end Go.Proofs.YtciokebdmnaobaaDoor
/- The page's patterns: a directive's text. -/
namespace Go.Proofs.YtciokebdmnaobaaDoor
open Go Go.Eng
set_option maxHeartbeats 4000000
set_option linter.unusedSimpArgs false
set_option linter.unusedVariables false
set_option maxRecDepth 100000

def rV (d : Dir) (e : Int) : SV := .agg (rC d.flags d.width d.prec d.verb.toNat e)
theorem core_c {d : Dir} {a : AV} (h : d.verb = 99) : coreP d a = ([], [UInt8.ofNat a.u.toNat]) := if_pos h
theorem core_s {d : Dir} {a : AV} (h : ¬ d.verb = 99) (h1 : d.verb = 115) : coreP d a = ([], if 0 ≤ d.prec then a.t.take d.prec.toNat else a.t) := by unfold coreP; rw [if_neg h, if_pos h1]
theorem core_n {d : Dir} {a : AV} (h : ¬ d.verb = 99) (h1 : ¬ d.verb = 115) : coreP d a = (signP d a, digitsP d a) := by unfold coreP; rw [if_neg h, if_neg h1]

theorem plain17_c (d : Dir) (e : Int) (a : AV) (ha : a.ok) (ht : a.t.length ≤ 140737488355328) (hp : -1 ≤ d.prec) (hp2 : d.prec ≤ 4096) : Contract Tryd.prog 52 nilSS [rV d e, argV a] (fun sv post => sv = .tup [.s (bs (coreP d a).1), .s (bs (coreP d a).2)] ∧ post = nilSS) := by
  refine contract_of Γok Tryd.func52 rfl rfl (stop := []) ?_
  simp only [Tryd.f52]
  refine CodeOK.seq (evCode_sound Γok _ _ _ ?_)
  simp (maxSteps := 4000000) only [push_cast, Int.reduceEq, Int.reduceBNe, Int.reduceBEq, Int.reduceAdd, Int.reduceSub, Int.reduceMul, Int.reduceNeg, Int.reduceLT, Int.reduceLE, Int.reduceToNat, Nat.reduceLT, Nat.reduceAdd, Nat.reduceSub, Nat.reduceMul, Nat.reduceEqDiff, Nat.reduceLeDiff, Nat.reduceBEq, reduceIte, reduceCtorEq, rV, rC, argV, argC]
  refine CodeOK.seq (evCode_sound Γok _ _ _ ?_)
  simp (maxSteps := 4000000) only [push_cast, Int.reduceEq, Int.reduceBNe, Int.reduceBEq, Int.reduceAdd, Int.reduceSub, Int.reduceMul, Int.reduceNeg, Int.reduceLT, Int.reduceLE, Int.reduceToNat, Nat.reduceLT, Nat.reduceAdd, Nat.reduceSub, Nat.reduceMul, Nat.reduceEqDiff, Nat.reduceLeDiff, Nat.reduceBEq, reduceIte, reduceCtorEq, mk_bs, bs_size, v99, v115]
  refine ⟨fun h => ?_, fun h => ⟨fun h1 => ⟨fun h2 => ?_, fun h2 => ?_⟩, fun h1 => ?_⟩⟩
  · refine (region_plan rfl Γok mixed (.pure 0 (.pure 1 (.pure 2 (.pure 5 (.eff (.cons 3 [] (.pure 4 (.pure 6 .done)) .nil)))))) 94 rfl (by kernel_rfl) ?_)
    simp (maxSteps := 4000000) only [push_cast, Int.reduceEq, Int.reduceBNe, Int.reduceBEq, Int.reduceAdd, Int.reduceSub, Int.reduceMul, Int.reduceNeg, Int.reduceLT, Int.reduceLE, Int.reduceToNat, Nat.reduceLT, Nat.reduceAdd, Nat.reduceSub, Nat.reduceMul, Nat.reduceEqDiff, Nat.reduceLeDiff, Nat.reduceBEq, reduceIte, reduceCtorEq, mk_bs]
    rw [core_c h]
    have e : strOf [IntKind.u8.wrap a.u] = bs [UInt8.ofNat a.u.toNat] := by
      have := ha.u0
      have := ha.u1
      unfold strOf bs
      simp only [List.map_cons, List.map_nil]
      congr 2
      rw [IntKind.wrap_u8]
      rw [show (a.u % 256).toNat = a.u.toNat % 256 by omega]
      have : ∀ n : Nat, UInt8.ofNat n = UInt8.ofNat (n % 256) := fun n => UInt8.toNat_inj.1 (by simp)
      rw [← this]
    rw [e]
    exact Fin.w [] (.tup [.s (bs []), .s (bs [UInt8.ofNat a.u.toNat])]) _ (by simp (maxSteps := 4000000) only [push_cast, Int.reduceEq, Int.reduceBNe, Int.reduceBEq, Int.reduceAdd, Int.reduceSub, Int.reduceMul, Int.reduceNeg, Int.reduceLT, Int.reduceLE, Int.reduceToNat, Nat.reduceLT, Nat.reduceAdd, Nat.reduceSub, Nat.reduceMul, Nat.reduceEqDiff, Nat.reduceLeDiff, Nat.reduceBEq, reduceIte, reduceCtorEq]) ⟨rfl, rfl⟩
  · refine (region_plan rfl Γok mixed (.pure 0 (.pure 1 (.pure 2 (.pure 3 (.pure 4 (.pure 5 (.pure 6 .done))))))) 94 rfl (by kernel_rfl) ?_)
    simp (maxSteps := 4000000) only [push_cast, Int.reduceEq, Int.reduceBNe, Int.reduceBEq, Int.reduceAdd, Int.reduceSub, Int.reduceMul, Int.reduceNeg, Int.reduceLT, Int.reduceLE, Int.reduceToNat, Nat.reduceLT, Nat.reduceAdd, Nat.reduceSub, Nat.reduceMul, Nat.reduceEqDiff, Nat.reduceLeDiff, Nat.reduceBEq, reduceIte, reduceCtorEq, mk_bs, bs_size, bs_cut]
    rw [core_s h h1]
    refine ⟨by omega, ?_⟩
    exact Fin.w [] (.tup [.s (bs []), .s (bs (List.take d.prec.toNat a.t))]) _ (by simp (maxSteps := 4000000) only [push_cast, Int.reduceEq, Int.reduceBNe, Int.reduceBEq, Int.reduceAdd, Int.reduceSub, Int.reduceMul, Int.reduceNeg, Int.reduceLT, Int.reduceLE, Int.reduceToNat, Nat.reduceLT, Nat.reduceAdd, Nat.reduceSub, Nat.reduceMul, Nat.reduceEqDiff, Nat.reduceLeDiff, Nat.reduceBEq, reduceIte, reduceCtorEq]) ⟨by simp only; rw [if_pos h2.1], rfl⟩
  · refine (region_plan rfl Γok mixed (.pure 0 (.pure 1 (.pure 2 (.pure 3 .done)))) 94 rfl (by kernel_rfl) ?_)
    simp (maxSteps := 4000000) only [push_cast, Int.reduceEq, Int.reduceBNe, Int.reduceBEq, Int.reduceAdd, Int.reduceSub, Int.reduceMul, Int.reduceNeg, Int.reduceLT, Int.reduceLE, Int.reduceToNat, Nat.reduceLT, Nat.reduceAdd, Nat.reduceSub, Nat.reduceMul, Nat.reduceEqDiff, Nat.reduceLeDiff, Nat.reduceBEq, reduceIte, reduceCtorEq, mk_bs]
    rw [core_s h h1]
    have e2 : (if 0 ≤ d.prec then List.take d.prec.toNat a.t else a.t) = a.t := by
      split
      · exact List.take_of_length_le (by omega)
      · rfl
    exact Fin.w [] (.tup [.s (bs []), .s (bs a.t)]) _ (by simp (maxSteps := 4000000) only [push_cast, Int.reduceEq, Int.reduceBNe, Int.reduceBEq, Int.reduceAdd, Int.reduceSub, Int.reduceMul, Int.reduceNeg, Int.reduceLT, Int.reduceLE, Int.reduceToNat, Nat.reduceLT, Nat.reduceAdd, Nat.reduceSub, Nat.reduceMul, Nat.reduceEqDiff, Nat.reduceLeDiff, Nat.reduceBEq, reduceIte, reduceCtorEq]) ⟨by simp only; rw [e2], rfl⟩
  rw [core_n h h1]
  refine CodeOK.seq ?_
  refine (region_plan rfl Γok mixed (.pure 0 (.pure 1 (.pure 2 (.pure 3 (.pure 4 .done))))) 94 rfl (by kernel_rfl) ?_)
  simp (maxSteps := 4000000) only [push_cast, Int.reduceEq, Int.reduceBNe, Int.reduceBEq, Int.reduceAdd, Int.reduceSub, Int.reduceMul, Int.reduceNeg, Int.reduceLT, Int.reduceLE, Int.reduceToNat, Nat.reduceLT, Nat.reduceAdd, Nat.reduceSub, Nat.reduceMul, Nat.reduceEqDiff, Nat.reduceLeDiff, Nat.reduceBEq, reduceIte, reduceCtorEq, mk_bs]
  refine code_cut ⟨[.any, .any, .ptr 0 0, .ptr 1 0, .any, .any, .s (bs (signP d a)), .i .u64 (magP d a), .i .i64 (baseP d.verb)] ++ List.replicate 85 .any, [(0, 69, rC d.flags d.width d.prec d.verb.toNat e), (1, 39, argC a)], [], [], 2, 0, []⟩ (evCode_sound Γok _ _ _ ?_) (CodeOK.seq (evCode_sound Γok _ _ _ ?_))
  · simp (maxSteps := 4000000) only [push_cast, Int.reduceEq, Int.reduceBNe, Int.reduceBEq, Int.reduceAdd, Int.reduceSub, Int.reduceMul, Int.reduceNeg, Int.reduceLT, Int.reduceLE, Int.reduceToNat, Nat.reduceLT, Nat.reduceAdd, Nat.reduceSub, Nat.reduceMul, Nat.reduceEqDiff, Nat.reduceLeDiff, Nat.reduceBEq, reduceIte, reduceCtorEq, v100, v120, v88, v111, mk_bs]
    obtain ⟨n0, n1, u0, u1⟩ := ha
    have hm1 : d.verb = 100 → a.n < 0 → IntKind.u64.wrap (IntKind.u64.wrap (IntKind.i64.wrap (0 - IntKind.i64.wrap (a.n + 1))) + 1) = (magP d a : Int) := fun h h1 => by
      unfold magP
      rw [if_pos h, wrap64 (n := a.n + 1) (by omega) (by omega), wrap64 (by omega) (by omega), IntKind.wrap_u64, IntKind.wrap_u64]
      omega
    have hm2 : d.verb = 100 → 0 ≤ a.n → IntKind.u64.wrap a.n = (magP d a : Int) := fun h h1 => by
      unfold magP
      rw [if_pos h, IntKind.wrap_u64]
      omega
    have hm3 : ¬ d.verb = 100 → a.u = (magP d a : Int) := fun h => by
      unfold magP
      rw [if_neg h]
      omega
    refine ⟨fun q => ⟨fun q1 => ?_, fun q1 => ⟨fun q2 => Sub.w [0, 1] ?_, fun q2 => ⟨fun q3 => Sub.w [0, 1] ?_, fun q3 => Sub.w [0, 1] ?_⟩⟩⟩, fun q => ⟨fun q1 => ⟨fun _ => Sub.w [0, 1] ?_, fun q2 => absurd q1 q2⟩, fun q1 => ⟨fun q2 => Sub.w [0, 1] ?_, fun q2 => ⟨fun q3 => Sub.w [0, 1] ?_, fun q3 => Sub.w [0, 1] ?_⟩⟩⟩⟩
    · refine (region_plan rfl Γok mixed (.pure 0 (.pure 1 (.pure 2 (.pure 3 (.pure 4 (.pure 5 (.pure 6 (.pure 7 .done)))))))) 94 rfl (by kernel_rfl) ?_)
      simp (maxSteps := 4000000) only [push_cast, Int.reduceEq, Int.reduceBNe, Int.reduceBEq, Int.reduceAdd, Int.reduceSub, Int.reduceMul, Int.reduceNeg, Int.reduceLT, Int.reduceLE, Int.reduceToNat, Nat.reduceLT, Nat.reduceAdd, Nat.reduceSub, Nat.reduceMul, Nat.reduceEqDiff, Nat.reduceLeDiff, Nat.reduceBEq, reduceIte, reduceCtorEq, mk_bs]
      refine Sub.w [0, 1] ?_
      simp (maxSteps := 4000000) only [push_cast, Int.reduceEq, Int.reduceBNe, Int.reduceBEq, Int.reduceAdd, Int.reduceSub, Int.reduceMul, Int.reduceNeg, Int.reduceLT, Int.reduceLE, Int.reduceToNat, Nat.reduceLT, Nat.reduceAdd, Nat.reduceSub, Nat.reduceMul, Nat.reduceEqDiff, Nat.reduceLeDiff, Nat.reduceBEq, reduceIte, reduceCtorEq, rC, argC]
      exact ⟨by unfold signP; rw [if_pos q, if_pos q1], (hm1 q q1).symm, by simp [baseP, q]⟩
    · have h4 : ¬ a.n < 0 := by omega
      simp (maxSteps := 4000000) only [push_cast, Int.reduceEq, Int.reduceBNe, Int.reduceBEq, Int.reduceAdd, Int.reduceSub, Int.reduceMul, Int.reduceNeg, Int.reduceLT, Int.reduceLE, Int.reduceToNat, Nat.reduceLT, Nat.reduceAdd, Nat.reduceSub, Nat.reduceMul, Nat.reduceEqDiff, Nat.reduceLeDiff, Nat.reduceBEq, reduceIte, reduceCtorEq, rC, argC]
      exact ⟨by unfold signP; rw [if_pos q, if_neg h4, if_pos q2], (hm2 q q1).symm, by simp [baseP, q]⟩
    · have h4 : ¬ a.n < 0 := by omega
      simp (maxSteps := 4000000) only [push_cast, Int.reduceEq, Int.reduceBNe, Int.reduceBEq, Int.reduceAdd, Int.reduceSub, Int.reduceMul, Int.reduceNeg, Int.reduceLT, Int.reduceLE, Int.reduceToNat, Nat.reduceLT, Nat.reduceAdd, Nat.reduceSub, Nat.reduceMul, Nat.reduceEqDiff, Nat.reduceLeDiff, Nat.reduceBEq, reduceIte, reduceCtorEq, rC, argC]
      exact ⟨by unfold signP; rw [if_pos q, if_neg h4, if_neg (by rw [q2]; simp), if_pos q3], (hm2 q q1).symm, by simp [baseP, q]⟩
    · have h4 : ¬ a.n < 0 := by omega
      simp (maxSteps := 4000000) only [push_cast, Int.reduceEq, Int.reduceBNe, Int.reduceBEq, Int.reduceAdd, Int.reduceSub, Int.reduceMul, Int.reduceNeg, Int.reduceLT, Int.reduceLE, Int.reduceToNat, Nat.reduceLT, Nat.reduceAdd, Nat.reduceSub, Nat.reduceMul, Nat.reduceEqDiff, Nat.reduceLeDiff, Nat.reduceBEq, reduceIte, reduceCtorEq, rC, argC]
      exact ⟨by unfold signP; rw [if_pos q, if_neg h4, if_neg (by rw [q2]; simp), if_neg (by rw [q3]; simp)], (hm2 q q1).symm, by simp [baseP, q]⟩
    all_goals
      simp (maxSteps := 4000000) only [push_cast, Int.reduceEq, Int.reduceBNe, Int.reduceBEq, Int.reduceAdd, Int.reduceSub, Int.reduceMul, Int.reduceNeg, Int.reduceLT, Int.reduceLE, Int.reduceToNat, Nat.reduceLT, Nat.reduceAdd, Nat.reduceSub, Nat.reduceMul, Nat.reduceEqDiff, Nat.reduceLeDiff, Nat.reduceBEq, reduceIte, reduceCtorEq, rC, argC]
      first
        | exact ⟨by simp [signP, q], (hm3 q).symm, by simp [baseP, *]⟩
        | exact ⟨by simp [signP, q], (hm3 q).symm, by simp [baseP, q1, q2, q3]⟩
  simp (maxSteps := 4000000) only [push_cast, Int.reduceEq, Int.reduceBNe, Int.reduceBEq, Int.reduceAdd, Int.reduceSub, Int.reduceMul, Int.reduceNeg, Int.reduceLT, Int.reduceLE, Int.reduceToNat, Nat.reduceLT, Nat.reduceAdd, Nat.reduceSub, Nat.reduceMul, Nat.reduceEqDiff, Nat.reduceLeDiff, Nat.reduceBEq, reduceIte, reduceCtorEq, rC]
  have hb := baseP_ok d.verb
  have hmag : magP d a < 18446744073709551616 := by
    obtain ⟨n0, n1, u0, u1⟩ := ha
    unfold magP
    split <;> omega
  refine call_w (places17_c (magP d a) (baseP d.verb) hmag hb.1 hb.2) [] (by simp (maxSteps := 4000000) only [push_cast, Int.reduceEq, Int.reduceBNe, Int.reduceBEq, Int.reduceAdd, Int.reduceSub, Int.reduceMul, Int.reduceNeg, Int.reduceLT, Int.reduceLE, Int.reduceToNat, Nat.reduceLT, Nat.reduceAdd, Nat.reduceSub, Nat.reduceMul, Nat.reduceEqDiff, Nat.reduceLeDiff, Nat.reduceBEq, reduceIte, reduceCtorEq]) ?_
  rintro sv post ⟨rfl, rfl⟩
  simp (maxSteps := 4000000) only [push_cast, Int.reduceEq, Int.reduceBNe, Int.reduceBEq, Int.reduceAdd, Int.reduceSub, Int.reduceMul, Int.reduceNeg, Int.reduceLT, Int.reduceLE, Int.reduceToNat, Nat.reduceLT, Nat.reduceAdd, Nat.reduceSub, Nat.reduceMul, Nat.reduceEqDiff, Nat.reduceLeDiff, Nat.reduceBEq, reduceIte, reduceCtorEq, mk_bs, bs_size]
  have hl2 := barP_len d a
  refine code_cut ⟨[.any, .any, .ptr 0 0, .ptr 1 0, .any, .any, .s (bs (signP d a)), .any, .any, .s (bs (barP d a))] ++ List.replicate 84 .any, [(0, 69, rC d.flags d.width d.prec d.verb.toNat e), (1, 39, argC a)], [], [], 2, 0, []⟩ (evCode_sound Γok _ _ _ ?_) (CodeOK.seq (evCode_sound Γok _ _ _ ?_))
  · simp (maxSteps := 4000000) only [push_cast, Int.reduceEq, Int.reduceBNe, Int.reduceBEq, Int.reduceAdd, Int.reduceSub, Int.reduceMul, Int.reduceNeg, Int.reduceLT, Int.reduceLE, Int.reduceToNat, Nat.reduceLT, Nat.reduceAdd, Nat.reduceSub, Nat.reduceMul, Nat.reduceEqDiff, Nat.reduceLeDiff, Nat.reduceBEq, reduceIte, reduceCtorEq, mk_bs, bs_size]
    refine ⟨fun h => Sub.w [0, 1] ?_, fun h => Sub.w [0, 1] ?_⟩ <;> simp (maxSteps := 4000000) only [push_cast, Int.reduceEq, Int.reduceBNe, Int.reduceBEq, Int.reduceAdd, Int.reduceSub, Int.reduceMul, Int.reduceNeg, Int.reduceLT, Int.reduceLE, Int.reduceToNat, Nat.reduceLT, Nat.reduceAdd, Nat.reduceSub, Nat.reduceMul, Nat.reduceEqDiff, Nat.reduceLeDiff, Nat.reduceBEq, reduceIte, reduceCtorEq, rC, argC]
    · unfold barP; rw [if_pos ⟨by omega, by omega⟩]
    · unfold barP; rw [if_neg (by omega)]
  simp (maxSteps := 4000000) only [push_cast, Int.reduceEq, Int.reduceBNe, Int.reduceBEq, Int.reduceAdd, Int.reduceSub, Int.reduceMul, Int.reduceNeg, Int.reduceLT, Int.reduceLE, Int.reduceToNat, Nat.reduceLT, Nat.reduceAdd, Nat.reduceSub, Nat.reduceMul, Nat.reduceEqDiff, Nat.reduceLeDiff, Nat.reduceBEq, reduceIte, reduceCtorEq, rC, mk_bs, bs_size]
  rw [wrap64 (n := d.prec - (barP d a).length) (by omega) (by omega)]
  refine call_w (many_c 48 (d.prec - (barP d a).length) (by omega)) [] (by simp (maxSteps := 4000000) only [push_cast, Int.reduceEq, Int.reduceBNe, Int.reduceBEq, Int.reduceAdd, Int.reduceSub, Int.reduceMul, Int.reduceNeg, Int.reduceLT, Int.reduceLE, Int.reduceToNat, Nat.reduceLT, Nat.reduceAdd, Nat.reduceSub, Nat.reduceMul, Nat.reduceEqDiff, Nat.reduceLeDiff, Nat.reduceBEq, reduceIte, reduceCtorEq]; rfl) ?_
  rintro sv post ⟨rfl, rfl⟩
  simp (maxSteps := 4000000) only [push_cast, Int.reduceEq, Int.reduceBNe, Int.reduceBEq, Int.reduceAdd, Int.reduceSub, Int.reduceMul, Int.reduceNeg, Int.reduceLT, Int.reduceLE, Int.reduceToNat, Nat.reduceLT, Nat.reduceAdd, Nat.reduceSub, Nat.reduceMul, Nat.reduceEqDiff, Nat.reduceLeDiff, Nat.reduceBEq, reduceIte, reduceCtorEq, mk_bs, bs_size, bs_app]
  have hfl := fillP_len d a hp2
  have hfill : List.replicate (d.prec - ((barP d a).length : Int)).toNat 48 ++ barP d a = fillP d a := rfl
  rw [hfill]
  refine ⟨by rw [List.length_replicate]; omega, ?_⟩
  refine code_cut ⟨[.any, .any, .any, .any, .any, .any, .s (bs (signP d a)), .any, .any, .s (bs (digitsP d a))] ++ List.replicate 84 .any, [], [], [], 0, 0, []⟩ (evCode_sound Γok _ _ _ ?_) (evCode_sound Γok _ _ _ ?_)
  · simp (maxSteps := 4000000) only [push_cast, Int.reduceEq, Int.reduceBNe, Int.reduceBEq, Int.reduceAdd, Int.reduceSub, Int.reduceMul, Int.reduceNeg, Int.reduceLT, Int.reduceLE, Int.reduceToNat, Nat.reduceLT, Nat.reduceAdd, Nat.reduceSub, Nat.reduceMul, Nat.reduceEqDiff, Nat.reduceLeDiff, Nat.reduceBEq, reduceIte, reduceCtorEq, v88]
    refine ⟨fun q => ?_, fun q => Sub.w [] ?_⟩
    · refine call_w (upper17_c (fillP d a) (by omega)) [] (by simp (maxSteps := 4000000) only [push_cast, Int.reduceEq, Int.reduceBNe, Int.reduceBEq, Int.reduceAdd, Int.reduceSub, Int.reduceMul, Int.reduceNeg, Int.reduceLT, Int.reduceLE, Int.reduceToNat, Nat.reduceLT, Nat.reduceAdd, Nat.reduceSub, Nat.reduceMul, Nat.reduceEqDiff, Nat.reduceLeDiff, Nat.reduceBEq, reduceIte, reduceCtorEq]) ?_
      rintro sv post ⟨rfl, rfl⟩
      simp (maxSteps := 4000000) only [push_cast, Int.reduceEq, Int.reduceBNe, Int.reduceBEq, Int.reduceAdd, Int.reduceSub, Int.reduceMul, Int.reduceNeg, Int.reduceLT, Int.reduceLE, Int.reduceToNat, Nat.reduceLT, Nat.reduceAdd, Nat.reduceSub, Nat.reduceMul, Nat.reduceEqDiff, Nat.reduceLeDiff, Nat.reduceBEq, reduceIte, reduceCtorEq]
      refine Sub.w [] ?_
      simp (maxSteps := 4000000) only [push_cast, Int.reduceEq, Int.reduceBNe, Int.reduceBEq, Int.reduceAdd, Int.reduceSub, Int.reduceMul, Int.reduceNeg, Int.reduceLT, Int.reduceLE, Int.reduceToNat, Nat.reduceLT, Nat.reduceAdd, Nat.reduceSub, Nat.reduceMul, Nat.reduceEqDiff, Nat.reduceLeDiff, Nat.reduceBEq, reduceIte, reduceCtorEq]
      unfold digitsP; rw [if_pos q]
    · simp (maxSteps := 4000000) only [push_cast, Int.reduceEq, Int.reduceBNe, Int.reduceBEq, Int.reduceAdd, Int.reduceSub, Int.reduceMul, Int.reduceNeg, Int.reduceLT, Int.reduceLE, Int.reduceToNat, Nat.reduceLT, Nat.reduceAdd, Nat.reduceSub, Nat.reduceMul, Nat.reduceEqDiff, Nat.reduceLeDiff, Nat.reduceBEq, reduceIte, reduceCtorEq]
      unfold digitsP; rw [if_neg q]
  simp (maxSteps := 4000000) only [push_cast, Int.reduceEq, Int.reduceBNe, Int.reduceBEq, Int.reduceAdd, Int.reduceSub, Int.reduceMul, Int.reduceNeg, Int.reduceLT, Int.reduceLE, Int.reduceToNat, Nat.reduceLT, Nat.reduceAdd, Nat.reduceSub, Nat.reduceMul, Nat.reduceEqDiff, Nat.reduceLeDiff, Nat.reduceBEq, reduceIte, reduceCtorEq]
  exact Fin.w [] (.tup [.s (bs (signP d a)), .s (bs (digitsP d a))]) _ (by simp (maxSteps := 4000000) only [push_cast, Int.reduceEq, Int.reduceBNe, Int.reduceBEq, Int.reduceAdd, Int.reduceSub, Int.reduceMul, Int.reduceNeg, Int.reduceLT, Int.reduceLE, Int.reduceToNat, Nat.reduceLT, Nat.reduceAdd, Nat.reduceSub, Nat.reduceMul, Nat.reduceEqDiff, Nat.reduceLeDiff, Nat.reduceBEq, reduceIte, reduceCtorEq]) ⟨rfl, rfl⟩
end Go.Proofs.YtciokebdmnaobaaDoor
