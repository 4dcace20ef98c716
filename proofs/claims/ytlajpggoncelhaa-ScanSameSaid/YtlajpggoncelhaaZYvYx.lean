/- Texts joined, in order: Yv, Yw, Yx. -/
import Derived.Test.YtlajpggoncelhaaZYlYz
import Derived.Test.YtlajpggoncelhaaZYqYu
/- The page's scan: a directive is read. -/
namespace Go.Proofs.Ytlajpggoncelhaa
open Go Go.Eng
set_option maxHeartbeats 4000000
set_option linter.unusedSimpArgs false
set_option linter.unusedVariables false
set_option maxRecDepth 100000

theorem digitR_c (c : UInt8) : Contract Try.prog 59 nilSS [.i .u8 (c.toNat : Int)] (fun sv post => sv = .b (isDig c) ∧ post = nilSS) := by
  refine contract_ev Γok Try.func59 rfl rfl [] ?_
  simp (maxSteps := 4000000) only [push_cast, Int.reduceEq, Int.reduceBNe, Int.reduceBEq, Int.reduceAdd, Int.reduceSub, Int.reduceMul, Int.reduceNeg, Int.reduceLT, Int.reduceLE, Int.reduceToNat, Nat.reduceLT, Nat.reduceAdd, Nat.reduceSub, Nat.reduceMul, Nat.reduceEqDiff, Nat.reduceLeDiff, Nat.reduceBEq, reduceIte, reduceCtorEq, Try.f59]
  refine Fin.nil rfl (psv := .b (isDig c)) ?_ ⟨rfl, rfl⟩
  simp (maxSteps := 4000000) only [push_cast, Int.reduceEq, Int.reduceBNe, Int.reduceBEq, Int.reduceAdd, Int.reduceSub, Int.reduceMul, Int.reduceNeg, Int.reduceLT, Int.reduceLE, Int.reduceToNat, Nat.reduceLT, Nat.reduceAdd, Nat.reduceSub, Nat.reduceMul, Nat.reduceEqDiff, Nat.reduceLeDiff, Nat.reduceBEq, reduceIte, reduceCtorEq]
  unfold isDig
  by_cases h : 48 ≤ c.toNat <;> by_cases h2 : c.toNat ≤ 57 <;> simp [h, h2] <;> omega

theorem numberR_c (l : List UInt8) (at_ : Nat) (hl : l.length ≤ 100000) (hat : at_ ≤ 200000) : Contract Try.prog 35 nilSS [.s (bs l), .i .i64 at_] (fun sv post => sv = .tup [.i .i64 (valP (digsP 4 (l.drop at_))), .i .i64 (digsP 4 (l.drop at_)).length] ∧ post = nilSS) := by
  refine contract_ev Γok Try.func35 rfl rfl [] ?_
  simp (maxSteps := 4000000) only [push_cast, Int.reduceEq, Int.reduceBNe, Int.reduceBEq, Int.reduceAdd, Int.reduceSub, Int.reduceMul, Int.reduceNeg, Int.reduceLT, Int.reduceLE, Int.reduceToNat, Nat.reduceLT, Nat.reduceAdd, Nat.reduceSub, Nat.reduceMul, Nat.reduceEqDiff, Nat.reduceLeDiff, Nat.reduceBEq, reduceIte, reduceCtorEq, Try.f35]
  generalize hr : l.drop at_ = r
  have hrl : r.length = l.length - at_ := by rw [← hr]; simp
  refine loop_ok (ι := {n : Nat // n ≤ 4 ∧ n ≤ r.length ∧ digsP 4 r = r.take n ++ digsP (4 - n) (r.drop n)}) (fun n => ⟨[.s (bs l), .i .i64 at_, .any, .any, .any, .any, .i .i64 (valP (r.take n.1)), .i .i64 n.1] ++ List.replicate 32 .any, [], [], [], 0, 0, []⟩) (fun n => 4 - n.1) ⟨0, by omega, by omega, by simp⟩ ?_ ?_
  · exact Sub.w [] (by simp (maxSteps := 4000000) only [push_cast, Int.reduceEq, Int.reduceBNe, Int.reduceBEq, Int.reduceAdd, Int.reduceSub, Int.reduceMul, Int.reduceNeg, Int.reduceLT, Int.reduceLE, Int.reduceToNat, Nat.reduceLT, Nat.reduceAdd, Nat.reduceSub, Nat.reduceMul, Nat.reduceEqDiff, Nat.reduceLeDiff, Nat.reduceBEq, reduceIte, reduceCtorEq]; rfl)
  rintro ⟨n, h1, h2, h3⟩
  have hbyte : n < r.length → (l[at_ + n]?).getD 0 = (r[n]?).getD 0 := fun h => by rw [← hr, List.getElem?_drop]
  refine evCode_sound Γok _ _ _ ?_
  simp (maxSteps := 4000000) only [push_cast, Int.reduceEq, Int.reduceBNe, Int.reduceBEq, Int.reduceAdd, Int.reduceSub, Int.reduceMul, Int.reduceNeg, Int.reduceLT, Int.reduceLE, Int.reduceToNat, Nat.reduceLT, Nat.reduceAdd, Nat.reduceSub, Nat.reduceMul, Nat.reduceEqDiff, Nat.reduceLeDiff, Nat.reduceBEq, reduceIte, reduceCtorEq, bs_size, bs_at]
  rw [wrap64 (n := (at_ : Int) + n) (by omega) (by omega), show ((at_ : Int) + n).toNat = at_ + n by omega]
  refine ⟨fun h => by omega, fun h => ⟨h, call_w (digitR_c ((l[at_ + n]?).getD 0)) [] (by simp (maxSteps := 4000000) only [push_cast, Int.reduceEq, Int.reduceBNe, Int.reduceBEq, Int.reduceAdd, Int.reduceSub, Int.reduceMul, Int.reduceNeg, Int.reduceLT, Int.reduceLE, Int.reduceToNat, Nat.reduceLT, Nat.reduceAdd, Nat.reduceSub, Nat.reduceMul, Nat.reduceEqDiff, Nat.reduceLeDiff, Nat.reduceBEq, reduceIte, reduceCtorEq]) ?_⟩, fun h => ⟨fun h4 => by omega, fun h4 => h4.2.elim, ?_⟩⟩
  · rintro sv post ⟨rfl, rfl⟩
    have hn : n < r.length := by omega
    rw [hbyte hn]
    generalize hc : (r[n]?).getD 0 = c
    simp (maxSteps := 4000000) only [push_cast, Int.reduceEq, Int.reduceBNe, Int.reduceBEq, Int.reduceAdd, Int.reduceSub, Int.reduceMul, Int.reduceNeg, Int.reduceLT, Int.reduceLE, Int.reduceToNat, Nat.reduceLT, Nat.reduceAdd, Nat.reduceSub, Nat.reduceMul, Nat.reduceEqDiff, Nat.reduceLeDiff, Nat.reduceBEq, reduceIte, reduceCtorEq, bs_size, bs_at]
    rw [wrap64 (n := (at_ : Int) + n) (by omega) (by omega), show ((at_ : Int) + n).toNat = at_ + n by omega, hbyte hn, hc]
    refine ⟨fun h5 => ?_, fun h5 => ?_⟩
    · have hd := h5.2
      have hd' := hd
      simp only [isDig, Bool.and_eq_true, decide_eq_true_eq] at hd'
      have hv := valP_lt n (r.take n) (by simp; omega) (fun x hx => by
        have hh := digsP_dig 4 r x (by rw [h3]; exact List.mem_append_left _ hx)
        exact hh)
      have hp : 10 ^ n ≤ 10 ^ 3 := Nat.pow_le_pow_right (by omega) (by omega)
      have e : valP (r.take (n + 1)) = 10 * valP (r.take n) + (c.toNat - 48) := by
        rw [← List.take_append_getElem hn, valP_app]
        rw [getD_lt hn] at hc
        rw [hc]
      refine ⟨by omega, ⟨n + 1, by omega, by omega, digs_next (by omega) (by omega) (by rw [hc]; exact hd) h3⟩, by simp only; omega, Sub.w [] ?_⟩
      simp (maxSteps := 4000000) only [push_cast, Int.reduceEq, Int.reduceBNe, Int.reduceBEq, Int.reduceAdd, Int.reduceSub, Int.reduceMul, Int.reduceNeg, Int.reduceLT, Int.reduceLE, Int.reduceToNat, Nat.reduceLT, Nat.reduceAdd, Nat.reduceSub, Nat.reduceMul, Nat.reduceEqDiff, Nat.reduceLeDiff, Nat.reduceBEq, reduceIte, reduceCtorEq]
      rw [e]
      have e1 : IntKind.u8.wrap ((c.toNat : Int) - 48) = c.toNat - 48 := by rw [IntKind.wrap_u8]; omega
      have e2 : IntKind.i64.wrap ((c.toNat : Int) - 48) = c.toNat - 48 := wrap64 (n := (c.toNat : Int) - 48) (by omega) (by omega)
      have e3 : IntKind.i64.wrap ((valP (r.take n) : Int) * 10) = (valP (r.take n) : Int) * 10 := wrap64 (n := (valP (r.take n) : Int) * 10) (by omega) (by omega)
      rw [e1, e2, e3, wrap64 (n := (valP (r.take n) : Int) * 10 + ((c.toNat : Int) - 48)) (by omega) (by omega), wrap64 (n := (n : Int) + 1) (by omega) (by omega)]
      omega
    · have e := digs_stop (m := 4) (n := n) (l := r) (by
        rcases h5 with h5 | h5
        · omega
        · exact .inr (.inr (by rw [hc]; exact h5))) h3
      have el : (digsP 4 r).length = n := by rw [e]; simp; omega
      rw [el]
      rw [← e]
      exact Fin.nil rfl (psv := .tup [.i .i64 _, .i .i64 n]) (by simp (maxSteps := 4000000) only [push_cast, Int.reduceEq, Int.reduceBNe, Int.reduceBEq, Int.reduceAdd, Int.reduceSub, Int.reduceMul, Int.reduceNeg, Int.reduceLT, Int.reduceLE, Int.reduceToNat, Nat.reduceLT, Nat.reduceAdd, Nat.reduceSub, Nat.reduceMul, Nat.reduceEqDiff, Nat.reduceLeDiff, Nat.reduceBEq, reduceIte, reduceCtorEq]) ⟨rfl, rfl⟩
  · have e := digs_stop (m := 4) (n := n) (l := r) (by omega) h3
    have el : (digsP 4 r).length = n := by rw [e]; simp; omega
    rw [el]
    rw [← e]
    exact Fin.nil rfl (psv := .tup [.i .i64 _, .i .i64 n]) (by simp (maxSteps := 4000000) only [push_cast, Int.reduceEq, Int.reduceBNe, Int.reduceBEq, Int.reduceAdd, Int.reduceSub, Int.reduceMul, Int.reduceNeg, Int.reduceLT, Int.reduceLE, Int.reduceToNat, Nat.reduceLT, Nat.reduceAdd, Nat.reduceSub, Nat.reduceMul, Nat.reduceEqDiff, Nat.reduceLeDiff, Nat.reduceBEq, reduceIte, reduceCtorEq]) ⟨rfl, rfl⟩

theorem headR {l r : List UInt8} {i : Nat} (h : l.drop i = r) : (l[i]?).getD 0 = (r[0]?).getD 0 := by
  have := congrArg (fun x => x[0]?) h
  simp only [List.getElem?_drop] at this
  rw [Nat.add_zero] at this
  rw [this]
def isRead18 (l : List UInt8) (at_ : Nat) (sv : SV) (post : SS) : Prop :=
  post = nilSS ∧ match cutP (l.drop at_) with
    | some (p, n) => sv = .tup [.agg (dirL p (((l.drop at_)[0]?).getD 0).toNat (at_ + n : Nat)), .b true]
    | none => ∃ (m : Bool) (w v c e : Int), sv = .tup [.agg [.b m, .i .i64 w, .i .u8 v, .i .u8 c, .i .i64 e], .b false]
theorem scan_verb {v : UInt8} (h : scanSet.contains v = true) : v = 99 ∨ v = 115 ∨ vbN v := by
  have h2 : ∀ v : Fin 256, scanSet.contains (UInt8.ofNat v.val) = true → (UInt8.ofNat v.val = 99 ∨ UInt8.ofNat v.val = 115 ∨ (UInt8.ofNat v.val = 100 ∨ UInt8.ofNat v.val = 117 ∨ UInt8.ofNat v.val = 120 ∨ UInt8.ofNat v.val = 111)) := by decide +kernel
  have := h2 ⟨v.toNat, u8_lt v⟩
  simp only [UInt8.ofNat_toNat] at this
  exact this h
theorem read18_c (l : List UInt8) (at_ : Nat) (hl : l.length ≤ 65536) (hat : at_ < l.length) : Contract Try.prog 22 nilSS [.s (bs l), .i .i64 at_] (isRead18 l at_) := by
  obtain ⟨c, r, hr⟩ : ∃ c r, l.drop at_ = c :: r := ⟨l[at_], l.drop (at_ + 1), List.drop_eq_getElem_cons hat⟩
  have hrl : r.length + 1 = l.length - at_ := by
    have := congrArg List.length hr
    simp only [List.length_drop, List.length_cons] at this
    omega
  have hr1 : l.drop (at_ + 1) = r := by rw [← List.drop_drop, hr]; rfl
  have w1 : IntKind.i64.wrap ((at_ : Int) + 1) = ((at_ + 1 : Nat) : Int) := by rw [wrap64 (n := (at_ : Int) + 1) (by omega) (by omega)]; omega
  have hat0 : (l[at_]?).getD 0 = c := by rw [headR hr]; rfl
  unfold isRead18
  rw [hr]
  have hc0 : (((c :: r)[0]?).getD 0) = c := rfl
  rw [hc0]
  have good : ∀ (S : SS) (p : PartP) (n : Nat) (e v : Int), S.k = 0 → cutP (c :: r) = some (p, n) → e = (at_ + n : Nat) → v = (if p.verb = 32 then 1 else (p.verb.toNat : Int)) → Fin (fun sv post => post = nilSS ∧ match cutP (c :: r) with
    | some (p, n) => sv = .tup [.agg (dirL p c.toNat (at_ + n : Nat)), .b true]
    | none => ∃ (m : Bool) (w v c e : Int), sv = .tup [.agg [.b m, .i .i64 w, .i .u8 v, .i .u8 c, .i .i64 e], .b false]) (.tup [.agg [.b p.mute, .i .i64 p.width, .i .u8 v, .i .u8 c.toNat, .i .i64 e], .b true]) S := by
    rintro S p n e v hS hc rfl rfl
    refine Fin.nil hS (psv := .tup [.agg (dirL p c.toNat (at_ + n : Nat)), .b true]) (by simp (maxSteps := 4000000) only [push_cast, Int.reduceEq, Int.reduceBNe, Int.reduceBEq, Int.reduceAdd, Int.reduceSub, Int.reduceMul, Int.reduceNeg, Int.reduceLT, Int.reduceLE, Int.reduceToNat, Nat.reduceLT, Nat.reduceAdd, Nat.reduceSub, Nat.reduceMul, Nat.reduceEqDiff, Nat.reduceLeDiff, Nat.reduceBEq, reduceIte, reduceCtorEq, dirL]) ⟨rfl, ?_⟩
    rw [hc]
  have bad : ∀ (S : SS) (m : Bool) (w v k e : Int), S.k = 0 → cutP (c :: r) = none → Fin (fun sv post => post = nilSS ∧ match cutP (c :: r) with
    | some (p, n) => sv = .tup [.agg (dirL p c.toNat (at_ + n : Nat)), .b true]
    | none => ∃ (m : Bool) (w v c e : Int), sv = .tup [.agg [.b m, .i .i64 w, .i .u8 v, .i .u8 c, .i .i64 e], .b false]) (.tup [.agg [.b m, .i .i64 w, .i .u8 v, .i .u8 k, .i .i64 e], .b false]) S := by
    intro S m w v k e hS hc
    refine Fin.nil hS (psv := .tup [.agg [.b m, .i .i64 w, .i .u8 v, .i .u8 k, .i .i64 e], .b false]) (by simp (maxSteps := 4000000) only [push_cast, Int.reduceEq, Int.reduceBNe, Int.reduceBEq, Int.reduceAdd, Int.reduceSub, Int.reduceMul, Int.reduceNeg, Int.reduceLT, Int.reduceLE, Int.reduceToNat, Nat.reduceLT, Nat.reduceAdd, Nat.reduceSub, Nat.reduceMul, Nat.reduceEqDiff, Nat.reduceLeDiff, Nat.reduceBEq, reduceIte, reduceCtorEq]) ⟨rfl, ?_⟩
    rw [hc]
    exact ⟨m, w, v, k, e, rfl⟩
  generalize hRR : (fun (sv : SV) (post : SS) => post = nilSS ∧ match cutP (c :: r) with
    | some (p, n) => sv = .tup [.agg (dirL p c.toNat (at_ + n : Nat)), .b true]
    | none => ∃ (m : Bool) (w v c e : Int), sv = .tup [.agg [.b m, .i .i64 w, .i .u8 v, .i .u8 c, .i .i64 e], .b false]) = RR at good bad ⊢
  refine contract_of Γok Try.func22 rfl rfl (stop := []) ?_
  simp only [Try.f22]
  refine CodeOK.seq (evCode_sound Γok _ _ _ ?_)
  simp (maxSteps := 4000000) only [push_cast, Int.reduceEq, Int.reduceBNe, Int.reduceBEq, Int.reduceAdd, Int.reduceSub, Int.reduceMul, Int.reduceNeg, Int.reduceLT, Int.reduceLE, Int.reduceToNat, Nat.reduceLT, Nat.reduceAdd, Nat.reduceSub, Nat.reduceMul, Nat.reduceEqDiff, Nat.reduceLeDiff, Nat.reduceBEq, reduceIte, reduceCtorEq]
  refine CodeOK.seq (evCode_sound Γok _ _ _ ?_)
  simp (maxSteps := 4000000) only [push_cast, Int.reduceEq, Int.reduceBNe, Int.reduceBEq, Int.reduceAdd, Int.reduceSub, Int.reduceMul, Int.reduceNeg, Int.reduceLT, Int.reduceLE, Int.reduceToNat, Nat.reduceLT, Nat.reduceAdd, Nat.reduceSub, Nat.reduceMul, Nat.reduceEqDiff, Nat.reduceLeDiff, Nat.reduceBEq, reduceIte, reduceCtorEq, bs_size, bs_at, Int.toNat_natCast, hat0, w1]
  refine ⟨by omega, CodeOK.seq (evCode_sound Γok _ _ _ ?_)⟩
  simp (maxSteps := 4000000) only [push_cast, Int.reduceEq, Int.reduceBNe, Int.reduceBEq, Int.reduceAdd, Int.reduceSub, Int.reduceMul, Int.reduceNeg, Int.reduceLT, Int.reduceLE, Int.reduceToNat, Nat.reduceLT, Nat.reduceAdd, Nat.reduceSub, Nat.reduceMul, Nat.reduceEqDiff, Nat.reduceLeDiff, Nat.reduceBEq, reduceIte, reduceCtorEq, bs_size, bs_at, Int.toNat_natCast, hat0, w1, u32, u10, u37]
  refine ⟨by omega, fun _ => by omega, fun h => ?_, fun h => ⟨by omega, fun h1 => ?_, fun h1 => ?_⟩⟩
  · exact good _ ⟨32, 0, false, 0⟩ 1 _ _ rfl (by simp only [cutP]; rw [if_pos h]) (by omega) rfl
  · exact good _ ⟨0, c, false, 0⟩ 1 _ _ rfl (by simp only [cutP]; rw [if_neg (by rintro (h5 | h5); exact h.1 h5; exact h.2 h5), if_pos h1]) (by omega) rfl
  subst h1
  have hnx : (l[at_ + 1]?).getD 0 = (r[0]?).getD 0 := headR hr1
  refine CodeOK.seq (evCode_sound Γok _ _ _ ?_)
  simp (maxSteps := 4000000) only [push_cast, Int.reduceEq, Int.reduceBNe, Int.reduceBEq, Int.reduceAdd, Int.reduceSub, Int.reduceMul, Int.reduceNeg, Int.reduceLT, Int.reduceLE, Int.reduceToNat, Nat.reduceLT, Nat.reduceAdd, Nat.reduceSub, Nat.reduceMul, Nat.reduceEqDiff, Nat.reduceLeDiff, Nat.reduceBEq, reduceIte, reduceCtorEq, w1]
  refine CodeOK.seq (evCode_sound Γok _ _ _ ?_)
  simp (maxSteps := 4000000) only [push_cast, Int.reduceEq, Int.reduceBNe, Int.reduceBEq, Int.reduceAdd, Int.reduceSub, Int.reduceMul, Int.reduceNeg, Int.reduceLT, Int.reduceLE, Int.reduceToNat, Nat.reduceLT, Nat.reduceAdd, Nat.reduceSub, Nat.reduceMul, Nat.reduceEqDiff, Nat.reduceLeDiff, Nat.reduceBEq, reduceIte, reduceCtorEq, bs_size, bs_at, Int.toNat_natCast, u37]
  rw [wrap64 (n := (at_ : Int) + 1 + 1) (by omega) (by omega), show ((at_ : Int) + 1).toNat = at_ + 1 by omega, hnx]
  have hh37 : headIs 37 r = true ↔ ((at_ : Int) + 1 < (l.length : Int) ∧ (r[0]?).getD 0 = 37) := by
    cases r with
    | nil => simp [headIs]
    | cons x y =>
      simp only [List.length_cons] at hrl
      simp only [headIs, beq_iff_eq, List.getElem?_cons_zero, Option.getD_some]
      exact ⟨fun k => ⟨by omega, k⟩, fun k => k.2⟩
  refine ⟨fun h2 => by omega, fun h2 => ?_, fun h2 => ?_⟩
  · exact good _ ⟨0, 37, false, 0⟩ 2 _ _ rfl (by simp only [cutP]; rw [if_neg (by decide), if_neg (by decide), if_pos (hh37.2 h2)]) (by omega) rfl
  have h37 : headIs 37 r = false := by
    rcases hx : headIs 37 r with _ | _
    · rfl
    · have := hh37.1 hx
      rcases h2 with k | k
      · omega
      · exact absurd this.2 k
  have hcut : cutP (37 :: r) = directP (r.length + 1) (headIs 42 r) (cutPreP 42 r) := by
    simp only [cutP]
    rw [if_neg (by decide), if_neg (by decide), if_neg (by rw [h37]; simp)]
    unfold cutPreP
    by_cases h4 : headIs 42 r = true
    · rw [if_pos h4, if_pos h4, h4]
    · have h5 : headIs 42 r = false := by simpa using h4
      rw [if_neg h4, if_neg h4, h5]
  have hlen : (cutPreP 42 r).length ≤ r.length := by unfold cutPreP; split <;> simp
  have hdq : l.drop (at_ + 1 + (r.length - (cutPreP 42 r).length)) = cutPreP 42 r := by
    rw [← List.drop_drop, hr1]
    unfold cutPreP
    split
    · rename_i hx
      cases r with
      | nil => simp [headIs] at hx
      | cons x y => simp
    · simp
  have u42 : (((r[0]?).getD 0).toNat : Int) = 42 ↔ (r[0]?).getD 0 = 42 := u8iY _ 42
  have hh42 : headIs 42 r = true ↔ ((at_ : Int) + 1 < (l.length : Int) ∧ (((r[0]?).getD 0).toNat : Int) = 42) := by
    rw [u42]
    cases r with
    | nil => simp [headIs]
    | cons x y =>
      simp only [List.length_cons] at hrl
      simp only [headIs, beq_iff_eq, List.getElem?_cons_zero, Option.getD_some]
      exact ⟨fun k => ⟨by omega, k⟩, fun k => k.2⟩
  refine code_cut ⟨[.s (bs l), .i .i64 at_, .any, .any, .ptr 0 0, .b false, .ptr 1 0, .i .i64 (at_ + 1 + (r.length - (cutPreP 42 r).length) : Nat)] ++ List.replicate 105 .any, [(0, 76, [.b false, .i .i64 0, .i .u8 0, .i .u8 0, .i .i64 0]), (1, 76, [.b (headIs 42 r), .i .i64 0, .i .u8 0, .i .u8 37, .i .i64 (at_ + 1)])], [], [], 2, 0, []⟩ (evCode_sound Γok _ _ _ ?_) ?_
  · simp (maxSteps := 4000000) only [push_cast, Int.reduceEq, Int.reduceBNe, Int.reduceBEq, Int.reduceAdd, Int.reduceSub, Int.reduceMul, Int.reduceNeg, Int.reduceLT, Int.reduceLE, Int.reduceToNat, Nat.reduceLT, Nat.reduceAdd, Nat.reduceSub, Nat.reduceMul, Nat.reduceEqDiff, Nat.reduceLeDiff, Nat.reduceBEq, reduceIte, reduceCtorEq, bs_size, bs_at, Int.toNat_natCast, hnx]
    rw [wrap64 (n := (at_ : Int) + 1 + 1) (by omega) (by omega), show ((at_ : Int) + 1).toNat = at_ + 1 by omega, hnx]
    refine ⟨fun h3 => by omega, fun h3 => Sub.w [0, 1] ?_, fun h3 => Sub.w [0, 1] ?_⟩
    · have hx := hh42.2 h3
      have hcp : (cutPreP 42 r).length + 1 = r.length := by
        unfold cutPreP
        rw [if_pos hx]
        cases r with
        | nil => simp [headIs] at hx
        | cons x y => simp
      simp (maxSteps := 4000000) only [push_cast, Int.reduceEq, Int.reduceBNe, Int.reduceBEq, Int.reduceAdd, Int.reduceSub, Int.reduceMul, Int.reduceNeg, Int.reduceLT, Int.reduceLE, Int.reduceToNat, Nat.reduceLT, Nat.reduceAdd, Nat.reduceSub, Nat.reduceMul, Nat.reduceEqDiff, Nat.reduceLeDiff, Nat.reduceBEq, reduceIte, reduceCtorEq, hx]
      have t37 : (((37 : UInt8).toNat : Nat) : Int) = 37 := rfl
      and_intros <;> omega
    · have hx : headIs 42 r = false := by
        rcases hx : headIs 42 r with _ | _
        · rfl
        · have := hh42.1 hx
          rcases h3 with k | k
          · omega
          · exact absurd this.2 k
      have hcp : cutPreP 42 r = r := by unfold cutPreP; rw [if_neg (by rw [hx]; simp)]
      rw [hcp]
      simp (maxSteps := 4000000) only [push_cast, Int.reduceEq, Int.reduceBNe, Int.reduceBEq, Int.reduceAdd, Int.reduceSub, Int.reduceMul, Int.reduceNeg, Int.reduceLT, Int.reduceLE, Int.reduceToNat, Nat.reduceLT, Nat.reduceAdd, Nat.reduceSub, Nat.reduceMul, Nat.reduceEqDiff, Nat.reduceLeDiff, Nat.reduceBEq, reduceIte, reduceCtorEq, hx]
      have t37 : (((37 : UInt8).toNat : Nat) : Int) = 37 := rfl
      and_intros <;> omega
  generalize headIs 42 r = mu at hcut ⊢
  generalize hki : at_ + 1 + (r.length - (cutPreP 42 r).length) = i at hdq ⊢
  have hiq : i + (cutPreP 42 r).length = l.length := by omega
  generalize cutPreP 42 r = q at hcut hlen hdq hiq hki ⊢
  refine CodeOK.seq (evCode_sound Γok _ _ _ ?_)
  simp (maxSteps := 4000000) only [push_cast, Int.reduceEq, Int.reduceBNe, Int.reduceBEq, Int.reduceAdd, Int.reduceSub, Int.reduceMul, Int.reduceNeg, Int.reduceLT, Int.reduceLE, Int.reduceToNat, Nat.reduceLT, Nat.reduceAdd, Nat.reduceSub, Nat.reduceMul, Nat.reduceEqDiff, Nat.reduceLeDiff, Nat.reduceBEq, reduceIte, reduceCtorEq]
  refine call_w (numberR_c l i (by omega) (by omega)) [] (by simp (maxSteps := 4000000) only [push_cast, Int.reduceEq, Int.reduceBNe, Int.reduceBEq, Int.reduceAdd, Int.reduceSub, Int.reduceMul, Int.reduceNeg, Int.reduceLT, Int.reduceLE, Int.reduceToNat, Nat.reduceLT, Nat.reduceAdd, Nat.reduceSub, Nat.reduceMul, Nat.reduceEqDiff, Nat.reduceLeDiff, Nat.reduceBEq, reduceIte, reduceCtorEq]) ?_
  rintro sv post ⟨rfl, rfl⟩
  rw [hdq]
  simp (maxSteps := 4000000) only [push_cast, Int.reduceEq, Int.reduceBNe, Int.reduceBEq, Int.reduceAdd, Int.reduceSub, Int.reduceMul, Int.reduceNeg, Int.reduceLT, Int.reduceLE, Int.reduceToNat, Nat.reduceLT, Nat.reduceAdd, Nat.reduceSub, Nat.reduceMul, Nat.reduceEqDiff, Nat.reduceLeDiff, Nat.reduceBEq, reduceIte, reduceCtorEq]
  refine CodeOK.seq (evCode_sound Γok _ _ _ ?_)
  simp (maxSteps := 4000000) only [push_cast, Int.reduceEq, Int.reduceBNe, Int.reduceBEq, Int.reduceAdd, Int.reduceSub, Int.reduceMul, Int.reduceNeg, Int.reduceLT, Int.reduceLE, Int.reduceToNat, Nat.reduceLT, Nat.reduceAdd, Nat.reduceSub, Nat.reduceMul, Nat.reduceEqDiff, Nat.reduceLeDiff, Nat.reduceBEq, reduceIte, reduceCtorEq, bs_size, bs_at, Int.toNat_natCast]
  have hk := digsP_le 4 q
  have hd48 : headIs 48 (digsP 4 q) = true ↔ (0 < ((digsP 4 q).length : Int) ∧ ((((l[i]?).getD 0).toNat : Nat) : Int) = 48) := by
    have e48 : (((((q[0]?).getD 0).toNat : Nat) : Int) = 48) = ((q[0]?).getD 0 = 48) := propext (u8iY _ 48)
    rw [headR hdq, e48]
    cases q with
    | nil => simp [digsP, headIs]
    | cons d r' =>
      have e : digsP 4 (d :: r') = if isDig d then d :: digsP 3 r' else [] := rfl
      rw [e]
      split
      · simp only [headIs, beq_iff_eq, List.length_cons, List.getElem?_cons_zero, Option.getD_some]
        exact ⟨fun k => ⟨by omega, k⟩, fun k => k.2⟩
      · simp [headIs]
  have hdir : directP (r.length + 1) mu q = if (headIs 48 (digsP 4 q) || decide (4096 < valP (digsP 4 q))) = true then none else verbCut (r.length + 1) mu (valP (digsP 4 q)) (q.drop (digsP 4 q).length) := rfl
  rw [hdir] at hcut
  refine ⟨fun h3 => by omega, fun h3 => ?_, fun h3 => ?_⟩
  · exact bad _ _ _ _ _ _ rfl (by rw [hcut, if_pos]; simp only [Bool.or_eq_true, decide_eq_true_eq, hd48]; rcases h3 with k | k; exact .inl k; exact .inr (by omega))
  rw [if_neg (by simp only [Bool.or_eq_true, decide_eq_true_eq, hd48]; rintro (k | k); rcases h3.1 with j | j; omega; exact j k.2; omega)] at hcut
  have hdk : l.drop (i + (digsP 4 q).length) = q.drop (digsP 4 q).length := by rw [← List.drop_drop, hdq]
  generalize hkk : (digsP 4 q).length = kk at hk hdk hcut h3 ⊢
  refine CodeOK.seq (evCode_sound Γok _ _ _ ?_)
  simp (maxSteps := 4000000) only [push_cast, Int.reduceEq, Int.reduceBNe, Int.reduceBEq, Int.reduceAdd, Int.reduceSub, Int.reduceMul, Int.reduceNeg, Int.reduceLT, Int.reduceLE, Int.reduceToNat, Nat.reduceLT, Nat.reduceAdd, Nat.reduceSub, Nat.reduceMul, Nat.reduceEqDiff, Nat.reduceLeDiff, Nat.reduceBEq, reduceIte, reduceCtorEq]
  refine CodeOK.seq (evCode_sound Γok _ _ _ ?_)
  simp (maxSteps := 4000000) only [push_cast, Int.reduceEq, Int.reduceBNe, Int.reduceBEq, Int.reduceAdd, Int.reduceSub, Int.reduceMul, Int.reduceNeg, Int.reduceLT, Int.reduceLE, Int.reduceToNat, Nat.reduceLT, Nat.reduceAdd, Nat.reduceSub, Nat.reduceMul, Nat.reduceEqDiff, Nat.reduceLeDiff, Nat.reduceBEq, reduceIte, reduceCtorEq]
  rw [wrap64 (n := (i : Int) + kk) (by omega) (by omega)]
  have hql : (q.drop kk).length = q.length - kk := List.length_drop
  refine CodeOK.seq (evCode_sound Γok _ _ _ ?_)
  simp (maxSteps := 4000000) only [push_cast, Int.reduceEq, Int.reduceBNe, Int.reduceBEq, Int.reduceAdd, Int.reduceSub, Int.reduceMul, Int.reduceNeg, Int.reduceLT, Int.reduceLE, Int.reduceToNat, Nat.reduceLT, Nat.reduceAdd, Nat.reduceSub, Nat.reduceMul, Nat.reduceEqDiff, Nat.reduceLeDiff, Nat.reduceBEq, reduceIte, reduceCtorEq, bs_size]
  refine ⟨fun h4 => ?_, fun h4 => ?_⟩
  · have hz : q.drop kk = [] := List.eq_nil_of_length_eq_zero (by omega)
    rw [hz] at hcut
    exact bad _ _ _ _ _ _ rfl hcut
  obtain ⟨v, z, hz⟩ : ∃ v z, q.drop kk = v :: z := by
    cases hq : q.drop kk with
    | nil => rw [hq] at hql; simp only [List.length_nil] at hql; omega
    | cons v z => exact ⟨v, z, rfl⟩
  rw [hz] at hcut hql hdk
  simp only [List.length_cons] at hql
  have hv0 : (l[i + kk]?).getD 0 = v := by rw [headR hdk]; rfl
  have hcut2 : cutP (37 :: r) = if scanSet.contains v = true then some (⟨v, 0, mu, valP (digsP 4 q)⟩, r.length + 1 - z.length) else none := hcut
  refine CodeOK.seq (evCode_sound Γok _ _ _ ?_)
  simp (maxSteps := 4000000) only [push_cast, Int.reduceEq, Int.reduceBNe, Int.reduceBEq, Int.reduceAdd, Int.reduceSub, Int.reduceMul, Int.reduceNeg, Int.reduceLT, Int.reduceLE, Int.reduceToNat, Nat.reduceLT, Nat.reduceAdd, Nat.reduceSub, Nat.reduceMul, Nat.reduceEqDiff, Nat.reduceLeDiff, Nat.reduceBEq, reduceIte, reduceCtorEq]
  refine loop_ok (ι := {j : Nat // j ≤ 6 ∧ ∀ a, a < j → scanSet.getD a 0 ≠ v}) (fun j => ⟨[.s (bs l), .i .i64 at_, .any, .any, .ptr 0 0, .b false, .ptr 1 0, .i .i64 (i + kk : Nat), .any, .any, .i .i64 j.1] ++ List.replicate 102 .any, [(0, 76, [.b false, .i .i64 0, .i .u8 0, .i .u8 0, .i .i64 0]), (1, 76, [.b mu, .i .i64 (valP (digsP 4 q)), .i .u8 0, .i .u8 37, .i .i64 (at_ + 1)])], [], [], 2, 0, []⟩) (fun j => 6 - j.1) ⟨0, by omega, fun a h => absurd h (Nat.not_lt_zero _)⟩ ?_ ?_
  · refine Sub.w [0, 1] ?_
    simp (maxSteps := 4000000) only [push_cast, Int.reduceEq, Int.reduceBNe, Int.reduceBEq, Int.reduceAdd, Int.reduceSub, Int.reduceMul, Int.reduceNeg, Int.reduceLT, Int.reduceLE, Int.reduceToNat, Nat.reduceLT, Nat.reduceAdd, Nat.reduceSub, Nat.reduceMul, Nat.reduceEqDiff, Nat.reduceLeDiff, Nat.reduceBEq, reduceIte, reduceCtorEq]
  rintro ⟨j, j1, j2⟩
  refine evCode_sound Γok _ _ _ ?_
  simp (maxSteps := 4000000) only [push_cast, Int.reduceEq, Int.reduceBNe, Int.reduceBEq, Int.reduceAdd, Int.reduceSub, Int.reduceMul, Int.reduceNeg, Int.reduceLT, Int.reduceLE, Int.reduceToNat, Nat.reduceLT, Nat.reduceAdd, Nat.reduceSub, Nat.reduceMul, Nat.reduceEqDiff, Nat.reduceLeDiff, Nat.reduceBEq, reduceIte, reduceCtorEq]
  refine ⟨fun h5 => ?_, fun h5 => ?_⟩
  · have hj : j < 6 := by omega
    refine (region_plan rfl Γok mixed (.pure 0 (.pure 1 (.pure 2 (.pure 3 (.pure 4 (.pure 5 .done)))))) 113 rfl (by kernel_rfl) ?_)
    have lits : (⟨#[100, 117, 120, 111, 99, 115]⟩ : ByteArray) = bs scanSet := rfl
    have lit6s : scanSet.length = 6 := rfl
    simp (maxSteps := 4000000) only [push_cast, Int.reduceEq, Int.reduceBNe, Int.reduceBEq, Int.reduceAdd, Int.reduceSub, Int.reduceMul, Int.reduceNeg, Int.reduceLT, Int.reduceLE, Int.reduceToNat, Nat.reduceLT, Nat.reduceAdd, Nat.reduceSub, Nat.reduceMul, Nat.reduceEqDiff, Nat.reduceLeDiff, Nat.reduceBEq, reduceIte, reduceCtorEq, bs_size, bs_at, lits, lit6s, Int.toNat_natCast]
    rw [show ((i : Int) + kk).toNat = i + kk by omega, hv0, wrap64 (n := (i : Int) + kk + 1) (by omega) (by omega)]
    have hjv : (((scanSet[j]?).getD 0).toNat : Int) = (v.toNat : Int) ↔ scanSet.getD j 0 = v := by
      rw [u8iY]; rfl
    refine ⟨⟨by omega, by omega⟩, by omega, fun h6 => ⟨by omega, ?_⟩, fun h6 => ?_⟩
    · have hin : scanSet.contains v = true := by
        rw [← hjv.1 h6]
        match j, hj with
        | 0, _ => decide
        | 1, _ => decide
        | 2, _ => decide
        | 3, _ => decide
        | 4, _ => decide
        | 5, _ => decide
      rw [if_pos hin] at hcut2
      have hv32 : v ≠ 32 := by rcases scan_verb hin with k | k | k | k | k | k <;> rw [k] <;> decide
      exact good _ ⟨v, 0, mu, valP (digsP 4 q)⟩ (r.length + 1 - z.length) _ _ rfl hcut2 (by omega) (by rw [if_neg hv32])
    · refine ⟨⟨j + 1, hj, fun a ha => ?_⟩, by show 6 - (j + 1) < 6 - j; omega, Sub.w [0, 1] ?_⟩
      · rcases Nat.lt_or_ge a j with h7 | h7
        · exact j2 a h7
        · obtain rfl : a = j := by omega
          exact fun h8 => h6 (hjv.2 h8)
      · simp (maxSteps := 4000000) only [push_cast, Int.reduceEq, Int.reduceBNe, Int.reduceBEq, Int.reduceAdd, Int.reduceSub, Int.reduceMul, Int.reduceNeg, Int.reduceLT, Int.reduceLE, Int.reduceToNat, Nat.reduceLT, Nat.reduceAdd, Nat.reduceSub, Nat.reduceMul, Nat.reduceEqDiff, Nat.reduceLeDiff, Nat.reduceBEq, reduceIte, reduceCtorEq]
        exact (wrap64 (n := (j : Int) + 1) (by omega) (by omega)).symm
  · obtain rfl : j = 6 := by omega
    have hno : scanSet.contains v = false := by
      rcases hx : scanSet.contains v with _ | _
      · rfl
      · exfalso
        have h0 := j2 0 (by omega)
        have h1 := j2 1 (by omega)
        have h2 := j2 2 (by omega)
        have h3 := j2 3 (by omega)
        have h4 := j2 4 (by omega)
        have h5 := j2 5 (by omega)
        simp only [scanSet, List.getD, List.getElem?_cons_zero, List.getElem?_cons_succ, Option.getD_some, ne_eq] at h0 h1 h2 h3 h4 h5
        simp only [scanSet, List.contains_cons, List.contains_nil, Bool.or_false, Bool.or_eq_true, beq_iff_eq] at hx
        rcases hx with k | k | k | k | k | k
        · exact h0 k.symm
        · exact h1 k.symm
        · exact h2 k.symm
        · exact h3 k.symm
        · exact h4 k.symm
        · exact h5 k.symm
    rw [hno, if_neg (by simp)] at hcut2
    refine evCode_sound Γok _ _ _ ?_
    simp (maxSteps := 4000000) only [push_cast, Int.reduceEq, Int.reduceBNe, Int.reduceBEq, Int.reduceAdd, Int.reduceSub, Int.reduceMul, Int.reduceNeg, Int.reduceLT, Int.reduceLE, Int.reduceToNat, Nat.reduceLT, Nat.reduceAdd, Nat.reduceSub, Nat.reduceMul, Nat.reduceEqDiff, Nat.reduceLeDiff, Nat.reduceBEq, reduceIte, reduceCtorEq]
    exact bad _ _ _ _ _ _ rfl hcut2
end Go.Proofs.Ytlajpggoncelhaa
/- Scan: patterns are checked; the page's scan, whole. -/
namespace Go.Proofs.Ytlajpggoncelhaa
open Go Go.Eng
set_option maxHeartbeats 4000000
set_option linter.unusedSimpArgs false
set_option linter.unusedVariables false
set_option maxRecDepth 100000

theorem directP_verb {n : Nat} {m : Bool} {r : List UInt8} {p : PartP} {k : Nat} (h : directP n m r = some (p, k)) : verbOK p.verb ∧ p.verb ≠ 0 := by
  unfold directP at h
  split at h
  · cases h
  · cases hd : r.drop (digsP 4 r).length with
    | nil => rw [hd] at h; simp [verbCut] at h
    | cons v q =>
      rw [hd] at h
      simp only [verbCut] at h
      split at h
      · rename_i hv
        simp only [Option.some.injEq, Prod.mk.injEq] at h
        obtain ⟨rfl, rfl⟩ := h
        rcases scan_verb hv with k | k | k
        · exact ⟨.inr (.inr (.inl k)), by simp only; rw [k]; decide⟩
        · exact ⟨.inr (.inr (.inr (.inl k))), by simp only; rw [k]; decide⟩
        · exact ⟨.inr (.inr (.inr (.inr k))), by rcases k with k | k | k | k <;> (simp only; rw [k]; decide)⟩
      · cases h
theorem cutP_verb {c : UInt8} {r : List UInt8} {p : PartP} {k : Nat} (h : cutP (c :: r) = some (p, k)) : verbOK p.verb ∧ (p.verb = 0 → c = p.c) := by
  simp only [cutP] at h
  split at h
  · simp only [Option.some.injEq, Prod.mk.injEq] at h
    obtain ⟨rfl, rfl⟩ := h
    exact ⟨.inr (.inl rfl), fun h => by cases h⟩
  split at h
  · simp only [Option.some.injEq, Prod.mk.injEq] at h
    obtain ⟨rfl, rfl⟩ := h
    exact ⟨.inl rfl, fun _ => rfl⟩
  split at h
  · rename_i h37 hh
    simp only [Option.some.injEq, Prod.mk.injEq] at h
    obtain ⟨rfl, rfl⟩ := h
    exact ⟨.inl rfl, fun _ => by simpa using h37⟩
  split at h
  · have := directP_verb h
    exact ⟨this.1, fun h => absurd h this.2⟩
  · have := directP_verb h
    exact ⟨this.1, fun h => absurd h this.2⟩
theorem tells18 (p : PartP) (hv : verbOK p.verb) : (decide ((1 : Int) < (if p.verb = 32 then 1 else (p.verb.toNat : Int))) && !p.mute) = p.tells := by
  unfold PartP.tells
  congr 1
  rcases hv with k | k | k | k | k | k | k | k <;> rw [k] <;> decide
def tellsN (ps : List PartP) : Nat := (ps.filter PartP.tells).length
theorem tellsN_app (ps : List PartP) (p : PartP) : tellsN (ps ++ [p]) = tellsN ps + (if p.tells then 1 else 0) := by
  unfold tellsN
  rw [List.filter_append, List.length_append]
  congr 1
  by_cases h : p.tells = true <;> simp [h]
theorem tellsN_le (ps : List PartP) : tellsN ps ≤ ps.length := List.length_filter_le _ _
def checkP (f : List UInt8) : Int × Int := if (partsP f).2.1 ≠ 0 then ((partsP f).2.1, (partsP f).2.2) else (0, tellsN (partsP f).1)
def isCheck (f : List UInt8) (sv : SV) (post : SS) : Prop := sv = .tup [.i .i64 (checkP f).1, .i .i64 (checkP f).2] ∧ post = nilSS
theorem check_ok (f : List UInt8) : (checkP f).1 = (partsP f).2.1 := by
  unfold checkP
  split
  · rfl
  · rename_i h
    simp only [ne_eq, Decidable.not_not] at h
    exact h.symm

theorem checkS_c (f : List UInt8) : Contract Try.prog 8 nilSS [.s (bs f)] (isCheck f) := by
  refine contract_of Γok Try.func8 rfl rfl (stop := []) ?_
  refine evCode_sound Γok _ _ _ ?_
  simp (maxSteps := 4000000) only [push_cast, Int.reduceEq, Int.reduceBNe, Int.reduceBEq, Int.reduceAdd, Int.reduceSub, Int.reduceMul, Int.reduceNeg, Int.reduceLT, Int.reduceLE, Int.reduceToNat, Nat.reduceLT, Nat.reduceAdd, Nat.reduceSub, Nat.reduceMul, Nat.reduceEqDiff, Nat.reduceLeDiff, Nat.reduceBEq, reduceIte, reduceCtorEq, Try.f8]
  refine call_w (parts_c f) [] (by simp (maxSteps := 4000000) only [push_cast, Int.reduceEq, Int.reduceBNe, Int.reduceBEq, Int.reduceAdd, Int.reduceSub, Int.reduceMul, Int.reduceNeg, Int.reduceLT, Int.reduceLE, Int.reduceToNat, Nat.reduceLT, Nat.reduceAdd, Nat.reduceSub, Nat.reduceMul, Nat.reduceEqDiff, Nat.reduceLeDiff, Nat.reduceBEq, reduceIte, reduceCtorEq]) ?_
  rintro sv post ⟨rfl, hp⟩
  obtain ⟨hok1, hok2⟩ := partsP_ok f
  have hsc : ∀ a b : Int, checkP f = (a, b) → isCheck f (.tup [.i .i64 a, .i .i64 b]) nilSS := fun a b h => by unfold isCheck; rw [h]; exact ⟨rfl, rfl⟩
  unfold checkP at hsc
  generalize partsP f = P at hp hok1 hok2 hsc
  obtain ⟨ps, pe, pa⟩ := P
  simp only at hp hok1 hok2 hsc
  rcases hp with ⟨rfl, rfl⟩ | ⟨hne, rfl⟩
  · simp (maxSteps := 4000000) only [push_cast, Int.reduceEq, Int.reduceBNe, Int.reduceBEq, Int.reduceAdd, Int.reduceSub, Int.reduceMul, Int.reduceNeg, Int.reduceLT, Int.reduceLE, Int.reduceToNat, Nat.reduceLT, Nat.reduceAdd, Nat.reduceSub, Nat.reduceMul, Nat.reduceEqDiff, Nat.reduceLeDiff, Nat.reduceBEq, reduceIte, reduceCtorEq, ren_partf]
    refine loop_ok (ι := {i : Nat // i ≤ ps.length}) (fun i => ⟨List.replicate 7 .any ++ [.i .i64 (tellsN (ps.take i.1))] ++ List.replicate 12 .any ++ [.sl 4 .old ps.length (partEl ps), .i .i64 ps.length, .i .i64 i.1] ++ List.replicate 9 .any, [], [], [], 0, 0, []⟩) (fun i => ps.length - i.1) ⟨0, Nat.zero_le _⟩ ?_ ?_
    · refine Sub.w [] ?_
      simp (maxSteps := 4000000) only [push_cast, Int.reduceEq, Int.reduceBNe, Int.reduceBEq, Int.reduceAdd, Int.reduceSub, Int.reduceMul, Int.reduceNeg, Int.reduceLT, Int.reduceLE, Int.reduceToNat, Nat.reduceLT, Nat.reduceAdd, Nat.reduceSub, Nat.reduceMul, Nat.reduceEqDiff, Nat.reduceLeDiff, Nat.reduceBEq, reduceIte, reduceCtorEq, List.take_zero]
      exact ⟨rfl, fun i _ j _ => W_part _ ps i j⟩
    rintro ⟨i, hi⟩
    refine evCode_sound Γok _ _ _ ?_
    simp (maxSteps := 4000000) only [push_cast, Int.reduceEq, Int.reduceBNe, Int.reduceBEq, Int.reduceAdd, Int.reduceSub, Int.reduceMul, Int.reduceNeg, Int.reduceLT, Int.reduceLE, Int.reduceToNat, Nat.reduceLT, Nat.reduceAdd, Nat.reduceSub, Nat.reduceMul, Nat.reduceEqDiff, Nat.reduceLeDiff, Nat.reduceBEq, reduceIte, reduceCtorEq]
    refine ⟨fun h => ?_, fun h => ?_⟩
    · have hlt : i < ps.length := by omega
      obtain ⟨p, r, hr⟩ : ∃ p r, ps.drop i = p :: r := ⟨ps[i], ps.drop (i + 1), List.drop_eq_getElem_cons hlt⟩
      have hmap : List.map (partEl ps ((i : Int)).toNat) (List.range 4) = partC p := by
        rw [Int.toNat_natCast]
        show _ = List.map (partEl (p :: r) 0) (List.range 4)
        congr 1
        funext j
        have := partEl_drop ps i 0 j
        rw [hr] at this
        exact this
      have htk : ps.take (i + 1) = ps.take i ++ [p] := by
        rw [List.take_succ_eq_append_getElem hlt]
        have := List.drop_eq_getElem_cons hlt
        rw [hr] at this
        rw [(List.cons.inj this).1]
      have hn := tellsN_le (ps.take i)
      rw [List.length_take] at hn
      rw [hmap]
      simp (maxSteps := 4000000) only [push_cast, Int.reduceEq, Int.reduceBNe, Int.reduceBEq, Int.reduceAdd, Int.reduceSub, Int.reduceMul, Int.reduceNeg, Int.reduceLT, Int.reduceLE, Int.reduceToNat, Nat.reduceLT, Nat.reduceAdd, Nat.reduceSub, Nat.reduceMul, Nat.reduceEqDiff, Nat.reduceLeDiff, Nat.reduceBEq, reduceIte, reduceCtorEq, partC]
      refine ⟨by omega, ?_⟩
      refine call_w (tells_c p) [] (by simp (maxSteps := 4000000) only [push_cast, Int.reduceEq, Int.reduceBNe, Int.reduceBEq, Int.reduceAdd, Int.reduceSub, Int.reduceMul, Int.reduceNeg, Int.reduceLT, Int.reduceLE, Int.reduceToNat, Nat.reduceLT, Nat.reduceAdd, Nat.reduceSub, Nat.reduceMul, Nat.reduceEqDiff, Nat.reduceLeDiff, Nat.reduceBEq, reduceIte, reduceCtorEq, partC]) ?_
      rintro sv post ⟨rfl, rfl⟩
      simp (maxSteps := 4000000) only [push_cast, Int.reduceEq, Int.reduceBNe, Int.reduceBEq, Int.reduceAdd, Int.reduceSub, Int.reduceMul, Int.reduceNeg, Int.reduceLT, Int.reduceLE, Int.reduceToNat, Nat.reduceLT, Nat.reduceAdd, Nat.reduceSub, Nat.reduceMul, Nat.reduceEqDiff, Nat.reduceLeDiff, Nat.reduceBEq, reduceIte, reduceCtorEq]
      refine ⟨fun h8 => ⟨⟨i + 1, hlt⟩, by show ps.length - (i + 1) < ps.length - i; omega, Sub.w [] ?_⟩, fun h8 => ⟨⟨i + 1, hlt⟩, by show ps.length - (i + 1) < ps.length - i; omega, Sub.w [] ?_⟩⟩
      · simp (maxSteps := 4000000) only [push_cast, Int.reduceEq, Int.reduceBNe, Int.reduceBEq, Int.reduceAdd, Int.reduceSub, Int.reduceMul, Int.reduceNeg, Int.reduceLT, Int.reduceLE, Int.reduceToNat, Nat.reduceLT, Nat.reduceAdd, Nat.reduceSub, Nat.reduceMul, Nat.reduceEqDiff, Nat.reduceLeDiff, Nat.reduceBEq, reduceIte, reduceCtorEq, htk, tellsN_app, h8]
        exact ⟨(wrap64 (n := ((tellsN (ps.take i) : Nat) : Int) + 1) (by omega) (by omega)).symm, fun i _ j _ => W_part _ ps i j, (wrap64 (n := (i : Int) + 1) (by omega) (by omega)).symm⟩
      · simp (maxSteps := 4000000) only [push_cast, Int.reduceEq, Int.reduceBNe, Int.reduceBEq, Int.reduceAdd, Int.reduceSub, Int.reduceMul, Int.reduceNeg, Int.reduceLT, Int.reduceLE, Int.reduceToNat, Nat.reduceLT, Nat.reduceAdd, Nat.reduceSub, Nat.reduceMul, Nat.reduceEqDiff, Nat.reduceLeDiff, Nat.reduceBEq, reduceIte, reduceCtorEq, htk, tellsN_app, h8]
        exact ⟨fun i _ j _ => W_part _ ps i j, (wrap64 (n := (i : Int) + 1) (by omega) (by omega)).symm⟩
    · obtain rfl : i = ps.length := by omega
      rw [List.take_length]
      exact Fin.w [] _ nilSS (by simp (maxSteps := 4000000) only [push_cast, Int.reduceEq, Int.reduceBNe, Int.reduceBEq, Int.reduceAdd, Int.reduceSub, Int.reduceMul, Int.reduceNeg, Int.reduceLT, Int.reduceLE, Int.reduceToNat, Nat.reduceLT, Nat.reduceAdd, Nat.reduceSub, Nat.reduceMul, Nat.reduceEqDiff, Nat.reduceLeDiff, Nat.reduceBEq, reduceIte, reduceCtorEq]) (hsc 0 (tellsN ps) (by simp))
  · simp (maxSteps := 4000000) only [push_cast, Int.reduceEq, Int.reduceBNe, Int.reduceBEq, Int.reduceAdd, Int.reduceSub, Int.reduceMul, Int.reduceNeg, Int.reduceLT, Int.reduceLE, Int.reduceToNat, Nat.reduceLT, Nat.reduceAdd, Nat.reduceSub, Nat.reduceMul, Nat.reduceEqDiff, Nat.reduceLeDiff, Nat.reduceBEq, reduceIte, reduceCtorEq]
    refine ⟨fun h => ?_, fun h => absurd h hne⟩
    exact Fin.w [] _ nilSS (by simp (maxSteps := 4000000) only [push_cast, Int.reduceEq, Int.reduceBNe, Int.reduceBEq, Int.reduceAdd, Int.reduceSub, Int.reduceMul, Int.reduceNeg, Int.reduceLT, Int.reduceLE, Int.reduceToNat, Nat.reduceLT, Nat.reduceAdd, Nat.reduceSub, Nat.reduceMul, Nat.reduceEqDiff, Nat.reduceLeDiff, Nat.reduceBEq, reduceIte, reduceCtorEq]) (hsc pe pa (by simp [hne]))

theorem partsF_end (fu at_ : Nat) (out : List PartP) (hf : 0 < fu) : partsF fu at_ [] out = (out, 0, at_) := by
  obtain ⟨k, rfl⟩ : ∃ k, fu = k + 1 := ⟨fu - 1, by omega⟩
  rfl
theorem check18_c (f : List UInt8) : Contract Try.prog 9 nilSS [.s (bs f)] (isCheck f) := by
  refine contract_of Γok Try.func9 rfl rfl (stop := []) ?_
  refine evCode_sound Γok _ _ _ ?_
  simp (maxSteps := 4000000) only [push_cast, Int.reduceEq, Int.reduceBNe, Int.reduceBEq, Int.reduceAdd, Int.reduceSub, Int.reduceMul, Int.reduceNeg, Int.reduceLT, Int.reduceLE, Int.reduceToNat, Nat.reduceLT, Nat.reduceAdd, Nat.reduceSub, Nat.reduceMul, Nat.reduceEqDiff, Nat.reduceLeDiff, Nat.reduceBEq, reduceIte, reduceCtorEq, Try.f9, bs_size]
  have hsc : ∀ a b : Int, checkP f = (a, b) → isCheck f (.tup [.i .i64 a, .i .i64 b]) nilSS := fun a b h => by unfold isCheck; rw [h]; exact ⟨rfl, rfl⟩
  unfold checkP at hsc
  refine ⟨fun h => ?_, fun h => ?_⟩
  · have e0 : partsP f = ([], 5, 0) := if_pos (by omega)
    rw [e0] at hsc
    exact Fin.w [] _ nilSS (by simp (maxSteps := 4000000) only [push_cast, Int.reduceEq, Int.reduceBNe, Int.reduceBEq, Int.reduceAdd, Int.reduceSub, Int.reduceMul, Int.reduceNeg, Int.reduceLT, Int.reduceLE, Int.reduceToNat, Nat.reduceLT, Nat.reduceAdd, Nat.reduceSub, Nat.reduceMul, Nat.reduceEqDiff, Nat.reduceLeDiff, Nat.reduceBEq, reduceIte, reduceCtorEq]) (hsc 5 0 rfl)
  have e0 : partsP f = partsF (f.length + 1) 0 f [] := if_neg (by omega)
  refine loop_ok (ι := {q : Nat × List UInt8 × Nat × List PartP // partsF q.1 q.2.2.1 q.2.1 q.2.2.2 = partsF (f.length + 1) 0 f [] ∧ q.2.1.length < q.1 ∧ f.drop q.2.2.1 = q.2.1 ∧ q.2.2.1 + q.2.1.length = f.length ∧ q.2.2.2.length ≤ q.2.2.1})
    (fun q => ⟨[.s (bs f), .any, .any, .any, .i .i64 (tellsN q.1.2.2.2), .i .i64 q.1.2.2.1] ++ List.replicate 31 .any, [], [], [], 0, 0, []⟩) (fun q => q.1.1) ⟨(f.length + 1, f, 0, []), rfl, Nat.lt_succ_self _, rfl, by simp, by simp⟩ ?_ ?_
  · refine Sub.w [] ?_
    simp (maxSteps := 4000000) only [push_cast, Int.reduceEq, Int.reduceBNe, Int.reduceBEq, Int.reduceAdd, Int.reduceSub, Int.reduceMul, Int.reduceNeg, Int.reduceLT, Int.reduceLE, Int.reduceToNat, Nat.reduceLT, Nat.reduceAdd, Nat.reduceSub, Nat.reduceMul, Nat.reduceEqDiff, Nat.reduceLeDiff, Nat.reduceBEq, reduceIte, reduceCtorEq]
    rfl
  rintro ⟨⟨fu, r, at_, out⟩, h1, h2, h3, h4, h5⟩
  simp only at h1 h2 h3 h4 h5
  refine evCode_sound Γok _ _ _ ?_
  simp (maxSteps := 4000000) only [push_cast, Int.reduceEq, Int.reduceBNe, Int.reduceBEq, Int.reduceAdd, Int.reduceSub, Int.reduceMul, Int.reduceNeg, Int.reduceLT, Int.reduceLE, Int.reduceToNat, Nat.reduceLT, Nat.reduceAdd, Nat.reduceSub, Nat.reduceMul, Nat.reduceEqDiff, Nat.reduceLeDiff, Nat.reduceBEq, reduceIte, reduceCtorEq, bs_size]
  refine ⟨fun h7 => ?_, fun h7 => ?_⟩
  · obtain ⟨ch, r, rfl⟩ : ∃ d r', r = d :: r' := by
      cases r with
      | nil => simp only [List.length_nil] at h4; omega
      | cons d r => exact ⟨d, r, rfl⟩
    obtain ⟨fu, rfl⟩ : ∃ k, fu = k + 1 := ⟨fu - 1, by omega⟩
    simp only [List.length_cons] at h2 h4
    refine call_w (read18_c f at_ (by omega) (by omega)) [] (by simp (maxSteps := 4000000) only [push_cast, Int.reduceEq, Int.reduceBNe, Int.reduceBEq, Int.reduceAdd, Int.reduceSub, Int.reduceMul, Int.reduceNeg, Int.reduceLT, Int.reduceLE, Int.reduceToNat, Nat.reduceLT, Nat.reduceAdd, Nat.reduceSub, Nat.reduceMul, Nat.reduceEqDiff, Nat.reduceLeDiff, Nat.reduceBEq, reduceIte, reduceCtorEq]) ?_
    rintro sv post ⟨rfl, hp⟩
    rw [h3] at hp
    have hn := tellsN_le out
    cases hcc : cutP (ch :: r) with
    | none =>
      rw [hcc] at hp
      obtain ⟨m, w, v, c, e, rfl⟩ := hp
      have eL : partsP f = ([], 171, at_) := by rw [e0, ← h1, partsF_bad hcc]
      rw [eL] at hsc
      simp (maxSteps := 4000000) only [push_cast, Int.reduceEq, Int.reduceBNe, Int.reduceBEq, Int.reduceAdd, Int.reduceSub, Int.reduceMul, Int.reduceNeg, Int.reduceLT, Int.reduceLE, Int.reduceToNat, Nat.reduceLT, Nat.reduceAdd, Nat.reduceSub, Nat.reduceMul, Nat.reduceEqDiff, Nat.reduceLeDiff, Nat.reduceBEq, reduceIte, reduceCtorEq]
      exact Fin.w [] _ nilSS (by simp (maxSteps := 4000000) only [push_cast, Int.reduceEq, Int.reduceBNe, Int.reduceBEq, Int.reduceAdd, Int.reduceSub, Int.reduceMul, Int.reduceNeg, Int.reduceLT, Int.reduceLE, Int.reduceToNat, Nat.reduceLT, Nat.reduceAdd, Nat.reduceSub, Nat.reduceMul, Nat.reduceEqDiff, Nat.reduceLeDiff, Nat.reduceBEq, reduceIte, reduceCtorEq]) (hsc 171 at_ rfl)
    | some pn =>
      obtain ⟨p, n⟩ := pn
      rw [hcc] at hp
      simp only at hp
      subst hp
      obtain ⟨s1, s2, s3⟩ := cutP_size hcc
      obtain ⟨v1, v2⟩ := cutP_verb hcc
      have t18 := tells18 p v1
      rw [partsF_go hcc] at h1
      simp (maxSteps := 4000000) only [push_cast, Int.reduceEq, Int.reduceBNe, Int.reduceBEq, Int.reduceAdd, Int.reduceSub, Int.reduceMul, Int.reduceNeg, Int.reduceLT, Int.reduceLE, Int.reduceToNat, Nat.reduceLT, Nat.reduceAdd, Nat.reduceSub, Nat.reduceMul, Nat.reduceEqDiff, Nat.reduceLeDiff, Nat.reduceBEq, reduceIte, reduceCtorEq, dirL]
      refine ⟨fun h8 => ?_, fun h8 => ?_⟩
      · have ht : p.tells = true := by
          rw [← t18, Bool.and_eq_true, decide_eq_true_eq, Bool.not_eq_true']
          exact h8
        refine ⟨⟨(fu, (ch :: r).drop n, at_ + n, out ++ [p]), h1, by simp only [List.length_drop, List.length_cons]; omega, by rw [← List.drop_drop, h3], by simp only [List.length_drop, List.length_cons]; omega, by simp only [List.length_append, List.length_cons, List.length_nil]; omega⟩, by simp only; omega, Sub.w [] ?_⟩
        simp (maxSteps := 4000000) only [push_cast, Int.reduceEq, Int.reduceBNe, Int.reduceBEq, Int.reduceAdd, Int.reduceSub, Int.reduceMul, Int.reduceNeg, Int.reduceLT, Int.reduceLE, Int.reduceToNat, Nat.reduceLT, Nat.reduceAdd, Nat.reduceSub, Nat.reduceMul, Nat.reduceEqDiff, Nat.reduceLeDiff, Nat.reduceBEq, reduceIte, reduceCtorEq, tellsN_app, ht]
        exact (wrap64 (n := ((tellsN out : Nat) : Int) + 1) (by omega) (by omega)).symm
      · have ht : p.tells = false := by
          rw [← t18, Bool.and_eq_false_iff, decide_eq_false_iff_not, Bool.not_eq_false']
          rcases h8 with k | k
          · exact .inl (by omega)
          · exact .inr k
        refine ⟨⟨(fu, (ch :: r).drop n, at_ + n, out ++ [p]), h1, by simp only [List.length_drop, List.length_cons]; omega, by rw [← List.drop_drop, h3], by simp only [List.length_drop, List.length_cons]; omega, by simp only [List.length_append, List.length_cons, List.length_nil]; omega⟩, by simp only; omega, Sub.w [] ?_⟩
        simp (maxSteps := 4000000) only [push_cast, Int.reduceEq, Int.reduceBNe, Int.reduceBEq, Int.reduceAdd, Int.reduceSub, Int.reduceMul, Int.reduceNeg, Int.reduceLT, Int.reduceLE, Int.reduceToNat, Nat.reduceLT, Nat.reduceAdd, Nat.reduceSub, Nat.reduceMul, Nat.reduceEqDiff, Nat.reduceLeDiff, Nat.reduceBEq, reduceIte, reduceCtorEq, tellsN_app, ht]
  · have hr : r = [] := List.eq_nil_of_length_eq_zero (by omega)
    subst hr
    have hL : partsP f = (out, 0, at_) := by rw [e0, ← h1, partsF_end _ _ _ (by omega)]
    rw [hL] at hsc
    exact Fin.w [] _ nilSS (by simp (maxSteps := 4000000) only [push_cast, Int.reduceEq, Int.reduceBNe, Int.reduceBEq, Int.reduceAdd, Int.reduceSub, Int.reduceMul, Int.reduceNeg, Int.reduceLT, Int.reduceLE, Int.reduceToNat, Nat.reduceLT, Nat.reduceAdd, Nat.reduceSub, Nat.reduceMul, Nat.reduceEqDiff, Nat.reduceLeDiff, Nat.reduceBEq, reduceIte, reduceCtorEq]) (hsc 0 (tellsN out) (by simp))
end Go.Proofs.Ytlajpggoncelhaa
/- ScanTells: any pattern over any bytes: the values, how many bytes were used up, and the error, are the page's; the bytes stay. -/
namespace Go.Proofs.Ytlajpggoncelhaa
open Go Go.Eng
set_option maxHeartbeats 4000000
set_option linter.unusedSimpArgs false
set_option linter.unusedVariables false
set_option maxRecDepth 100000

/-- The parts of a pattern that may be, one by one. -/
inductive PartsOK : List UInt8 → List PartP → Prop
  | nil : PartsOK [] []
  | cons {c : UInt8} {r : List UInt8} {p : PartP} {n : Nat} {ps : List PartP} : cutP (c :: r) = some (p, n) → PartsOK ((c :: r).drop n) ps → PartsOK (c :: r) (p :: ps)
theorem partsF_rel : ∀ (fu at_ : Nat) (l : List UInt8) (out : List PartP), (partsF fu at_ l out).2.1 = 0 → l.length < fu → ∃ ps, (partsF fu at_ l out).1 = out ++ ps ∧ PartsOK l ps
  | 0, at_, l, out, _, h => absurd h (Nat.not_lt_zero _)
  | fu + 1, at_, [], out, _, _ => ⟨[], by simp [partsF], .nil⟩
  | fu + 1, at_, c :: r, out, h0, h => by
    cases hc : cutP (c :: r) with
    | none => rw [partsF_bad hc] at h0; simp at h0
    | some pn =>
      obtain ⟨p, n⟩ := pn
      obtain ⟨s1, s2, s3⟩ := cutP_size hc
      simp only [List.length_cons] at h
      rw [partsF_go hc] at h0 ⊢
      obtain ⟨ps, e1, e2⟩ := partsF_rel fu (at_ + n) ((c :: r).drop n) (out ++ [p]) h0 (by simp only [List.length_drop, List.length_cons]; omega)
      exact ⟨p :: ps, by rw [e1, List.append_assoc]; rfl, .cons hc e2⟩
theorem partsP_rel (f : List UInt8) (h : (partsP f).2.1 = 0) : PartsOK f (partsP f).1 ∧ f.length ≤ 65536 := by
  unfold partsP at h ⊢
  split
  · rename_i hl
    rw [if_pos hl] at h
    simp at h
  · rename_i hl
    rw [if_neg hl] at h
    obtain ⟨ps, e1, e2⟩ := partsF_rel _ 0 f [] h (Nat.lt_succ_self _)
    rw [e1]
    exact ⟨e2, by omega⟩
def isAll18 (R : List AV × Int × Nat) (b : List UInt8) (sv : SV) (post : SS) : Prop := sv = .tup [.sl 4 .old R.1.length (argElQ R.1), .i .i64 R.2.1] ∧ ∃ z, post = srcS b R.2.2 z
theorem all18_c (f : List UInt8) (ps : List PartP) (hf : PartsOK f ps) (hl : f.length ≤ 65536) (b : List UInt8) (hb : b.length ≤ 140737488355328) :
    Contract Try.prog 20 (srcS b 0 0) [.ptr 0 0, .s (bs f)] (isAll18 (allQ b ps 0 []) b) := by
  refine contract_of Γok Try.func20 rfl rfl (stop := []) ?_
  refine evCode_sound Γok _ _ _ ?_
  simp (maxSteps := 4000000) only [push_cast, Int.reduceEq, Int.reduceBNe, Int.reduceBEq, Int.reduceAdd, Int.reduceSub, Int.reduceMul, Int.reduceNeg, Int.reduceLT, Int.reduceLE, Int.reduceToNat, Nat.reduceLT, Nat.reduceAdd, Nat.reduceSub, Nat.reduceMul, Nat.reduceEqDiff, Nat.reduceLeDiff, Nat.reduceBEq, reduceIte, reduceCtorEq, Try.f20, srcS, srcL]
  refine loop_ok (ι := {q : Nat × List PartP × Nat × List AV // PartsOK (f.drop q.1) q.2.1 ∧ allQ b q.2.1 q.2.2.1 q.2.2.2 = allQ b ps 0 [] ∧ q.1 ≤ f.length ∧ q.2.2.1 ≤ b.length ∧ q.2.2.2.length ≤ q.1})
    (fun q => ⟨[.ptr 0 0, .s (bs f), .any, .any, .any, .any, .sl 4 (.tok 1 true) q.1.2.2.2.length (argElQ q.1.2.2.2), .i .i64 q.1.1] ++ List.replicate 39 .any, [(0, 70, srcL b q.1.2.2.1 0)], [1], [], 2, 1, []⟩) (fun q => f.length - q.1.1) ⟨(0, ps, 0, []), hf, rfl, by simp, by simp, by simp⟩ ?_ ?_
  · refine Sub.trans (Sub.tokFrS 6 4 (argElQ []) rfl) (Sub.w [0, 1] ?_)
    simp (maxSteps := 4000000) only [push_cast, Int.reduceEq, Int.reduceBNe, Int.reduceBEq, Int.reduceAdd, Int.reduceSub, Int.reduceMul, Int.reduceNeg, Int.reduceLT, Int.reduceLE, Int.reduceToNat, Nat.reduceLT, Nat.reduceAdd, Nat.reduceSub, Nat.reduceMul, Nat.reduceEqDiff, Nat.reduceLeDiff, Nat.reduceBEq, reduceIte, reduceCtorEq, srcL]
    exact fun i hi => absurd hi (Nat.not_lt_zero _)
  rintro ⟨⟨i, r, k, out⟩, h1, h2, h3, h4, h5⟩
  simp only at h1 h2 h3 h4 h5
  refine evCode_sound Γok _ _ _ ?_
  simp (maxSteps := 4000000) only [push_cast, Int.reduceEq, Int.reduceBNe, Int.reduceBEq, Int.reduceAdd, Int.reduceSub, Int.reduceMul, Int.reduceNeg, Int.reduceLT, Int.reduceLE, Int.reduceToNat, Nat.reduceLT, Nat.reduceAdd, Nat.reduceSub, Nat.reduceMul, Nat.reduceEqDiff, Nat.reduceLeDiff, Nat.reduceBEq, reduceIte, reduceCtorEq, srcL, bs_size]
  refine ⟨fun h6 => ?_, fun h6 => ?_⟩
  · refine call_w (read18_c f i hl (by omega)) [] (by simp (maxSteps := 4000000) only [push_cast, Int.reduceEq, Int.reduceBNe, Int.reduceBEq, Int.reduceAdd, Int.reduceSub, Int.reduceMul, Int.reduceNeg, Int.reduceLT, Int.reduceLE, Int.reduceToNat, Nat.reduceLT, Nat.reduceAdd, Nat.reduceSub, Nat.reduceMul, Nat.reduceEqDiff, Nat.reduceLeDiff, Nat.reduceBEq, reduceIte, reduceCtorEq]) ?_
    rintro sv post ⟨rfl, hp⟩
    generalize hfd : f.drop i = fd at h1 hp
    have hfl : fd.length = f.length - i := by rw [← hfd, List.length_drop]
    cases h1 with
    | nil => simp only [List.length_nil] at hfl; omega
    | @cons ch r' p n ps' hcc hrest =>
      rw [hcc] at hp
      simp only at hp
      subst hp
      obtain ⟨s1, s2, s3⟩ := cutP_size hcc
      obtain ⟨v1, v2⟩ := cutP_verb hcc
      have t18 := tells18 p v1
      simp only [List.length_cons] at hfl
      have hch : (((ch :: r')[0]?).getD 0) = ch := rfl
      rw [hch]
      simp (maxSteps := 4000000) only [push_cast, Int.reduceEq, Int.reduceBNe, Int.reduceBEq, Int.reduceAdd, Int.reduceSub, Int.reduceMul, Int.reduceNeg, Int.reduceLT, Int.reduceLE, Int.reduceToNat, Nat.reduceLT, Nat.reduceAdd, Nat.reduceSub, Nat.reduceMul, Nat.reduceEqDiff, Nat.reduceLeDiff, Nat.reduceBEq, reduceIte, reduceCtorEq, dirL]
      refine call_w (one18_c p v1 s3 ch.toNat (i + n : Nat) (fun h => by rw [v2 h]) b k hb h4) [0] (by simp (maxSteps := 4000000) only [push_cast, Int.reduceEq, Int.reduceBNe, Int.reduceBEq, Int.reduceAdd, Int.reduceSub, Int.reduceMul, Int.reduceNeg, Int.reduceLT, Int.reduceLE, Int.reduceToNat, Nat.reduceLT, Nat.reduceAdd, Nat.reduceSub, Nat.reduceMul, Nat.reduceEqDiff, Nat.reduceLeDiff, Nat.reduceBEq, reduceIte, reduceCtorEq, srcS, srcL, dirL]) ?_
      rintro sv post ⟨rfl, z, hz, rfl⟩
      have hle := oneQ_le p (b.drop k)
      rw [List.length_drop] at hle
      simp only [allQ] at h2
      generalize oneQ p (b.drop k) = R at h2 hle hz ⊢
      obtain ⟨A, x, m, z'⟩ := R
      simp only at h2 hle hz
      simp (maxSteps := 4000000) only [push_cast, Int.reduceEq, Int.reduceBNe, Int.reduceBEq, Int.reduceAdd, Int.reduceSub, Int.reduceMul, Int.reduceNeg, Int.reduceLT, Int.reduceLE, Int.reduceToNat, Nat.reduceLT, Nat.reduceAdd, Nat.reduceSub, Nat.reduceMul, Nat.reduceEqDiff, Nat.reduceLeDiff, Nat.reduceBEq, reduceIte, reduceCtorEq, srcS, srcL, argQ]
      refine ⟨fun h7 => ?_, fun h7 => ⟨fun h8 => ?_, fun h8 => ?_⟩⟩
      · rw [if_pos h7] at h2
        rw [← h2]
        exact Fin.w [0] (.tup [.sl 4 .old out.length (argElQ out), .i .i64 x]) (srcS b (k + m) z) (by simp (maxSteps := 4000000) only [push_cast, Int.reduceEq, Int.reduceBNe, Int.reduceBEq, Int.reduceAdd, Int.reduceSub, Int.reduceMul, Int.reduceNeg, Int.reduceLT, Int.reduceLE, Int.reduceToNat, Nat.reduceLT, Nat.reduceAdd, Nat.reduceSub, Nat.reduceMul, Nat.reduceEqDiff, Nat.reduceLeDiff, Nat.reduceBEq, reduceIte, reduceCtorEq, srcS, srcL]; exact fun i _ j _ => W_argQ _ out i j) ⟨rfl, z, rfl⟩
      · have ht : p.tells = true := by
          rw [← t18, Bool.and_eq_true, decide_eq_true_eq, Bool.not_eq_true']
          exact h8
        obtain rfl : x = 0 := by simpa using h7
        rw [if_neg (by simp), ht, if_pos rfl] at h2
        obtain rfl := hz rfl
        have e2 : catEl out.length (argElQ out) (elOf [[SV.i .i64 A.kind, .i .i64 A.n, .i .u64 A.u, .s (bs A.t)]]) = argElQ (out ++ [A]) := argElQ_app out A
        refine ⟨by omega, fun i' hi' j hj => ?_, ⟨(i + n, ps', k + m, out ++ [A]), by simp only; rw [← List.drop_drop, hfd]; exact hrest, h2, by simp only; omega, by simp only; omega, by simp only [List.length_append, List.length_cons, List.length_nil]; omega⟩, by simp only; omega, Sub.w [0, 5] ?_⟩
        · obtain rfl : i' = 0 := by omega
          match j, hj with
          | 0, _ => rfl
          | 1, _ => rfl
          | 2, _ => rfl
          | 3, _ => rfl
        · simp (maxSteps := 4000000) only [push_cast, Int.reduceEq, Int.reduceBNe, Int.reduceBEq, Int.reduceAdd, Int.reduceSub, Int.reduceMul, Int.reduceNeg, Int.reduceLT, Int.reduceLE, Int.reduceToNat, Nat.reduceLT, Nat.reduceAdd, Nat.reduceSub, Nat.reduceMul, Nat.reduceEqDiff, Nat.reduceLeDiff, Nat.reduceBEq, reduceIte, reduceCtorEq, e2, srcL, List.length_append]
          exact fun i _ j _ => W_argQ _ (out ++ [A]) i j
      · have ht : p.tells = false := by
          rw [← t18, Bool.and_eq_false_iff, decide_eq_false_iff_not, Bool.not_eq_false']
          rcases h8 with k | k
          · exact .inl (by omega)
          · exact .inr k
        obtain rfl : x = 0 := by simpa using h7
        rw [if_neg (by simp), ht, if_neg (by simp)] at h2
        obtain rfl := hz rfl
        refine ⟨⟨(i + n, ps', k + m, out), by simp only; rw [← List.drop_drop, hfd]; exact hrest, h2, by simp only; omega, by simp only; omega, by simp only; omega⟩, by simp only; omega, Sub.w [0, 1] ?_⟩
        simp (maxSteps := 4000000) only [push_cast, Int.reduceEq, Int.reduceBNe, Int.reduceBEq, Int.reduceAdd, Int.reduceSub, Int.reduceMul, Int.reduceNeg, Int.reduceLT, Int.reduceLE, Int.reduceToNat, Nat.reduceLT, Nat.reduceAdd, Nat.reduceSub, Nat.reduceMul, Nat.reduceEqDiff, Nat.reduceLeDiff, Nat.reduceBEq, reduceIte, reduceCtorEq, srcL]
        exact fun i _ j _ => W_argQ _ out i j
  · have hfd : f.drop i = [] := List.drop_eq_nil_of_le (by omega)
    rw [hfd] at h1
    cases h1
    simp only [allQ] at h2
    rw [← h2]
    exact Fin.w [0] (.tup [.sl 4 .old out.length (argElQ out), .i .i64 0]) (srcS b k 0) (by simp (maxSteps := 4000000) only [push_cast, Int.reduceEq, Int.reduceBNe, Int.reduceBEq, Int.reduceAdd, Int.reduceSub, Int.reduceMul, Int.reduceNeg, Int.reduceLT, Int.reduceLE, Int.reduceToNat, Nat.reduceLT, Nat.reduceAdd, Nat.reduceSub, Nat.reduceMul, Nat.reduceEqDiff, Nat.reduceLeDiff, Nat.reduceBEq, reduceIte, reduceCtorEq, srcS, srcL]; exact fun i _ j _ => W_argQ _ out i j) ⟨rfl, 0, rfl⟩
theorem scan18_c (f b : List UInt8) (hb : b.length ≤ 140737488355328) : Contract Try.prog 7 nilSS [.s (bs f), .ints .u8 .old (ofU b)] (isScan f b) := by
  refine contract_of Γok Try.func7 rfl rfl (stop := []) ?_
  refine evCode_sound Γok _ _ _ ?_
  simp (maxSteps := 4000000) only [push_cast, Int.reduceEq, Int.reduceBNe, Int.reduceBEq, Int.reduceAdd, Int.reduceSub, Int.reduceMul, Int.reduceNeg, Int.reduceLT, Int.reduceLE, Int.reduceToNat, Nat.reduceLT, Nat.reduceAdd, Nat.reduceSub, Nat.reduceMul, Nat.reduceEqDiff, Nat.reduceLeDiff, Nat.reduceBEq, reduceIte, reduceCtorEq, Try.f7]
  refine call_w (check18_c f) [] (by simp (maxSteps := 4000000) only [push_cast, Int.reduceEq, Int.reduceBNe, Int.reduceBEq, Int.reduceAdd, Int.reduceSub, Int.reduceMul, Int.reduceNeg, Int.reduceLT, Int.reduceLE, Int.reduceToNat, Nat.reduceLT, Nat.reduceAdd, Nat.reduceSub, Nat.reduceMul, Nat.reduceEqDiff, Nat.reduceLeDiff, Nat.reduceBEq, reduceIte, reduceCtorEq]) ?_
  rintro sv post ⟨rfl, rfl⟩
  rw [check_ok]
  have hsc : ∀ sv, (((partsP f).2.1 ≠ 0 ∧ sv = .tup [.ints .u8 .nil [], .i .i64 0, .i .i64 (partsP f).2.1]) ∨
    ((partsP f).2.1 = 0 ∧ sv = .tup [.sl 4 .old (allQ b (partsP f).1 0 []).1.length (argElQ (allQ b (partsP f).1 0 []).1), .i .i64 (allQ b (partsP f).1 0 []).2.2, .i .i64 (allQ b (partsP f).1 0 []).2.1])) → isScan f b sv nilSS := fun sv h => ⟨rfl, h⟩
  have hrel := partsP_rel f
  generalize (checkP f).2 = ck
  generalize partsP f = P at hsc hrel ⊢
  obtain ⟨ps, pe, pa⟩ := P
  simp only at hsc hrel ⊢
  simp (maxSteps := 4000000) only [push_cast, Int.reduceEq, Int.reduceBNe, Int.reduceBEq, Int.reduceAdd, Int.reduceSub, Int.reduceMul, Int.reduceNeg, Int.reduceLT, Int.reduceLE, Int.reduceToNat, Nat.reduceLT, Nat.reduceAdd, Nat.reduceSub, Nat.reduceMul, Nat.reduceEqDiff, Nat.reduceLeDiff, Nat.reduceBEq, reduceIte, reduceCtorEq]
  refine ⟨fun h => ?_, fun h => ?_⟩
  · exact Fin.w [] _ nilSS (by simp (maxSteps := 4000000) only [push_cast, Int.reduceEq, Int.reduceBNe, Int.reduceBEq, Int.reduceAdd, Int.reduceSub, Int.reduceMul, Int.reduceNeg, Int.reduceLT, Int.reduceLE, Int.reduceToNat, Nat.reduceLT, Nat.reduceAdd, Nat.reduceSub, Nat.reduceMul, Nat.reduceEqDiff, Nat.reduceLeDiff, Nat.reduceBEq, reduceIte, reduceCtorEq]) (hsc _ (.inl ⟨h, rfl⟩))
  · subst h
    obtain ⟨hr1, hr2⟩ := hrel rfl
    refine call_w (all18_c f ps hr1 hr2 b hb) [0] (by simp (maxSteps := 4000000) only [push_cast, Int.reduceEq, Int.reduceBNe, Int.reduceBEq, Int.reduceAdd, Int.reduceSub, Int.reduceMul, Int.reduceNeg, Int.reduceLT, Int.reduceLE, Int.reduceToNat, Nat.reduceLT, Nat.reduceAdd, Nat.reduceSub, Nat.reduceMul, Nat.reduceEqDiff, Nat.reduceLeDiff, Nat.reduceBEq, reduceIte, reduceCtorEq, srcS, srcL, mk_bs]; try rfl) ?_
    rintro sv post ⟨rfl, z, rfl⟩
    have h2 := hsc _ (.inr ⟨rfl, rfl⟩)
    generalize allQ b ps 0 [] = R at h2 ⊢
    obtain ⟨out, x, k⟩ := R
    simp only at h2
    simp (maxSteps := 4000000) only [push_cast, Int.reduceEq, Int.reduceBNe, Int.reduceBEq, Int.reduceAdd, Int.reduceSub, Int.reduceMul, Int.reduceNeg, Int.reduceLT, Int.reduceLE, Int.reduceToNat, Nat.reduceLT, Nat.reduceAdd, Nat.reduceSub, Nat.reduceMul, Nat.reduceEqDiff, Nat.reduceLeDiff, Nat.reduceBEq, reduceIte, reduceCtorEq, srcS, srcL, ren_argQf]
    refine (region_plan rfl Γok mixed (.pure 0 (.pure 1 (.pure 2 (.pure 3 (.pure 4 (.pure 5 (.pure 6 (.pure 7 (.pure 8 .done))))))))) 34 rfl (by kernel_rfl) ?_)
    simp (maxSteps := 4000000) only [push_cast, Int.reduceEq, Int.reduceBNe, Int.reduceBEq, Int.reduceAdd, Int.reduceSub, Int.reduceMul, Int.reduceNeg, Int.reduceLT, Int.reduceLE, Int.reduceToNat, Nat.reduceLT, Nat.reduceAdd, Nat.reduceSub, Nat.reduceMul, Nat.reduceEqDiff, Nat.reduceLeDiff, Nat.reduceBEq, reduceIte, reduceCtorEq]
    exact Fin.w [] _ nilSS (by simp (maxSteps := 4000000) only [push_cast, Int.reduceEq, Int.reduceBNe, Int.reduceBEq, Int.reduceAdd, Int.reduceSub, Int.reduceMul, Int.reduceNeg, Int.reduceLT, Int.reduceLE, Int.reduceToNat, Nat.reduceLT, Nat.reduceAdd, Nat.reduceSub, Nat.reduceMul, Nat.reduceEqDiff, Nat.reduceLeDiff, Nat.reduceBEq, reduceIte, reduceCtorEq]; exact fun i _ j _ => W_argQ _ out i j) h2
end Go.Proofs.Ytlajpggoncelhaa
