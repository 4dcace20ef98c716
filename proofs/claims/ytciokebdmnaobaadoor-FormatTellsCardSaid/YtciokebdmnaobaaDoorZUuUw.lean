/- Texts joined, in order: Uu, Uv, Uw. -/
import Derived.Test.YtciokebdmnaobaaDoorZEmGb
import Derived.Test.YtciokebdmnaobaaDoorZUpUr
import Derived.Test.YtciokebdmnaobaaDoorZUiUl
import Derived.ChangeSlices
import Derived.SizedLaws
/- The page's patterns: a directive's text with its width; a whole pattern. -/
namespace Go.Proofs.YtciokebdmnaobaaDoor
open Go Go.Eng
set_option maxHeartbeats 4000000
set_option linter.unusedSimpArgs false
set_option linter.unusedVariables false
set_option maxRecDepth 100000

theorem one17_c (d : Dir) (e : Int) (a : AV) (ha : a.ok) (ht : a.t.length ≤ 140737488355328) (hw : d.width ≤ 4096) (hp : -1 ≤ d.prec) (hp2 : d.prec ≤ 4096) : Contract Tryd.prog 37 nilSS [rV d e, argV a] (fun sv post => sv = .s (bs (textP d a)) ∧ post = nilSS) := by
  refine contract_of Γok Tryd.func37 rfl rfl (stop := []) ?_
  simp only [Tryd.f37]
  have hcl := core_len d a ht hp2
  refine CodeOK.seq (evCode_sound Γok _ _ _ ?_)
  simp (maxSteps := 4000000) only [push_cast, Int.reduceEq, Int.reduceBNe, Int.reduceBEq, Int.reduceAdd, Int.reduceSub, Int.reduceMul, Int.reduceNeg, Int.reduceLT, Int.reduceLE, Int.reduceToNat, Nat.reduceLT, Nat.reduceAdd, Nat.reduceSub, Nat.reduceMul, Nat.reduceEqDiff, Nat.reduceLeDiff, Nat.reduceBEq, reduceIte, reduceCtorEq, rV, rC, argV, argC]
  refine CodeOK.seq (evCode_sound Γok _ _ _ ?_)
  simp (maxSteps := 4000000) only [push_cast, Int.reduceEq, Int.reduceBNe, Int.reduceBEq, Int.reduceAdd, Int.reduceSub, Int.reduceMul, Int.reduceNeg, Int.reduceLT, Int.reduceLE, Int.reduceToNat, Nat.reduceLT, Nat.reduceAdd, Nat.reduceSub, Nat.reduceMul, Nat.reduceEqDiff, Nat.reduceLeDiff, Nat.reduceBEq, reduceIte, reduceCtorEq]
  refine call_w (plain17_c d e a ha ht hp hp2) [] (by simp (maxSteps := 4000000) only [push_cast, Int.reduceEq, Int.reduceBNe, Int.reduceBEq, Int.reduceAdd, Int.reduceSub, Int.reduceMul, Int.reduceNeg, Int.reduceLT, Int.reduceLE, Int.reduceToNat, Nat.reduceLT, Nat.reduceAdd, Nat.reduceSub, Nat.reduceMul, Nat.reduceEqDiff, Nat.reduceLeDiff, Nat.reduceBEq, reduceIte, reduceCtorEq, rV, rC, argV, argC]) ?_
  rintro sv post ⟨rfl, rfl⟩
  simp (maxSteps := 4000000) only [push_cast, Int.reduceEq, Int.reduceBNe, Int.reduceBEq, Int.reduceAdd, Int.reduceSub, Int.reduceMul, Int.reduceNeg, Int.reduceLT, Int.reduceLE, Int.reduceToNat, Nat.reduceLT, Nat.reduceAdd, Nat.reduceSub, Nat.reduceMul, Nat.reduceEqDiff, Nat.reduceLeDiff, Nat.reduceBEq, reduceIte, reduceCtorEq]
  generalize hS : (coreP d a).1 = sg at hcl ⊢
  generalize hX : (coreP d a).2 = sx at hcl ⊢
  have ht : textP d a = layP d sg sx := by unfold textP; rw [hS, hX]
  rw [ht]
  refine CodeOK.seq (evCode_sound Γok _ _ _ ?_)
  simp (maxSteps := 4000000) only [push_cast, Int.reduceEq, Int.reduceBNe, Int.reduceBEq, Int.reduceAdd, Int.reduceSub, Int.reduceMul, Int.reduceNeg, Int.reduceLT, Int.reduceLE, Int.reduceToNat, Nat.reduceLT, Nat.reduceAdd, Nat.reduceSub, Nat.reduceMul, Nat.reduceEqDiff, Nat.reduceLeDiff, Nat.reduceBEq, reduceIte, reduceCtorEq, bs_size]
  rw [wrap64 (n := (d.width : Int) - sg.length) (by omega) (by omega), wrap64 (n := (d.width : Int) - sg.length - sx.length) (by omega) (by omega)]
  obtain ⟨n, hn⟩ : ∃ n : Int, (d.width : Int) - sg.length - sx.length = n := ⟨_, rfl⟩
  have hN : d.width - sg.length - sx.length = n.toNat := by omega
  rw [hn]
  have hr : (List.replicate n.toNat (32 : UInt8)).length = n.toNat ∧ (List.replicate n.toNat (48 : UInt8)).length = n.toNat := ⟨List.length_replicate, List.length_replicate⟩
  refine CodeOK.seq (evCode_sound Γok _ _ _ ?_)
  simp (maxSteps := 4000000) only [push_cast, Int.reduceEq, Int.reduceBNe, Int.reduceBEq, Int.reduceAdd, Int.reduceSub, Int.reduceMul, Int.reduceNeg, Int.reduceLT, Int.reduceLE, Int.reduceToNat, Nat.reduceLT, Nat.reduceAdd, Nat.reduceSub, Nat.reduceMul, Nat.reduceEqDiff, Nat.reduceLeDiff, Nat.reduceBEq, reduceIte, reduceCtorEq, bs_size, mk_bs, bs_app, v99, v115]
  have hc2 : (¬ d.verb = 99 ∧ ¬ d.verb = 115) ↔ (d.verb != 99 && d.verb != 115) = true := by simp
  have lay1 : d.flags.contains 45 = true → layP d sg sx = sg ++ sx ++ List.replicate n.toNat 32 := fun q => by
    unfold layP; rw [if_pos q, hN]
  have lay2 : d.flags.contains 45 = false → ((d.flags.contains 48 = true ∧ ¬ d.verb = 99) ∧ ¬ d.verb = 115) ∧ d.prec < 0 → layP d sg sx = sg ++ List.replicate n.toNat 48 ++ sx := fun q q1 => by
    unfold layP
    rw [if_neg (by rw [q]; simp), if_pos (by rw [q1.1.1.1]; simp [q1.1.1.2, q1.1.2, q1.2]), hN]
  have lay3 : d.flags.contains 45 = false → ((d.flags.contains 48 = false ∨ d.verb = 99) ∨ d.verb = 115) ∨ 0 ≤ d.prec → layP d sg sx = List.replicate n.toNat 32 ++ sg ++ sx := fun q q1 => by
    unfold layP
    rw [if_neg (by rw [q]; simp), if_neg (by
      rcases q1 with ((q1 | q1) | q1) | q1
      · rw [q1]; simp
      · simp [q1]
      · simp [q1]
      · simp; intros; omega), hN]
  refine ⟨fun q => ⟨by omega, ?_⟩, fun q => ⟨fun q1 => ?_, fun q1 => ?_⟩⟩
  · refine call_w (many_c 32 n (by omega)) [] (by simp (maxSteps := 4000000) only [push_cast, Int.reduceEq, Int.reduceBNe, Int.reduceBEq, Int.reduceAdd, Int.reduceSub, Int.reduceMul, Int.reduceNeg, Int.reduceLT, Int.reduceLE, Int.reduceToNat, Nat.reduceLT, Nat.reduceAdd, Nat.reduceSub, Nat.reduceMul, Nat.reduceEqDiff, Nat.reduceLeDiff, Nat.reduceBEq, reduceIte, reduceCtorEq]; rfl) ?_
    rintro sv post ⟨rfl, rfl⟩
    simp (maxSteps := 4000000) only [push_cast, Int.reduceEq, Int.reduceBNe, Int.reduceBEq, Int.reduceAdd, Int.reduceSub, Int.reduceMul, Int.reduceNeg, Int.reduceLT, Int.reduceLE, Int.reduceToNat, Nat.reduceLT, Nat.reduceAdd, Nat.reduceSub, Nat.reduceMul, Nat.reduceEqDiff, Nat.reduceLeDiff, Nat.reduceBEq, reduceIte, reduceCtorEq, bs_app, bs_size, List.length_append]
    rw [lay1 q]
    exact ⟨by omega, Fin.w [] (.s (bs (sg ++ sx ++ List.replicate n.toNat 32))) _ (by simp (maxSteps := 4000000) only [push_cast, Int.reduceEq, Int.reduceBNe, Int.reduceBEq, Int.reduceAdd, Int.reduceSub, Int.reduceMul, Int.reduceNeg, Int.reduceLT, Int.reduceLE, Int.reduceToNat, Nat.reduceLT, Nat.reduceAdd, Nat.reduceSub, Nat.reduceMul, Nat.reduceEqDiff, Nat.reduceLeDiff, Nat.reduceBEq, reduceIte, reduceCtorEq]) ⟨rfl, rfl⟩⟩
  · refine call_w (many_c 48 n (by omega)) [] (by simp (maxSteps := 4000000) only [push_cast, Int.reduceEq, Int.reduceBNe, Int.reduceBEq, Int.reduceAdd, Int.reduceSub, Int.reduceMul, Int.reduceNeg, Int.reduceLT, Int.reduceLE, Int.reduceToNat, Nat.reduceLT, Nat.reduceAdd, Nat.reduceSub, Nat.reduceMul, Nat.reduceEqDiff, Nat.reduceLeDiff, Nat.reduceBEq, reduceIte, reduceCtorEq]; rfl) ?_
    rintro sv post ⟨rfl, rfl⟩
    simp (maxSteps := 4000000) only [push_cast, Int.reduceEq, Int.reduceBNe, Int.reduceBEq, Int.reduceAdd, Int.reduceSub, Int.reduceMul, Int.reduceNeg, Int.reduceLT, Int.reduceLE, Int.reduceToNat, Nat.reduceLT, Nat.reduceAdd, Nat.reduceSub, Nat.reduceMul, Nat.reduceEqDiff, Nat.reduceLeDiff, Nat.reduceBEq, reduceIte, reduceCtorEq, bs_app, bs_size, List.length_append]
    rw [lay2 q q1]
    exact ⟨by omega, by omega, Fin.w [] (.s (bs (sg ++ List.replicate n.toNat 48 ++ sx))) _ (by simp (maxSteps := 4000000) only [push_cast, Int.reduceEq, Int.reduceBNe, Int.reduceBEq, Int.reduceAdd, Int.reduceSub, Int.reduceMul, Int.reduceNeg, Int.reduceLT, Int.reduceLE, Int.reduceToNat, Nat.reduceLT, Nat.reduceAdd, Nat.reduceSub, Nat.reduceMul, Nat.reduceEqDiff, Nat.reduceLeDiff, Nat.reduceBEq, reduceIte, reduceCtorEq]) ⟨rfl, rfl⟩⟩
  · refine evCode_sound Γok _ _ _ ?_
    simp (maxSteps := 4000000) only [push_cast, Int.reduceEq, Int.reduceBNe, Int.reduceBEq, Int.reduceAdd, Int.reduceSub, Int.reduceMul, Int.reduceNeg, Int.reduceLT, Int.reduceLE, Int.reduceToNat, Nat.reduceLT, Nat.reduceAdd, Nat.reduceSub, Nat.reduceMul, Nat.reduceEqDiff, Nat.reduceLeDiff, Nat.reduceBEq, reduceIte, reduceCtorEq]
    refine call_w (many_c 32 n (by omega)) [] (by simp (maxSteps := 4000000) only [push_cast, Int.reduceEq, Int.reduceBNe, Int.reduceBEq, Int.reduceAdd, Int.reduceSub, Int.reduceMul, Int.reduceNeg, Int.reduceLT, Int.reduceLE, Int.reduceToNat, Nat.reduceLT, Nat.reduceAdd, Nat.reduceSub, Nat.reduceMul, Nat.reduceEqDiff, Nat.reduceLeDiff, Nat.reduceBEq, reduceIte, reduceCtorEq]; rfl) ?_
    rintro sv post ⟨rfl, rfl⟩
    simp (maxSteps := 4000000) only [push_cast, Int.reduceEq, Int.reduceBNe, Int.reduceBEq, Int.reduceAdd, Int.reduceSub, Int.reduceMul, Int.reduceNeg, Int.reduceLT, Int.reduceLE, Int.reduceToNat, Nat.reduceLT, Nat.reduceAdd, Nat.reduceSub, Nat.reduceMul, Nat.reduceEqDiff, Nat.reduceLeDiff, Nat.reduceBEq, reduceIte, reduceCtorEq, bs_app, bs_size, List.length_append]
    rw [lay3 q q1]
    exact ⟨by omega, by omega, Fin.w [] (.s (bs (List.replicate n.toNat 32 ++ sg ++ sx))) _ (by simp (maxSteps := 4000000) only [push_cast, Int.reduceEq, Int.reduceBNe, Int.reduceBEq, Int.reduceAdd, Int.reduceSub, Int.reduceMul, Int.reduceNeg, Int.reduceLT, Int.reduceLE, Int.reduceToNat, Nat.reduceLT, Nat.reduceAdd, Nat.reduceSub, Nat.reduceMul, Nat.reduceEqDiff, Nat.reduceLeDiff, Nat.reduceBEq, reduceIte, reduceCtorEq]) ⟨rfl, rfl⟩⟩
end Go.Proofs.YtciokebdmnaobaaDoor
/- The page's patterns: a whole pattern. -/
namespace Go.Proofs.YtciokebdmnaobaaDoor
open Go Go.Eng
set_option maxHeartbeats 4000000
set_option linter.unusedSimpArgs false
set_option linter.unusedVariables false
set_option maxRecDepth 100000

theorem ofU_nil : ofU [] = [] := rfl
theorem argEl_drop : ∀ (args : List AV) (k i j : Nat), argEl args (k + i) j = argEl (args.drop k) i j
  | [], k, i, j => by simp [argEl, elOf, pickL]
  | a :: r, 0, i, j => by rw [Nat.zero_add]; rfl
  | a :: r, k + 1, i, j => by
    rw [Nat.add_right_comm]
    exact argEl_drop r k i j
def isFormat3 (L : List UInt8 × Int × Nat) (sv : SV) (post : SS) : Prop := sv = .tup [.ints .u8 .old (ofU L.1), .i .i64 L.2.1, .i .i64 L.2.2] ∧ post = nilSS
theorem formatR_c (l : List UInt8) (args : List AV) (ha : ArgsOK args) : Contract Tryd.prog 12 nilSS [.s (bs l), .sl 4 .old args.length (argEl args)] (isFormat3 (formatP l args)) := by
  refine contract_of Γok Tryd.func12 rfl rfl (stop := []) ?_
  refine evCode_sound Γok _ _ _ ?_
  simp (maxSteps := 4000000) only [push_cast, Int.reduceEq, Int.reduceBNe, Int.reduceBEq, Int.reduceAdd, Int.reduceSub, Int.reduceMul, Int.reduceNeg, Int.reduceLT, Int.reduceLE, Int.reduceToNat, Nat.reduceLT, Nat.reduceAdd, Nat.reduceSub, Nat.reduceMul, Nat.reduceEqDiff, Nat.reduceLeDiff, Nat.reduceBEq, reduceIte, reduceCtorEq, Tryd.f12, bs_size]
  have err : ∀ (S : SS) (e : Int) (at_ : Nat), S.k = 0 → formatP l args = ([], e, at_) → Fin (isFormat3 (formatP l args)) (.tup [.ints .u8 .nil [], .i .i64 e, .i .i64 at_]) S := by
    intro S e at_ hS he
    rw [he]
    exact Fin.nil hS (psv := .tup [.ints .u8 .old [], .i .i64 e, .i .i64 at_]) (by simp (maxSteps := 4000000) only [push_cast, Int.reduceEq, Int.reduceBNe, Int.reduceBEq, Int.reduceAdd, Int.reduceSub, Int.reduceMul, Int.reduceNeg, Int.reduceLT, Int.reduceLE, Int.reduceToNat, Nat.reduceLT, Nat.reduceAdd, Nat.reduceSub, Nat.reduceMul, Nat.reduceEqDiff, Nat.reduceLeDiff, Nat.reduceBEq, reduceIte, reduceCtorEq]) ⟨rfl, rfl⟩
  refine ⟨fun h => ?_, fun h => ?_⟩
  · exact err _ 5 0 rfl (if_pos (by omega))
  have e0 : formatP l args = fmtF (l.length + 1) 0 l args [] := if_neg (by omega)
  refine loop_ok (ι := {q : Nat × List UInt8 × Nat × List AV × List UInt8 × Nat // fmtF q.1 q.2.2.1 q.2.1 q.2.2.2.1 q.2.2.2.2.1 = fmtF (l.length + 1) 0 l args [] ∧ q.2.1.length < q.1 ∧ l.drop q.2.2.1 = q.2.1 ∧ q.2.2.1 + q.2.1.length = l.length ∧ q.2.2.2.2.1.length ≤ 65536 ∧ args.drop q.2.2.2.2.2 = q.2.2.2.1 ∧ q.2.2.2.2.2 + q.2.2.2.1.length = args.length})
    (fun q => ⟨[.s (bs l), .sl 4 .old args.length (argEl args), .any, .any, .any, .any, .any, .ints .u8 (.tok 0 true) (ofU q.1.2.2.2.2.1), .i .i64 q.1.2.2.2.2.2, .i .i64 q.1.2.2.1] ++ List.replicate 88 .any, [], [0], [], 1, 0, []⟩) (fun q => q.1.1) ⟨(l.length + 1, l, 0, args, [], 0), rfl, Nat.lt_succ_self _, rfl, by simp, by simp, rfl, by simp⟩ ?_ ?_
  · refine Sub.trans (Sub.tokFr 7 rfl) (Sub.w [0] ?_)
    simp (maxSteps := 4000000) only [push_cast, Int.reduceEq, Int.reduceBNe, Int.reduceBEq, Int.reduceAdd, Int.reduceSub, Int.reduceMul, Int.reduceNeg, Int.reduceLT, Int.reduceLE, Int.reduceToNat, Nat.reduceLT, Nat.reduceAdd, Nat.reduceSub, Nat.reduceMul, Nat.reduceEqDiff, Nat.reduceLeDiff, Nat.reduceBEq, reduceIte, reduceCtorEq, ofU_nil]
    exact fun i _ j _ => W_arg _ args i j
  rintro ⟨⟨f, r, at_, args2, out, used⟩, h1, h2, h3, h4, h5, h6, h6'⟩
  simp only at h1 h2 h3 h4 h5 h6 h6'
  obtain ⟨f, rfl⟩ : ∃ k, f = k + 1 := ⟨f - 1, by omega⟩
  refine CodeOK.seq (evCode_sound Γok _ _ _ ?_)
  simp (maxSteps := 4000000) only [push_cast, Int.reduceEq, Int.reduceBNe, Int.reduceBEq, Int.reduceAdd, Int.reduceSub, Int.reduceMul, Int.reduceNeg, Int.reduceLT, Int.reduceLE, Int.reduceToNat, Nat.reduceLT, Nat.reduceAdd, Nat.reduceSub, Nat.reduceMul, Nat.reduceEqDiff, Nat.reduceLeDiff, Nat.reduceBEq, reduceIte, reduceCtorEq, bs_size]
  refine ⟨fun h7 => ?_, fun h7 => ?_⟩
  · obtain ⟨ch, r, rfl⟩ : ∃ d r', r = d :: r' := by
      cases r with
      | nil => simp only [List.length_nil] at h4; omega
      | cons d r => exact ⟨d, r, rfl⟩
    have hat : (l[at_]?).getD 0 = ch := by
      have := congrArg List.head? h3
      rw [List.head?_drop] at this
      rw [this]; rfl
    have hr : l.drop (at_ + 1) = r := by rw [← List.drop_drop, h3]; rfl
    simp only [List.length_cons] at h2 h4
    have w1 : IntKind.i64.wrap ((at_ : Int) + 1) = (at_ : Int) + 1 := wrap64 (n := (at_ : Int) + 1) (by omega) (by omega)
    refine CodeOK.block (CodeOK.seq (evCode_sound Γok _ _ _ ?_))
    simp (maxSteps := 4000000) only [push_cast, Int.reduceEq, Int.reduceBNe, Int.reduceBEq, Int.reduceAdd, Int.reduceSub, Int.reduceMul, Int.reduceNeg, Int.reduceLT, Int.reduceLE, Int.reduceToNat, Nat.reduceLT, Nat.reduceAdd, Nat.reduceSub, Nat.reduceMul, Nat.reduceEqDiff, Nat.reduceLeDiff, Nat.reduceBEq, reduceIte, reduceCtorEq, bs_size, bs_cut, w1]
    have hx : List.drop ((at_ : Int)).toNat (List.take ((at_ : Int) + 1).toNat l) = [ch] := by
      rw [show ((at_ : Int) + 1).toNat = at_ + 1 by omega, Int.toNat_natCast, List.drop_take, h3, show at_ + 1 - at_ = 1 by omega]
      rfl
    rw [hx]
    refine ⟨by omega, ?_⟩
    refine CodeOK.seq (evCode_sound Γok _ _ _ ?_)
    simp (maxSteps := 4000000) only [push_cast, Int.reduceEq, Int.reduceBNe, Int.reduceBEq, Int.reduceAdd, Int.reduceSub, Int.reduceMul, Int.reduceNeg, Int.reduceLT, Int.reduceLE, Int.reduceToNat, Nat.reduceLT, Nat.reduceAdd, Nat.reduceSub, Nat.reduceMul, Nat.reduceEqDiff, Nat.reduceLeDiff, Nat.reduceBEq, reduceIte, reduceCtorEq, w1]
    refine code_cutI (ι := {q : List UInt8 × Nat × Nat × List AV // 1 ≤ q.2.1 ∧ q.2.1 ≤ r.length + 1 ∧ q.1.length ≤ 140737488360000 ∧ args.drop q.2.2.1 = q.2.2.2 ∧ q.2.2.1 + q.2.2.2.length = args.length ∧ fmtF (f + 1) at_ (ch :: r) args2 out = if 65536 < out.length + q.1.length then ([], 5, at_) else fmtF f (at_ + q.2.1) ((ch :: r).drop q.2.1) q.2.2.2 (out ++ q.1)})
      (fun q => ⟨[.s (bs l), .sl 4 .old args.length (argEl args), .any, .any, .any, .any, .any, .ints .u8 (.tok 0 true) (ofU out), .i .i64 q.1.2.2.1, .i .i64 at_, .s (bs q.1.1), .i .i64 (at_ + q.1.2.1 : Nat)] ++ List.replicate 86 .any, [], [0], [], 1, 0, []⟩) (evCode_sound Γok _ _ _ ?_) ?_
    · simp (maxSteps := 4000000) only [push_cast, Int.reduceEq, Int.reduceBNe, Int.reduceBEq, Int.reduceAdd, Int.reduceSub, Int.reduceMul, Int.reduceNeg, Int.reduceLT, Int.reduceLE, Int.reduceToNat, Nat.reduceLT, Nat.reduceAdd, Nat.reduceSub, Nat.reduceMul, Nat.reduceEqDiff, Nat.reduceLeDiff, Nat.reduceBEq, reduceIte, reduceCtorEq, bs_size, bs_at, Int.toNat_natCast]
      rw [hat, v37]
      refine ⟨by omega, fun e37 => ?_, fun e37 => ⟨⟨([ch], 1, used, args2), by simp, by simp, by simp, h6, h6', fmtF_plain e37⟩, Sub.w [0] ?_⟩⟩
      · subst e37
        refine call_w (read17_c l at_ (by omega) (by omega)) [] (by simp (maxSteps := 4000000) only [push_cast, Int.reduceEq, Int.reduceBNe, Int.reduceBEq, Int.reduceAdd, Int.reduceSub, Int.reduceMul, Int.reduceNeg, Int.reduceLT, Int.reduceLE, Int.reduceToNat, Nat.reduceLT, Nat.reduceAdd, Nat.reduceSub, Nat.reduceMul, Nat.reduceEqDiff, Nat.reduceLeDiff, Nat.reduceBEq, reduceIte, reduceCtorEq]) ?_
        rw [hr]
        rintro sv post ⟨rfl, hp⟩
        cases hpp : parseP r with
        | none =>
          rw [hpp] at hp
          obtain ⟨b1, b2, b3, b4, w, p, v, e, rfl⟩ := hp
          rw [fmtF_none hpp] at h1
          simp (maxSteps := 4000000) only [push_cast, Int.reduceEq, Int.reduceBNe, Int.reduceBEq, Int.reduceAdd, Int.reduceSub, Int.reduceMul, Int.reduceNeg, Int.reduceLT, Int.reduceLE, Int.reduceToNat, Nat.reduceLT, Nat.reduceAdd, Nat.reduceSub, Nat.reduceMul, Nat.reduceEqDiff, Nat.reduceLeDiff, Nat.reduceBEq, reduceIte, reduceCtorEq]
          exact err _ 171 at_ rfl (by rw [e0, ← h1])
        | some d =>
          rw [hpp] at hp
          simp only at hp
          subst hp
          obtain ⟨d1, d2, d3, d4, d5, d6⟩ := parseP_size hpp
          simp (maxSteps := 4000000) only [push_cast, Int.reduceEq, Int.reduceBNe, Int.reduceBEq, Int.reduceAdd, Int.reduceSub, Int.reduceMul, Int.reduceNeg, Int.reduceLT, Int.reduceLE, Int.reduceToNat, Nat.reduceLT, Nat.reduceAdd, Nat.reduceSub, Nat.reduceMul, Nat.reduceEqDiff, Nat.reduceLeDiff, Nat.reduceBEq, reduceIte, reduceCtorEq, rC, v37]
          refine ⟨fun hv => ?_, fun hv => ?_⟩
          · obtain ⟨d7, d8⟩ := d2 hv
            cases args2 with
            | nil =>
              rw [fmtF_noarg hpp hv] at h1
              simp only [List.length_nil] at h6'
              exact ⟨fun _ => err _ 3 at_ rfl (by rw [e0, ← h1]), fun h8 => by omega⟩
            | cons a more =>
              simp only [List.length_cons] at h6'
              obtain ⟨ha1, ha2⟩ := ha.ok a (List.mem_of_mem_drop (by rw [h6]; exact List.mem_cons_self))
              have hmap : List.map (argEl args ((used : Int)).toNat) (List.range 4) = argC a := by
                rw [Int.toNat_natCast, ← arg_row a more]
                congr 1
                funext j
                have := argEl_drop args used 0 j
                rw [h6] at this
                exact this
              have hmore : args.drop (used + 1) = more := by rw [← List.drop_drop, h6]; rfl
              rw [hmap]
              rw [fmtF_arg hpp hv] at h1
              have w2 : IntKind.i64.wrap ((used : Int) + 1) = (used : Int) + 1 := wrap64 (n := (used : Int) + 1) (by omega) (by have := ha.len; omega)
              simp (maxSteps := 4000000) only [push_cast, Int.reduceEq, Int.reduceBNe, Int.reduceBEq, Int.reduceAdd, Int.reduceSub, Int.reduceMul, Int.reduceNeg, Int.reduceLT, Int.reduceLE, Int.reduceToNat, Nat.reduceLT, Nat.reduceAdd, Nat.reduceSub, Nat.reduceMul, Nat.reduceEqDiff, Nat.reduceLeDiff, Nat.reduceBEq, reduceIte, reduceCtorEq, argC, w2]
              refine ⟨fun h8 => by omega, fun _ => ⟨by omega, ?_⟩⟩
              refine (region_plan rfl Γok mixed (.pure 0 (.pure 1 (.pure 2 (.pure 3 (.eff (.cons 4 [1] (.pure 5 (.pure 6 (.pure 7 (.pure 8 (.pure 9 (.pure 10 (.pure 11 (.pure 12 (.pure 13 (.pure 14 (.pure 15 .done))))))))))) .nil)))))) 98 rfl (by kernel_rfl) ?_)
              simp (maxSteps := 4000000) only [push_cast, Int.reduceEq, Int.reduceBNe, Int.reduceBEq, Int.reduceAdd, Int.reduceSub, Int.reduceMul, Int.reduceNeg, Int.reduceLT, Int.reduceLE, Int.reduceToNat, Nat.reduceLT, Nat.reduceAdd, Nat.reduceSub, Nat.reduceMul, Nat.reduceEqDiff, Nat.reduceLeDiff, Nat.reduceBEq, reduceIte, reduceCtorEq]
              refine call_w (kind17_c d.verb) [] (by simp (maxSteps := 4000000) only [push_cast, Int.reduceEq, Int.reduceBNe, Int.reduceBEq, Int.reduceAdd, Int.reduceSub, Int.reduceMul, Int.reduceNeg, Int.reduceLT, Int.reduceLE, Int.reduceToNat, Nat.reduceLT, Nat.reduceAdd, Nat.reduceSub, Nat.reduceMul, Nat.reduceEqDiff, Nat.reduceLeDiff, Nat.reduceBEq, reduceIte, reduceCtorEq]) ?_
              rintro sv post ⟨rfl, rfl⟩
              simp (maxSteps := 4000000) only [push_cast, Int.reduceEq, Int.reduceBNe, Int.reduceBEq, Int.reduceAdd, Int.reduceSub, Int.reduceMul, Int.reduceNeg, Int.reduceLT, Int.reduceLE, Int.reduceToNat, Nat.reduceLT, Nat.reduceAdd, Nat.reduceSub, Nat.reduceMul, Nat.reduceEqDiff, Nat.reduceLeDiff, Nat.reduceBEq, reduceIte, reduceCtorEq]
              have hfit := fitP_iff d a
              refine ⟨fun h8 => ?_, fun h8 => ?_⟩
              · rw [if_neg (by
                  rw [hfit]
                  rintro ⟨c1, c2⟩
                  rcases h8 with h8 | h8
                  · exact h8 c1
                  · rcases c2 with c2 | c2
                    · exact c2 h8.1
                    · omega)] at h1
                exact err _ 1 at_ rfl (by rw [e0, ← h1])
              · refine call_w (one17_c d (at_ + d.size : Nat) a ha1 ha2 d4 d5 d6) [] (by simp (maxSteps := 4000000) only [push_cast, Int.reduceEq, Int.reduceBNe, Int.reduceBEq, Int.reduceAdd, Int.reduceSub, Int.reduceMul, Int.reduceNeg, Int.reduceLT, Int.reduceLE, Int.reduceToNat, Nat.reduceLT, Nat.reduceAdd, Nat.reduceSub, Nat.reduceMul, Nat.reduceEqDiff, Nat.reduceLeDiff, Nat.reduceBEq, reduceIte, reduceCtorEq, rV, rC, argV, argC]) ?_
                rintro sv post ⟨rfl, rfl⟩
                simp (maxSteps := 4000000) only [push_cast, Int.reduceEq, Int.reduceBNe, Int.reduceBEq, Int.reduceAdd, Int.reduceSub, Int.reduceMul, Int.reduceNeg, Int.reduceLT, Int.reduceLE, Int.reduceToNat, Nat.reduceLT, Nat.reduceAdd, Nat.reduceSub, Nat.reduceMul, Nat.reduceEqDiff, Nat.reduceLeDiff, Nat.reduceBEq, reduceIte, reduceCtorEq]
                refine ⟨⟨(textP d a, d.size, used + 1, more), (by show 1 ≤ d.size; omega), (by show d.size ≤ r.length + 1; omega), textP_len d a ha2 d4 d6, hmore, (by show used + 1 + more.length = args.length; omega), by rw [fmtF_arg hpp hv, if_pos (hfit.2 h8)]⟩, Sub.w [0] ?_⟩
                simp (maxSteps := 4000000) only [push_cast, Int.reduceEq, Int.reduceBNe, Int.reduceBEq, Int.reduceAdd, Int.reduceSub, Int.reduceMul, Int.reduceNeg, Int.reduceLT, Int.reduceLE, Int.reduceToNat, Nat.reduceLT, Nat.reduceAdd, Nat.reduceSub, Nat.reduceMul, Nat.reduceEqDiff, Nat.reduceLeDiff, Nat.reduceBEq, reduceIte, reduceCtorEq]
                exact fun i _ j _ => W_arg _ args i j
          · obtain ⟨d7, d8⟩ := d3 hv
            have hr1 : 1 ≤ r.length := by
              cases r with
              | nil => simp [headIs] at d8
              | cons x r => simp
            refine ⟨⟨([37], d.size, used, args2), (by show 1 ≤ d.size; omega), (by show d.size ≤ r.length + 1; omega), by simp, h6, h6', fmtF_pct hpp hv⟩, Sub.w [0] ?_⟩
            simp (maxSteps := 4000000) only [push_cast, Int.reduceEq, Int.reduceBNe, Int.reduceBEq, Int.reduceAdd, Int.reduceSub, Int.reduceMul, Int.reduceNeg, Int.reduceLT, Int.reduceLE, Int.reduceToNat, Nat.reduceLT, Nat.reduceAdd, Nat.reduceSub, Nat.reduceMul, Nat.reduceEqDiff, Nat.reduceLeDiff, Nat.reduceBEq, reduceIte, reduceCtorEq]
            exact ⟨fun i _ j _ => W_arg _ args i j, rfl⟩
      · simp (maxSteps := 4000000) only [push_cast, Int.reduceEq, Int.reduceBNe, Int.reduceBEq, Int.reduceAdd, Int.reduceSub, Int.reduceMul, Int.reduceNeg, Int.reduceLT, Int.reduceLE, Int.reduceToNat, Nat.reduceLT, Nat.reduceAdd, Nat.reduceSub, Nat.reduceMul, Nat.reduceEqDiff, Nat.reduceLeDiff, Nat.reduceBEq, reduceIte, reduceCtorEq]
        exact fun i _ j _ => W_arg _ args i j
    · rintro ⟨⟨pc, st, used2, args3⟩, k1, k2, k3, k4, k5, k6⟩
      simp only at k1 k2 k3 k4 k5 k6
      refine evCode_sound Γok _ _ _ ?_
      simp (maxSteps := 4000000) only [push_cast, Int.reduceEq, Int.reduceBNe, Int.reduceBEq, Int.reduceAdd, Int.reduceSub, Int.reduceMul, Int.reduceNeg, Int.reduceLT, Int.reduceLE, Int.reduceToNat, Nat.reduceLT, Nat.reduceAdd, Nat.reduceSub, Nat.reduceMul, Nat.reduceEqDiff, Nat.reduceLeDiff, Nat.reduceBEq, reduceIte, reduceCtorEq, bs_size, ofU_len]
      have hpc : List.map (fun b => (b.toNat : Int)) (bs pc).data.toList = ofU pc := rfl
      rw [hpc, ofU_len, wrap64 (n := (out.length : Int) + pc.length) (by omega) (by omega)]
      refine ⟨fun h8 => err _ 5 at_ rfl (by rw [e0, ← h1, k6, if_pos (by omega)]), fun h8 => ?_⟩
      rw [if_neg (by omega)] at k6
      refine ⟨by omega, ⟨(f, (ch :: r).drop st, at_ + st, args3, out ++ pc, used2), by rw [← k6]; exact h1, by simp only [List.length_drop, List.length_cons]; omega, by rw [← List.drop_drop, h3], by simp only [List.length_drop, List.length_cons]; omega, by simp only [List.length_append]; omega, k4, k5⟩, by simp only; omega, Sub.w [1] ?_⟩
      simp (maxSteps := 4000000) only [push_cast, Int.reduceEq, Int.reduceBNe, Int.reduceBEq, Int.reduceAdd, Int.reduceSub, Int.reduceMul, Int.reduceNeg, Int.reduceLT, Int.reduceLE, Int.reduceToNat, Nat.reduceLT, Nat.reduceAdd, Nat.reduceSub, Nat.reduceMul, Nat.reduceEqDiff, Nat.reduceLeDiff, Nat.reduceBEq, reduceIte, reduceCtorEq, ofU_app]
      exact fun i _ j _ => W_arg _ args i j
  · have hr : r = [] := List.eq_nil_of_length_eq_zero (by omega)
    subst hr
    simp only [List.length_nil] at h4
    refine ⟨fun h8 => ?_, fun h8 => ?_⟩
    · have e : fmtF (f + 1) at_ [] args2 out = ([], 3, at_) := if_neg (by omega)
      exact err _ 3 l.length rfl (by rw [e0, ← h1, e, show l.length = at_ by omega])
    · have e : fmtF (f + 1) at_ [] args2 out = (out, 0, at_) := if_pos (by omega)
      have hL : formatP l args = (out, 0, at_) := by rw [e0, ← h1, e]
      rw [hL]
      have hl : (l.length : Int) = at_ := by omega
      rw [hl]
      exact Fin.nil rfl (psv := .tup [.ints .u8 .old (ofU out), .i .i64 0, .i .i64 at_]) (by simp (maxSteps := 4000000) only [push_cast, Int.reduceEq, Int.reduceBNe, Int.reduceBEq, Int.reduceAdd, Int.reduceSub, Int.reduceMul, Int.reduceNeg, Int.reduceLT, Int.reduceLE, Int.reduceToNat, Nat.reduceLT, Nat.reduceAdd, Nat.reduceSub, Nat.reduceMul, Nat.reduceEqDiff, Nat.reduceLeDiff, Nat.reduceBEq, reduceIte, reduceCtorEq]) ⟨rfl, rfl⟩
end Go.Proofs.YtciokebdmnaobaaDoor
/- FormatTells: any pattern and any Args: the text, or the first fault and its place, are the page's; the Args stay. -/
namespace Go.Proofs.YtciokebdmnaobaaDoor
open Go Go.Eng Go.RowKit
set_option linter.unusedSimpArgs false
set_option linter.unusedVariables false
set_option maxRecDepth 100000

section
variable {H : Type} {enc : TypeId × Value → H} {P : Program} {W : World} {base : Nat} {sp : Nat → Bool} {held : Bool}
theorem weights_allV {e : TypeId} {d : DataW H} {k : Nat} : ∀ {ds : List (DataW H)}, d ∈ ds → k ∈ d.weights P e → k ∈ DataW.weightsAll P e ds
  | [], hd, _ => by cases hd
  | y :: r, hd, hk => by
    simp only [DataW.weightsAll, List.mem_append]
    rcases List.mem_cons.1 hd with rfl | hd
    · exact .inl hk
    · exact .inr (weights_allV hd hk)
/-- A slice of elements that came in. -/
theorem den_sliceV {t e : TypeId} {fuel sz : Nat} {v : Value} {x : DataW H × List MemPlace} (ht : P.underlying t = some (.slice e)) (hc : P.cellsOf e = sz) (hsz : 0 < sz) {α : Type} (f : α → List SV)
    (hel : ∀ (n : Nat) (cs : List Value) (y : DataW H × List MemPlace), cs.length = sz → DataW.trod enc P W base sp held n e cs = some y → (∀ k, k ∈ y.1.weights P e → k ≤ reachBytes) → ∃ a : α, DenL (env0 W) (f a) cs)
    (h : DataW.trod enc P W base sp held fuel t v.cells.toList = some x) (hv : ∃ a n c, v = .slice a n c) (hz : ∀ k, k ∈ x.1.weights P t → k ≤ reachBytes) (hby : sz ≤ P.bytesOf e) :
    ∃ (rows : List α), rows.length * P.bytesOf e ≤ 140737488355328 ∧ ∀ d : α, Den (env0 W) (.sl sz .old rows.length (fun i j => lget (f (rows.getD i d)) j)) v := by
  obtain ⟨va, vn, vc, rfl⟩ := hv
  rcases DataW.trod_slice ht h with ⟨h0, _⟩ | ⟨a, len, cap, elems, rest, n, _, hcs, hx, hb, hl, hm, hlen, hel', _, _⟩
  · simp [Value.cells] at h0
    obtain ⟨rfl, rfl, rfl⟩ := h0
    refine ⟨[], by simp, fun d => ?_⟩
    simp only [Den]
    exact ⟨none, 0, rfl, Nat.le_refl _, by omega, fun i hi => absurd hi (Nat.not_lt_zero _), trivial⟩
  · simp [Value.cells] at hcs
    obtain ⟨rfl, rfl, rfl⟩ := hcs
    have hn : vn * P.bytesOf e ≤ 140737488355328 := by
      have h1 := hz (((elems.map (·.1)).length + (rest.map (·.1)).length) * P.bytesOf e) (by rw [hx]; simp only [DataW.weights, ht]; exact List.mem_cons_self)
      rw [List.length_map, List.length_map] at h1
      have h2 : vn * P.bytesOf e ≤ (elems.length + rest.length) * P.bytesOf e := Nat.mul_le_mul_right _ (by omega)
      unfold reachBytes at h1
      omega
    have each : ∀ i, i < vn → ∃ r : α, ∃ cs : List Value, cs.length = sz ∧ (∀ (j : Nat) (u : Value), cs[j]? = some u → W.cell? ((a.add (i * sz)).add j) = some u) ∧ DenL (env0 W) (f r) cs := by
      intro i hi
      have h1 := hel' i hi
      rw [List.getElem?_eq_getElem (by omega), Option.bind_eq_some_iff, hc] at h1
      obtain ⟨cs, h2, h3⟩ := h1
      obtain ⟨h4, h5⟩ := cells_get h2
      obtain ⟨r, hr⟩ := hel n cs _ h4 h3 (fun k hk => hz k (by
        rw [hx]
        simp only [DataW.weights, ht]
        refine List.mem_cons_of_mem _ (List.mem_append.2 (.inl ?_))
        exact weights_allV (List.mem_map.2 ⟨_, List.getElem_mem (by omega), rfl⟩) hk))
      exact ⟨r, cs, h4, h5, hr⟩
    have build : ∀ m, m ≤ vn → ∃ rows : List α, rows.length = m ∧ ∀ i, i < m → ∃ r cs, rows[i]? = some r ∧ List.length cs = sz ∧ (∀ (j : Nat) (u : Value), cs[j]? = some u → W.cell? ((a.add (i * sz)).add j) = some u) ∧ DenL (env0 W) (f r) cs := by
      intro m
      induction m with
      | zero => intro _; exact ⟨[], rfl, fun i hi => absurd hi (Nat.not_lt_zero _)⟩
      | succ m ih =>
        intro hm
        obtain ⟨rows, h1, h2⟩ := ih (by omega)
        obtain ⟨r, cs, h3, h4, h5⟩ := each m (by omega)
        refine ⟨rows ++ [r], by simp [h1], fun i hi => ?_⟩
        rcases Nat.lt_or_ge i m with h | h
        · obtain ⟨r', cs', q1, q2⟩ := h2 i h
          exact ⟨r', cs', by rw [List.getElem?_append_left (by omega)]; exact q1, q2⟩
        · have : i = m := by omega
          subst this
          exact ⟨r, cs, by rw [List.getElem?_append_right (by omega), h1]; simp, h3, h4, h5⟩
    obtain ⟨rows, hr, hrows⟩ := build vn (Nat.le_refl _)
    refine ⟨rows, by rw [hr]; exact hn, fun d => ?_⟩
    rw [hr]
    simp only [Den]
    refine ⟨some a, vc, rfl, hl, by unfold maxLen at hm; omega, fun i hi => ?_, trivial⟩
    obtain ⟨r, cs, q1, q2, q3, q4⟩ := hrows i hi
    have hspot : a.spot = none := by
      obtain ⟨r0, cs0, _, l0, c0, _⟩ := hrows 0 (by omega)
      have h1 := World.cell?_spot (c0 0 (cs0[0]'(by omega)) (List.getElem?_eq_getElem (by omega)))
      simpa [Addr.add] using h1
    obtain ⟨b, off, spot⟩ := a
    simp only at hspot
    subst hspot
    refine ⟨b, off, rfl, fun j hj => ?_⟩
    have hju : cs[j]? = some (cs[j]'(by omega)) := List.getElem?_eq_getElem (by omega)
    refine ⟨cs[j]'(by omega), ?_, ?_⟩
    · have := q3 j _ hju
      rw [addr_add, addr_add] at this
      exact this
    · have h1 : rows.getD i d = r := by simp [List.getD, q1]
      rw [h1]
      have := denL_get _ _ j undef q4
      rw [hju] at this
      exact this

end
def ArgsInV (W : World) (v : Value) : Prop := ∃ args : List AV, (ArgsOK args ∧ args.length * 40 ≤ 140737488355328) ∧ Den (env0 W) (.sl 4 .old args.length (argEl args)) v
theorem ArgsInV_in {H : Type} {enc : TypeId × Value → H} {W : World} {base : Nat} {sp : Nat → Bool} {held : Bool} {v : Value} {d : DataW H} {ps : List MemPlace} (h : DataW.Trod enc Tryd.prog W base sp held 22 v d ps) (hv : ∃ a n c, v = .slice a n c)
    (hz : ∀ k, k ∈ d.weights Tryd.prog 22 → k ≤ reachBytes) : ArgsInV W v := by
  obtain ⟨fuel, h⟩ := h
  have hs : ∃ f0 f1 f2 f3 : Field, Tryd.prog.underlying 39 = some (.struct #[f0, f1, f2, f3]) ∧ (f0.offset = 0 ∧ f0.type = 3) ∧ (f1.offset = 1 ∧ f1.type = 3) ∧ (f2.offset = 2 ∧ f2.type = 37) ∧ (f3.offset = 3 ∧ f3.type = 9) := ⟨_, _, _, _, Tryd.underlying39, ⟨rfl, rfl⟩, ⟨rfl, rfl⟩, ⟨rfl, rfl⟩, ⟨rfl, rfl⟩⟩
  obtain ⟨f0, f1, f2, f3, hs, ⟨o0, t0⟩, ⟨o1, t1⟩, ⟨o2, t2⟩, ⟨o3, t3⟩⟩ := hs
  have hi : Tryd.prog.underlying 3 = some (.int .i64) := by kernel_rfl
  have hu : Tryd.prog.underlying 37 = some (.int .u64) := by kernel_rfl
  have hst : Tryd.prog.underlying 9 = some .string := by kernel_rfl
  have ci : Tryd.prog.cellsOf 3 = 1 := by kernel_rfl
  have cu : Tryd.prog.cellsOf 37 = 1 := by kernel_rfl
  have cs' : Tryd.prog.cellsOf 9 = 1 := by kernel_rfl
  have hc : Tryd.prog.cellsOf 39 = 4 := by kernel_rfl
  have hby : Tryd.prog.bytesOf 39 = 40 := by kernel_rfl
  obtain ⟨rows, h1, h2⟩ := den_sliceV (by kernel_rfl : Tryd.prog.underlying 22 = some (.slice 39)) hc (by omega) (α := {a : AV // a.ok ∧ a.t.length ≤ 140737488355328}) (fun a => argC a.1) (fun n cs y hl ht hw => by
    obtain ⟨xs, hx, hlen, hf⟩ := trod_partsF hs (fun i f hf => by
      match i with
      | 0 => simp at hf; subst hf; exact ⟨o0, by rw [t0]; exact ci⟩
      | 1 => simp at hf; subst hf; exact ⟨o1, by rw [t1]; exact ci⟩
      | 2 => simp at hf; subst hf; exact ⟨o2, by rw [t2]; exact cu⟩
      | 3 => simp at hf; subst hf; exact ⟨o3, by rw [t3]; exact cs'⟩
      | i + 4 => simp at hf) hc ht
    obtain ⟨u0, y0, n0, c0, x0, r0⟩ := hf 0 f0 rfl
    obtain ⟨u1, y1, n1, c1, x1, r1⟩ := hf 1 f1 rfl
    obtain ⟨u2, y2, n2, c2, x2, r2⟩ := hf 2 f2 rfl
    obtain ⟨u3, y3, n3, c3, x3, r3⟩ := hf 3 f3 rfl
    obtain ⟨a0, e0, g0, w0⟩ := DataW.trod_int (by rw [t0]; exact hi) r0
    obtain ⟨a1, e1, g1, w1⟩ := DataW.trod_int (by rw [t1]; exact hi) r1
    obtain ⟨a2, e2, g2, w2⟩ := DataW.trod_int (by rw [t2]; exact hu) r2
    obtain ⟨a3, e3, g3, w3⟩ := DataW.trod_string (by rw [t3]; exact hst) r3
    have hl3 : a3.data.toList.length ≤ 140737488355328 := by
      have := hw a3.data.toList.length (by
        rw [hx]
        simp only [DataW.weights, hs]
        exact DataW.weights_mem_each (t := f3.type) (d := y3.1) (j := 3) rfl (by rw [List.getElem?_map, x3]; rfl) _ (by rw [g3]; simp [DataW.weights]))
      unfold reachBytes at this
      omega
    refine ⟨⟨⟨a0, a1, a2, a3.data.toList⟩, ⟨(wf_i64 w1).1, (wf_i64 w1).2, (wf_u64 w2).1, (wf_u64 w2).2⟩, hl3⟩, ?_⟩
    match cs, hl with
    | [k0, k1, k2, k3], _ =>
      simp at c0 c1 c2 c3 e0 e1 e2 e3
      subst c0 c1 c2 c3 e0 e1 e2 e3
      simp only [argC, bs_of, DenL, Den]
      exact ⟨trivial, trivial, trivial, trivial, trivial⟩) h hv hz (by rw [hby]; omega)
  rw [hby] at h1
  refine ⟨rows.map (·.1), ⟨⟨fun a ha => ?_, by rw [List.length_map]; omega⟩, by rw [List.length_map]; exact h1⟩, ?_⟩
  · obtain ⟨r, _, rfl⟩ := List.mem_map.1 ha
    exact r.2
  · rw [List.length_map]
    refine den_el (fun i hi j hj => ?_) (h2 ⟨⟨0, 0, 0, []⟩, ⟨by decide, by decide, by decide, by decide⟩, by decide⟩)
    show _ = lget (pickL ((rows.map (·.1)).map argC) i) j
    rw [pick_map _ rows i hi]

theorem sameArgs_c (args : List AV) (hl : args.length ≤ 140737488355328) : Contract Tryd.prog 15 nilSS [.sl 4 .old args.length (argEl args), .sl 4 .old args.length (argEl args)] (fun sv post => sv = .b true ∧ post = nilSS) := by
  refine contract_ev Γok Tryd.func15 rfl rfl [] ?_
  simp (maxSteps := 4000000) only [push_cast, Int.reduceEq, Int.reduceBNe, Int.reduceBEq, Int.reduceAdd, Int.reduceSub, Int.reduceMul, Int.reduceNeg, Int.reduceLT, Int.reduceLE, Int.reduceToNat, Nat.reduceLT, Nat.reduceAdd, Nat.reduceSub, Nat.reduceMul, Nat.reduceEqDiff, Nat.reduceLeDiff, Nat.reduceBEq, reduceIte, reduceCtorEq, Tryd.f15]
  refine loop_ok (ι := {i : Nat // i ≤ args.length}) (fun i => ⟨[.sl 4 .old args.length (argEl args), .sl 4 .old args.length (argEl args), .any, .any, .any, .i .i64 i.1] ++ List.replicate 20 .any, [], [], [], 0, 0, []⟩) (fun i => args.length - i.1) ⟨0, Nat.zero_le _⟩ ?_ ?_
  · refine Sub.w [] ?_
    simp (maxSteps := 4000000) only [push_cast, Int.reduceEq, Int.reduceBNe, Int.reduceBEq, Int.reduceAdd, Int.reduceSub, Int.reduceMul, Int.reduceNeg, Int.reduceLT, Int.reduceLE, Int.reduceToNat, Nat.reduceLT, Nat.reduceAdd, Nat.reduceSub, Nat.reduceMul, Nat.reduceEqDiff, Nat.reduceLeDiff, Nat.reduceBEq, reduceIte, reduceCtorEq]
    exact fun i _ j _ => W_arg _ args i j
  · rintro ⟨i, hi⟩
    refine evCode_sound Γok _ _ _ ?_
    simp (maxSteps := 4000000) only [push_cast, Int.reduceEq, Int.reduceBNe, Int.reduceBEq, Int.reduceAdd, Int.reduceSub, Int.reduceMul, Int.reduceNeg, Int.reduceLT, Int.reduceLE, Int.reduceToNat, Nat.reduceLT, Nat.reduceAdd, Nat.reduceSub, Nat.reduceMul, Nat.reduceEqDiff, Nat.reduceLeDiff, Nat.reduceBEq, reduceIte, reduceCtorEq]
    refine ⟨fun h2 => ?_, fun h2 => ?_⟩
    · have hi2 : i < args.length := by omega
      obtain ⟨a, more, hd⟩ : ∃ a more, args.drop i = a :: more := ⟨args[i], args.drop (i + 1), List.drop_eq_getElem_cons hi2⟩
      have hmap : List.map (argEl args ((i : Int)).toNat) (List.range 4) = argC a := by
        rw [Int.toNat_natCast, ← arg_row a more]
        congr 1
        funext j
        have := argEl_drop args i 0 j
        rw [hd] at this
        exact this
      refine (region_plan rfl Γok mixed (.pure 0 (.pure 1 (.pure 2 (.pure 3 (.pure 4 (.pure 5 (.pure 6 (.pure 7 (.eff (.cons 8 [] .done .nil)))))))))) 26 rfl (by kernel_rfl) ?_)
      simp (maxSteps := 4000000) only [push_cast, Int.reduceEq, Int.reduceBNe, Int.reduceBEq, Int.reduceAdd, Int.reduceSub, Int.reduceMul, Int.reduceNeg, Int.reduceLT, Int.reduceLE, Int.reduceToNat, Nat.reduceLT, Nat.reduceAdd, Nat.reduceSub, Nat.reduceMul, Nat.reduceEqDiff, Nat.reduceLeDiff, Nat.reduceBEq, reduceIte, reduceCtorEq, hmap, argC, arg_eq, ba_self]
      refine ⟨by omega, by omega, ⟨i + 1, hi2⟩, by show args.length - (i + 1) < args.length - i; omega, Sub.w [] ?_⟩
      simp (maxSteps := 4000000) only [push_cast, Int.reduceEq, Int.reduceBNe, Int.reduceBEq, Int.reduceAdd, Int.reduceSub, Int.reduceMul, Int.reduceNeg, Int.reduceLT, Int.reduceLE, Int.reduceToNat, Nat.reduceLT, Nat.reduceAdd, Nat.reduceSub, Nat.reduceMul, Nat.reduceEqDiff, Nat.reduceLeDiff, Nat.reduceBEq, reduceIte, reduceCtorEq]
      refine ⟨fun i _ j _ => W_arg _ args i j, fun i _ j _ => W_arg _ args i j, ?_⟩
      exact (wrap64 (n := (i : Int) + 1) (by omega) (by omega)).symm
    · exact Fin.nil rfl (psv := .b true) rfl ⟨rfl, rfl⟩

theorem formatTells_c (l : List UInt8) (args : List AV) (ha : ArgsOK args) (hl : args.length * 40 ≤ 140737488355328) : Contract Tryd.prog 3 nilSS [.s (bs l), .sl 4 .old args.length (argEl args)] (fun sv post => sv = .b true ∧ post = nilSS) := by
  refine contract_ev Γok Tryd.func3 rfl rfl [] ?_
  simp (maxSteps := 4000000) only [push_cast, Int.reduceEq, Int.reduceBNe, Int.reduceBEq, Int.reduceAdd, Int.reduceSub, Int.reduceMul, Int.reduceNeg, Int.reduceLT, Int.reduceLE, Int.reduceToNat, Nat.reduceLT, Nat.reduceAdd, Nat.reduceSub, Nat.reduceMul, Nat.reduceEqDiff, Nat.reduceLeDiff, Nat.reduceBEq, reduceIte, reduceCtorEq, Tryd.f3]
  refine call_w (copyArgs_c args hl) [] (by simp (maxSteps := 4000000) only [push_cast, Int.reduceEq, Int.reduceBNe, Int.reduceBEq, Int.reduceAdd, Int.reduceSub, Int.reduceMul, Int.reduceNeg, Int.reduceLT, Int.reduceLE, Int.reduceToNat, Nat.reduceLT, Nat.reduceAdd, Nat.reduceSub, Nat.reduceMul, Nat.reduceEqDiff, Nat.reduceLeDiff, Nat.reduceBEq, reduceIte, reduceCtorEq]; exact fun i _ j _ => W_arg _ args i j) ?_
  rintro sv post ⟨rfl, rfl⟩
  simp (maxSteps := 4000000) only [push_cast, Int.reduceEq, Int.reduceBNe, Int.reduceBEq, Int.reduceAdd, Int.reduceSub, Int.reduceMul, Int.reduceNeg, Int.reduceLT, Int.reduceLE, Int.reduceToNat, Nat.reduceLT, Nat.reduceAdd, Nat.reduceSub, Nat.reduceMul, Nat.reduceEqDiff, Nat.reduceLeDiff, Nat.reduceBEq, reduceIte, reduceCtorEq, ren_argf]
  refine call_w (format1_c l args ha) [] (by simp (maxSteps := 4000000) only [push_cast, Int.reduceEq, Int.reduceBNe, Int.reduceBEq, Int.reduceAdd, Int.reduceSub, Int.reduceMul, Int.reduceNeg, Int.reduceLT, Int.reduceLE, Int.reduceToNat, Nat.reduceLT, Nat.reduceAdd, Nat.reduceSub, Nat.reduceMul, Nat.reduceEqDiff, Nat.reduceLeDiff, Nat.reduceBEq, reduceIte, reduceCtorEq]; exact fun i _ j _ => W_arg _ args i j) ?_
  rintro sv post ⟨rfl, rfl⟩
  simp (maxSteps := 4000000) only [push_cast, Int.reduceEq, Int.reduceBNe, Int.reduceBEq, Int.reduceAdd, Int.reduceSub, Int.reduceMul, Int.reduceNeg, Int.reduceLT, Int.reduceLE, Int.reduceToNat, Nat.reduceLT, Nat.reduceAdd, Nat.reduceSub, Nat.reduceMul, Nat.reduceEqDiff, Nat.reduceLeDiff, Nat.reduceBEq, reduceIte, reduceCtorEq]
  refine call_w (formatR_c l args ha) [] (by simp (maxSteps := 4000000) only [push_cast, Int.reduceEq, Int.reduceBNe, Int.reduceBEq, Int.reduceAdd, Int.reduceSub, Int.reduceMul, Int.reduceNeg, Int.reduceLT, Int.reduceLE, Int.reduceToNat, Nat.reduceLT, Nat.reduceAdd, Nat.reduceSub, Nat.reduceMul, Nat.reduceEqDiff, Nat.reduceLeDiff, Nat.reduceBEq, reduceIte, reduceCtorEq]; exact fun i _ j _ => W_arg _ args i j) ?_
  rintro sv post ⟨rfl, rfl⟩
  simp (maxSteps := 4000000) only [push_cast, Int.reduceEq, Int.reduceBNe, Int.reduceBEq, Int.reduceAdd, Int.reduceSub, Int.reduceMul, Int.reduceNeg, Int.reduceLT, Int.reduceLE, Int.reduceToNat, Nat.reduceLT, Nat.reduceAdd, Nat.reduceSub, Nat.reduceMul, Nat.reduceEqDiff, Nat.reduceLeDiff, Nat.reduceBEq, reduceIte, reduceCtorEq]
  generalize formatP l args = L
  refine call_w (sameBytesF_c (ofU L.1) (ofU L.1)) [] (by simp (maxSteps := 4000000) only [push_cast, Int.reduceEq, Int.reduceBNe, Int.reduceBEq, Int.reduceAdd, Int.reduceSub, Int.reduceMul, Int.reduceNeg, Int.reduceLT, Int.reduceLE, Int.reduceToNat, Nat.reduceLT, Nat.reduceAdd, Nat.reduceSub, Nat.reduceMul, Nat.reduceEqDiff, Nat.reduceLeDiff, Nat.reduceBEq, reduceIte, reduceCtorEq]) ?_
  rintro sv post ⟨rfl, rfl⟩
  simp (maxSteps := 4000000) only [push_cast, Int.reduceEq, Int.reduceBNe, Int.reduceBEq, Int.reduceAdd, Int.reduceSub, Int.reduceMul, Int.reduceNeg, Int.reduceLT, Int.reduceLE, Int.reduceToNat, Nat.reduceLT, Nat.reduceAdd, Nat.reduceSub, Nat.reduceMul, Nat.reduceEqDiff, Nat.reduceLeDiff, Nat.reduceBEq, reduceIte, reduceCtorEq, beq_self_eq_true]
  refine call_w (num17_c L.2.1) [] (by simp (maxSteps := 4000000) only [push_cast, Int.reduceEq, Int.reduceBNe, Int.reduceBEq, Int.reduceAdd, Int.reduceSub, Int.reduceMul, Int.reduceNeg, Int.reduceLT, Int.reduceLE, Int.reduceToNat, Nat.reduceLT, Nat.reduceAdd, Nat.reduceSub, Nat.reduceMul, Nat.reduceEqDiff, Nat.reduceLeDiff, Nat.reduceBEq, reduceIte, reduceCtorEq]) ?_
  rintro sv post ⟨rfl, rfl⟩
  simp (maxSteps := 4000000) only [push_cast, Int.reduceEq, Int.reduceBNe, Int.reduceBEq, Int.reduceAdd, Int.reduceSub, Int.reduceMul, Int.reduceNeg, Int.reduceLT, Int.reduceLE, Int.reduceToNat, Nat.reduceLT, Nat.reduceAdd, Nat.reduceSub, Nat.reduceMul, Nat.reduceEqDiff, Nat.reduceLeDiff, Nat.reduceBEq, reduceIte, reduceCtorEq, beq_self_eq_true]
  refine call_w (sameArgs_c args (by omega)) [] (by simp (maxSteps := 4000000) only [push_cast, Int.reduceEq, Int.reduceBNe, Int.reduceBEq, Int.reduceAdd, Int.reduceSub, Int.reduceMul, Int.reduceNeg, Int.reduceLT, Int.reduceLE, Int.reduceToNat, Nat.reduceLT, Nat.reduceAdd, Nat.reduceSub, Nat.reduceMul, Nat.reduceEqDiff, Nat.reduceLeDiff, Nat.reduceBEq, reduceIte, reduceCtorEq]; exact fun i _ j _ => W_arg _ args i j) ?_
  rintro sv post ⟨rfl, rfl⟩
  simp (maxSteps := 4000000) only [push_cast, Int.reduceEq, Int.reduceBNe, Int.reduceBEq, Int.reduceAdd, Int.reduceSub, Int.reduceMul, Int.reduceNeg, Int.reduceLT, Int.reduceLE, Int.reduceToNat, Nat.reduceLT, Nat.reduceAdd, Nat.reduceSub, Nat.reduceMul, Nat.reduceEqDiff, Nat.reduceLeDiff, Nat.reduceBEq, reduceIte, reduceCtorEq, beq_self_eq_true]
  refine call_w alive17_c [] (by simp (maxSteps := 4000000) only [push_cast, Int.reduceEq, Int.reduceBNe, Int.reduceBEq, Int.reduceAdd, Int.reduceSub, Int.reduceMul, Int.reduceNeg, Int.reduceLT, Int.reduceLE, Int.reduceToNat, Nat.reduceLT, Nat.reduceAdd, Nat.reduceSub, Nat.reduceMul, Nat.reduceEqDiff, Nat.reduceLeDiff, Nat.reduceBEq, reduceIte, reduceCtorEq]) ?_
  rintro sv post ⟨rfl, rfl⟩
  simp (maxSteps := 4000000) only [push_cast, Int.reduceEq, Int.reduceBNe, Int.reduceBEq, Int.reduceAdd, Int.reduceSub, Int.reduceMul, Int.reduceNeg, Int.reduceLT, Int.reduceLE, Int.reduceToNat, Nat.reduceLT, Nat.reduceAdd, Nat.reduceSub, Nat.reduceMul, Nat.reduceEqDiff, Nat.reduceLeDiff, Nat.reduceBEq, reduceIte, reduceCtorEq]
  exact Fin.w [] (.b true) _ (by simp (maxSteps := 4000000) only [push_cast, Int.reduceEq, Int.reduceBNe, Int.reduceBEq, Int.reduceAdd, Int.reduceSub, Int.reduceMul, Int.reduceNeg, Int.reduceLT, Int.reduceLE, Int.reduceToNat, Nat.reduceLT, Nat.reduceAdd, Nat.reduceSub, Nat.reduceMul, Nat.reduceEqDiff, Nat.reduceLeDiff, Nat.reduceBEq, reduceIte, reduceCtorEq]) ⟨rfl, rfl⟩
theorem formatTellsV_c (s : ByteArray) (args : List AV) (ha : ArgsOK args ∧ args.length * 40 ≤ 140737488355328) : Contract Tryd.prog 3 nilSS [.s s, .sl 4 .old args.length (argEl args)] (fun sv post => sv = .b true ∧ post = nilSS) := by
  rw [← bs_of s]
  exact formatTells_c s.data.toList args ha.1 ha.2
end Go.Proofs.YtciokebdmnaobaaDoor
