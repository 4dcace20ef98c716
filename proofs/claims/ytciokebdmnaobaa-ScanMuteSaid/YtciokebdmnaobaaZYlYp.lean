/- Texts joined, in order: Yl, Yn, Yo, Yp. -/
import Derived.Test.YtciokebdmnaobaaZEmGb
import Derived.Test.YtciokebdmnaobaaZYfYk
import Derived.ChangeSlices
import Derived.SizedLaws
/- Scan: the page's examples. -/
namespace Go.Proofs.Ytciokebdmnaobaa
open Go Go.Eng
set_option maxHeartbeats 4000000
set_option linter.unusedSimpArgs false
set_option linter.unusedVariables false
set_option maxRecDepth 100000

theorem num18_c (n : Int) : Contract Try.prog 21 nilSS [.i .i64 n] (fun sv post => sv = .i .i64 n ∧ post = nilSS) := by
  refine contract_ev Γok Try.func21 rfl rfl [] ?_
  simp (maxSteps := 4000000) only [push_cast, Int.reduceEq, Int.reduceBNe, Int.reduceBEq, Int.reduceAdd, Int.reduceSub, Int.reduceMul, Int.reduceNeg, Int.reduceLT, Int.reduceLE, Int.reduceToNat, Nat.reduceLT, Nat.reduceAdd, Nat.reduceSub, Nat.reduceMul, Nat.reduceEqDiff, Nat.reduceLeDiff, Nat.reduceBEq, reduceIte, reduceCtorEq, Try.f21]
  exact Fin.w [] (.i .i64 n) _ (by simp (maxSteps := 4000000) only [push_cast, Int.reduceEq, Int.reduceBNe, Int.reduceBEq, Int.reduceAdd, Int.reduceSub, Int.reduceMul, Int.reduceNeg, Int.reduceLT, Int.reduceLE, Int.reduceToNat, Nat.reduceLT, Nat.reduceAdd, Nat.reduceSub, Nat.reduceMul, Nat.reduceEqDiff, Nat.reduceLeDiff, Nat.reduceBEq, reduceIte, reduceCtorEq]) ⟨rfl, rfl⟩
def ex1f : List UInt8 := [37, 100, 32, 37, 115]
def ex1b : List UInt8 := [32, 45, 53, 32, 97, 98, 32, 99]
def ex2f : List UInt8 := [37, 50, 100, 37, 100]
def ex2b : List UInt8 := [49, 50, 51, 52]
def ex3f : List UInt8 := [120, 37, 100]
def ex3b : List UInt8 := [121, 49]
def ex4f : List UInt8 := [37, 100]
def ex4b : List UInt8 := [43]
theorem ex1p : partsP ex1f = ([⟨100, 0, false, 0⟩, ⟨32, 0, false, 0⟩, ⟨115, 0, false, 0⟩], 0, 5) := by decide +kernel
theorem ex1 : allQ ex1b (partsP ex1f).1 0 [] = ([⟨1, -5, 0, []⟩, ⟨4, 0, 0, [97, 98]⟩], 0, 6) := by decide +kernel
theorem ex2 : allQ ex2b (partsP ex2f).1 0 [] = ([⟨1, 12, 0, []⟩, ⟨1, 34, 0, []⟩], 0, 4) := by decide +kernel
theorem ex3 : allQ ex3b (partsP ex3f).1 0 [] = ([], 181, 0) := by decide +kernel
theorem ex4 : allQ ex4b (partsP ex4f).1 0 [] = ([], 111, 1) := by decide +kernel
theorem o1 : ofU ex1b = [32, 45, 53, 32, 97, 98, 32, 99] := rfl
theorem o2 : ofU ex2b = [49, 50, 51, 52] := rfl
theorem o3 : ofU ex3b = [121, 49] := rfl
theorem o4 : ofU ex4b = [43] := rfl
theorem c1 : bs ex1f = ⟨#[37, 100, 32, 37, 115]⟩ := rfl
theorem c2 : bs ex2f = ⟨#[37, 50, 100, 37, 100]⟩ := rfl
theorem c3 : bs ex3f = ⟨#[120, 37, 100]⟩ := rfl
theorem c4 : bs ex4f = ⟨#[37, 100]⟩ := rfl
def A1 : List AV := [⟨1, -5, 0, []⟩, ⟨4, 0, 0, [97, 98]⟩]
def A2 : List AV := [⟨1, 12, 0, []⟩, ⟨1, 34, 0, []⟩]
theorem scan_ok (f b : List UInt8) (out : List AV) (e : Int) (k : Nat) (hb : b.length ≤ 1000) (hp : (partsP f).2.1 = 0) (h : allQ b (partsP f).1 0 [] = (out, e, k)) :
    Contract Try.prog 15 nilSS [.s (bs f), .ints .u8 .old (ofU b)] (fun sv post => sv = .tup [.sl 4 .old out.length (argElQ out), .i .i64 k, .i .i64 e] ∧ post = nilSS) := by
  refine (scan_c f b (by omega)).later fun sv post hR E w v hw hd => ?_
  obtain ⟨rfl, ⟨h1, _⟩ | ⟨_, rfl⟩⟩ := hR
  · exact absurd hp h1
  · rw [h] at hd
    exact ⟨E, _, _, Env.Le.refl E, hw, hd, rfl, rfl⟩
theorem alive18_c : Contract Try.prog 14 nilSS [] (fun sv post => sv = .b true ∧ post = nilSS) := by
  refine contract_ev Γok Try.func14 rfl rfl [] ?_
  simp (maxSteps := 4000000) only [push_cast, Int.reduceEq, Int.reduceBNe, Int.reduceBEq, Int.reduceAdd, Int.reduceSub, Int.reduceMul, Int.reduceNeg, Int.reduceLT, Int.reduceLE, Int.reduceToNat, Nat.reduceLT, Nat.reduceAdd, Nat.reduceSub, Nat.reduceMul, Nat.reduceEqDiff, Nat.reduceLeDiff, Nat.reduceBEq, reduceIte, reduceCtorEq, Try.f14]
  refine call_w (scan_ok ex1f ex1b A1 0 6 (by decide) (by decide +kernel) ex1) [] (by simp (maxSteps := 4000000) only [push_cast, Int.reduceEq, Int.reduceBNe, Int.reduceBEq, Int.reduceAdd, Int.reduceSub, Int.reduceMul, Int.reduceNeg, Int.reduceLT, Int.reduceLE, Int.reduceToNat, Nat.reduceLT, Nat.reduceAdd, Nat.reduceSub, Nat.reduceMul, Nat.reduceEqDiff, Nat.reduceLeDiff, Nat.reduceBEq, reduceIte, reduceCtorEq, o1, c1]) ?_
  rintro sv post ⟨rfl, rfl⟩
  simp (maxSteps := 4000000) only [push_cast, Int.reduceEq, Int.reduceBNe, Int.reduceBEq, Int.reduceAdd, Int.reduceSub, Int.reduceMul, Int.reduceNeg, Int.reduceLT, Int.reduceLE, Int.reduceToNat, Nat.reduceLT, Nat.reduceAdd, Nat.reduceSub, Nat.reduceMul, Nat.reduceEqDiff, Nat.reduceLeDiff, Nat.reduceBEq, reduceIte, reduceCtorEq, ren_argQf]
  refine call_w (scan_ok ex2f ex2b A2 0 4 (by decide) (by decide +kernel) ex2) [] (by simp (maxSteps := 4000000) only [push_cast, Int.reduceEq, Int.reduceBNe, Int.reduceBEq, Int.reduceAdd, Int.reduceSub, Int.reduceMul, Int.reduceNeg, Int.reduceLT, Int.reduceLE, Int.reduceToNat, Nat.reduceLT, Nat.reduceAdd, Nat.reduceSub, Nat.reduceMul, Nat.reduceEqDiff, Nat.reduceLeDiff, Nat.reduceBEq, reduceIte, reduceCtorEq, o2, c2]) ?_
  rintro sv post ⟨rfl, rfl⟩
  simp (maxSteps := 4000000) only [push_cast, Int.reduceEq, Int.reduceBNe, Int.reduceBEq, Int.reduceAdd, Int.reduceSub, Int.reduceMul, Int.reduceNeg, Int.reduceLT, Int.reduceLE, Int.reduceToNat, Nat.reduceLT, Nat.reduceAdd, Nat.reduceSub, Nat.reduceMul, Nat.reduceEqDiff, Nat.reduceLeDiff, Nat.reduceBEq, reduceIte, reduceCtorEq, ren_argQf]
  refine call_w (scan_ok ex3f ex3b [] 181 0 (by decide) (by decide +kernel) ex3) [] (by simp (maxSteps := 4000000) only [push_cast, Int.reduceEq, Int.reduceBNe, Int.reduceBEq, Int.reduceAdd, Int.reduceSub, Int.reduceMul, Int.reduceNeg, Int.reduceLT, Int.reduceLE, Int.reduceToNat, Nat.reduceLT, Nat.reduceAdd, Nat.reduceSub, Nat.reduceMul, Nat.reduceEqDiff, Nat.reduceLeDiff, Nat.reduceBEq, reduceIte, reduceCtorEq, o3, c3]) ?_
  rintro sv post ⟨rfl, rfl⟩
  simp (maxSteps := 4000000) only [push_cast, Int.reduceEq, Int.reduceBNe, Int.reduceBEq, Int.reduceAdd, Int.reduceSub, Int.reduceMul, Int.reduceNeg, Int.reduceLT, Int.reduceLE, Int.reduceToNat, Nat.reduceLT, Nat.reduceAdd, Nat.reduceSub, Nat.reduceMul, Nat.reduceEqDiff, Nat.reduceLeDiff, Nat.reduceBEq, reduceIte, reduceCtorEq, ren_argQf]
  refine call_w (scan_ok ex4f ex4b [] 111 1 (by decide) (by decide +kernel) ex4) [] (by simp (maxSteps := 4000000) only [push_cast, Int.reduceEq, Int.reduceBNe, Int.reduceBEq, Int.reduceAdd, Int.reduceSub, Int.reduceMul, Int.reduceNeg, Int.reduceLT, Int.reduceLE, Int.reduceToNat, Nat.reduceLT, Nat.reduceAdd, Nat.reduceSub, Nat.reduceMul, Nat.reduceEqDiff, Nat.reduceLeDiff, Nat.reduceBEq, reduceIte, reduceCtorEq, o4, c4]) ?_
  rintro sv post ⟨rfl, rfl⟩
  simp (maxSteps := 4000000) only [push_cast, Int.reduceEq, Int.reduceBNe, Int.reduceBEq, Int.reduceAdd, Int.reduceSub, Int.reduceMul, Int.reduceNeg, Int.reduceLT, Int.reduceLE, Int.reduceToNat, Nat.reduceLT, Nat.reduceAdd, Nat.reduceSub, Nat.reduceMul, Nat.reduceEqDiff, Nat.reduceLeDiff, Nat.reduceBEq, reduceIte, reduceCtorEq, ren_argQf]
  refine call_w (num18_c 0) [] (by simp (maxSteps := 4000000) only [push_cast, Int.reduceEq, Int.reduceBNe, Int.reduceBEq, Int.reduceAdd, Int.reduceSub, Int.reduceMul, Int.reduceNeg, Int.reduceLT, Int.reduceLE, Int.reduceToNat, Nat.reduceLT, Nat.reduceAdd, Nat.reduceSub, Nat.reduceMul, Nat.reduceEqDiff, Nat.reduceLeDiff, Nat.reduceBEq, reduceIte, reduceCtorEq]) ?_
  rintro sv post ⟨rfl, rfl⟩
  simp (maxSteps := 4000000) only [push_cast, Int.reduceEq, Int.reduceBNe, Int.reduceBEq, Int.reduceAdd, Int.reduceSub, Int.reduceMul, Int.reduceNeg, Int.reduceLT, Int.reduceLE, Int.reduceToNat, Nat.reduceLT, Nat.reduceAdd, Nat.reduceSub, Nat.reduceMul, Nat.reduceEqDiff, Nat.reduceLeDiff, Nat.reduceBEq, reduceIte, reduceCtorEq]
  refine call_w (num18_c 0) [] (by simp (maxSteps := 4000000) only [push_cast, Int.reduceEq, Int.reduceBNe, Int.reduceBEq, Int.reduceAdd, Int.reduceSub, Int.reduceMul, Int.reduceNeg, Int.reduceLT, Int.reduceLE, Int.reduceToNat, Nat.reduceLT, Nat.reduceAdd, Nat.reduceSub, Nat.reduceMul, Nat.reduceEqDiff, Nat.reduceLeDiff, Nat.reduceBEq, reduceIte, reduceCtorEq]) ?_
  rintro sv post ⟨rfl, rfl⟩
  have l1 : A1.length = 2 := rfl
  have l2 : A2.length = 2 := rfl
  have g1 : argElQ A1 0 1 = .i .i64 (-5) := rfl
  have g2 : argElQ A1 1 3 = .s ⟨#[97, 98]⟩ := rfl
  have g3 : argElQ A2 1 1 = .i .i64 34 := rfl
  simp (maxSteps := 4000000) only [push_cast, Int.reduceEq, Int.reduceBNe, Int.reduceBEq, Int.reduceAdd, Int.reduceSub, Int.reduceMul, Int.reduceNeg, Int.reduceLT, Int.reduceLE, Int.reduceToNat, Nat.reduceLT, Nat.reduceAdd, Nat.reduceSub, Nat.reduceMul, Nat.reduceEqDiff, Nat.reduceLeDiff, Nat.reduceBEq, reduceIte, reduceCtorEq, l1, l2, g1, g2, g3]
  refine call_w (num18_c 181) [] (by simp (maxSteps := 4000000) only [push_cast, Int.reduceEq, Int.reduceBNe, Int.reduceBEq, Int.reduceAdd, Int.reduceSub, Int.reduceMul, Int.reduceNeg, Int.reduceLT, Int.reduceLE, Int.reduceToNat, Nat.reduceLT, Nat.reduceAdd, Nat.reduceSub, Nat.reduceMul, Nat.reduceEqDiff, Nat.reduceLeDiff, Nat.reduceBEq, reduceIte, reduceCtorEq]) ?_
  rintro sv post ⟨rfl, rfl⟩
  simp (maxSteps := 4000000) only [push_cast, Int.reduceEq, Int.reduceBNe, Int.reduceBEq, Int.reduceAdd, Int.reduceSub, Int.reduceMul, Int.reduceNeg, Int.reduceLT, Int.reduceLE, Int.reduceToNat, Nat.reduceLT, Nat.reduceAdd, Nat.reduceSub, Nat.reduceMul, Nat.reduceEqDiff, Nat.reduceLeDiff, Nat.reduceBEq, reduceIte, reduceCtorEq]
  refine call_w (num18_c 111) [] (by simp (maxSteps := 4000000) only [push_cast, Int.reduceEq, Int.reduceBNe, Int.reduceBEq, Int.reduceAdd, Int.reduceSub, Int.reduceMul, Int.reduceNeg, Int.reduceLT, Int.reduceLE, Int.reduceToNat, Nat.reduceLT, Nat.reduceAdd, Nat.reduceSub, Nat.reduceMul, Nat.reduceEqDiff, Nat.reduceLeDiff, Nat.reduceBEq, reduceIte, reduceCtorEq]) ?_
  rintro sv post ⟨rfl, rfl⟩
  simp (maxSteps := 4000000) only [push_cast, Int.reduceEq, Int.reduceBNe, Int.reduceBEq, Int.reduceAdd, Int.reduceSub, Int.reduceMul, Int.reduceNeg, Int.reduceLT, Int.reduceLE, Int.reduceToNat, Nat.reduceLT, Nat.reduceAdd, Nat.reduceSub, Nat.reduceMul, Nat.reduceEqDiff, Nat.reduceLeDiff, Nat.reduceBEq, reduceIte, reduceCtorEq]
  exact Fin.w [] (.b true) _ (by simp (maxSteps := 4000000) only [push_cast, Int.reduceEq, Int.reduceBNe, Int.reduceBEq, Int.reduceAdd, Int.reduceSub, Int.reduceMul, Int.reduceNeg, Int.reduceLT, Int.reduceLE, Int.reduceToNat, Nat.reduceLT, Nat.reduceAdd, Nat.reduceSub, Nat.reduceMul, Nat.reduceEqDiff, Nat.reduceLeDiff, Nat.reduceBEq, reduceIte, reduceCtorEq]) ⟨rfl, rfl⟩
end Go.Proofs.Ytciokebdmnaobaa
/- Scan, the plain law of ScanMute: a value that is not told is read all the same. -/
namespace Go.Proofs.Ytciokebdmnaobaa
open Go Go.Eng
set_option maxHeartbeats 4000000
set_option linter.unusedSimpArgs false
set_option linter.unusedVariables false
set_option maxRecDepth 100000

def dirQ (v : UInt8) (q : Bool) : PartP := ⟨v, 0, q, 0⟩
theorem one_mute (v : UInt8) (q : Bool) (l : List UInt8) : oneQ (dirQ v q) l = oneQ (dirQ v false) l := rfl
theorem tells_q (v : UInt8) (q : Bool) (hv : scanSet.contains v = true) : (dirQ v q).tells = !q := by
  have h : ∀ v : Fin 256, scanSet.contains (UInt8.ofNat v.val) = true → ∀ q : Bool, (dirQ (UInt8.ofNat v.val) q).tells = !q := by decide +kernel
  have := h ⟨v.toNat, v.toNat_lt⟩
  simp only [UInt8.ofNat_toNat] at this
  exact this hv q
/-- The Args that are heard. -/
def heardQ : List (UInt8 × Bool) → List AV → List AV
  | (_, q) :: r, a :: s => if q then heardQ r s else a :: heardQ r s
  | _, _ => []
theorem allQ_mute (b : List UInt8) : ∀ (vs : List (UInt8 × Bool)), (∀ x, x ∈ vs → scanSet.contains x.1 = true) → ∀ (k : Nat) (o1 o2 : List AV),
    ∃ (s : List AV) (e : Int) (m : Nat), allQ b (vs.map fun x => dirQ x.1 false) k o1 = (o1 ++ s, e, m) ∧ allQ b (vs.map fun x => dirQ x.1 x.2) k o2 = (o2 ++ heardQ vs s, e, m) ∧ s.length ≤ vs.length
  | [], _, k, o1, o2 => ⟨[], 0, k, by simp [allQ], by simp [allQ, heardQ], by simp⟩
  | (v, q) :: r, h, k, o1, o2 => by
    have hv : scanSet.contains v = true := h (v, q) List.mem_cons_self
    have t1 : (dirQ v false).tells = true := by rw [tells_q v false hv]; rfl
    have t2 : (dirQ v q).tells = !q := tells_q v q hv
    simp only [List.map_cons, allQ, one_mute v q, t1, t2, if_true]
    generalize oneQ (dirQ v false) (b.drop k) = R
    by_cases he : R.2.1 ≠ 0
    · rw [if_pos he, if_pos he]
      exact ⟨[], _, _, by rw [List.append_nil], by simp [heardQ], by simp⟩
    · rw [if_neg he, if_neg he]
      obtain ⟨s, e, m, h1, h2, h3⟩ := allQ_mute b r (fun x hx => h x (List.mem_cons_of_mem _ hx)) (k + R.2.2.1) (o1 ++ [R.1]) (if (!q) = true then o2 ++ [R.1] else o2)
      refine ⟨R.1 :: s, e, m, by rw [h1, List.append_assoc]; rfl, ?_, by simp only [List.length_cons]; omega⟩
      rw [h2]
      cases q <;> simp [heardQ]

/-- The pattern of such directives. -/
def patQ : List (UInt8 × Bool) → List UInt8
  | [] => []
  | (v, q) :: r => 37 :: ((if q then [42] else []) ++ (v :: patQ r))
theorem cut_dir (v : UInt8) (q : Bool) (hv : scanSet.contains v = true) (r : List UInt8) : cutP (37 :: ((if q then [42] else []) ++ (v :: r))) = some (dirQ v q, if q then 3 else 2) := by
  have hv2 : ¬ v = 37 ∧ ¬ v = 42 ∧ isDig v = false := by
    have h : ∀ v : Fin 256, scanSet.contains (UInt8.ofNat v.val) = true → (¬ UInt8.ofNat v.val = 37 ∧ ¬ UInt8.ofNat v.val = 42 ∧ isDig (UInt8.ofNat v.val) = false) := by decide +kernel
    have := h ⟨v.toNat, v.toNat_lt⟩
    simp only [UInt8.ofNat_toNat] at this
    exact this hv
  have hdg : digsP 4 (v :: r) = [] := by simp only [digsP]; rw [if_neg (by rw [hv2.2.2]; simp)]
  have hdir : ∀ n m, directP n m (v :: r) = some (dirQ v m, n - r.length) := by
    intro n m
    unfold directP
    rw [hdg]
    simp only [headIs, valP, List.foldl_nil, List.length_nil, List.drop_zero, verbCut, hv, if_true]
    rfl
  have h1 : headIs 37 (v :: r) = false := by simp [headIs, hv2.1]
  have h2 : headIs 42 (v :: r) = false := by simp [headIs, hv2.2.1]
  cases q
  · simp only [Bool.false_eq_true, if_false, List.nil_append, cutP]
    rw [if_neg (by decide), if_neg (by decide), if_neg (by rw [h1]; simp), if_neg (by rw [h2]; simp), hdir]
    simp only [List.length_cons]
    congr 2
    omega
  · simp only [if_true, List.cons_append, List.nil_append, cutP]
    have h3 : headIs 37 (42 :: v :: r) = false := rfl
    have h4 : headIs 42 (42 :: v :: r) = true := rfl
    rw [if_neg (by decide), if_neg (by decide), if_neg (by rw [h3]; simp), if_pos h4, List.drop_succ_cons, List.drop_zero, hdir]
    simp only [List.length_cons]
    congr 2
    omega
theorem patQ_len : ∀ vs : List (UInt8 × Bool), (patQ vs).length ≤ 3 * vs.length
  | [] => Nat.le_refl _
  | (v, q) :: r => by
    have := patQ_len r
    simp only [patQ, List.length_cons, List.length_append]
    cases q <;> simp <;> omega
theorem partsF_pat : ∀ (vs : List (UInt8 × Bool)), (∀ x, x ∈ vs → scanSet.contains x.1 = true) → ∀ (f at_ : Nat) (out : List PartP), (patQ vs).length < f → ∃ n, partsF f at_ (patQ vs) out = (out ++ vs.map (fun x => dirQ x.1 x.2), 0, n)
  | [], _, f, at_, out, hf => by
    obtain ⟨f, rfl⟩ : ∃ k, f = k + 1 := ⟨f - 1, by omega⟩
    exact ⟨at_, by simp only [patQ, partsF, List.map_nil, List.append_nil]⟩
  | (v, q) :: r, h, f, at_, out, hf => by
    obtain ⟨f, rfl⟩ : ∃ k, f = k + 1 := ⟨f - 1, by omega⟩
    have hc := cut_dir v q (h (v, q) List.mem_cons_self) (patQ r)
    have hd : (patQ ((v, q) :: r)).drop (if q then 3 else 2) = patQ r := by cases q <;> rfl
    have hl : (patQ r).length < f := by
      simp only [patQ, List.length_cons, List.length_append] at hf
      omega
    obtain ⟨n, hn⟩ := partsF_pat r (fun x hx => h x (List.mem_cons_of_mem _ hx)) f (at_ + if q then 3 else 2) (out ++ [dirQ v q]) hl
    refine ⟨n, ?_⟩
    show partsF (f + 1) at_ (37 :: ((if q then [42] else []) ++ (v :: patQ r))) out = _
    rw [partsF_go hc]
    have hd' : (37 :: ((if q then [42] else []) ++ (v :: patQ r))).drop (if q then 3 else 2) = patQ r := hd
    rw [hd', hn, List.append_assoc]
    rfl
theorem partsP_pat (vs : List (UInt8 × Bool)) (h : ∀ x, x ∈ vs → scanSet.contains x.1 = true) (hl : vs.length ≤ 20) : ∃ n, partsP (patQ vs) = (vs.map (fun x => dirQ x.1 x.2), 0, n) := by
  have := patQ_len vs
  unfold partsP
  rw [if_neg (by omega)]
  obtain ⟨n, hn⟩ := partsF_pat vs h ((patQ vs).length + 1) 0 [] (Nat.lt_succ_self _)
  exact ⟨n, by rw [hn, List.nil_append]⟩
end Go.Proofs.Ytciokebdmnaobaa
/- ScanMute, the walk. -/
namespace Go.Proofs.Ytciokebdmnaobaa
open Go Go.Eng
set_option maxHeartbeats 4000000
set_option linter.unusedSimpArgs false
set_option linter.unusedVariables false
set_option maxRecDepth 100000

def vbQ (c : UInt8) : UInt8 := scanSet.getD (c.toNat % 6) 0
theorem vbQ_in (c : UInt8) : scanSet.contains (vbQ c) = true := by
  have h : ∀ v : Fin 256, scanSet.contains (vbQ (UInt8.ofNat v.val)) = true := by decide +kernel
  have := h ⟨c.toNat, c.toNat_lt⟩
  simpa only [UInt8.ofNat_toNat] using this
def pairQ (V : List UInt8) (M : List Bool) (i : Nat) : UInt8 × Bool := (vbQ ((V[i]?).getD 0), (M[i]?).getD false)
def psQ (V : List UInt8) (M : List Bool) (n : Nat) : List (UInt8 × Bool) := (List.range n).map (pairQ V M)
theorem psQ_succ (V : List UInt8) (M : List Bool) (n : Nat) : psQ V M (n + 1) = psQ V M n ++ [pairQ V M n] := by
  unfold psQ
  rw [List.range_succ, List.map_append]
  rfl
theorem patQ_app : ∀ (a b : List (UInt8 × Bool)), patQ (a ++ b) = patQ a ++ patQ b
  | [], b => rfl
  | (v, q) :: r, b => by
    simp only [List.cons_append, patQ, patQ_app r b, List.append_assoc]
def boolEl (L : List Bool) (i j : Nat) : SV := .b ((L[i]?).getD false)
def loud (x : UInt8 × Bool) : UInt8 × Bool := (x.1, false)
theorem W_bool (f : Nat → Nat) (L : List Bool) (i j : Nat) : W false f (boolEl L i j) (boolEl L i j) := by simp only [boolEl, W]
theorem elOf_bool : ∀ (L : List Bool) (i : Nat), i < L.length → elOf (L.map fun q => [.b q]) i 0 = .b ((L[i]?).getD false)
  | [], i, h => absurd h (Nat.not_lt_zero _)
  | q :: r, 0, h => rfl
  | q :: r, i + 1, h => elOf_bool r i (by simp at h; omega)
theorem psQ_len (V : List UInt8) (M : List Bool) (n : Nat) : (psQ V M n).length = n := by unfold psQ; rw [List.length_map, List.length_range]
theorem heard_app (L : List Bool) (q : Bool) (a : Nat) (h : a < L.length + 1) : catEl L.length (boolEl L) (elOf [[.b q]]) a 0 = boolEl (L ++ [q]) a 0 := by
  unfold catEl boolEl
  by_cases h1 : a < L.length
  · rw [if_pos h1, List.getElem?_append_left h1]
  · have : a = L.length := by omega
    subst this
    rw [if_neg h1, Nat.sub_self, List.getElem?_append_right (Nat.le_refl _), Nat.sub_self]
    rfl
theorem lit6 (k : Nat) (hk : k < 6) : (⟨#[100, 117, 120, 111, 99, 115]⟩ : ByteArray).extract k (k + 1) = bs [scanSet.getD k 0] := by
  match k, hk with
  | 0, _ => rfl
  | 1, _ => rfl
  | 2, _ => rfl
  | 3, _ => rfl
  | 4, _ => rfl
  | 5, _ => rfl
theorem scan_okL (f b : List UInt8) (out : List AV) (e : Int) (k : Nat) (hb : b.length ≤ 140737488355328) (hp : (partsP f).2.1 = 0) (h : allQ b (partsP f).1 0 [] = (out, e, k)) :
    Contract Try.prog 15 nilSS [.s (bs f), .ints .u8 .old (ofU b)] (fun sv post => sv = .tup [.sl 4 .old out.length (argElQ out), .i .i64 k, .i .i64 e] ∧ post = nilSS) := by
  refine (scan_c f b hb).later fun sv post hR E w v hw hd => ?_
  obtain ⟨rfl, ⟨h1, _⟩ | ⟨_, rfl⟩⟩ := hR
  · exact absurd hp h1
  · rw [h] at hd
    exact ⟨E, _, _, Env.Le.refl E, hw, hd, rfl, rfl⟩
theorem heardQ_at : ∀ (vs : List (UInt8 × Bool)) (s : List AV) (t : Nat) (x : UInt8 × Bool) (a : AV), vs[t]? = some x → s[t]? = some a →
    heardQ (vs.take (t + 1)) (s.take (t + 1)) = heardQ (vs.take t) (s.take t) ++ (if x.2 then [] else [a]) ∧ ∃ z, heardQ vs s = heardQ (vs.take (t + 1)) (s.take (t + 1)) ++ z
  | [], s, t, x, a, h, _ => by simp at h
  | y :: vs, [], t, x, a, _, h => by simp at h
  | (v, q) :: vs, c :: s, 0, x, a, h1, h2 => by
    simp only [List.getElem?_cons_zero, Option.some.injEq] at h1 h2
    subst h1 h2
    cases q
    · exact ⟨by simp [heardQ], heardQ vs s, by simp [heardQ]⟩
    · exact ⟨by simp [heardQ], heardQ vs s, by simp [heardQ]⟩
  | (v, q) :: vs, c :: s, t + 1, x, a, h1, h2 => by
    rw [List.getElem?_cons_succ] at h1 h2
    obtain ⟨e1, z, e2⟩ := heardQ_at vs s t x a h1 h2
    cases q
    · refine ⟨?_, z, ?_⟩
      · simp only [List.take_succ_cons, heardQ, Bool.false_eq_true, if_false, List.cons_append] at e1 ⊢
        rw [e1]
      · simp only [List.take_succ_cons, heardQ, Bool.false_eq_true, if_false, List.cons_append] at e2 ⊢
        rw [e2]
    · refine ⟨?_, z, ?_⟩
      · simp only [List.take_succ_cons, heardQ, if_true] at e1 ⊢
        rw [e1]
      · simp only [List.take_succ_cons, heardQ, if_true] at e2 ⊢
        rw [e2]
theorem argElQ_at : ∀ (s : List AV) (t : Nat) (a : AV), s[t]? = some a → List.map (argElQ s t) (List.range 4) = argQ a
  | [], t, a, h => by simp at h
  | c :: s, 0, a, h => by
    simp only [List.getElem?_cons_zero, Option.some.injEq] at h
    subst h
    rfl
  | c :: s, t + 1, a, h => argElQ_at s t a (by rw [List.getElem?_cons_succ] at h; exact h)
theorem argq_eq : eqPlain Try.prog 47 = true := by kernel_rfl
theorem baq_self (x : ByteArray) : (x == x) = true := by
  rw [show (x == x) = (x.data == x.data) from rfl, beq_iff_eq]
theorem heardQ_take : ∀ (vs : List (UInt8 × Bool)) (s : List AV), heardQ (vs.take s.length) s = heardQ vs s
  | [], s => by rw [List.take_nil]
  | (v, q) :: vs, [] => by simp [heardQ]
  | (v, q) :: vs, c :: s => by
    simp only [List.length_cons, List.take_succ_cons, heardQ, heardQ_take vs s]
theorem heardQ_len : ∀ (vs : List (UInt8 × Bool)) (s : List AV), (heardQ vs s).length ≤ s.length
  | [], s => by simp [heardQ]
  | (v, q) :: vs, [] => by simp [heardQ]
  | (v, q) :: vs, c :: s => by
    have := heardQ_len vs s
    cases q
    · simp only [heardQ, Bool.false_eq_true, if_false, List.length_cons]; omega
    · simp only [heardQ, if_true, List.length_cons]; omega
theorem scanMute_c (V : List UInt8) (M : List Bool) (b : List UInt8) (hb : b.length ≤ 140737488355328) : Contract Try.prog 4 nilSS [.ints .u8 .old (ofU V), .sl 1 .old M.length (boolEl M), .ints .u8 .old (ofU b)] (fun sv post => sv = .b true ∧ post = nilSS) := by
  refine contract_of Γok Try.func4 rfl rfl (stop := []) ?_
  refine evCode_sound Γok _ _ _ ?_
  simp (maxSteps := 4000000) only [push_cast, Int.reduceEq, Int.reduceBNe, Int.reduceBEq, Int.reduceAdd, Int.reduceSub, Int.reduceMul, Int.reduceNeg, Int.reduceLT, Int.reduceLE, Int.reduceToNat, Nat.reduceLT, Nat.reduceAdd, Nat.reduceSub, Nat.reduceMul, Nat.reduceEqDiff, Nat.reduceLeDiff, Nat.reduceBEq, reduceIte, reduceCtorEq, Try.f4]
  refine call_w alive18_c [] (by simp (maxSteps := 4000000) only [push_cast, Int.reduceEq, Int.reduceBNe, Int.reduceBEq, Int.reduceAdd, Int.reduceSub, Int.reduceMul, Int.reduceNeg, Int.reduceLT, Int.reduceLE, Int.reduceToNat, Nat.reduceLT, Nat.reduceAdd, Nat.reduceSub, Nat.reduceMul, Nat.reduceEqDiff, Nat.reduceLeDiff, Nat.reduceBEq, reduceIte, reduceCtorEq]) ?_
  rintro sv post ⟨rfl, rfl⟩
  simp (maxSteps := 4000000) only [push_cast, Int.reduceEq, Int.reduceBNe, Int.reduceBEq, Int.reduceAdd, Int.reduceSub, Int.reduceMul, Int.reduceNeg, Int.reduceLT, Int.reduceLE, Int.reduceToNat, Nat.reduceLT, Nat.reduceAdd, Nat.reduceSub, Nat.reduceMul, Nat.reduceEqDiff, Nat.reduceLeDiff, Nat.reduceBEq, reduceIte, reduceCtorEq]
  refine loop_ok (ι := {i : Nat // i ≤ V.length ∧ i ≤ 20}) (fun i => ⟨[.ints .u8 .old (ofU V), .sl 1 .old M.length (boolEl M), .ints .u8 .old (ofU b), .any, .any, .any, .any, .s (bs (patQ ((psQ V M i.1).map loud))), .s (bs (patQ (psQ V M i.1))), .sl 1 (.tok 0 true) i.1 (boolEl ((psQ V M i.1).map fun x => !x.2)), .i .i64 i.1] ++ List.replicate 116 .any, [], [0], [], 1, 0, []⟩) (fun i => 20 - i.1) ⟨0, Nat.zero_le _, Nat.zero_le _⟩ ?_ ?_
  · refine Sub.trans (Sub.tokFrS 9 1 (boolEl []) rfl) (Sub.w [0] ?_)
    simp (maxSteps := 4000000) only [push_cast, Int.reduceEq, Int.reduceBNe, Int.reduceBEq, Int.reduceAdd, Int.reduceSub, Int.reduceMul, Int.reduceNeg, Int.reduceLT, Int.reduceLE, Int.reduceToNat, Nat.reduceLT, Nat.reduceAdd, Nat.reduceSub, Nat.reduceMul, Nat.reduceEqDiff, Nat.reduceLeDiff, Nat.reduceBEq, reduceIte, reduceCtorEq]
    exact ⟨fun i _ j _ => W_bool _ M i j, rfl, rfl, fun i hi => absurd hi (Nat.not_lt_zero _)⟩
  rintro ⟨i, hi, hi20⟩
  refine evCode_sound Γok _ _ _ ?_
  simp (maxSteps := 4000000) only [push_cast, Int.reduceEq, Int.reduceBNe, Int.reduceBEq, Int.reduceAdd, Int.reduceSub, Int.reduceMul, Int.reduceNeg, Int.reduceLT, Int.reduceLE, Int.reduceToNat, Nat.reduceLT, Nat.reduceAdd, Nat.reduceSub, Nat.reduceMul, Nat.reduceEqDiff, Nat.reduceLeDiff, Nat.reduceBEq, reduceIte, reduceCtorEq, ofU_len]
  refine ⟨fun h => ?_, fun h => ?_⟩
  · have hiV : i < V.length := by omega
    generalize hcv : (V[i]?).getD 0 = cv
    have hps : pairQ V M i = (vbQ cv, (M[i]?).getD false) := by unfold pairQ; rw [hcv]
    have e1 : (ofU V).getD i 0 = (cv.toNat : Int) := by
      rw [← hcv]
      simp [ofU, List.getD, hiV]
    have hk : cv.toNat % 6 < 6 := Nat.mod_lt _ (by omega)
    have e2 : (cv.toNat : Int).tmod 6 = ((cv.toNat % 6 : Nat) : Int) := by rw [Int.tmod_eq_emod_of_nonneg (by omega)]; rfl
    generalize hkk : cv.toNat % 6 = k at e2 hk
    have e3 : IntKind.u8.wrap ((k : Int) + 1) = (k : Int) + 1 := by rw [IntKind.wrap_u8]; omega
    have e4 : (⟨#[100, 117, 120, 111, 99, 115]⟩ : ByteArray).extract k ((k : Int) + 1).toNat = bs [vbQ cv] := by
      rw [show ((k : Int) + 1).toNat = k + 1 by omega, lit6 k hk]
      unfold vbQ
      rw [hkk]
    have e5 : (⟨#[100, 117, 120, 111, 99, 115]⟩ : ByteArray).size = 6 := rfl
    have e6 : (decide ((i : Int) < (M.length : Int)) && (M[i]?).getD false) = (M[i]?).getD false := by
      by_cases h9 : i < M.length
      · rw [decide_eq_true (by omega)]; rfl
      · rw [List.getElem?_eq_none (by omega)]; simp
    refine (region_plan rfl Γok mixed (.pure 0 (.pure 1 (.pure 2 (.pure 3 (.pure 4 (.pure 5 (.pure 6 (.pure 7 (.pure 8 (.pure 9 (.pure 10 (.pure 11 (.pure 12 .done))))))))))))) 127 rfl (by kernel_rfl) ?_)
    have c37 : (⟨#[37]⟩ : ByteArray) = bs [37] := rfl
    have c42 : (⟨#[37, 42]⟩ : ByteArray) = bs [37, 42] := rfl
    have n1 := patQ_len ((psQ V M i).map loud)
    have n2 := patQ_len (psQ V M i)
    rw [List.length_map, psQ_len] at n1
    rw [psQ_len] at n2
    have f1 : patQ ((psQ V M (i + 1)).map loud) = patQ ((psQ V M i).map loud) ++ [37] ++ [vbQ cv] := by
      rw [psQ_succ, List.map_append, patQ_app, hps]; simp [patQ, loud]
    have f2 : ∀ q : Bool, (M[i]?).getD false = q → patQ (psQ V M (i + 1)) = patQ (psQ V M i) ++ (if q then [37, 42] else [37]) ++ [vbQ cv] := by
      intro q hq
      rw [psQ_succ, patQ_app, hps, hq]
      cases q <;> simp [patQ]
    have f3 : (psQ V M (i + 1)).map (fun x => !x.2) = (psQ V M i).map (fun x => !x.2) ++ [!(M[i]?).getD false] := by
      rw [psQ_succ, List.map_append, hps]; rfl
    have f4 : ((psQ V M i).map (fun x => !x.2)).length = i := by rw [List.length_map, psQ_len]
    simp (maxSteps := 4000000) only [push_cast, Int.reduceEq, Int.reduceBNe, Int.reduceBEq, Int.reduceAdd, Int.reduceSub, Int.reduceMul, Int.reduceNeg, Int.reduceLT, Int.reduceLE, Int.reduceToNat, Nat.reduceLT, Nat.reduceAdd, Nat.reduceSub, Nat.reduceMul, Nat.reduceEqDiff, Nat.reduceLeDiff, Nat.reduceBEq, reduceIte, reduceCtorEq, ofU_len, e1, e2, e3, e4, e5, Int.toNat_natCast, c37, c42, bs_app, bs_size, List.length_append, List.length_cons, List.length_nil]
    have eM : boolEl M i 0 = .b ((M[i]?).getD false) := rfl
    rw [eM]
    simp (maxSteps := 4000000) only [push_cast, Int.reduceEq, Int.reduceBNe, Int.reduceBEq, Int.reduceAdd, Int.reduceSub, Int.reduceMul, Int.reduceNeg, Int.reduceLT, Int.reduceLE, Int.reduceToNat, Nat.reduceLT, Nat.reduceAdd, Nat.reduceSub, Nat.reduceMul, Nat.reduceEqDiff, Nat.reduceLeDiff, Nat.reduceBEq, reduceIte, reduceCtorEq, e6, bs_app, bs_size, List.length_append, List.length_cons, List.length_nil]
    have hone : ∀ (i' : Nat), i' < 1 → ∀ (j : Nat), j < 1 → one (lget (pickL [[SV.b (!(M[i]?).getD false)]] i') j) = true := by
      intro i' h1 j h2
      obtain rfl : i' = 0 := by omega
      obtain rfl : j = 0 := by omega
      rfl
    have hheard : ∀ (f : Nat → Nat) (a : Nat), a < i + 1 → ∀ j, j < 1 → W false f (boolEl ((psQ V M (i + 1)).map fun x => !x.2) a j) (catEl i (boolEl ((psQ V M i).map fun x => !x.2)) (elOf [[SV.b (!(M[i]?).getD false)]]) a j) := by
      intro f a ha j hj
      obtain rfl : j = 0 := by omega
      have := heard_app ((psQ V M i).map fun x => !x.2) (!(M[i]?).getD false) a (by rw [f4]; exact ha)
      rw [f4] at this
      rw [this, f3]
      exact W_bool f _ a 0
    refine ⟨by omega, by omega, by omega, fun _ => by omega, by omega, by omega, fun hq => ⟨by omega, by omega, by omega, hone, ⟨i + 1, by omega, by omega⟩, by show 20 - (i + 1) < 20 - i; omega, Sub.w [2] ?_⟩, fun hq => ⟨by omega, by omega, by omega, hone, ⟨i + 1, by omega, by omega⟩, by show 20 - (i + 1) < 20 - i; omega, Sub.w [2] ?_⟩⟩
    · simp (maxSteps := 4000000) only [push_cast, Int.reduceEq, Int.reduceBNe, Int.reduceBEq, Int.reduceAdd, Int.reduceSub, Int.reduceMul, Int.reduceNeg, Int.reduceLT, Int.reduceLE, Int.reduceToNat, Nat.reduceLT, Nat.reduceAdd, Nat.reduceSub, Nat.reduceMul, Nat.reduceEqDiff, Nat.reduceLeDiff, Nat.reduceBEq, reduceIte, reduceCtorEq]
      rw [f1, f2 true hq]
      exact ⟨fun i' _ j _ => W_bool _ M i' j, rfl, rfl, hheard _, (wrap64 (n := (i : Int) + 1) (by omega) (by omega)).symm⟩
    · simp (maxSteps := 4000000) only [push_cast, Int.reduceEq, Int.reduceBNe, Int.reduceBEq, Int.reduceAdd, Int.reduceSub, Int.reduceMul, Int.reduceNeg, Int.reduceLT, Int.reduceLE, Int.reduceToNat, Nat.reduceLT, Nat.reduceAdd, Nat.reduceSub, Nat.reduceMul, Nat.reduceEqDiff, Nat.reduceLeDiff, Nat.reduceBEq, reduceIte, reduceCtorEq]
      rw [f1, f2 false hq]
      exact ⟨fun i' _ j _ => W_bool _ M i' j, rfl, rfl, hheard _, (wrap64 (n := (i : Int) + 1) (by omega) (by omega)).symm⟩
  · have hin : ∀ x, x ∈ psQ V M i → scanSet.contains x.1 = true := by
      intro x hx
      obtain ⟨j, _, rfl⟩ := List.mem_map.1 hx
      exact vbQ_in _
    have hin2 : ∀ x, x ∈ (psQ V M i).map loud → scanSet.contains x.1 = true := by
      intro x hx
      obtain ⟨y, hy, rfl⟩ := List.mem_map.1 hx
      exact hin y hy
    obtain ⟨pa, hp1⟩ := partsP_pat ((psQ V M i).map loud) hin2 (by rw [List.length_map, psQ_len]; exact hi20)
    obtain ⟨pb, hp2⟩ := partsP_pat (psQ V M i) hin (by rw [psQ_len]; exact hi20)
    obtain ⟨s, e, m, hs1, hs2, hs3⟩ := allQ_mute b (psQ V M i) hin 0 [] []
    rw [List.nil_append] at hs1 hs2
    have hm1 : ((psQ V M i).map loud).map (fun x => dirQ x.1 x.2) = (psQ V M i).map (fun x => dirQ x.1 false) := by rw [List.map_map]; rfl
    refine call_w (scan_okL _ b s e m hb (by rw [hp1]) (by rw [hp1, hm1]; exact hs1)) [] (by simp (maxSteps := 4000000) only [push_cast, Int.reduceEq, Int.reduceBNe, Int.reduceBEq, Int.reduceAdd, Int.reduceSub, Int.reduceMul, Int.reduceNeg, Int.reduceLT, Int.reduceLE, Int.reduceToNat, Nat.reduceLT, Nat.reduceAdd, Nat.reduceSub, Nat.reduceMul, Nat.reduceEqDiff, Nat.reduceLeDiff, Nat.reduceBEq, reduceIte, reduceCtorEq]) ?_
    rintro sv post ⟨rfl, rfl⟩
    simp (maxSteps := 4000000) only [push_cast, Int.reduceEq, Int.reduceBNe, Int.reduceBEq, Int.reduceAdd, Int.reduceSub, Int.reduceMul, Int.reduceNeg, Int.reduceLT, Int.reduceLE, Int.reduceToNat, Nat.reduceLT, Nat.reduceAdd, Nat.reduceSub, Nat.reduceMul, Nat.reduceEqDiff, Nat.reduceLeDiff, Nat.reduceBEq, reduceIte, reduceCtorEq, ren_argQf]
    refine call_w (scan_okL _ b (heardQ (psQ V M i) s) e m hb (by rw [hp2]) (by rw [hp2]; exact hs2)) [] (by simp (maxSteps := 4000000) only [push_cast, Int.reduceEq, Int.reduceBNe, Int.reduceBEq, Int.reduceAdd, Int.reduceSub, Int.reduceMul, Int.reduceNeg, Int.reduceLT, Int.reduceLE, Int.reduceToNat, Nat.reduceLT, Nat.reduceAdd, Nat.reduceSub, Nat.reduceMul, Nat.reduceEqDiff, Nat.reduceLeDiff, Nat.reduceBEq, reduceIte, reduceCtorEq]) ?_
    rintro sv post ⟨rfl, rfl⟩
    simp (maxSteps := 4000000) only [push_cast, Int.reduceEq, Int.reduceBNe, Int.reduceBEq, Int.reduceAdd, Int.reduceSub, Int.reduceMul, Int.reduceNeg, Int.reduceLT, Int.reduceLE, Int.reduceToNat, Nat.reduceLT, Nat.reduceAdd, Nat.reduceSub, Nat.reduceMul, Nat.reduceEqDiff, Nat.reduceLeDiff, Nat.reduceBEq, reduceIte, reduceCtorEq, ren_argQf]
    have hps9 : (psQ V M i).length = i := psQ_len V M i
    refine loop_ok (ι := {t : Nat // t ≤ s.length}) (fun t => ⟨List.replicate 9 .any ++ [.sl 1 (.tok 0 true) i (boolEl ((psQ V M i).map fun x => !x.2)), .any, .any, .any, .sl 4 .old s.length (argElQ s), .any, .any, .sl 4 .old (heardQ (psQ V M i) s).length (argElQ (heardQ (psQ V M i) s)), .any, .any, .i .i64 (heardQ ((psQ V M i).take t.1) (s.take t.1)).length, .i .i64 t.1] ++ List.replicate 106 .any, [], [0], [], 1, 0, []⟩) (fun t => s.length - t.1) ⟨0, Nat.zero_le _⟩ ?_ ?_
    · refine Sub.w [0] ?_
      simp (maxSteps := 4000000) only [push_cast, Int.reduceEq, Int.reduceBNe, Int.reduceBEq, Int.reduceAdd, Int.reduceSub, Int.reduceMul, Int.reduceNeg, Int.reduceLT, Int.reduceLE, Int.reduceToNat, Nat.reduceLT, Nat.reduceAdd, Nat.reduceSub, Nat.reduceMul, Nat.reduceEqDiff, Nat.reduceLeDiff, Nat.reduceBEq, reduceIte, reduceCtorEq, List.take_zero]
      refine ⟨fun i' _ j _ => W_bool _ _ i' j, fun i' _ j _ => W_argQ _ s i' j, fun i' _ j _ => W_argQ _ _ i' j, ?_⟩
      cases (psQ V M i) <;> cases s <;> rfl
    rintro ⟨t, ht⟩
    by_cases hlt : t < s.length
    · obtain ⟨a, ha⟩ : ∃ a, s[t]? = some a := ⟨s[t], List.getElem?_eq_getElem hlt⟩
      obtain ⟨x, hx⟩ : ∃ x, (psQ V M i)[t]? = some x := ⟨(psQ V M i)[t]'(by omega), List.getElem?_eq_getElem (by omega)⟩
      have eB : boolEl ((psQ V M i).map fun x => !x.2) t 0 = .b (!x.2) := by unfold boolEl; rw [List.getElem?_map, hx]; rfl
      obtain ⟨e1, z, e2⟩ := heardQ_at (psQ V M i) s t x a hx ha
      have eS : List.map (argElQ s t) (List.range 4) = argQ a := argElQ_at s t a ha
      have hst : s.length ≤ i := by omega
      generalize hkt : (heardQ ((psQ V M i).take t) (s.take t)).length = kt
      have hkb : kt ≤ 20 := by
        have := heardQ_len ((psQ V M i).take t) (s.take t)
        rw [hkt, List.length_take] at this
        omega
      refine evCode_sound Γok _ _ _ ?_
      simp (maxSteps := 4000000) only [push_cast, Int.reduceEq, Int.reduceBNe, Int.reduceBEq, Int.reduceAdd, Int.reduceSub, Int.reduceMul, Int.reduceNeg, Int.reduceLT, Int.reduceLE, Int.reduceToNat, Nat.reduceLT, Nat.reduceAdd, Nat.reduceSub, Nat.reduceMul, Nat.reduceEqDiff, Nat.reduceLeDiff, Nat.reduceBEq, reduceIte, reduceCtorEq, Int.toNat_natCast, eB, Bool.not_not, hkt]
      obtain ⟨v, q⟩ := x
      cases q
      · have eK : (heardQ ((psQ V M i).take (t + 1)) (s.take (t + 1))).length = kt + 1 := by rw [e1, List.length_append, hkt]; rfl
        have eL : kt < (heardQ (psQ V M i) s).length := by rw [e2, List.length_append, eK]; omega
        have eH : List.map (argElQ (heardQ (psQ V M i) s) kt) (List.range 4) = argQ a := by
          refine argElQ_at _ kt a ?_
          rw [e2, e1, List.append_assoc, List.getElem?_append_right (by omega), hkt, Nat.sub_self]
          rfl
        have eF : decide ((kt : Int) < ((heardQ (psQ V M i) s).length : Int)) = true := decide_eq_true (by omega)
        dsimp only
        refine ⟨fun _ => ⟨⟨by omega, by omega⟩, fun h => (by cases h), fun _ => ?_⟩, fun h => absurd h (by omega)⟩
        refine (region_plan rfl Γok mixed (.pure 0 (.pure 1 (.pure 2 (.pure 3 (.pure 4 (.pure 5 (.pure 6 (.pure 7 (.pure 8 (.pure 9 (.pure 10 (.pure 11 (.pure 12 (.eff (.cons 13 [] (.pure 14 .done) .nil))))))))))))))) 127 rfl (by kernel_rfl) ?_)
        simp (maxSteps := 4000000) only [push_cast, Int.reduceEq, Int.reduceBNe, Int.reduceBEq, Int.reduceAdd, Int.reduceSub, Int.reduceMul, Int.reduceNeg, Int.reduceLT, Int.reduceLE, Int.reduceToNat, Nat.reduceLT, Nat.reduceAdd, Nat.reduceSub, Nat.reduceMul, Nat.reduceEqDiff, Nat.reduceLeDiff, Nat.reduceBEq, reduceIte, reduceCtorEq, Int.toNat_natCast, eS, eH, argQ, argq_eq, baq_self]
        refine ⟨fun _ => ⟨by omega, by omega⟩, fun _ => ⟨by omega, by omega⟩, fun _ => ⟨by omega, by omega, fun h => absurd h (by omega), fun _ => ⟨⟨t + 1, hlt⟩, by show s.length - (t + 1) < s.length - t; omega, Sub.w [0] ?_⟩⟩, fun h => absurd h (by omega)⟩
        simp (maxSteps := 4000000) only [push_cast, Int.reduceEq, Int.reduceBNe, Int.reduceBEq, Int.reduceAdd, Int.reduceSub, Int.reduceMul, Int.reduceNeg, Int.reduceLT, Int.reduceLE, Int.reduceToNat, Nat.reduceLT, Nat.reduceAdd, Nat.reduceSub, Nat.reduceMul, Nat.reduceEqDiff, Nat.reduceLeDiff, Nat.reduceBEq, reduceIte, reduceCtorEq, eK]
        refine ⟨fun i' _ j _ => W_bool _ _ i' j, fun i' _ j _ => W_argQ _ s i' j, fun i' _ j _ => W_argQ _ _ i' j, ?_, ?_⟩
        · exact (wrap64 (n := (kt : Int) + 1) (by omega) (by omega)).symm
        · exact (wrap64 (n := (t : Int) + 1) (by omega) (by omega)).symm
      · have eK : (heardQ ((psQ V M i).take (t + 1)) (s.take (t + 1))).length = kt := by rw [e1, List.length_append, hkt]; rfl
        dsimp only
        refine ⟨fun _ => ⟨⟨by omega, by omega⟩, fun _ => ⟨⟨t + 1, hlt⟩, by show s.length - (t + 1) < s.length - t; omega, Sub.w [0] ?_⟩, fun h => by cases h⟩, fun h => absurd h (by omega)⟩
        simp (maxSteps := 4000000) only [push_cast, Int.reduceEq, Int.reduceBNe, Int.reduceBEq, Int.reduceAdd, Int.reduceSub, Int.reduceMul, Int.reduceNeg, Int.reduceLT, Int.reduceLE, Int.reduceToNat, Nat.reduceLT, Nat.reduceAdd, Nat.reduceSub, Nat.reduceMul, Nat.reduceEqDiff, Nat.reduceLeDiff, Nat.reduceBEq, reduceIte, reduceCtorEq, eK]
        refine ⟨fun i' _ j _ => W_bool _ _ i' j, fun i' _ j _ => W_argQ _ s i' j, fun i' _ j _ => W_argQ _ _ i' j, ?_⟩
        exact (wrap64 (n := (t : Int) + 1) (by omega) (by omega)).symm
    · obtain rfl : t = s.length := by omega
      have eK : (heardQ ((psQ V M i).take s.length) (s.take s.length)).length = (heardQ (psQ V M i) s).length := by
        rw [List.take_length, heardQ_take]
      refine evCode_sound Γok _ _ _ ?_
      simp (maxSteps := 4000000) only [push_cast, Int.reduceEq, Int.reduceBNe, Int.reduceBEq, Int.reduceAdd, Int.reduceSub, Int.reduceMul, Int.reduceNeg, Int.reduceLT, Int.reduceLE, Int.reduceToNat, Nat.reduceLT, Nat.reduceAdd, Nat.reduceSub, Nat.reduceMul, Nat.reduceEqDiff, Nat.reduceLeDiff, Nat.reduceBEq, reduceIte, reduceCtorEq, eK]
      refine ⟨fun h => absurd h (by omega), fun _ => ?_⟩
      exact Fin.nil rfl (psv := .b true) (by simp (maxSteps := 4000000) only [push_cast, Int.reduceEq, Int.reduceBNe, Int.reduceBEq, Int.reduceAdd, Int.reduceSub, Int.reduceMul, Int.reduceNeg, Int.reduceLT, Int.reduceLE, Int.reduceToNat, Nat.reduceLT, Nat.reduceAdd, Nat.reduceSub, Nat.reduceMul, Nat.reduceEqDiff, Nat.reduceLeDiff, Nat.reduceBEq, reduceIte, reduceCtorEq]) ⟨rfl, rfl⟩
end Go.Proofs.Ytciokebdmnaobaa
/- What ScanMute was handed: bytes, bools. -/
namespace Go.Proofs.Ytciokebdmnaobaa
open Go Go.Eng Go.RowKit
set_option linter.unusedSimpArgs false
set_option linter.unusedVariables false
set_option maxRecDepth 100000

section
variable {H : Type} {enc : TypeId × Value → H} {P : Program} {W : World} {base : Nat} {sp : Nat → Bool} {held : Bool}
theorem weights_all {e : TypeId} {d : DataW H} {k : Nat} : ∀ {ds : List (DataW H)}, d ∈ ds → k ∈ d.weights P e → k ∈ DataW.weightsAll P e ds
  | [], hd, _ => by cases hd
  | y :: r, hd, hk => by
    simp only [DataW.weightsAll, List.mem_append]
    rcases List.mem_cons.1 hd with rfl | hd
    · exact .inl hk
    · exact .inr (weights_all hd hk)
/-- A slice of elements that came in. -/
theorem den_sliceW {t e : TypeId} {fuel sz : Nat} {v : Value} {x : DataW H × List MemPlace} (ht : P.underlying t = some (.slice e)) (hc : P.cellsOf e = sz) (hsz : 0 < sz) {α : Type} (f : α → List SV)
    (hel : ∀ (n : Nat) (cs : List Value) (y : DataW H × List MemPlace), cs.length = sz → DataW.trod enc P W base sp held n e cs = some y → (∀ k, k ∈ y.1.weights P e → k ≤ reachBytes) → ∃ a : α, DenL (env0 W) (f a) cs)
    (h : DataW.trod enc P W base sp held fuel t v.cells.toList = some x) (hv : ∃ a n c, v = .slice a n c) (hz : ∀ k, k ∈ x.1.weights P t → k ≤ reachBytes) (hby : sz ≤ P.bytesOf e) :
    ∃ (rows : List α), rows.length ≤ 140737488355328 ∧ ∀ d : α, Den (env0 W) (.sl sz .old rows.length (fun i j => lget (f (rows.getD i d)) j)) v := by
  obtain ⟨va, vn, vc, rfl⟩ := hv
  rcases DataW.trod_slice ht h with ⟨h0, _⟩ | ⟨a, len, cap, elems, rest, n, _, hcs, hx, hb, hl, hm, hlen, hel', _, _⟩
  · simp [Value.cells] at h0
    obtain ⟨rfl, rfl, rfl⟩ := h0
    refine ⟨[], by simp, fun d => ?_⟩
    simp only [Den]
    exact ⟨none, 0, rfl, Nat.le_refl _, by omega, fun i hi => absurd hi (Nat.not_lt_zero _), trivial⟩
  · simp [Value.cells] at hcs
    obtain ⟨rfl, rfl, rfl⟩ := hcs
    have hn : vn ≤ 140737488355328 := by
      have h1 := hz (((elems.map (·.1)).length + (rest.map (·.1)).length) * P.bytesOf e) (by rw [hx]; simp only [DataW.weights, ht]; exact List.mem_cons_self)
      rw [List.length_map, List.length_map] at h1
      have h2 : vn * 1 ≤ (elems.length + rest.length) * P.bytesOf e := Nat.mul_le_mul (by omega) (by omega)
      unfold reachBytes at h1
      omega
    have each : ∀ i, i < vn → ∃ r : α, ∃ cs : List Value, cs.length = sz ∧ (∀ (j : Nat) (u : Value), cs[j]? = some u → W.cell? ((a.add (i * sz)).add j) = some u) ∧ DenL (env0 W) (f r) cs := by
      intro i hi
      have h1 := hel' i hi
      rw [List.getElem?_eq_getElem (by omega), Option.bind_eq_some_iff, hc] at h1
      obtain ⟨cs, h2, h3⟩ := h1
      obtain ⟨h4, h5⟩ := cells_get h2
      obtain ⟨r, hr⟩ := hel n cs _ h4 h3 (fun k hk => hz k (by
        rw [hx]
        simp only [DataW.weights, ht]
        refine List.mem_cons_of_mem _ (List.mem_append.2 (.inl ?_))
        exact weights_all (List.mem_map.2 ⟨_, List.getElem_mem (by omega), rfl⟩) hk))
      exact ⟨r, cs, h4, h5, hr⟩
    have build : ∀ m, m ≤ vn → ∃ rows : List α, rows.length = m ∧ ∀ i, i < m → ∃ r cs, rows[i]? = some r ∧ List.length cs = sz ∧ (∀ (j : Nat) (u : Value), cs[j]? = some u → W.cell? ((a.add (i * sz)).add j) = some u) ∧ DenL (env0 W) (f r) cs := by
      intro m
      induction m with
      | zero => intro _; exact ⟨[], rfl, fun i hi => absurd hi (Nat.not_lt_zero _)⟩
      | succ m ih =>
        intro hm
        obtain ⟨rows, h1, h2⟩ := ih (by omega)
        obtain ⟨r, cs, h3, h4, h5⟩ := each m (by omega)
        refine ⟨rows ++ [r], by simp [h1], fun i hi => ?_⟩
        rcases Nat.lt_or_ge i m with h | h
        · obtain ⟨r', cs', q1, q2⟩ := h2 i h
          exact ⟨r', cs', by rw [List.getElem?_append_left (by omega)]; exact q1, q2⟩
        · have : i = m := by omega
          subst this
          exact ⟨r, cs, by rw [List.getElem?_append_right (by omega), h1]; simp, h3, h4, h5⟩
    obtain ⟨rows, hr, hrows⟩ := build vn (Nat.le_refl _)
    refine ⟨rows, by omega, fun d => ?_⟩
    rw [hr]
    simp only [Den]
    refine ⟨some a, vc, rfl, hl, by unfold maxLen at hm; omega, fun i hi => ?_, trivial⟩
    obtain ⟨r, cs, q1, q2, q3, q4⟩ := hrows i hi
    have hspot : a.spot = none := by
      obtain ⟨r0, cs0, _, l0, c0, _⟩ := hrows 0 (by omega)
      have h1 := World.cell?_spot (c0 0 (cs0[0]'(by omega)) (List.getElem?_eq_getElem (by omega)))
      simpa [Addr.add] using h1
    obtain ⟨b, off, spot⟩ := a
    simp only at hspot
    subst hspot
    refine ⟨b, off, rfl, fun j hj => ?_⟩
    have hju : cs[j]? = some (cs[j]'(by omega)) := List.getElem?_eq_getElem (by omega)
    refine ⟨cs[j]'(by omega), ?_, ?_⟩
    · have := q3 j _ hju
      rw [addr_add, addr_add] at this
      exact this
    · have h1 : rows.getD i d = r := by simp [List.getD, q1]
      rw [h1]
      have := denL_get _ _ j undef q4
      rw [hju] at this
      exact this

end
def BytesIn (W : World) (v : Value) : Prop := ∃ l : List UInt8, l.length ≤ 140737488355328 ∧ Den (env0 W) (.ints .u8 .old (ofU l)) v
def BoolsIn (W : World) (v : Value) : Prop := ∃ M : List Bool, M.length ≤ 140737488355328 ∧ Den (env0 W) (.sl 1 .old M.length (boolEl M)) v
theorem wfb {n : Int} (h : (Lit.int .u8 n).wf = true) : 0 ≤ n ∧ n ≤ 255 := by
  simp only [Lit.wf, Bool.and_eq_true, decide_eq_true_eq] at h
  exact h
theorem BytesIn_in {H : Type} {enc : TypeId × Value → H} {W : World} {base : Nat} {sp : Nat → Bool} {held : Bool} {v : Value} {d : DataW H} {ps : List MemPlace} (h : DataW.Trod enc Try.prog W base sp held 22 v d ps) (hv : ∃ a n c, v = .slice a n c)
    (hz : ∀ k, k ∈ d.weights Try.prog 22 → k ≤ reachBytes) : BytesIn W v := by
  obtain ⟨fuel, h⟩ := h
  have hc : Try.prog.cellsOf 5 = 1 := by kernel_rfl
  have hby : Try.prog.bytesOf 5 = 1 := by kernel_rfl
  obtain ⟨rows, h1, h2⟩ := den_sliceW (by kernel_rfl : Try.prog.underlying 22 = some (.slice 5)) hc (by omega) (α := UInt8) (fun c => [.i .u8 c.toNat]) (fun n cs y hl ht hw => by
    obtain ⟨z, e, g, w⟩ := DataW.trod_int (by kernel_rfl : Try.prog.underlying 5 = some (.int .u8)) ht
    subst e
    obtain ⟨w1, w2⟩ := wfb w
    refine ⟨UInt8.ofNat z.toNat, ?_⟩
    simp only [DenL, Den]
    refine ⟨?_, trivial⟩
    congr 1
    rw [UInt8.toNat_ofNat']
    omega) h hv hz (by rw [hby]; omega)
  refine ⟨rows, h1, ?_⟩
  have h3 := h2 0
  simp only [Den, IsInts] at h3 ⊢
  obtain ⟨a, cap, e1, e2, e3, e4, e5⟩ := h3
  have hlen : (ofU rows).length = rows.length := by unfold ofU; rw [List.length_map]
  refine ⟨a, cap, by rw [hlen]; exact e1, by rw [hlen]; exact e2, e3, fun i x hx => ?_, e5⟩
  unfold ofU at hx
  rw [List.getElem?_map] at hx
  obtain ⟨c, hc1, hc2⟩ := Option.map_eq_some_iff.1 hx
  have hi : i < rows.length := by
    rcases Nat.lt_or_ge i rows.length with h | h
    · exact h
    · rw [List.getElem?_eq_none h] at hc1; cases hc1
  obtain ⟨b, off, p, q⟩ := e4 i hi
  obtain ⟨y, r, s⟩ := q 0 (by omega)
  have hg : rows.getD i 0 = c := by simp [List.getD, hc1]
  rw [hg] at s
  simp only [lget, Den] at s
  subst s
  refine ⟨b, off, p, ?_⟩
  rw [← hc2]
  rw [show off + i * 1 + 0 = off + i by omega] at r
  exact r
theorem BoolsIn_in {H : Type} {enc : TypeId × Value → H} {W : World} {base : Nat} {sp : Nat → Bool} {held : Bool} {v : Value} {d : DataW H} {ps : List MemPlace} (h : DataW.Trod enc Try.prog W base sp held 41 v d ps) (hv : ∃ a n c, v = .slice a n c)
    (hz : ∀ k, k ∈ d.weights Try.prog 41 → k ≤ reachBytes) : BoolsIn W v := by
  obtain ⟨fuel, h⟩ := h
  have hc : Try.prog.cellsOf 4 = 1 := by kernel_rfl
  have hby : Try.prog.bytesOf 4 = 1 := by kernel_rfl
  obtain ⟨rows, h1, h2⟩ := den_sliceW (by kernel_rfl : Try.prog.underlying 41 = some (.slice 4)) hc (by omega) (α := Bool) (fun q => [.b q]) (fun n cs y hl ht hw => by
    obtain ⟨z, e, g⟩ := DataW.trod_bool (by kernel_rfl : Try.prog.underlying 4 = some .bool) ht
    subst e
    refine ⟨z, ?_⟩
    simp only [DenL, Den]
    exact ⟨trivial, trivial⟩) h hv hz (by rw [hby]; omega)
  refine ⟨rows, h1, den_el (fun i hi j hj => ?_) (h2 false)⟩
  obtain rfl : j = 0 := by omega
  unfold boolEl
  simp only [lget, List.getD_eq_getElem?_getD]
end Go.Proofs.Ytciokebdmnaobaa
