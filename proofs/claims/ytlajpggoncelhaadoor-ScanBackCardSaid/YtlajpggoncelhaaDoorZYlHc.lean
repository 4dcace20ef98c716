/- Texts joined, in order: Yl, Ha, Hb, Hc. -/
import Derived.Test.YtlajpggoncelhaaDoorZCaUm
import Derived.Test.YtlajpggoncelhaaDoorZYfYk
/- Scan: the page's examples. -/
namespace Go.Proofs.YtlajpggoncelhaaDoor
open Go Go.Eng
set_option maxHeartbeats 4000000
set_option linter.unusedSimpArgs false
set_option linter.unusedVariables false
set_option maxRecDepth 100000

theorem num18_c (n : Int) : Contract Tryd.prog 11 nilSS [.i .i64 n] (fun sv post => sv = .i .i64 n ∧ post = nilSS) := by
  refine contract_ev Γok Tryd.func11 rfl rfl [] ?_
  simp (maxSteps := 4000000) only [push_cast, Int.reduceEq, Int.reduceBNe, Int.reduceBEq, Int.reduceAdd, Int.reduceSub, Int.reduceMul, Int.reduceNeg, Int.reduceLT, Int.reduceLE, Int.reduceToNat, Nat.reduceLT, Nat.reduceAdd, Nat.reduceSub, Nat.reduceMul, Nat.reduceEqDiff, Nat.reduceLeDiff, Nat.reduceBEq, reduceIte, reduceCtorEq, Tryd.f11]
  exact Fin.w [] (.i .i64 n) _ (by simp (maxSteps := 4000000) only [push_cast, Int.reduceEq, Int.reduceBNe, Int.reduceBEq, Int.reduceAdd, Int.reduceSub, Int.reduceMul, Int.reduceNeg, Int.reduceLT, Int.reduceLE, Int.reduceToNat, Nat.reduceLT, Nat.reduceAdd, Nat.reduceSub, Nat.reduceMul, Nat.reduceEqDiff, Nat.reduceLeDiff, Nat.reduceBEq, reduceIte, reduceCtorEq]) ⟨rfl, rfl⟩
def ex1f : List UInt8 := [37, 100, 32, 37, 115]
def ex1b : List UInt8 := [32, 45, 53, 32, 97, 98, 32, 99]
def ex2f : List UInt8 := [37, 50, 100, 37, 100]
def ex2b : List UInt8 := [49, 50, 51, 52]
def ex3f : List UInt8 := [120, 37, 100]
def ex3b : List UInt8 := [121, 49]
def ex4f : List UInt8 := [37, 100]
def ex4b : List UInt8 := [43]
theorem ex1p : partsP ex1f = ([⟨100, 0, false, 0⟩, ⟨32, 0, false, 0⟩, ⟨115, 0, false, 0⟩], 0, 5) := by decide +kernel
theorem ex1 : allQ ex1b (partsP ex1f).1 0 [] = ([⟨1, -5, 0, []⟩, ⟨4, 0, 0, [97, 98]⟩], 0, 6) := by decide +kernel
theorem ex2 : allQ ex2b (partsP ex2f).1 0 [] = ([⟨1, 12, 0, []⟩, ⟨1, 34, 0, []⟩], 0, 4) := by decide +kernel
theorem ex3 : allQ ex3b (partsP ex3f).1 0 [] = ([], 181, 0) := by decide +kernel
theorem ex4 : allQ ex4b (partsP ex4f).1 0 [] = ([], 111, 1) := by decide +kernel
theorem o1 : ofU ex1b = [32, 45, 53, 32, 97, 98, 32, 99] := rfl
theorem o2 : ofU ex2b = [49, 50, 51, 52] := rfl
theorem o3 : ofU ex3b = [121, 49] := rfl
theorem o4 : ofU ex4b = [43] := rfl
theorem c1 : bs ex1f = ⟨#[37, 100, 32, 37, 115]⟩ := rfl
theorem c2 : bs ex2f = ⟨#[37, 50, 100, 37, 100]⟩ := rfl
theorem c3 : bs ex3f = ⟨#[120, 37, 100]⟩ := rfl
theorem c4 : bs ex4f = ⟨#[37, 100]⟩ := rfl
def A1 : List AV := [⟨1, -5, 0, []⟩, ⟨4, 0, 0, [97, 98]⟩]
def A2 : List AV := [⟨1, 12, 0, []⟩, ⟨1, 34, 0, []⟩]
theorem scan_ok (f b : List UInt8) (out : List AV) (e : Int) (k : Nat) (hb : b.length ≤ 1000) (hp : (partsP f).2.1 = 0) (h : allQ b (partsP f).1 0 [] = (out, e, k)) :
    Contract Tryd.prog 10 nilSS [.s (bs f), .ints .u8 .old (ofU b)] (fun sv post => sv = .tup [.sl 4 .old out.length (argElQ out), .i .i64 k, .i .i64 e] ∧ post = nilSS) := by
  refine (scan_c f b (by omega)).later fun sv post hR E w v hw hd => ?_
  obtain ⟨rfl, ⟨h1, _⟩ | ⟨_, rfl⟩⟩ := hR
  · exact absurd hp h1
  · rw [h] at hd
    exact ⟨E, _, _, Env.Le.refl E, hw, hd, rfl, rfl⟩
theorem alive18_c : Contract Tryd.prog 4 nilSS [] (fun sv post => sv = .b true ∧ post = nilSS) := by
  refine contract_ev Γok Tryd.func4 rfl rfl [] ?_
  simp (maxSteps := 4000000) only [push_cast, Int.reduceEq, Int.reduceBNe, Int.reduceBEq, Int.reduceAdd, Int.reduceSub, Int.reduceMul, Int.reduceNeg, Int.reduceLT, Int.reduceLE, Int.reduceToNat, Nat.reduceLT, Nat.reduceAdd, Nat.reduceSub, Nat.reduceMul, Nat.reduceEqDiff, Nat.reduceLeDiff, Nat.reduceBEq, reduceIte, reduceCtorEq, Tryd.f4]
  refine call_w (scan_ok ex1f ex1b A1 0 6 (by decide) (by decide +kernel) ex1) [] (by simp (maxSteps := 4000000) only [push_cast, Int.reduceEq, Int.reduceBNe, Int.reduceBEq, Int.reduceAdd, Int.reduceSub, Int.reduceMul, Int.reduceNeg, Int.reduceLT, Int.reduceLE, Int.reduceToNat, Nat.reduceLT, Nat.reduceAdd, Nat.reduceSub, Nat.reduceMul, Nat.reduceEqDiff, Nat.reduceLeDiff, Nat.reduceBEq, reduceIte, reduceCtorEq, o1, c1]) ?_
  rintro sv post ⟨rfl, rfl⟩
  simp (maxSteps := 4000000) only [push_cast, Int.reduceEq, Int.reduceBNe, Int.reduceBEq, Int.reduceAdd, Int.reduceSub, Int.reduceMul, Int.reduceNeg, Int.reduceLT, Int.reduceLE, Int.reduceToNat, Nat.reduceLT, Nat.reduceAdd, Nat.reduceSub, Nat.reduceMul, Nat.reduceEqDiff, Nat.reduceLeDiff, Nat.reduceBEq, reduceIte, reduceCtorEq, ren_argQf]
  refine call_w (scan_ok ex2f ex2b A2 0 4 (by decide) (by decide +kernel) ex2) [] (by simp (maxSteps := 4000000) only [push_cast, Int.reduceEq, Int.reduceBNe, Int.reduceBEq, Int.reduceAdd, Int.reduceSub, Int.reduceMul, Int.reduceNeg, Int.reduceLT, Int.reduceLE, Int.reduceToNat, Nat.reduceLT, Nat.reduceAdd, Nat.reduceSub, Nat.reduceMul, Nat.reduceEqDiff, Nat.reduceLeDiff, Nat.reduceBEq, reduceIte, reduceCtorEq, o2, c2]) ?_
  rintro sv post ⟨rfl, rfl⟩
  simp (maxSteps := 4000000) only [push_cast, Int.reduceEq, Int.reduceBNe, Int.reduceBEq, Int.reduceAdd, Int.reduceSub, Int.reduceMul, Int.reduceNeg, Int.reduceLT, Int.reduceLE, Int.reduceToNat, Nat.reduceLT, Nat.reduceAdd, Nat.reduceSub, Nat.reduceMul, Nat.reduceEqDiff, Nat.reduceLeDiff, Nat.reduceBEq, reduceIte, reduceCtorEq, ren_argQf]
  refine call_w (scan_ok ex3f ex3b [] 181 0 (by decide) (by decide +kernel) ex3) [] (by simp (maxSteps := 4000000) only [push_cast, Int.reduceEq, Int.reduceBNe, Int.reduceBEq, Int.reduceAdd, Int.reduceSub, Int.reduceMul, Int.reduceNeg, Int.reduceLT, Int.reduceLE, Int.reduceToNat, Nat.reduceLT, Nat.reduceAdd, Nat.reduceSub, Nat.reduceMul, Nat.reduceEqDiff, Nat.reduceLeDiff, Nat.reduceBEq, reduceIte, reduceCtorEq, o3, c3]) ?_
  rintro sv post ⟨rfl, rfl⟩
  simp (maxSteps := 4000000) only [push_cast, Int.reduceEq, Int.reduceBNe, Int.reduceBEq, Int.reduceAdd, Int.reduceSub, Int.reduceMul, Int.reduceNeg, Int.reduceLT, Int.reduceLE, Int.reduceToNat, Nat.reduceLT, Nat.reduceAdd, Nat.reduceSub, Nat.reduceMul, Nat.reduceEqDiff, Nat.reduceLeDiff, Nat.reduceBEq, reduceIte, reduceCtorEq, ren_argQf]
  refine call_w (scan_ok ex4f ex4b [] 111 1 (by decide) (by decide +kernel) ex4) [] (by simp (maxSteps := 4000000) only [push_cast, Int.reduceEq, Int.reduceBNe, Int.reduceBEq, Int.reduceAdd, Int.reduceSub, Int.reduceMul, Int.reduceNeg, Int.reduceLT, Int.reduceLE, Int.reduceToNat, Nat.reduceLT, Nat.reduceAdd, Nat.reduceSub, Nat.reduceMul, Nat.reduceEqDiff, Nat.reduceLeDiff, Nat.reduceBEq, reduceIte, reduceCtorEq, o4, c4]) ?_
  rintro sv post ⟨rfl, rfl⟩
  simp (maxSteps := 4000000) only [push_cast, Int.reduceEq, Int.reduceBNe, Int.reduceBEq, Int.reduceAdd, Int.reduceSub, Int.reduceMul, Int.reduceNeg, Int.reduceLT, Int.reduceLE, Int.reduceToNat, Nat.reduceLT, Nat.reduceAdd, Nat.reduceSub, Nat.reduceMul, Nat.reduceEqDiff, Nat.reduceLeDiff, Nat.reduceBEq, reduceIte, reduceCtorEq, ren_argQf]
  refine call_w (num18_c 0) [] (by simp (maxSteps := 4000000) only [push_cast, Int.reduceEq, Int.reduceBNe, Int.reduceBEq, Int.reduceAdd, Int.reduceSub, Int.reduceMul, Int.reduceNeg, Int.reduceLT, Int.reduceLE, Int.reduceToNat, Nat.reduceLT, Nat.reduceAdd, Nat.reduceSub, Nat.reduceMul, Nat.reduceEqDiff, Nat.reduceLeDiff, Nat.reduceBEq, reduceIte, reduceCtorEq]) ?_
  rintro sv post ⟨rfl, rfl⟩
  simp (maxSteps := 4000000) only [push_cast, Int.reduceEq, Int.reduceBNe, Int.reduceBEq, Int.reduceAdd, Int.reduceSub, Int.reduceMul, Int.reduceNeg, Int.reduceLT, Int.reduceLE, Int.reduceToNat, Nat.reduceLT, Nat.reduceAdd, Nat.reduceSub, Nat.reduceMul, Nat.reduceEqDiff, Nat.reduceLeDiff, Nat.reduceBEq, reduceIte, reduceCtorEq]
  refine call_w (num18_c 0) [] (by simp (maxSteps := 4000000) only [push_cast, Int.reduceEq, Int.reduceBNe, Int.reduceBEq, Int.reduceAdd, Int.reduceSub, Int.reduceMul, Int.reduceNeg, Int.reduceLT, Int.reduceLE, Int.reduceToNat, Nat.reduceLT, Nat.reduceAdd, Nat.reduceSub, Nat.reduceMul, Nat.reduceEqDiff, Nat.reduceLeDiff, Nat.reduceBEq, reduceIte, reduceCtorEq]) ?_
  rintro sv post ⟨rfl, rfl⟩
  have l1 : A1.length = 2 := rfl
  have l2 : A2.length = 2 := rfl
  have g1 : argElQ A1 0 1 = .i .i64 (-5) := rfl
  have g2 : argElQ A1 1 3 = .s ⟨#[97, 98]⟩ := rfl
  have g3 : argElQ A2 1 1 = .i .i64 34 := rfl
  simp (maxSteps := 4000000) only [push_cast, Int.reduceEq, Int.reduceBNe, Int.reduceBEq, Int.reduceAdd, Int.reduceSub, Int.reduceMul, Int.reduceNeg, Int.reduceLT, Int.reduceLE, Int.reduceToNat, Nat.reduceLT, Nat.reduceAdd, Nat.reduceSub, Nat.reduceMul, Nat.reduceEqDiff, Nat.reduceLeDiff, Nat.reduceBEq, reduceIte, reduceCtorEq, l1, l2, g1, g2, g3]
  refine call_w (num18_c 181) [] (by simp (maxSteps := 4000000) only [push_cast, Int.reduceEq, Int.reduceBNe, Int.reduceBEq, Int.reduceAdd, Int.reduceSub, Int.reduceMul, Int.reduceNeg, Int.reduceLT, Int.reduceLE, Int.reduceToNat, Nat.reduceLT, Nat.reduceAdd, Nat.reduceSub, Nat.reduceMul, Nat.reduceEqDiff, Nat.reduceLeDiff, Nat.reduceBEq, reduceIte, reduceCtorEq]) ?_
  rintro sv post ⟨rfl, rfl⟩
  simp (maxSteps := 4000000) only [push_cast, Int.reduceEq, Int.reduceBNe, Int.reduceBEq, Int.reduceAdd, Int.reduceSub, Int.reduceMul, Int.reduceNeg, Int.reduceLT, Int.reduceLE, Int.reduceToNat, Nat.reduceLT, Nat.reduceAdd, Nat.reduceSub, Nat.reduceMul, Nat.reduceEqDiff, Nat.reduceLeDiff, Nat.reduceBEq, reduceIte, reduceCtorEq]
  refine call_w (num18_c 111) [] (by simp (maxSteps := 4000000) only [push_cast, Int.reduceEq, Int.reduceBNe, Int.reduceBEq, Int.reduceAdd, Int.reduceSub, Int.reduceMul, Int.reduceNeg, Int.reduceLT, Int.reduceLE, Int.reduceToNat, Nat.reduceLT, Nat.reduceAdd, Nat.reduceSub, Nat.reduceMul, Nat.reduceEqDiff, Nat.reduceLeDiff, Nat.reduceBEq, reduceIte, reduceCtorEq]) ?_
  rintro sv post ⟨rfl, rfl⟩
  simp (maxSteps := 4000000) only [push_cast, Int.reduceEq, Int.reduceBNe, Int.reduceBEq, Int.reduceAdd, Int.reduceSub, Int.reduceMul, Int.reduceNeg, Int.reduceLT, Int.reduceLE, Int.reduceToNat, Nat.reduceLT, Nat.reduceAdd, Nat.reduceSub, Nat.reduceMul, Nat.reduceEqDiff, Nat.reduceLeDiff, Nat.reduceBEq, reduceIte, reduceCtorEq]
  exact Fin.w [] (.b true) _ (by simp (maxSteps := 4000000) only [push_cast, Int.reduceEq, Int.reduceBNe, Int.reduceBEq, Int.reduceAdd, Int.reduceSub, Int.reduceMul, Int.reduceNeg, Int.reduceLT, Int.reduceLE, Int.reduceToNat, Nat.reduceLT, Nat.reduceAdd, Nat.reduceSub, Nat.reduceMul, Nat.reduceEqDiff, Nat.reduceLeDiff, Nat.reduceBEq, reduceIte, reduceCtorEq]) ⟨rfl, rfl⟩
end Go.Proofs.YtlajpggoncelhaaDoor
/- ScanBack, the plain law: values that were formatted, with a blank between, are read again. -/
namespace Go.Proofs.YtlajpggoncelhaaDoor
open Go Go.Eng
set_option maxHeartbeats 4000000
set_option linter.unusedSimpArgs false
set_option linter.unusedVariables false
set_option maxRecDepth 100000

theorem worth_dchar : ∀ d : Fin 16, worthP (dchar d.val) = d.val ∧ isBlank (dchar d.val) = false ∧ isSign (dchar d.val) = false := by decide +kernel
/-- Digits, the low one first: what they are worth. -/
def valR (b : Nat) : List UInt8 → Nat
  | [] => 0
  | c :: r => (worthP c).toNat + b * valR b r
theorem lowF_digs (b : Nat) (hb : 2 ≤ b) (hb2 : b ≤ 16) : ∀ (f n : Nat) (c : UInt8), c ∈ lowF f n b → ∃ d, d < b ∧ c = dchar d
  | 0, n, c, h => by simp [lowF] at h
  | f + 1, n, c, h => by
    simp only [lowF] at h
    rcases List.mem_cons.1 h with rfl | h
    · exact ⟨n % b, Nat.mod_lt _ (by omega), rfl⟩
    · split at h
      · simp at h
      · exact lowF_digs b hb hb2 f _ c h
theorem lowF_val (b : Nat) (hb : 2 ≤ b) (hb2 : b ≤ 16) : ∀ (f n : Nat), n < 2 ^ f → valR b (lowF f n b) = n
  | 0, n, h => by simp at h; subst h; rfl
  | f + 1, n, h => by
    have hlt : n % b < b := Nat.mod_lt _ (by omega)
    have hw := (worth_dchar ⟨n % b, by omega⟩).1
    simp only at hw
    have hdm := Nat.div_add_mod n b
    simp only [lowF, valR]
    rw [hw]
    split
    · rename_i h0
      rw [h0] at hdm
      simp only [valR]
      omega
    · have h3 : n / b ≤ n / 2 := Nat.div_le_div_left hb (by omega)
      have h2 : (2 : Nat) ^ (f + 1) = 2 * 2 ^ f := by rw [Nat.pow_succ]; omega
      rw [lowF_val b hb hb2 f (n / b) (by omega)]
      omega
/-- Digits, the high one first. -/
def valF (b acc : Nat) (l : List UInt8) : Nat := l.foldl (fun n c => n * b + (worthP c).toNat) acc
theorem valF_app (b acc : Nat) (l m : List UInt8) : valF b acc (l ++ m) = valF b (valF b acc l) m := by unfold valF; rw [List.foldl_append]
theorem valF_rev (b : Nat) : ∀ l : List UInt8, valF b 0 l.reverse = valR b l
  | [] => rfl
  | c :: r => by
    rw [List.reverse_cons, valF_app, valF_rev b r]
    simp only [valF, valR, List.foldl_cons, List.foldl_nil]
    rw [Nat.mul_comm]; omega
theorem valF_ge (b : Nat) (hb : 1 ≤ b) : ∀ (l : List UInt8) (acc : Nat), acc ≤ valF b acc l
  | [], acc => Nat.le_refl _
  | c :: r, acc => by
    have h1 := valF_ge b hb r (acc * b + (worthP c).toNat)
    have h2 : acc * 1 ≤ acc * b := Nat.mul_le_mul_left _ hb
    show acc ≤ valF b (acc * b + (worthP c).toNat) r
    omega
theorem baseF_val (b : Nat) (hb : 2 ≤ b) (hb2 : b ≤ 16) : ∀ (l : List UInt8) (acc i : Nat), (∀ c, c ∈ l → fitB b c = true) → valF b acc l < 18446744073709551616 → ∃ j, baseF b acc i l = (valF b acc l, 0, j)
  | [], acc, i, _, _ => ⟨i, rfl⟩
  | c :: r, acc, i, hd, hv => by
    have hf := hd c List.mem_cons_self
    unfold fitB at hf
    rw [Bool.and_eq_true, decide_eq_true_eq, decide_eq_true_eq] at hf
    have hge := valF_ge b (by omega) r (acc * b + (worthP c).toNat)
    have hv' : valF b (acc * b + (worthP c).toNat) r < 18446744073709551616 := hv
    obtain ⟨j, hj⟩ := baseF_val b hb hb2 r (acc * b + (worthP c).toNat) (i + 1) (fun d hd' => hd d (List.mem_cons_of_mem _ hd')) hv'
    refine ⟨j, ?_⟩
    simp only [baseF]
    rw [if_neg (by omega), if_neg (by omega), hj]
    rfl
theorem places_facts (n b : Nat) (hn : n < 18446744073709551616) (hb : 2 ≤ b) (hb2 : b ≤ 16) :
    placesP n b ≠ [] ∧ (placesP n b).length ≤ 64 ∧ (∀ c, c ∈ placesP n b → fitB b c = true ∧ isBlank c = false ∧ isSign c = false) ∧ ∃ j, parseBaseP b (placesP n b) = (n, 0, j) := by
  have hdg : ∀ c, c ∈ placesP n b → fitB b c = true ∧ isBlank c = false ∧ isSign c = false := by
    intro c hc
    obtain ⟨d, hd, rfl⟩ := lowF_digs b hb hb2 64 n c (List.mem_reverse.1 hc)
    obtain ⟨w1, w2, w3⟩ := worth_dchar ⟨d, by omega⟩
    simp only at w1 w2 w3
    refine ⟨?_, w2, w3⟩
    unfold fitB
    rw [w1, Bool.and_eq_true, decide_eq_true_eq, decide_eq_true_eq]
    omega
  have hne : placesP n b ≠ [] := by
    unfold placesP
    rw [ne_eq, List.reverse_eq_nil_iff]
    simp [lowF]
  have hval : valF b 0 (placesP n b) = n := by
    unfold placesP
    rw [valF_rev, lowF_val b hb hb2 64 n (by omega)]
  have hlen : ∀ (f n : Nat), (lowF f n b).length ≤ f := by
    intro f
    induction f with
    | zero => intro n; simp [lowF]
    | succ f ih =>
      intro n
      simp only [lowF, List.length_cons]
      split
      · simp
      · have := ih (n / b); omega
  refine ⟨hne, by unfold placesP; rw [List.length_reverse]; exact hlen 64 n, hdg, ?_⟩
  obtain ⟨j, hj⟩ := baseF_val b hb hb2 (placesP n b) 0 0 (fun c hc => (hdg c hc).1) (by rw [hval]; exact hn)
  refine ⟨j, ?_⟩
  unfold parseBaseP
  rw [if_neg hne, hj, hval]
/-- What follows stops what is taken. -/
def stops (fits : UInt8 → Bool) : List UInt8 → Prop
  | [] => True
  | c :: _ => fits c = false
theorem takeP_stop (fits : UInt8 → Bool) : ∀ (n : Nat) (D R : List UInt8), (∀ c, c ∈ D → fits c = true) → D.length ≤ n → stops fits R → (takeP fits n (D ++ R)).s = D
  | 0, D, R, _, h, _ => by
    obtain rfl : D = [] := List.eq_nil_of_length_eq_zero (by omega)
    rfl
  | n + 1, [], [], _, _, _ => rfl
  | n + 1, [], c :: r, _, _, hs => by
    simp only [List.nil_append, takeP]
    rw [if_neg (by rw [show fits c = false from hs]; simp)]
  | n + 1, c :: D, R, hd, hl, hs => by
    simp only [List.length_cons] at hl
    simp only [List.cons_append, takeP]
    rw [if_pos (hd c List.mem_cons_self)]
    simp only
    rw [takeP_stop fits n D R (fun d hd' => hd d (List.mem_cons_of_mem _ hd')) (by omega) hs]
theorem skip_none {D : List UInt8} (hne : D ≠ []) (h : ∀ c, c ∈ D → isBlank c = false) (R : List UInt8) : skipP (D ++ R) = 0 := by
  cases D with
  | nil => exact absurd rfl hne
  | cons c D =>
    simp only [List.cons_append, skipP]
    rw [if_neg (by rw [h c List.mem_cons_self]; simp)]
theorem blank_fit : ∀ b : Fin 17, 2 ≤ b.val → fitB b.val 32 = false := by decide +kernel
def dv (v : UInt8) : PartP := ⟨v, 0, false, 0⟩
/-- A number without a sign is read. -/
theorem one_num (v : UInt8) (b m : Nat) (hv : v = 120 ∧ b = 16 ∨ v = 117 ∧ b = 10 ∨ v = 111 ∧ b = 8) (hm : m < 18446744073709551616) (R : List UInt8) (hR : R = [] ∨ ∃ r, R = 32 :: r) :
    oneQ (dv v) (placesP m b ++ R) = (⟨2, 0, m, []⟩, 0, (placesP m b).length, 0) := by
  have hb : 2 ≤ b ∧ b ≤ 16 ∧ baseQ v = b := by rcases hv with ⟨rfl, rfl⟩ | ⟨rfl, rfl⟩ | ⟨rfl, rfl⟩ <;> decide
  obtain ⟨f1, f2, f3, j, f4⟩ := places_facts m b hm hb.1 hb.2.1
  have hsk := skip_none f1 (fun c hc => (f3 c hc).2.1) R
  have hpos : 0 < (placesP m b).length := List.length_pos_iff.2 f1
  have hst : stops (fitB b) R := by
    rcases hR with rfl | ⟨r, rfl⟩
    · trivial
    · exact blank_fit ⟨b, by omega⟩ hb.1
  have ht := takeP_stop (fitB b) 4096 (placesP m b) R (fun c hc => (f3 c hc).1) (by omega) hst
  have hn : numberQ (dv v) 4096 (placesP m b ++ R) = (⟨2, 0, m, []⟩, 0, (placesP m b).length, 0) := by
    have hv100 : ¬ v = 100 := by rcases hv with ⟨rfl, _⟩ | ⟨rfl, _⟩ | ⟨rfl, _⟩ <;> decide
    have hs : sgnQ (dv v) (placesP m b ++ R) = ⟨[], placesP m b ++ R, false⟩ := if_neg hv100
    have hd : (digQ (dv v) 4096 (placesP m b ++ R)).s = placesP m b := by
      unfold digQ
      rw [hs]
      show (if (0 : Nat) < 4096 then takeP (fitB (baseQ v)) 4096 (placesP m b ++ R) else _).s = _
      rw [if_pos (by omega), hb.2.2]
      exact ht
    unfold numberQ
    simp only
    rw [hd, hs, if_neg f1, show (dv v).verb = v from rfl, hb.2.2, f4]
    simp only [ne_eq, not_true_eq_false, if_false, List.length_nil, Nat.zero_add]
    rw [if_pos hv100]
  unfold oneQ
  rw [if_neg (by rcases hv with ⟨rfl, _⟩ | ⟨rfl, _⟩ | ⟨rfl, _⟩ <;> decide), if_neg (by rcases hv with ⟨rfl, _⟩ | ⟨rfl, _⟩ | ⟨rfl, _⟩ <;> decide), if_neg (by rcases hv with ⟨rfl, _⟩ | ⟨rfl, _⟩ | ⟨rfl, _⟩ <;> decide), hsk, if_neg (by simp only [List.length_append]; omega), if_neg (by rcases hv with ⟨rfl, _⟩ | ⟨rfl, _⟩ | ⟨rfl, _⟩ <;> decide)]
  have hmo : mostQ (dv v) = 4096 := rfl
  simp only [List.drop_zero, hmo, hn, Nat.zero_add]
def intT (n : Int) : List UInt8 := (if n < 0 then [45] else []) ++ placesP n.natAbs 10
theorem one_int (n : Int) (h1 : -9223372036854775808 ≤ n) (h2 : n ≤ 9223372036854775807) (R : List UInt8) (hR : R = [] ∨ ∃ r, R = 32 :: r) :
    oneQ (dv 100) (intT n ++ R) = (⟨1, n, 0, []⟩, 0, (intT n).length, 0) := by
  obtain ⟨f1, f2, f3, j, f4⟩ := places_facts n.natAbs 10 (by omega) (by omega) (by omega)
  have hst : stops (fitB 10) R := by
    rcases hR with rfl | ⟨r, rfl⟩
    · trivial
    · exact blank_fit ⟨10, by omega⟩ (show 2 ≤ 10 by decide)
  have hneT : intT n ≠ [] := by unfold intT; simp [f1]
  have hbl : ∀ c, c ∈ intT n → isBlank c = false := by
    intro c hc
    unfold intT at hc
    rcases List.mem_append.1 hc with hc | hc
    · split at hc
      · rw [List.mem_singleton.1 hc]; rfl
      · simp at hc
    · exact (f3 c hc).2.1
  have hsk := skip_none hneT hbl R
  have hpos : 0 < (intT n).length := List.length_pos_iff.2 hneT
  have hn : numberQ (dv 100) 4096 (intT n ++ R) = (⟨1, n, 0, []⟩, 0, (intT n).length, 0) := by
    have hb10 : baseQ (dv 100).verb = 10 := rfl
    have hv : (dv 100).verb = 100 := rfl
    by_cases hneg : n < 0
    · have hT : intT n = 45 :: placesP n.natAbs 10 := by unfold intT; rw [if_pos hneg]; rfl
      have hs : sgnQ (dv 100) (intT n ++ R) = ⟨[45], placesP n.natAbs 10 ++ R, false⟩ := by
        rw [hT]; rfl
      have hd : (digQ (dv 100) 4096 (intT n ++ R)).s = placesP n.natAbs 10 := by
        unfold digQ
        rw [hs, hT]
        show (if (1 : Nat) < 4096 then takeP (fitB 10) (4096 - 1) (placesP n.natAbs 10 ++ R) else _).s = _
        rw [if_pos (by omega)]
        exact takeP_stop (fitB 10) 4095 _ R (fun c hc => (f3 c hc).1) (by omega) hst
      unfold numberQ
      simp only
      rw [hd, hs, if_neg f1, hb10, f4, hv]
      simp only [ne_eq, not_true_eq_false, if_false, and_false, or_false, if_true]
      rw [if_neg (by omega), hT]
      simp only [List.length_cons, List.length_nil]
      have e1 : -((n.natAbs : Nat) : Int) = n := by omega
      rw [e1]
      congr 3
      omega
    · have hT : intT n = placesP n.natAbs 10 := by unfold intT; rw [if_neg hneg]; rfl
      have hs : sgnQ (dv 100) (intT n ++ R) = ⟨[], intT n ++ R, false⟩ := by
        rw [hT]
        cases hp : placesP n.natAbs 10 with
        | nil => exact absurd hp f1
        | cons c D =>
          have hc := (f3 c (by rw [hp]; exact List.mem_cons_self)).2.2
          show takeP isSign 1 (c :: (D ++ R)) = _
          simp only [takeP]
          rw [if_neg (by rw [hc]; simp)]
          rfl
      have hd : (digQ (dv 100) 4096 (intT n ++ R)).s = placesP n.natAbs 10 := by
        unfold digQ
        rw [hs, hT]
        show (if (0 : Nat) < 4096 then takeP (fitB 10) 4096 (placesP n.natAbs 10 ++ R) else _).s = _
        rw [if_pos (by omega)]
        exact takeP_stop (fitB 10) 4096 _ R (fun c hc => (f3 c hc).1) (by omega) hst
      unfold numberQ
      simp only
      rw [hd, hs, if_neg f1, hb10, f4, hv]
      have hne45 : ¬ ([] : List UInt8) = [45] := by simp
      simp only [ne_eq, not_true_eq_false, if_false, hne45, not_false_eq_true, and_true]
      rw [if_neg (by omega), hT]
      simp only [List.length_nil, Nat.zero_add]
      have e1 : ((n.natAbs : Nat) : Int) = n := by omega
      rw [e1]
  unfold oneQ
  rw [if_neg (by decide), if_neg (by decide), if_neg (by decide), hsk, if_neg (by simp only [List.length_append]; omega), if_neg (by decide)]
  have hmo : mostQ (dv 100) = 4096 := rfl
  simp only [List.drop_zero, hmo, hn, Nat.zero_add]
theorem one_text (s : List UInt8) (hs : s ≠ []) (hb : ∀ c, c ∈ s → isBlank c = false) (hl : s.length ≤ 4096) (R : List UInt8) (hR : R = [] ∨ ∃ r, R = 32 :: r) :
    oneQ (dv 115) (s ++ R) = (⟨4, 0, 0, s⟩, 0, s.length, 0) := by
  have hsk := skip_none hs hb R
  have hpos : 0 < s.length := List.length_pos_iff.2 hs
  have hst : stops (fun c => !isBlank c) R := by
    rcases hR with rfl | ⟨r, rfl⟩
    · trivial
    · rfl
  have ht := takeP_stop (fun c => !isBlank c) 4096 s R (fun c hc => by rw [hb c hc]; rfl) hl hst
  unfold oneQ
  rw [if_neg (by decide), if_neg (by decide), if_neg (by decide), hsk, if_neg (by simp only [List.length_append]; omega), if_pos (by decide)]
  have hmo : mostQ (dv 115) = 4096 := rfl
  simp only [List.drop_zero, hmo, ht]
  rw [if_neg hs]
  simp only [Nat.zero_add]
theorem one_sp (D : List UInt8) (hne : D ≠ []) (h : ∀ c, c ∈ D → isBlank c = false) (R : List UInt8) : oneQ (dv 32) (32 :: (D ++ R)) = (noArg, 0, 1, 0) := by
  have hs : skipP (32 :: (D ++ R)) = 1 := by
    have := skip_none hne h R
    simp only [skipP]
    rw [if_pos (by decide), this]
  unfold oneQ
  rw [if_neg (by decide), if_pos (by decide), hs]
end Go.Proofs.YtlajpggoncelhaaDoor
/- ScanBack, the plain law, joined: the text that is formatted, and what is read of it. -/
namespace Go.Proofs.YtlajpggoncelhaaDoor
open Go Go.Eng
set_option maxHeartbeats 4000000
set_option linter.unusedSimpArgs false
set_option linter.unusedVariables false
set_option maxRecDepth 100000

def patB : List UInt8 := [37, 100, 32, 37, 120, 32, 37, 115, 32, 37, 117, 32, 37, 111]
def argsB (n : Int) (m : Nat) (s : List UInt8) (k : Nat) : List AV := [⟨1, n, 0, []⟩, ⟨2, 0, m, []⟩, ⟨4, 0, 0, s⟩, ⟨2, 0, k, []⟩, ⟨2, 0, m, []⟩]
def textB (n : Int) (m : Nat) (s : List UInt8) (k : Nat) : List UInt8 := intT n ++ [32] ++ placesP m 16 ++ [32] ++ s ++ [32] ++ placesP k 10 ++ [32] ++ placesP m 8
def dB (v : UInt8) : Dir := ⟨[], 0, -1, v, 2⟩
theorem dB_v (v : UInt8) : (dB v).verb = v := rfl
theorem dB_p (v : UInt8) : (dB v).prec = -1 := rfl
theorem dB_f (v : UInt8) : (dB v).flags = [] := rfl
theorem dB_w (v : UInt8) : (dB v).width = 0 := rfl
theorem layP_dB (v : UInt8) (a b : List UInt8) : layP (dB v) a b = a ++ b := by
  unfold layP
  simp [dB]
theorem fillP_dB (v : UInt8) (x : AV) : fillP (dB v) x = placesP (magP (dB v) x) (baseP v) := by
  unfold fillP barP
  rw [dB_p, dB_v, if_neg (by simp)]
  rw [show ((-1 : Int) - ((placesP (magP (dB v) x) (baseP v)).length : Int)).toNat = 0 by omega]
  rfl
theorem textP_num (v : UInt8) (m : Nat) (hv : v ≠ 100 ∧ v ≠ 88 ∧ v ≠ 99 ∧ v ≠ 115) : textP (dB v) ⟨2, 0, m, []⟩ = placesP m (baseP v) := by
  unfold textP coreP signP digitsP
  rw [layP_dB, fillP_dB]
  unfold magP
  obtain ⟨h1, h8, h9, h5⟩ := hv
  simp only [dB_v, h1, h8, h9, h5, if_false, Int.toNat_natCast]
  rfl
theorem textP_int (n : Int) : textP (dB 100) ⟨1, n, 0, []⟩ = intT n := by
  have h9 : ¬ (100 : UInt8) = 99 := by decide
  have h5 : ¬ (100 : UInt8) = 115 := by decide
  have h8 : ¬ (100 : UInt8) = 88 := by decide
  unfold textP coreP signP digitsP
  rw [layP_dB, fillP_dB]
  unfold magP
  simp only [dB_v, dB_f, h9, h5, h8, if_true, if_false, List.contains_nil, Bool.false_eq_true]
  rfl
theorem textP_text (s : List UInt8) : textP (dB 115) ⟨4, 0, 0, s⟩ = s := by
  have h9 : ¬ (115 : UInt8) = 99 := by decide
  have hp : ¬ (0 : Int) ≤ -1 := by decide
  unfold textP coreP
  rw [layP_dB]
  simp only [dB_v, dB_p, h9, hp, if_true, if_false, List.nil_append]
theorem formatP_back (n : Int) (m k : Nat) (s : List UInt8) (hm : m < 18446744073709551616) (hk : k < 18446744073709551616) (h1 : -9223372036854775808 ≤ n) (h2 : n ≤ 9223372036854775807) (hl : s.length ≤ 4096) :
    formatP patB (argsB n m s k) = (textB n m s k, 0, 14) ∧ (textB n m s k).length ≤ 5000 := by
  obtain ⟨_, l1, _, _⟩ := places_facts n.natAbs 10 (by omega) (by omega) (by omega)
  obtain ⟨_, l2, _, _⟩ := places_facts m 16 hm (by omega) (by omega)
  obtain ⟨_, l3, _, _⟩ := places_facts k 10 hk (by omega) (by omega)
  obtain ⟨_, l4, _, _⟩ := places_facts m 8 hm (by omega) (by omega)
  have l0 : (intT n).length ≤ 65 := by
    unfold intT
    rw [List.length_append]
    split <;> simp <;> omega
  have p1 : parseP [100, 32, 37, 120, 32, 37, 115, 32, 37, 117, 32, 37, 111] = some (dB 100) := rfl
  have p2 : parseP [120, 32, 37, 115, 32, 37, 117, 32, 37, 111] = some (dB 120) := rfl
  have p3 : parseP [115, 32, 37, 117, 32, 37, 111] = some (dB 115) := rfl
  have p4 : parseP [117, 32, 37, 111] = some (dB 117) := rfl
  have p5 : parseP [111] = some (dB 111) := rfl
  have t2 := textP_num 120 m (by decide)
  have t4 := textP_num 117 k (by decide)
  have t5 := textP_num 111 m (by decide)
  have t1 := textP_int n
  have t3 := textP_text s
  have b2 : baseP 120 = 16 := rfl
  have b4 : baseP 117 = 10 := rfl
  have b5 : baseP 111 = 8 := rfl
  rw [b2] at t2
  rw [b4] at t4
  rw [b5] at t5
  refine ⟨?_, by unfold textB; simp only [List.length_append, List.length_cons, List.length_nil]; omega⟩
  unfold formatP patB argsB
  rw [if_neg (by decide)]
  show fmtF 15 0 (37 :: _) _ [] = _
  rw [fmtF_arg p1 (by decide), if_pos (by simp [fitP, dB, wantsP]), t1, if_neg (by simp only [List.length_nil]; omega)]
  show fmtF 14 (0 + 2) (32 :: _) _ _ = _
  rw [fmtF_plain (by decide), if_neg (by simp only [List.length_append, List.length_cons, List.length_nil]; omega)]
  rw [fmtF_arg p2 (by decide), if_pos (by simp [fitP, dB, wantsP]), t2, if_neg (by simp only [List.length_append, List.length_cons, List.length_nil]; omega)]
  show fmtF 12 (0 + 2 + 1 + 2) (32 :: _) _ _ = _
  rw [fmtF_plain (by decide), if_neg (by simp only [List.length_append, List.length_cons, List.length_nil]; omega)]
  rw [fmtF_arg p3 (by decide), if_pos (by simp [fitP, dB, wantsP]), t3, if_neg (by simp only [List.length_append, List.length_cons, List.length_nil]; omega)]
  show fmtF 10 (0 + 2 + 1 + 2 + 1 + 2) (32 :: _) _ _ = _
  rw [fmtF_plain (by decide), if_neg (by simp only [List.length_append, List.length_cons, List.length_nil]; omega)]
  rw [fmtF_arg p4 (by decide), if_pos (by simp [fitP, dB, wantsP]), t4, if_neg (by simp only [List.length_append, List.length_cons, List.length_nil]; omega)]
  show fmtF 8 (0 + 2 + 1 + 2 + 1 + 2 + 1 + 2) (32 :: _) _ _ = _
  rw [fmtF_plain (by decide), if_neg (by simp only [List.length_append, List.length_cons, List.length_nil]; omega)]
  rw [fmtF_arg p5 (by decide), if_pos (by simp [fitP, dB, wantsP]), t5, if_neg (by simp only [List.length_append, List.length_cons, List.length_nil]; omega)]
  show fmtF 6 _ [] [] _ = _
  simp only [fmtF, List.length_nil, if_true, List.nil_append]
  rfl
theorem partsB : partsP patB = ([dv 100, dv 32, dv 120, dv 32, dv 115, dv 32, dv 117, dv 32, dv 111], 0, 14) := by decide +kernel
theorem allQ_back (n : Int) (m k : Nat) (s : List UInt8) (hm : m < 18446744073709551616) (hk : k < 18446744073709551616) (h1 : -9223372036854775808 ≤ n) (h2 : n ≤ 9223372036854775807) (hl : s.length ≤ 4096) (hs : s ≠ []) (hb : ∀ c, c ∈ s → isBlank c = false) :
    allQ (textB n m s k) (partsP patB).1 0 [] = (argsB n m s k, 0, (textB n m s k).length) := by
  obtain ⟨n1, l1, f1, _⟩ := places_facts n.natAbs 10 (by omega) (by omega) (by omega)
  obtain ⟨n2, l2, f2, _⟩ := places_facts m 16 hm (by omega) (by omega)
  obtain ⟨n3, l3, f3, _⟩ := places_facts k 10 hk (by omega) (by omega)
  obtain ⟨n4, l4, f4, _⟩ := places_facts m 8 hm (by omega) (by omega)
  rw [partsB]
  have e : textB n m s k = intT n ++ (32 :: (placesP m 16 ++ (32 :: (s ++ (32 :: (placesP k 10 ++ (32 :: (placesP m 8 ++ [])))))))) := by unfold textB; simp
  have key : ∀ (A B : List UInt8) (j : Nat), j = A.length → (A ++ B).drop j = B := fun A B j h => by rw [h]; simp
  have q1 := one_int n h1 h2 (32 :: (placesP m 16 ++ (32 :: (s ++ (32 :: (placesP k 10 ++ (32 :: (placesP m 8 ++ [])))))))) (.inr ⟨_, rfl⟩)
  have q2 := one_sp (placesP m 16) n2 (fun c hc => (f2 c hc).2.1) (32 :: (s ++ (32 :: (placesP k 10 ++ (32 :: (placesP m 8 ++ []))))))
  have q3 := one_num 120 16 m (by decide) hm (32 :: (s ++ (32 :: (placesP k 10 ++ (32 :: (placesP m 8 ++ [])))))) (.inr ⟨_, rfl⟩)
  have q4 := one_sp s hs hb (32 :: (placesP k 10 ++ (32 :: (placesP m 8 ++ []))))
  have q5 := one_text s hs hb hl (32 :: (placesP k 10 ++ (32 :: (placesP m 8 ++ [])))) (.inr ⟨_, rfl⟩)
  have q6 := one_sp (placesP k 10) n3 (fun c hc => (f3 c hc).2.1) (32 :: (placesP m 8 ++ []))
  have q7 := one_num 117 10 k (by decide) hk (32 :: (placesP m 8 ++ [])) (.inr ⟨_, rfl⟩)
  have q8 := one_sp (placesP m 8) n4 (fun c hc => (f4 c hc).2.1) []
  have q9 := one_num 111 8 m (by decide) hm [] (.inl rfl)
  have step : ∀ (l L : List UInt8) (p : PartP) (r : List PartP) (j : Nat) (out : List AV) (A : AV) (d : Nat) (z : Int), l.drop j = L → oneQ p L = (A, 0, d, z) → allQ l (p :: r) j out = allQ l r (j + d) (if p.tells then out ++ [A] else out) := by
    intro l L p r j out A d z h1 h2
    simp only [allQ]
    rw [h1, h2, if_neg (by simp)]
  have drop : ∀ (l A B : List UInt8) (j : Nat), l.drop j = A ++ B → l.drop (j + A.length) = B := by
    intro l A B j h
    rw [← List.drop_drop, h]
    simp
  have drop1 : ∀ (l B : List UInt8) (c : UInt8) (j : Nat), l.drop j = c :: B → l.drop (j + 1) = B := by
    intro l B c j h
    rw [← List.drop_drop, h]
    rfl
  have d0 : (textB n m s k).drop 0 = intT n ++ (32 :: (placesP m 16 ++ (32 :: (s ++ (32 :: (placesP k 10 ++ (32 :: (placesP m 8 ++ [])))))))) := by rw [List.drop_zero]; exact e
  have d1 := drop _ _ _ _ d0
  have d2 := drop1 _ _ _ _ d1
  have d3 := drop _ _ _ _ d2
  have d4 := drop1 _ _ _ _ d3
  have d5 := drop _ _ _ _ d4
  have d6 := drop1 _ _ _ _ d5
  have d7 := drop _ _ _ _ d6
  have d8 := drop1 _ _ _ _ d7
  have t0 : (dv 32).tells = false := rfl
  have t1 : (dv 100).tells = true := rfl
  have t2 : (dv 120).tells = true := rfl
  have t3 : (dv 115).tells = true := rfl
  have t4 : (dv 117).tells = true := rfl
  have t5 : (dv 111).tells = true := rfl
  rw [step _ _ _ _ _ _ _ _ _ d0 q1, step _ _ _ _ _ _ _ _ _ d1 q2, step _ _ _ _ _ _ _ _ _ d2 q3, step _ _ _ _ _ _ _ _ _ d3 q4, step _ _ _ _ _ _ _ _ _ d4 q5, step _ _ _ _ _ _ _ _ _ d5 q6, step _ _ _ _ _ _ _ _ _ d6 q7, step _ _ _ _ _ _ _ _ _ d7 q8, step _ _ _ _ _ _ _ _ _ d8 q9]
  simp only [t0, t1, t2, t3, t4, t5, if_true, Bool.false_eq_true, if_false, allQ]
  unfold argsB
  rw [e]
  simp only [List.length_append, List.length_cons, List.length_nil, List.nil_append, List.cons_append, Prod.mk.injEq, true_and]
  omega
end Go.Proofs.YtlajpggoncelhaaDoor
/- ScanBack: values that were formatted, with a blank between, are read again. -/
namespace Go.Proofs.YtlajpggoncelhaaDoor
open Go Go.Eng
set_option maxHeartbeats 4000000
set_option linter.unusedSimpArgs false
set_option linter.unusedVariables false
set_option maxRecDepth 100000

def wordP (s : List UInt8) : Bool := s.all (fun c => !isBlank c) && decide (s ≠ []) && decide (s.length ≤ 4096)
theorem word_c (s : List UInt8) (hs : s.length ≤ 9223372036854775807) : Contract Tryd.prog 5 nilSS [.s (bs s)] (fun sv post => sv = .b (wordP s) ∧ post = nilSS) := by
  refine contract_ev Γok Tryd.func5 rfl rfl [] ?_
  simp (maxSteps := 4000000) only [push_cast, Int.reduceEq, Int.reduceBNe, Int.reduceBEq, Int.reduceAdd, Int.reduceSub, Int.reduceMul, Int.reduceNeg, Int.reduceLT, Int.reduceLE, Int.reduceToNat, Nat.reduceLT, Nat.reduceAdd, Nat.reduceSub, Nat.reduceMul, Nat.reduceEqDiff, Nat.reduceLeDiff, Nat.reduceBEq, reduceIte, reduceCtorEq, Tryd.f5]
  refine loop_ok (ι := {i : Nat // i ≤ s.length ∧ (s.take i).all (fun c => !isBlank c) = true}) (fun i => ⟨[.s (bs s), .any, .any, .i .i64 i.1] ++ List.replicate 29 .any, [], [], [], 0, 0, []⟩) (fun i => s.length - i.1) ⟨0, by omega, by simp⟩ ?_ ?_
  · refine Sub.w [] ?_
    simp (maxSteps := 4000000) only [push_cast, Int.reduceEq, Int.reduceBNe, Int.reduceBEq, Int.reduceAdd, Int.reduceSub, Int.reduceMul, Int.reduceNeg, Int.reduceLT, Int.reduceLE, Int.reduceToNat, Nat.reduceLT, Nat.reduceAdd, Nat.reduceSub, Nat.reduceMul, Nat.reduceEqDiff, Nat.reduceLeDiff, Nat.reduceBEq, reduceIte, reduceCtorEq]
  rintro ⟨i, h1, h2⟩
  refine evCode_sound Γok _ _ _ ?_
  simp (maxSteps := 4000000) only [push_cast, Int.reduceEq, Int.reduceBNe, Int.reduceBEq, Int.reduceAdd, Int.reduceSub, Int.reduceMul, Int.reduceNeg, Int.reduceLT, Int.reduceLE, Int.reduceToNat, Nat.reduceLT, Nat.reduceAdd, Nat.reduceSub, Nat.reduceMul, Nat.reduceEqDiff, Nat.reduceLeDiff, Nat.reduceBEq, reduceIte, reduceCtorEq, bs_size, bs_at, Int.toNat_natCast, mk_bs, bs_tl]
  refine ⟨fun h => ?_, fun h => ?_⟩
  · have hlt : i < s.length := by omega
    have hg : (s[i]?).getD 0 = s[i] := by rw [List.getElem?_eq_getElem hlt]; rfl
    rw [hg]
    generalize hc : s[i] = c
    have c32 : ((c.toNat : Int) = 32) = (c = 32) := propext (u8iY c 32)
    have c9 : ((c.toNat : Int) = 9) = (c = 9) := propext (u8iY c 9)
    have c10 : ((c.toNat : Int) = 10) = (c = 10) := propext (u8iY c 10)
    rw [c32, c9, c10]
    have hbl : isBlank c = true ↔ (c = 32 ∨ c = 9) ∨ c = 10 := by
      unfold isBlank
      simp only [Bool.or_eq_true, decide_eq_true_eq]
      exact ⟨fun q => by rcases q with (q | q) | q <;> simp [q], fun q => by rcases q with (q | q) | q <;> simp [q]⟩
    refine ⟨⟨by omega, by omega⟩, fun _ => ⟨by omega, by omega⟩, fun _ => ⟨by omega, by omega⟩, fun h3 => ?_, fun h3 => ?_⟩
    · have hw : wordP s = false := by
        have : s.all (fun c => !isBlank c) = false := by
          rw [List.all_eq_false]
          exact ⟨c, by rw [← hc]; exact List.getElem_mem hlt, by rw [hbl.2 h3]; simp⟩
        unfold wordP
        rw [this]; rfl
      exact Fin.w [] (.b false) nilSS (by simp (maxSteps := 4000000) only [push_cast, Int.reduceEq, Int.reduceBNe, Int.reduceBEq, Int.reduceAdd, Int.reduceSub, Int.reduceMul, Int.reduceNeg, Int.reduceLT, Int.reduceLE, Int.reduceToNat, Nat.reduceLT, Nat.reduceAdd, Nat.reduceSub, Nat.reduceMul, Nat.reduceEqDiff, Nat.reduceLeDiff, Nat.reduceBEq, reduceIte, reduceCtorEq]) ⟨by rw [hw], rfl⟩
    · have hnb : isBlank c = false := by
        rcases hx : isBlank c with _ | _
        · rfl
        · have := hbl.1 hx
          exfalso
          rcases this with (q | q) | q
          · exact h3.1.1 q
          · exact h3.1.2 q
          · exact h3.2 q
      refine ⟨⟨i + 1, hlt, ?_⟩, by show s.length - (i + 1) < s.length - i; omega, Sub.w [] ?_⟩
      · rw [List.take_succ_eq_append_getElem hlt, List.all_append, h2, hc]
        simp [hnb]
      · simp (maxSteps := 4000000) only [push_cast, Int.reduceEq, Int.reduceBNe, Int.reduceBEq, Int.reduceAdd, Int.reduceSub, Int.reduceMul, Int.reduceNeg, Int.reduceLT, Int.reduceLE, Int.reduceToNat, Nat.reduceLT, Nat.reduceAdd, Nat.reduceSub, Nat.reduceMul, Nat.reduceEqDiff, Nat.reduceLeDiff, Nat.reduceBEq, reduceIte, reduceCtorEq]
        exact (wrap64 (n := (i : Int) + 1) (by omega) (by omega)).symm
  · obtain rfl : i = s.length := by omega
    rw [List.take_length] at h2
    have hw : wordP s = (decide (s ≠ []) && decide ((s.length : Int) ≤ 4096)) := by
      unfold wordP
      rw [h2, Bool.true_and]
      congr 1
      rw [decide_eq_decide]
      omega
    have he : (!((bs s).toList == (bs []).toList)) = decide (s ≠ []) := by
      rw [bs_beq]
      cases s <;> simp
    rw [he, ← hw]
    exact Fin.w [] (.b (wordP s)) nilSS (by simp (maxSteps := 4000000) only [push_cast, Int.reduceEq, Int.reduceBNe, Int.reduceBEq, Int.reduceAdd, Int.reduceSub, Int.reduceMul, Int.reduceNeg, Int.reduceLT, Int.reduceLE, Int.reduceToNat, Nat.reduceLT, Nat.reduceAdd, Nat.reduceSub, Nat.reduceMul, Nat.reduceEqDiff, Nat.reduceLeDiff, Nat.reduceBEq, reduceIte, reduceCtorEq]) ⟨rfl, rfl⟩
theorem argElQ_at2H : ∀ (s : List AV) (t : Nat) (a : AV), s[t]? = some a → List.map (argElQ s t) (List.range 4) = argQ a
  | [], t, a, h => by simp at h
  | c :: s, 0, a, h => by
    simp only [List.getElem?_cons_zero, Option.some.injEq] at h
    subst h
    rfl
  | c :: s, t + 1, a, h => argElQ_at2H s t a (by rw [List.getElem?_cons_succ] at h; exact h)
theorem argq_eq2H : eqPlain Tryd.prog 26 = true := by kernel_rfl
theorem baq_self2H (x : ByteArray) : (x == x) = true := by
  rw [show (x == x) = (x.data == x.data) from rfl, beq_iff_eq]
theorem sameArgsH_c (args : List AV) (hl : args.length ≤ 140737488355328) : Contract Tryd.prog 12 nilSS [.sl 4 .old args.length (argElQ args), .sl 4 .old args.length (argElQ args)] (fun sv post => sv = .b true ∧ post = nilSS) := by
  refine contract_ev Γok Tryd.func12 rfl rfl [] ?_
  simp (maxSteps := 4000000) only [push_cast, Int.reduceEq, Int.reduceBNe, Int.reduceBEq, Int.reduceAdd, Int.reduceSub, Int.reduceMul, Int.reduceNeg, Int.reduceLT, Int.reduceLE, Int.reduceToNat, Nat.reduceLT, Nat.reduceAdd, Nat.reduceSub, Nat.reduceMul, Nat.reduceEqDiff, Nat.reduceLeDiff, Nat.reduceBEq, reduceIte, reduceCtorEq, Tryd.f12]
  refine loop_ok (ι := {i : Nat // i ≤ args.length}) (fun i => ⟨[.sl 4 .old args.length (argElQ args), .sl 4 .old args.length (argElQ args), .any, .any, .any, .i .i64 i.1] ++ List.replicate 20 .any, [], [], [], 0, 0, []⟩) (fun i => args.length - i.1) ⟨0, Nat.zero_le _⟩ ?_ ?_
  · refine Sub.w [] ?_
    simp (maxSteps := 4000000) only [push_cast, Int.reduceEq, Int.reduceBNe, Int.reduceBEq, Int.reduceAdd, Int.reduceSub, Int.reduceMul, Int.reduceNeg, Int.reduceLT, Int.reduceLE, Int.reduceToNat, Nat.reduceLT, Nat.reduceAdd, Nat.reduceSub, Nat.reduceMul, Nat.reduceEqDiff, Nat.reduceLeDiff, Nat.reduceBEq, reduceIte, reduceCtorEq]
    exact fun i _ j _ => W_argQ _ args i j
  · rintro ⟨i, hi⟩
    refine evCode_sound Γok _ _ _ ?_
    simp (maxSteps := 4000000) only [push_cast, Int.reduceEq, Int.reduceBNe, Int.reduceBEq, Int.reduceAdd, Int.reduceSub, Int.reduceMul, Int.reduceNeg, Int.reduceLT, Int.reduceLE, Int.reduceToNat, Nat.reduceLT, Nat.reduceAdd, Nat.reduceSub, Nat.reduceMul, Nat.reduceEqDiff, Nat.reduceLeDiff, Nat.reduceBEq, reduceIte, reduceCtorEq]
    refine ⟨fun h2 => ?_, fun h2 => ?_⟩
    · have hi2 : i < args.length := by omega
      have hmap : List.map (argElQ args ((i : Int)).toNat) (List.range 4) = argQ args[i] := by
        rw [Int.toNat_natCast]
        exact argElQ_at2H args i args[i] (List.getElem?_eq_getElem hi2)
      generalize args[i] = a at hmap
      refine (region_plan rfl Γok mixed (.pure 0 (.pure 1 (.pure 2 (.pure 3 (.pure 4 (.pure 5 (.pure 6 (.pure 7 (.eff (.cons 8 [] .done .nil)))))))))) 26 rfl (by kernel_rfl) ?_)
      simp (maxSteps := 4000000) only [push_cast, Int.reduceEq, Int.reduceBNe, Int.reduceBEq, Int.reduceAdd, Int.reduceSub, Int.reduceMul, Int.reduceNeg, Int.reduceLT, Int.reduceLE, Int.reduceToNat, Nat.reduceLT, Nat.reduceAdd, Nat.reduceSub, Nat.reduceMul, Nat.reduceEqDiff, Nat.reduceLeDiff, Nat.reduceBEq, reduceIte, reduceCtorEq, hmap, argQ, argq_eq2H, baq_self2H]
      refine ⟨by omega, by omega, ⟨i + 1, hi2⟩, by show args.length - (i + 1) < args.length - i; omega, Sub.w [] ?_⟩
      simp (maxSteps := 4000000) only [push_cast, Int.reduceEq, Int.reduceBNe, Int.reduceBEq, Int.reduceAdd, Int.reduceSub, Int.reduceMul, Int.reduceNeg, Int.reduceLT, Int.reduceLE, Int.reduceToNat, Nat.reduceLT, Nat.reduceAdd, Nat.reduceSub, Nat.reduceMul, Nat.reduceEqDiff, Nat.reduceLeDiff, Nat.reduceBEq, reduceIte, reduceCtorEq]
      refine ⟨fun i _ j _ => W_argQ _ args i j, fun i _ j _ => W_argQ _ args i j, ?_⟩
      exact (wrap64 (n := (i : Int) + 1) (by omega) (by omega)).symm
    · exact Fin.nil rfl (psv := .b true) rfl ⟨rfl, rfl⟩
theorem argc_q (a : AV) : argC a = argQ a := rfl
theorem scanBack_c (n m : Int) (s : ByteArray) (k : Int) (hs : s.size ≤ 9223372036854775807) (hn0 : -9223372036854775808 ≤ n) (hn1 : n ≤ 9223372036854775807) (hm0 : 0 ≤ m) (hm1 : m ≤ 18446744073709551615) (hk0 : 0 ≤ k) (hk1 : k ≤ 18446744073709551615) :
    Contract Tryd.prog 3 nilSS [.i .i64 n, .i .u64 m, .s s, .i .u64 k] (fun sv post => sv = .b true ∧ post = nilSS) := by
  rw [← bs_of s]
  have hs' : s.data.toList.length ≤ 9223372036854775807 := hs
  generalize s.data.toList = t at hs' ⊢
  clear hs
  obtain ⟨m, rfl⟩ : ∃ m' : Nat, m = m' := ⟨m.toNat, by omega⟩
  obtain ⟨k, rfl⟩ : ∃ k' : Nat, k = k' := ⟨k.toNat, by omega⟩
  refine contract_of Γok Tryd.func3 rfl rfl (stop := []) ?_
  refine evCode_sound Γok _ _ _ ?_
  simp (maxSteps := 4000000) only [push_cast, Int.reduceEq, Int.reduceBNe, Int.reduceBEq, Int.reduceAdd, Int.reduceSub, Int.reduceMul, Int.reduceNeg, Int.reduceLT, Int.reduceLE, Int.reduceToNat, Nat.reduceLT, Nat.reduceAdd, Nat.reduceSub, Nat.reduceMul, Nat.reduceEqDiff, Nat.reduceLeDiff, Nat.reduceBEq, reduceIte, reduceCtorEq, Tryd.f3]
  refine call_w alive18_c [] (by simp (maxSteps := 4000000) only [push_cast, Int.reduceEq, Int.reduceBNe, Int.reduceBEq, Int.reduceAdd, Int.reduceSub, Int.reduceMul, Int.reduceNeg, Int.reduceLT, Int.reduceLE, Int.reduceToNat, Nat.reduceLT, Nat.reduceAdd, Nat.reduceSub, Nat.reduceMul, Nat.reduceEqDiff, Nat.reduceLeDiff, Nat.reduceBEq, reduceIte, reduceCtorEq]) ?_
  rintro sv post ⟨rfl, rfl⟩
  simp (maxSteps := 4000000) only [push_cast, Int.reduceEq, Int.reduceBNe, Int.reduceBEq, Int.reduceAdd, Int.reduceSub, Int.reduceMul, Int.reduceNeg, Int.reduceLT, Int.reduceLE, Int.reduceToNat, Nat.reduceLT, Nat.reduceAdd, Nat.reduceSub, Nat.reduceMul, Nat.reduceEqDiff, Nat.reduceLeDiff, Nat.reduceBEq, reduceIte, reduceCtorEq]
  refine call_w (word_c t hs') [] (by simp (maxSteps := 4000000) only [push_cast, Int.reduceEq, Int.reduceBNe, Int.reduceBEq, Int.reduceAdd, Int.reduceSub, Int.reduceMul, Int.reduceNeg, Int.reduceLT, Int.reduceLE, Int.reduceToNat, Nat.reduceLT, Nat.reduceAdd, Nat.reduceSub, Nat.reduceMul, Nat.reduceEqDiff, Nat.reduceLeDiff, Nat.reduceBEq, reduceIte, reduceCtorEq]) ?_
  rintro sv post ⟨rfl, rfl⟩
  simp (maxSteps := 4000000) only [push_cast, Int.reduceEq, Int.reduceBNe, Int.reduceBEq, Int.reduceAdd, Int.reduceSub, Int.reduceMul, Int.reduceNeg, Int.reduceLT, Int.reduceLE, Int.reduceToNat, Nat.reduceLT, Nat.reduceAdd, Nat.reduceSub, Nat.reduceMul, Nat.reduceEqDiff, Nat.reduceLeDiff, Nat.reduceBEq, reduceIte, reduceCtorEq]
  refine ⟨fun _ => Fin.w [] (.b true) nilSS (by simp (maxSteps := 4000000) only [push_cast, Int.reduceEq, Int.reduceBNe, Int.reduceBEq, Int.reduceAdd, Int.reduceSub, Int.reduceMul, Int.reduceNeg, Int.reduceLT, Int.reduceLE, Int.reduceToNat, Nat.reduceLT, Nat.reduceAdd, Nat.reduceSub, Nat.reduceMul, Nat.reduceEqDiff, Nat.reduceLeDiff, Nat.reduceBEq, reduceIte, reduceCtorEq]) ⟨rfl, rfl⟩, fun hw => ?_⟩
  obtain ⟨hw1, hw2, hw3⟩ : (∀ c, c ∈ t → isBlank c = false) ∧ t ≠ [] ∧ t.length ≤ 4096 := by
    unfold wordP at hw
    simp only [Bool.and_eq_true, decide_eq_true_eq, List.all_eq_true, Bool.not_eq_true'] at hw
    exact ⟨hw.1.1, hw.1.2, hw.2⟩
  obtain ⟨f1, f2⟩ := formatP_back n m k t (by omega) (by omega) hn0 hn1 hw3
  have f3 := allQ_back n m k t (by omega) (by omega) hn0 hn1 hw3 hw2 hw1
  have hargs : ArgsOK (argsB n m t k) := by
    refine ⟨fun a ha => ?_, by simp [argsB]⟩
    simp only [argsB, List.mem_cons, List.not_mem_nil, or_false] at ha
    rcases ha with rfl | rfl | rfl | rfl | rfl
    · exact ⟨⟨hn0, hn1, by simp, by simp⟩, by simp⟩
    · exact ⟨⟨by simp, by simp, by simp, by simp; omega⟩, by simp⟩
    · exact ⟨⟨by simp, by simp, by simp, by simp⟩, by simp; omega⟩
    · exact ⟨⟨by simp, by simp, by simp, by simp; omega⟩, by simp⟩
    · exact ⟨⟨by simp, by simp, by simp, by simp; omega⟩, by simp⟩
  refine call_w (int_c n) [] (by simp (maxSteps := 4000000) only [push_cast, Int.reduceEq, Int.reduceBNe, Int.reduceBEq, Int.reduceAdd, Int.reduceSub, Int.reduceMul, Int.reduceNeg, Int.reduceLT, Int.reduceLE, Int.reduceToNat, Nat.reduceLT, Nat.reduceAdd, Nat.reduceSub, Nat.reduceMul, Nat.reduceEqDiff, Nat.reduceLeDiff, Nat.reduceBEq, reduceIte, reduceCtorEq]) ?_
  rintro sv post ⟨rfl, rfl⟩
  simp (maxSteps := 4000000) only [push_cast, Int.reduceEq, Int.reduceBNe, Int.reduceBEq, Int.reduceAdd, Int.reduceSub, Int.reduceMul, Int.reduceNeg, Int.reduceLT, Int.reduceLE, Int.reduceToNat, Nat.reduceLT, Nat.reduceAdd, Nat.reduceSub, Nat.reduceMul, Nat.reduceEqDiff, Nat.reduceLeDiff, Nat.reduceBEq, reduceIte, reduceCtorEq, argV, argC]
  refine call_w (uint_c m) [] (by simp (maxSteps := 4000000) only [push_cast, Int.reduceEq, Int.reduceBNe, Int.reduceBEq, Int.reduceAdd, Int.reduceSub, Int.reduceMul, Int.reduceNeg, Int.reduceLT, Int.reduceLE, Int.reduceToNat, Nat.reduceLT, Nat.reduceAdd, Nat.reduceSub, Nat.reduceMul, Nat.reduceEqDiff, Nat.reduceLeDiff, Nat.reduceBEq, reduceIte, reduceCtorEq]) ?_
  rintro sv post ⟨rfl, rfl⟩
  simp (maxSteps := 4000000) only [push_cast, Int.reduceEq, Int.reduceBNe, Int.reduceBEq, Int.reduceAdd, Int.reduceSub, Int.reduceMul, Int.reduceNeg, Int.reduceLT, Int.reduceLE, Int.reduceToNat, Nat.reduceLT, Nat.reduceAdd, Nat.reduceSub, Nat.reduceMul, Nat.reduceEqDiff, Nat.reduceLeDiff, Nat.reduceBEq, reduceIte, reduceCtorEq, argV, argC]
  refine call_w (textA_c t) [] (by simp (maxSteps := 4000000) only [push_cast, Int.reduceEq, Int.reduceBNe, Int.reduceBEq, Int.reduceAdd, Int.reduceSub, Int.reduceMul, Int.reduceNeg, Int.reduceLT, Int.reduceLE, Int.reduceToNat, Nat.reduceLT, Nat.reduceAdd, Nat.reduceSub, Nat.reduceMul, Nat.reduceEqDiff, Nat.reduceLeDiff, Nat.reduceBEq, reduceIte, reduceCtorEq]) ?_
  rintro sv post ⟨rfl, rfl⟩
  simp (maxSteps := 4000000) only [push_cast, Int.reduceEq, Int.reduceBNe, Int.reduceBEq, Int.reduceAdd, Int.reduceSub, Int.reduceMul, Int.reduceNeg, Int.reduceLT, Int.reduceLE, Int.reduceToNat, Nat.reduceLT, Nat.reduceAdd, Nat.reduceSub, Nat.reduceMul, Nat.reduceEqDiff, Nat.reduceLeDiff, Nat.reduceBEq, reduceIte, reduceCtorEq, argV, argC]
  refine call_w (uint_c k) [] (by simp (maxSteps := 4000000) only [push_cast, Int.reduceEq, Int.reduceBNe, Int.reduceBEq, Int.reduceAdd, Int.reduceSub, Int.reduceMul, Int.reduceNeg, Int.reduceLT, Int.reduceLE, Int.reduceToNat, Nat.reduceLT, Nat.reduceAdd, Nat.reduceSub, Nat.reduceMul, Nat.reduceEqDiff, Nat.reduceLeDiff, Nat.reduceBEq, reduceIte, reduceCtorEq]) ?_
  rintro sv post ⟨rfl, rfl⟩
  simp (maxSteps := 4000000) only [push_cast, Int.reduceEq, Int.reduceBNe, Int.reduceBEq, Int.reduceAdd, Int.reduceSub, Int.reduceMul, Int.reduceNeg, Int.reduceLT, Int.reduceLE, Int.reduceToNat, Nat.reduceLT, Nat.reduceAdd, Nat.reduceSub, Nat.reduceMul, Nat.reduceEqDiff, Nat.reduceLeDiff, Nat.reduceBEq, reduceIte, reduceCtorEq, argV, argC]
  refine call_w (uint_c m) [] (by simp (maxSteps := 4000000) only [push_cast, Int.reduceEq, Int.reduceBNe, Int.reduceBEq, Int.reduceAdd, Int.reduceSub, Int.reduceMul, Int.reduceNeg, Int.reduceLT, Int.reduceLE, Int.reduceToNat, Nat.reduceLT, Nat.reduceAdd, Nat.reduceSub, Nat.reduceMul, Nat.reduceEqDiff, Nat.reduceLeDiff, Nat.reduceBEq, reduceIte, reduceCtorEq]) ?_
  rintro sv post ⟨rfl, rfl⟩
  simp (maxSteps := 4000000) only [push_cast, Int.reduceEq, Int.reduceBNe, Int.reduceBEq, Int.reduceAdd, Int.reduceSub, Int.reduceMul, Int.reduceNeg, Int.reduceLT, Int.reduceLE, Int.reduceToNat, Nat.reduceLT, Nat.reduceAdd, Nat.reduceSub, Nat.reduceMul, Nat.reduceEqDiff, Nat.reduceLeDiff, Nat.reduceBEq, reduceIte, reduceCtorEq, argV, argC]
  have hpat : (⟨#[37, 100, 32, 37, 120, 32, 37, 115, 32, 37, 117, 32, 37, 111]⟩ : ByteArray) = bs patB := rfl
  have hl5 : (argsB n m t k).length = 5 := rfl
  have hWa : ∀ (f : Nat → Nat) (i j : Nat), W false f (argEl (argsB n m t k) i j) (argEl (argsB n m t k) i j) := fun f i j => W_arg f _ i j
  have hWq : ∀ (f : Nat → Nat) (i j : Nat), W false f (argElQ (argsB n m t k) i j) (argElQ (argsB n m t k) i j) := fun f i j => W_argQ f _ i j
  rw [hpat]
  refine call_w (format1_c patB (argsB n m t k) hargs) [] (by simp (maxSteps := 4000000) only [push_cast, Int.reduceEq, Int.reduceBNe, Int.reduceBEq, Int.reduceAdd, Int.reduceSub, Int.reduceMul, Int.reduceNeg, Int.reduceLT, Int.reduceLE, Int.reduceToNat, Nat.reduceLT, Nat.reduceAdd, Nat.reduceSub, Nat.reduceMul, Nat.reduceEqDiff, Nat.reduceLeDiff, Nat.reduceBEq, reduceIte, reduceCtorEq, hl5]; exact fun i _ j _ => hWa _ i j) ?_
  rintro sv post ⟨rfl, rfl⟩
  rw [f1]
  simp (maxSteps := 4000000) only [push_cast, Int.reduceEq, Int.reduceBNe, Int.reduceBEq, Int.reduceAdd, Int.reduceSub, Int.reduceMul, Int.reduceNeg, Int.reduceLT, Int.reduceLE, Int.reduceToNat, Nat.reduceLT, Nat.reduceAdd, Nat.reduceSub, Nat.reduceMul, Nat.reduceEqDiff, Nat.reduceLeDiff, Nat.reduceBEq, reduceIte, reduceCtorEq, hpat]
  refine call_w (scan_c patB (textB n m t k) (by omega)) [] (by simp (maxSteps := 4000000) only [push_cast, Int.reduceEq, Int.reduceBNe, Int.reduceBEq, Int.reduceAdd, Int.reduceSub, Int.reduceMul, Int.reduceNeg, Int.reduceLT, Int.reduceLE, Int.reduceToNat, Nat.reduceLT, Nat.reduceAdd, Nat.reduceSub, Nat.reduceMul, Nat.reduceEqDiff, Nat.reduceLeDiff, Nat.reduceBEq, reduceIte, reduceCtorEq]) ?_
  rintro sv post ⟨rfl, ⟨h0, _⟩ | ⟨_, rfl⟩⟩
  · rw [partsB] at h0
    exact absurd rfl h0
  rw [f3]
  simp (maxSteps := 4000000) only [push_cast, Int.reduceEq, Int.reduceBNe, Int.reduceBEq, Int.reduceAdd, Int.reduceSub, Int.reduceMul, Int.reduceNeg, Int.reduceLT, Int.reduceLE, Int.reduceToNat, Nat.reduceLT, Nat.reduceAdd, Nat.reduceSub, Nat.reduceMul, Nat.reduceEqDiff, Nat.reduceLeDiff, Nat.reduceBEq, reduceIte, reduceCtorEq, ren_argQf]
  refine call_w (num18_c 0) [] (by simp (maxSteps := 4000000) only [push_cast, Int.reduceEq, Int.reduceBNe, Int.reduceBEq, Int.reduceAdd, Int.reduceSub, Int.reduceMul, Int.reduceNeg, Int.reduceLT, Int.reduceLE, Int.reduceToNat, Nat.reduceLT, Nat.reduceAdd, Nat.reduceSub, Nat.reduceMul, Nat.reduceEqDiff, Nat.reduceLeDiff, Nat.reduceBEq, reduceIte, reduceCtorEq]) ?_
  rintro sv post ⟨rfl, rfl⟩
  simp (maxSteps := 4000000) only [push_cast, Int.reduceEq, Int.reduceBNe, Int.reduceBEq, Int.reduceAdd, Int.reduceSub, Int.reduceMul, Int.reduceNeg, Int.reduceLT, Int.reduceLE, Int.reduceToNat, Nat.reduceLT, Nat.reduceAdd, Nat.reduceSub, Nat.reduceMul, Nat.reduceEqDiff, Nat.reduceLeDiff, Nat.reduceBEq, reduceIte, reduceCtorEq]
  refine call_w (num18_c 0) [] (by simp (maxSteps := 4000000) only [push_cast, Int.reduceEq, Int.reduceBNe, Int.reduceBEq, Int.reduceAdd, Int.reduceSub, Int.reduceMul, Int.reduceNeg, Int.reduceLT, Int.reduceLE, Int.reduceToNat, Nat.reduceLT, Nat.reduceAdd, Nat.reduceSub, Nat.reduceMul, Nat.reduceEqDiff, Nat.reduceLeDiff, Nat.reduceBEq, reduceIte, reduceCtorEq]) ?_
  rintro sv post ⟨rfl, rfl⟩
  simp (maxSteps := 4000000) only [push_cast, Int.reduceEq, Int.reduceBNe, Int.reduceBEq, Int.reduceAdd, Int.reduceSub, Int.reduceMul, Int.reduceNeg, Int.reduceLT, Int.reduceLE, Int.reduceToNat, Nat.reduceLT, Nat.reduceAdd, Nat.reduceSub, Nat.reduceMul, Nat.reduceEqDiff, Nat.reduceLeDiff, Nat.reduceBEq, reduceIte, reduceCtorEq, ofU_len]
  refine call_w (sameArgsH_c (argsB n m t k) (by rw [hl5]; omega)) [] (by simp (maxSteps := 4000000) only [push_cast, Int.reduceEq, Int.reduceBNe, Int.reduceBEq, Int.reduceAdd, Int.reduceSub, Int.reduceMul, Int.reduceNeg, Int.reduceLT, Int.reduceLE, Int.reduceToNat, Nat.reduceLT, Nat.reduceAdd, Nat.reduceSub, Nat.reduceMul, Nat.reduceEqDiff, Nat.reduceLeDiff, Nat.reduceBEq, reduceIte, reduceCtorEq, hl5]; exact ⟨fun i _ j _ => hWq _ i j, fun i _ j _ => hWq _ i j⟩) ?_
  rintro sv post ⟨rfl, rfl⟩
  simp (maxSteps := 4000000) only [push_cast, Int.reduceEq, Int.reduceBNe, Int.reduceBEq, Int.reduceAdd, Int.reduceSub, Int.reduceMul, Int.reduceNeg, Int.reduceLT, Int.reduceLE, Int.reduceToNat, Nat.reduceLT, Nat.reduceAdd, Nat.reduceSub, Nat.reduceMul, Nat.reduceEqDiff, Nat.reduceLeDiff, Nat.reduceBEq, reduceIte, reduceCtorEq]
  exact Fin.w [] (.b true) nilSS (by simp (maxSteps := 4000000) only [push_cast, Int.reduceEq, Int.reduceBNe, Int.reduceBEq, Int.reduceAdd, Int.reduceSub, Int.reduceMul, Int.reduceNeg, Int.reduceLT, Int.reduceLE, Int.reduceToNat, Nat.reduceLT, Nat.reduceAdd, Nat.reduceSub, Nat.reduceMul, Nat.reduceEqDiff, Nat.reduceLeDiff, Nat.reduceBEq, reduceIte, reduceCtorEq]) ⟨rfl, rfl⟩
theorem wfH_i64 {n : Int} (h : (Lit.int .i64 n).wf = true) : -9223372036854775808 ≤ n ∧ n ≤ 9223372036854775807 := by
  simp only [Lit.wf, Bool.and_eq_true, decide_eq_true_eq] at h
  exact h
theorem wfH_u64 {n : Int} (h : (Lit.int .u64 n).wf = true) : 0 ≤ n ∧ n ≤ 18446744073709551615 := by
  simp only [Lit.wf, Bool.and_eq_true, decide_eq_true_eq] at h
  exact h
theorem scanBackV_c (n m : Int) (s : ByteArray) (k : Int) (w0 : (Lit.int .i64 n).wf = true) (w1 : (Lit.int .u64 m).wf = true) (w2 : s.size ≤ maxLen) (w3 : (Lit.int .u64 k).wf = true) : Contract Tryd.prog 3 nilSS [.i .i64 n, .i .u64 m, .s s, .i .u64 k] (fun sv post => sv = .b true ∧ post = nilSS) :=
  scanBack_c n m s k (by unfold maxLen at w2; exact w2) (wfH_i64 w0).1 (wfH_i64 w0).2 (wfH_u64 w1).1 (wfH_u64 w1).2 (wfH_u64 w3).1 (wfH_u64 w3).2
end Go.Proofs.YtlajpggoncelhaaDoor
