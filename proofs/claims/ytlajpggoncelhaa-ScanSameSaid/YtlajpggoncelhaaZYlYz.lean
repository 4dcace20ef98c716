/- Texts joined, in order: Yl, Yz. -/
import Derived.Test.YtlajpggoncelhaaZEmGb
import Derived.Test.YtlajpggoncelhaaZCaUd
import Derived.Test.YtlajpggoncelhaaZYfYk
import Derived.ChangeSlices
import Derived.SizedLaws
/- Scan: the page's examples. -/
namespace Go.Proofs.Ytlajpggoncelhaa
open Go Go.Eng
set_option maxHeartbeats 4000000
set_option linter.unusedSimpArgs false
set_option linter.unusedVariables false
set_option maxRecDepth 100000

theorem num18_c (n : Int) : Contract Try.prog 11 nilSS [.i .i64 n] (fun sv post => sv = .i .i64 n ∧ post = nilSS) := by
  refine contract_ev Γok Try.func11 rfl rfl [] ?_
  simp (maxSteps := 4000000) only [push_cast, Int.reduceEq, Int.reduceBNe, Int.reduceBEq, Int.reduceAdd, Int.reduceSub, Int.reduceMul, Int.reduceNeg, Int.reduceLT, Int.reduceLE, Int.reduceToNat, Nat.reduceLT, Nat.reduceAdd, Nat.reduceSub, Nat.reduceMul, Nat.reduceEqDiff, Nat.reduceLeDiff, Nat.reduceBEq, reduceIte, reduceCtorEq, Try.f11]
  exact Fin.w [] (.i .i64 n) _ (by simp (maxSteps := 4000000) only [push_cast, Int.reduceEq, Int.reduceBNe, Int.reduceBEq, Int.reduceAdd, Int.reduceSub, Int.reduceMul, Int.reduceNeg, Int.reduceLT, Int.reduceLE, Int.reduceToNat, Nat.reduceLT, Nat.reduceAdd, Nat.reduceSub, Nat.reduceMul, Nat.reduceEqDiff, Nat.reduceLeDiff, Nat.reduceBEq, reduceIte, reduceCtorEq]) ⟨rfl, rfl⟩
def ex1f : List UInt8 := [37, 100, 32, 37, 115]
def ex1b : List UInt8 := [32, 45, 53, 32, 97, 98, 32, 99]
def ex2f : List UInt8 := [37, 50, 100, 37, 100]
def ex2b : List UInt8 := [49, 50, 51, 52]
def ex3f : List UInt8 := [120, 37, 100]
def ex3b : List UInt8 := [121, 49]
def ex4f : List UInt8 := [37, 100]
def ex4b : List UInt8 := [43]
theorem ex1p : partsP ex1f = ([⟨100, 0, false, 0⟩, ⟨32, 0, false, 0⟩, ⟨115, 0, false, 0⟩], 0, 5) := by decide +kernel
theorem ex1 : allQ ex1b (partsP ex1f).1 0 [] = ([⟨1, -5, 0, []⟩, ⟨4, 0, 0, [97, 98]⟩], 0, 6) := by decide +kernel
theorem ex2 : allQ ex2b (partsP ex2f).1 0 [] = ([⟨1, 12, 0, []⟩, ⟨1, 34, 0, []⟩], 0, 4) := by decide +kernel
theorem ex3 : allQ ex3b (partsP ex3f).1 0 [] = ([], 181, 0) := by decide +kernel
theorem ex4 : allQ ex4b (partsP ex4f).1 0 [] = ([], 111, 1) := by decide +kernel
theorem o1 : ofU ex1b = [32, 45, 53, 32, 97, 98, 32, 99] := rfl
theorem o2 : ofU ex2b = [49, 50, 51, 52] := rfl
theorem o3 : ofU ex3b = [121, 49] := rfl
theorem o4 : ofU ex4b = [43] := rfl
theorem c1 : bs ex1f = ⟨#[37, 100, 32, 37, 115]⟩ := rfl
theorem c2 : bs ex2f = ⟨#[37, 50, 100, 37, 100]⟩ := rfl
theorem c3 : bs ex3f = ⟨#[120, 37, 100]⟩ := rfl
theorem c4 : bs ex4f = ⟨#[37, 100]⟩ := rfl
def A1 : List AV := [⟨1, -5, 0, []⟩, ⟨4, 0, 0, [97, 98]⟩]
def A2 : List AV := [⟨1, 12, 0, []⟩, ⟨1, 34, 0, []⟩]
theorem scan_ok (f b : List UInt8) (out : List AV) (e : Int) (k : Nat) (hb : b.length ≤ 1000) (hp : (partsP f).2.1 = 0) (h : allQ b (partsP f).1 0 [] = (out, e, k)) :
    Contract Try.prog 6 nilSS [.s (bs f), .ints .u8 .old (ofU b)] (fun sv post => sv = .tup [.sl 4 .old out.length (argElQ out), .i .i64 k, .i .i64 e] ∧ post = nilSS) := by
  refine (scan_c f b (by omega)).later fun sv post hR E w v hw hd => ?_
  obtain ⟨rfl, ⟨h1, _⟩ | ⟨_, rfl⟩⟩ := hR
  · exact absurd hp h1
  · rw [h] at hd
    exact ⟨E, _, _, Env.Le.refl E, hw, hd, rfl, rfl⟩
theorem alive18_c : Contract Try.prog 13 nilSS [] (fun sv post => sv = .b true ∧ post = nilSS) := by
  refine contract_ev Γok Try.func13 rfl rfl [] ?_
  simp (maxSteps := 4000000) only [push_cast, Int.reduceEq, Int.reduceBNe, Int.reduceBEq, Int.reduceAdd, Int.reduceSub, Int.reduceMul, Int.reduceNeg, Int.reduceLT, Int.reduceLE, Int.reduceToNat, Nat.reduceLT, Nat.reduceAdd, Nat.reduceSub, Nat.reduceMul, Nat.reduceEqDiff, Nat.reduceLeDiff, Nat.reduceBEq, reduceIte, reduceCtorEq, Try.f13]
  refine call_w (scan_ok ex1f ex1b A1 0 6 (by decide) (by decide +kernel) ex1) [] (by simp (maxSteps := 4000000) only [push_cast, Int.reduceEq, Int.reduceBNe, Int.reduceBEq, Int.reduceAdd, Int.reduceSub, Int.reduceMul, Int.reduceNeg, Int.reduceLT, Int.reduceLE, Int.reduceToNat, Nat.reduceLT, Nat.reduceAdd, Nat.reduceSub, Nat.reduceMul, Nat.reduceEqDiff, Nat.reduceLeDiff, Nat.reduceBEq, reduceIte, reduceCtorEq, o1, c1]) ?_
  rintro sv post ⟨rfl, rfl⟩
  simp (maxSteps := 4000000) only [push_cast, Int.reduceEq, Int.reduceBNe, Int.reduceBEq, Int.reduceAdd, Int.reduceSub, Int.reduceMul, Int.reduceNeg, Int.reduceLT, Int.reduceLE, Int.reduceToNat, Nat.reduceLT, Nat.reduceAdd, Nat.reduceSub, Nat.reduceMul, Nat.reduceEqDiff, Nat.reduceLeDiff, Nat.reduceBEq, reduceIte, reduceCtorEq, ren_argQf]
  refine call_w (scan_ok ex2f ex2b A2 0 4 (by decide) (by decide +kernel) ex2) [] (by simp (maxSteps := 4000000) only [push_cast, Int.reduceEq, Int.reduceBNe, Int.reduceBEq, Int.reduceAdd, Int.reduceSub, Int.reduceMul, Int.reduceNeg, Int.reduceLT, Int.reduceLE, Int.reduceToNat, Nat.reduceLT, Nat.reduceAdd, Nat.reduceSub, Nat.reduceMul, Nat.reduceEqDiff, Nat.reduceLeDiff, Nat.reduceBEq, reduceIte, reduceCtorEq, o2, c2]) ?_
  rintro sv post ⟨rfl, rfl⟩
  simp (maxSteps := 4000000) only [push_cast, Int.reduceEq, Int.reduceBNe, Int.reduceBEq, Int.reduceAdd, Int.reduceSub, Int.reduceMul, Int.reduceNeg, Int.reduceLT, Int.reduceLE, Int.reduceToNat, Nat.reduceLT, Nat.reduceAdd, Nat.reduceSub, Nat.reduceMul, Nat.reduceEqDiff, Nat.reduceLeDiff, Nat.reduceBEq, reduceIte, reduceCtorEq, ren_argQf]
  refine call_w (scan_ok ex3f ex3b [] 181 0 (by decide) (by decide +kernel) ex3) [] (by simp (maxSteps := 4000000) only [push_cast, Int.reduceEq, Int.reduceBNe, Int.reduceBEq, Int.reduceAdd, Int.reduceSub, Int.reduceMul, Int.reduceNeg, Int.reduceLT, Int.reduceLE, Int.reduceToNat, Nat.reduceLT, Nat.reduceAdd, Nat.reduceSub, Nat.reduceMul, Nat.reduceEqDiff, Nat.reduceLeDiff, Nat.reduceBEq, reduceIte, reduceCtorEq, o3, c3]) ?_
  rintro sv post ⟨rfl, rfl⟩
  simp (maxSteps := 4000000) only [push_cast, Int.reduceEq, Int.reduceBNe, Int.reduceBEq, Int.reduceAdd, Int.reduceSub, Int.reduceMul, Int.reduceNeg, Int.reduceLT, Int.reduceLE, Int.reduceToNat, Nat.reduceLT, Nat.reduceAdd, Nat.reduceSub, Nat.reduceMul, Nat.reduceEqDiff, Nat.reduceLeDiff, Nat.reduceBEq, reduceIte, reduceCtorEq, ren_argQf]
  refine call_w (scan_ok ex4f ex4b [] 111 1 (by decide) (by decide +kernel) ex4) [] (by simp (maxSteps := 4000000) only [push_cast, Int.reduceEq, Int.reduceBNe, Int.reduceBEq, Int.reduceAdd, Int.reduceSub, Int.reduceMul, Int.reduceNeg, Int.reduceLT, Int.reduceLE, Int.reduceToNat, Nat.reduceLT, Nat.reduceAdd, Nat.reduceSub, Nat.reduceMul, Nat.reduceEqDiff, Nat.reduceLeDiff, Nat.reduceBEq, reduceIte, reduceCtorEq, o4, c4]) ?_
  rintro sv post ⟨rfl, rfl⟩
  simp (maxSteps := 4000000) only [push_cast, Int.reduceEq, Int.reduceBNe, Int.reduceBEq, Int.reduceAdd, Int.reduceSub, Int.reduceMul, Int.reduceNeg, Int.reduceLT, Int.reduceLE, Int.reduceToNat, Nat.reduceLT, Nat.reduceAdd, Nat.reduceSub, Nat.reduceMul, Nat.reduceEqDiff, Nat.reduceLeDiff, Nat.reduceBEq, reduceIte, reduceCtorEq, ren_argQf]
  refine call_w (num18_c 0) [] (by simp (maxSteps := 4000000) only [push_cast, Int.reduceEq, Int.reduceBNe, Int.reduceBEq, Int.reduceAdd, Int.reduceSub, Int.reduceMul, Int.reduceNeg, Int.reduceLT, Int.reduceLE, Int.reduceToNat, Nat.reduceLT, Nat.reduceAdd, Nat.reduceSub, Nat.reduceMul, Nat.reduceEqDiff, Nat.reduceLeDiff, Nat.reduceBEq, reduceIte, reduceCtorEq]) ?_
  rintro sv post ⟨rfl, rfl⟩
  simp (maxSteps := 4000000) only [push_cast, Int.reduceEq, Int.reduceBNe, Int.reduceBEq, Int.reduceAdd, Int.reduceSub, Int.reduceMul, Int.reduceNeg, Int.reduceLT, Int.reduceLE, Int.reduceToNat, Nat.reduceLT, Nat.reduceAdd, Nat.reduceSub, Nat.reduceMul, Nat.reduceEqDiff, Nat.reduceLeDiff, Nat.reduceBEq, reduceIte, reduceCtorEq]
  refine call_w (num18_c 0) [] (by simp (maxSteps := 4000000) only [push_cast, Int.reduceEq, Int.reduceBNe, Int.reduceBEq, Int.reduceAdd, Int.reduceSub, Int.reduceMul, Int.reduceNeg, Int.reduceLT, Int.reduceLE, Int.reduceToNat, Nat.reduceLT, Nat.reduceAdd, Nat.reduceSub, Nat.reduceMul, Nat.reduceEqDiff, Nat.reduceLeDiff, Nat.reduceBEq, reduceIte, reduceCtorEq]) ?_
  rintro sv post ⟨rfl, rfl⟩
  have l1 : A1.length = 2 := rfl
  have l2 : A2.length = 2 := rfl
  have g1 : argElQ A1 0 1 = .i .i64 (-5) := rfl
  have g2 : argElQ A1 1 3 = .s ⟨#[97, 98]⟩ := rfl
  have g3 : argElQ A2 1 1 = .i .i64 34 := rfl
  simp (maxSteps := 4000000) only [push_cast, Int.reduceEq, Int.reduceBNe, Int.reduceBEq, Int.reduceAdd, Int.reduceSub, Int.reduceMul, Int.reduceNeg, Int.reduceLT, Int.reduceLE, Int.reduceToNat, Nat.reduceLT, Nat.reduceAdd, Nat.reduceSub, Nat.reduceMul, Nat.reduceEqDiff, Nat.reduceLeDiff, Nat.reduceBEq, reduceIte, reduceCtorEq, l1, l2, g1, g2, g3]
  refine call_w (num18_c 181) [] (by simp (maxSteps := 4000000) only [push_cast, Int.reduceEq, Int.reduceBNe, Int.reduceBEq, Int.reduceAdd, Int.reduceSub, Int.reduceMul, Int.reduceNeg, Int.reduceLT, Int.reduceLE, Int.reduceToNat, Nat.reduceLT, Nat.reduceAdd, Nat.reduceSub, Nat.reduceMul, Nat.reduceEqDiff, Nat.reduceLeDiff, Nat.reduceBEq, reduceIte, reduceCtorEq]) ?_
  rintro sv post ⟨rfl, rfl⟩
  simp (maxSteps := 4000000) only [push_cast, Int.reduceEq, Int.reduceBNe, Int.reduceBEq, Int.reduceAdd, Int.reduceSub, Int.reduceMul, Int.reduceNeg, Int.reduceLT, Int.reduceLE, Int.reduceToNat, Nat.reduceLT, Nat.reduceAdd, Nat.reduceSub, Nat.reduceMul, Nat.reduceEqDiff, Nat.reduceLeDiff, Nat.reduceBEq, reduceIte, reduceCtorEq]
  refine call_w (num18_c 111) [] (by simp (maxSteps := 4000000) only [push_cast, Int.reduceEq, Int.reduceBNe, Int.reduceBEq, Int.reduceAdd, Int.reduceSub, Int.reduceMul, Int.reduceNeg, Int.reduceLT, Int.reduceLE, Int.reduceToNat, Nat.reduceLT, Nat.reduceAdd, Nat.reduceSub, Nat.reduceMul, Nat.reduceEqDiff, Nat.reduceLeDiff, Nat.reduceBEq, reduceIte, reduceCtorEq]) ?_
  rintro sv post ⟨rfl, rfl⟩
  simp (maxSteps := 4000000) only [push_cast, Int.reduceEq, Int.reduceBNe, Int.reduceBEq, Int.reduceAdd, Int.reduceSub, Int.reduceMul, Int.reduceNeg, Int.reduceLT, Int.reduceLE, Int.reduceToNat, Nat.reduceLT, Nat.reduceAdd, Nat.reduceSub, Nat.reduceMul, Nat.reduceEqDiff, Nat.reduceLeDiff, Nat.reduceBEq, reduceIte, reduceCtorEq]
  exact Fin.w [] (.b true) _ (by simp (maxSteps := 4000000) only [push_cast, Int.reduceEq, Int.reduceBNe, Int.reduceBEq, Int.reduceAdd, Int.reduceSub, Int.reduceMul, Int.reduceNeg, Int.reduceLT, Int.reduceLE, Int.reduceToNat, Nat.reduceLT, Nat.reduceAdd, Nat.reduceSub, Nat.reduceMul, Nat.reduceEqDiff, Nat.reduceLeDiff, Nat.reduceBEq, reduceIte, reduceCtorEq]) ⟨rfl, rfl⟩
end Go.Proofs.Ytlajpggoncelhaa
/- What came in: bytes; slices of elements. -/
namespace Go.Proofs.Ytlajpggoncelhaa
open Go Go.Eng Go.RowKit
set_option linter.unusedSimpArgs false
set_option linter.unusedVariables false
set_option maxRecDepth 100000

section
variable {H : Type} {enc : TypeId × Value → H} {P : Program} {W : World} {base : Nat} {sp : Nat → Bool} {held : Bool}
theorem weights_all {e : TypeId} {d : DataW H} {k : Nat} : ∀ {ds : List (DataW H)}, d ∈ ds → k ∈ d.weights P e → k ∈ DataW.weightsAll P e ds
  | [], hd, _ => by cases hd
  | y :: r, hd, hk => by
    simp only [DataW.weightsAll, List.mem_append]
    rcases List.mem_cons.1 hd with rfl | hd
    · exact .inl hk
    · exact .inr (weights_all hd hk)
/-- A slice of elements that came in. -/
theorem den_sliceW {t e : TypeId} {fuel sz : Nat} {v : Value} {x : DataW H × List MemPlace} (ht : P.underlying t = some (.slice e)) (hc : P.cellsOf e = sz) (hsz : 0 < sz) {α : Type} (f : α → List SV)
    (hel : ∀ (n : Nat) (cs : List Value) (y : DataW H × List MemPlace), cs.length = sz → DataW.trod enc P W base sp held n e cs = some y → (∀ k, k ∈ y.1.weights P e → k ≤ reachBytes) → ∃ a : α, DenL (env0 W) (f a) cs)
    (h : DataW.trod enc P W base sp held fuel t v.cells.toList = some x) (hv : ∃ a n c, v = .slice a n c) (hz : ∀ k, k ∈ x.1.weights P t → k ≤ reachBytes) (hby : sz ≤ P.bytesOf e) :
    ∃ (rows : List α), rows.length ≤ 140737488355328 ∧ ∀ d : α, Den (env0 W) (.sl sz .old rows.length (fun i j => lget (f (rows.getD i d)) j)) v := by
  obtain ⟨va, vn, vc, rfl⟩ := hv
  rcases DataW.trod_slice ht h with ⟨h0, _⟩ | ⟨a, len, cap, elems, rest, n, _, hcs, hx, hb, hl, hm, hlen, hel', _, _⟩
  · simp [Value.cells] at h0
    obtain ⟨rfl, rfl, rfl⟩ := h0
    refine ⟨[], by simp, fun d => ?_⟩
    simp only [Den]
    exact ⟨none, 0, rfl, Nat.le_refl _, by omega, fun i hi => absurd hi (Nat.not_lt_zero _), trivial⟩
  · simp [Value.cells] at hcs
    obtain ⟨rfl, rfl, rfl⟩ := hcs
    have hn : vn ≤ 140737488355328 := by
      have h1 := hz (((elems.map (·.1)).length + (rest.map (·.1)).length) * P.bytesOf e) (by rw [hx]; simp only [DataW.weights, ht]; exact List.mem_cons_self)
      rw [List.length_map, List.length_map] at h1
      have h2 : vn * 1 ≤ (elems.length + rest.length) * P.bytesOf e := Nat.mul_le_mul (by omega) (by omega)
      unfold reachBytes at h1
      omega
    have each : ∀ i, i < vn → ∃ r : α, ∃ cs : List Value, cs.length = sz ∧ (∀ (j : Nat) (u : Value), cs[j]? = some u → W.cell? ((a.add (i * sz)).add j) = some u) ∧ DenL (env0 W) (f r) cs := by
      intro i hi
      have h1 := hel' i hi
      rw [List.getElem?_eq_getElem (by omega), Option.bind_eq_some_iff, hc] at h1
      obtain ⟨cs, h2, h3⟩ := h1
      obtain ⟨h4, h5⟩ := cells_get h2
      obtain ⟨r, hr⟩ := hel n cs _ h4 h3 (fun k hk => hz k (by
        rw [hx]
        simp only [DataW.weights, ht]
        refine List.mem_cons_of_mem _ (List.mem_append.2 (.inl ?_))
        exact weights_all (List.mem_map.2 ⟨_, List.getElem_mem (by omega), rfl⟩) hk))
      exact ⟨r, cs, h4, h5, hr⟩
    have build : ∀ m, m ≤ vn → ∃ rows : List α, rows.length = m ∧ ∀ i, i < m → ∃ r cs, rows[i]? = some r ∧ List.length cs = sz ∧ (∀ (j : Nat) (u : Value), cs[j]? = some u → W.cell? ((a.add (i * sz)).add j) = some u) ∧ DenL (env0 W) (f r) cs := by
      intro m
      induction m with
      | zero => intro _; exact ⟨[], rfl, fun i hi => absurd hi (Nat.not_lt_zero _)⟩
      | succ m ih =>
        intro hm
        obtain ⟨rows, h1, h2⟩ := ih (by omega)
        obtain ⟨r, cs, h3, h4, h5⟩ := each m (by omega)
        refine ⟨rows ++ [r], by simp [h1], fun i hi => ?_⟩
        rcases Nat.lt_or_ge i m with h | h
        · obtain ⟨r', cs', q1, q2⟩ := h2 i h
          exact ⟨r', cs', by rw [List.getElem?_append_left (by omega)]; exact q1, q2⟩
        · have : i = m := by omega
          subst this
          exact ⟨r, cs, by rw [List.getElem?_append_right (by omega), h1]; simp, h3, h4, h5⟩
    obtain ⟨rows, hr, hrows⟩ := build vn (Nat.le_refl _)
    refine ⟨rows, by omega, fun d => ?_⟩
    rw [hr]
    simp only [Den]
    refine ⟨some a, vc, rfl, hl, by unfold maxLen at hm; omega, fun i hi => ?_, trivial⟩
    obtain ⟨r, cs, q1, q2, q3, q4⟩ := hrows i hi
    have hspot : a.spot = none := by
      obtain ⟨r0, cs0, _, l0, c0, _⟩ := hrows 0 (by omega)
      have h1 := World.cell?_spot (c0 0 (cs0[0]'(by omega)) (List.getElem?_eq_getElem (by omega)))
      simpa [Addr.add] using h1
    obtain ⟨b, off, spot⟩ := a
    simp only at hspot
    subst hspot
    refine ⟨b, off, rfl, fun j hj => ?_⟩
    have hju : cs[j]? = some (cs[j]'(by omega)) := List.getElem?_eq_getElem (by omega)
    refine ⟨cs[j]'(by omega), ?_, ?_⟩
    · have := q3 j _ hju
      rw [addr_add, addr_add] at this
      exact this
    · have h1 : rows.getD i d = r := by simp [List.getD, q1]
      rw [h1]
      have := denL_get _ _ j undef q4
      rw [hju] at this
      exact this

end
def BytesIn (W : World) (v : Value) : Prop := ∃ l : List UInt8, l.length ≤ 140737488355328 ∧ Den (env0 W) (.ints .u8 .old (ofU l)) v
theorem wfb {n : Int} (h : (Lit.int .u8 n).wf = true) : 0 ≤ n ∧ n ≤ 255 := by
  simp only [Lit.wf, Bool.and_eq_true, decide_eq_true_eq] at h
  exact h
theorem BytesIn_in {H : Type} {enc : TypeId × Value → H} {W : World} {base : Nat} {sp : Nat → Bool} {held : Bool} {v : Value} {d : DataW H} {ps : List MemPlace} (h : DataW.Trod enc Try.prog W base sp held 22 v d ps) (hv : ∃ a n c, v = .slice a n c)
    (hz : ∀ k, k ∈ d.weights Try.prog 22 → k ≤ reachBytes) : BytesIn W v := by
  obtain ⟨fuel, h⟩ := h
  have hc : Try.prog.cellsOf 5 = 1 := by kernel_rfl
  have hby : Try.prog.bytesOf 5 = 1 := by kernel_rfl
  obtain ⟨rows, h1, h2⟩ := den_sliceW (by kernel_rfl : Try.prog.underlying 22 = some (.slice 5)) hc (by omega) (α := UInt8) (fun c => [.i .u8 c.toNat]) (fun n cs y hl ht hw => by
    obtain ⟨z, e, g, w⟩ := DataW.trod_int (by kernel_rfl : Try.prog.underlying 5 = some (.int .u8)) ht
    subst e
    obtain ⟨w1, w2⟩ := wfb w
    refine ⟨UInt8.ofNat z.toNat, ?_⟩
    simp only [DenL, Den]
    refine ⟨?_, trivial⟩
    congr 1
    rw [UInt8.toNat_ofNat']
    omega) h hv hz (by rw [hby]; omega)
  refine ⟨rows, h1, ?_⟩
  have h3 := h2 0
  simp only [Den, IsInts] at h3 ⊢
  obtain ⟨a, cap, e1, e2, e3, e4, e5⟩ := h3
  have hlen : (ofU rows).length = rows.length := by unfold ofU; rw [List.length_map]
  refine ⟨a, cap, by rw [hlen]; exact e1, by rw [hlen]; exact e2, e3, fun i x hx => ?_, e5⟩
  unfold ofU at hx
  rw [List.getElem?_map] at hx
  obtain ⟨c, hc1, hc2⟩ := Option.map_eq_some_iff.1 hx
  have hi : i < rows.length := by
    rcases Nat.lt_or_ge i rows.length with h | h
    · exact h
    · rw [List.getElem?_eq_none h] at hc1; cases hc1
  obtain ⟨b, off, p, q⟩ := e4 i hi
  obtain ⟨y, r, s⟩ := q 0 (by omega)
  have hg : rows.getD i 0 = c := by simp [List.getD, hc1]
  rw [hg] at s
  simp only [lget, Den] at s
  subst s
  refine ⟨b, off, p, ?_⟩
  rw [← hc2]
  rw [show off + i * 1 + 0 = off + i by omega] at r
  exact r
end Go.Proofs.Ytlajpggoncelhaa
