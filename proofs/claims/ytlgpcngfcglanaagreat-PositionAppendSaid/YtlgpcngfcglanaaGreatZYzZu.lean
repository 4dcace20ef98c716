/- Texts joined, in order: Yz, Zt, Zu. -/
import Derived.Test.YtlgpcngfcglanaaGreatZEmGg
import Derived.Test.YtlgpcngfcglanaaGreatZLaKb
import Derived.Test.YtlgpcngfcglanaaGreatZIxSo
import Derived.Test.YtlgpcngfcglanaaGreatZZgZm
import Derived.Test.YtlgpcngfcglanaaGreatZZpZs
import Derived.ChangeSlices
import Derived.SizedLaws
/- What came in: bytes; slices of elements. -/
namespace Go.Proofs.YtlgpcngfcglanaaGreat
open Go Go.Eng Go.RowKit
set_option linter.unusedSimpArgs false
set_option linter.unusedVariables false
set_option maxRecDepth 100000

section
variable {H : Type} {enc : TypeId × Value → H} {P : Program} {W : World} {base : Nat} {sp : Nat → Bool} {held : Bool}
theorem weights_all {e : TypeId} {d : DataW H} {k : Nat} : ∀ {ds : List (DataW H)}, d ∈ ds → k ∈ d.weights P e → k ∈ DataW.weightsAll P e ds
  | [], hd, _ => by cases hd
  | y :: r, hd, hk => by
    simp only [DataW.weightsAll, List.mem_append]
    rcases List.mem_cons.1 hd with rfl | hd
    · exact .inl hk
    · exact .inr (weights_all hd hk)
/-- A slice of elements that came in. -/
theorem den_sliceW {t e : TypeId} {fuel sz : Nat} {v : Value} {x : DataW H × List MemPlace} (ht : P.underlying t = some (.slice e)) (hc : P.cellsOf e = sz) (hsz : 0 < sz) {α : Type} (f : α → List SV)
    (hel : ∀ (n : Nat) (cs : List Value) (y : DataW H × List MemPlace), cs.length = sz → DataW.trod enc P W base sp held n e cs = some y → (∀ k, k ∈ y.1.weights P e → k ≤ reachBytes) → ∃ a : α, DenL (env0 W) (f a) cs)
    (h : DataW.trod enc P W base sp held fuel t v.cells.toList = some x) (hv : ∃ a n c, v = .slice a n c) (hz : ∀ k, k ∈ x.1.weights P t → k ≤ reachBytes) (hby : sz ≤ P.bytesOf e) :
    ∃ (rows : List α), rows.length ≤ 140737488355328 ∧ ∀ d : α, Den (env0 W) (.sl sz .old rows.length (fun i j => lget (f (rows.getD i d)) j)) v := by
  obtain ⟨va, vn, vc, rfl⟩ := hv
  rcases DataW.trod_slice ht h with ⟨h0, _⟩ | ⟨a, len, cap, elems, rest, n, _, hcs, hx, hb, hl, hm, hlen, hel', _, _⟩
  · simp [Value.cells] at h0
    obtain ⟨rfl, rfl, rfl⟩ := h0
    refine ⟨[], by simp, fun d => ?_⟩
    simp only [Den]
    exact ⟨none, 0, rfl, Nat.le_refl _, by omega, fun i hi => absurd hi (Nat.not_lt_zero _), trivial⟩
  · simp [Value.cells] at hcs
    obtain ⟨rfl, rfl, rfl⟩ := hcs
    have hn : vn ≤ 140737488355328 := by
      have h1 := hz (((elems.map (·.1)).length + (rest.map (·.1)).length) * P.bytesOf e) (by rw [hx]; simp only [DataW.weights, ht]; exact List.mem_cons_self)
      rw [List.length_map, List.length_map] at h1
      have h2 : vn * 1 ≤ (elems.length + rest.length) * P.bytesOf e := Nat.mul_le_mul (by omega) (by omega)
      unfold reachBytes at h1
      omega
    have each : ∀ i, i < vn → ∃ r : α, ∃ cs : List Value, cs.length = sz ∧ (∀ (j : Nat) (u : Value), cs[j]? = some u → W.cell? ((a.add (i * sz)).add j) = some u) ∧ DenL (env0 W) (f r) cs := by
      intro i hi
      have h1 := hel' i hi
      rw [List.getElem?_eq_getElem (by omega), Option.bind_eq_some_iff, hc] at h1
      obtain ⟨cs, h2, h3⟩ := h1
      obtain ⟨h4, h5⟩ := cells_get h2
      obtain ⟨r, hr⟩ := hel n cs _ h4 h3 (fun k hk => hz k (by
        rw [hx]
        simp only [DataW.weights, ht]
        refine List.mem_cons_of_mem _ (List.mem_append.2 (.inl ?_))
        exact weights_all (List.mem_map.2 ⟨_, List.getElem_mem (by omega), rfl⟩) hk))
      exact ⟨r, cs, h4, h5, hr⟩
    have build : ∀ m, m ≤ vn → ∃ rows : List α, rows.length = m ∧ ∀ i, i < m → ∃ r cs, rows[i]? = some r ∧ List.length cs = sz ∧ (∀ (j : Nat) (u : Value), cs[j]? = some u → W.cell? ((a.add (i * sz)).add j) = some u) ∧ DenL (env0 W) (f r) cs := by
      intro m
      induction m with
      | zero => intro _; exact ⟨[], rfl, fun i hi => absurd hi (Nat.not_lt_zero _)⟩
      | succ m ih =>
        intro hm
        obtain ⟨rows, h1, h2⟩ := ih (by omega)
        obtain ⟨r, cs, h3, h4, h5⟩ := each m (by omega)
        refine ⟨rows ++ [r], by simp [h1], fun i hi => ?_⟩
        rcases Nat.lt_or_ge i m with h | h
        · obtain ⟨r', cs', q1, q2⟩ := h2 i h
          exact ⟨r', cs', by rw [List.getElem?_append_left (by omega)]; exact q1, q2⟩
        · have : i = m := by omega
          subst this
          exact ⟨r, cs, by rw [List.getElem?_append_right (by omega), h1]; simp, h3, h4, h5⟩
    obtain ⟨rows, hr, hrows⟩ := build vn (Nat.le_refl _)
    refine ⟨rows, by omega, fun d => ?_⟩
    rw [hr]
    simp only [Den]
    refine ⟨some a, vc, rfl, hl, by unfold maxLen at hm; omega, fun i hi => ?_, trivial⟩
    obtain ⟨r, cs, q1, q2, q3, q4⟩ := hrows i hi
    have hspot : a.spot = none := by
      obtain ⟨r0, cs0, _, l0, c0, _⟩ := hrows 0 (by omega)
      have h1 := World.cell?_spot (c0 0 (cs0[0]'(by omega)) (List.getElem?_eq_getElem (by omega)))
      simpa [Addr.add] using h1
    obtain ⟨b, off, spot⟩ := a
    simp only at hspot
    subst hspot
    refine ⟨b, off, rfl, fun j hj => ?_⟩
    have hju : cs[j]? = some (cs[j]'(by omega)) := List.getElem?_eq_getElem (by omega)
    refine ⟨cs[j]'(by omega), ?_, ?_⟩
    · have := q3 j _ hju
      rw [addr_add, addr_add] at this
      exact this
    · have h1 : rows.getD i d = r := by simp [List.getD, q1]
      rw [h1]
      have := denL_get _ _ j undef q4
      rw [hju] at this
      exact this

end
def BytesIn (W : World) (v : Value) : Prop := ∃ l : List UInt8, l.length ≤ 140737488355328 ∧ Den (env0 W) (.ints .u8 .old (ofU l)) v
theorem wfb {n : Int} (h : (Lit.int .u8 n).wf = true) : 0 ≤ n ∧ n ≤ 255 := by
  simp only [Lit.wf, Bool.and_eq_true, decide_eq_true_eq] at h
  exact h
theorem BytesIn_in {H : Type} {enc : TypeId × Value → H} {W : World} {base : Nat} {sp : Nat → Bool} {held : Bool} {v : Value} {d : DataW H} {ps : List MemPlace} (h : DataW.Trod enc Tryz.prog W base sp held 22 v d ps) (hv : ∃ a n c, v = .slice a n c)
    (hz : ∀ k, k ∈ d.weights Tryz.prog 22 → k ≤ reachBytes) : BytesIn W v := by
  obtain ⟨fuel, h⟩ := h
  have hc : Tryz.prog.cellsOf 5 = 1 := by kernel_rfl
  have hby : Tryz.prog.bytesOf 5 = 1 := by kernel_rfl
  obtain ⟨rows, h1, h2⟩ := den_sliceW (by kernel_rfl : Tryz.prog.underlying 22 = some (.slice 5)) hc (by omega) (α := UInt8) (fun c => [.i .u8 c.toNat]) (fun n cs y hl ht hw => by
    obtain ⟨z, e, g, w⟩ := DataW.trod_int (by kernel_rfl : Tryz.prog.underlying 5 = some (.int .u8)) ht
    subst e
    obtain ⟨w1, w2⟩ := wfb w
    refine ⟨UInt8.ofNat z.toNat, ?_⟩
    simp only [DenL, Den]
    refine ⟨?_, trivial⟩
    congr 1
    rw [UInt8.toNat_ofNat']
    omega) h hv hz (by rw [hby]; omega)
  refine ⟨rows, h1, ?_⟩
  have h3 := h2 0
  simp only [Den, IsInts] at h3 ⊢
  obtain ⟨a, cap, e1, e2, e3, e4, e5⟩ := h3
  have hlen : (ofU rows).length = rows.length := by unfold ofU; rw [List.length_map]
  refine ⟨a, cap, by rw [hlen]; exact e1, by rw [hlen]; exact e2, e3, fun i x hx => ?_, e5⟩
  unfold ofU at hx
  rw [List.getElem?_map] at hx
  obtain ⟨c, hc1, hc2⟩ := Option.map_eq_some_iff.1 hx
  have hi : i < rows.length := by
    rcases Nat.lt_or_ge i rows.length with h | h
    · exact h
    · rw [List.getElem?_eq_none h] at hc1; cases hc1
  obtain ⟨b, off, p, q⟩ := e4 i hi
  obtain ⟨y, r, s⟩ := q 0 (by omega)
  have hg : rows.getD i 0 = c := by simp [List.getD, hc1]
  rw [hg] at s
  simp only [lget, Den] at s
  subst s
  refine ⟨b, off, p, ?_⟩
  rw [← hc2]
  rw [show off + i * 1 + 0 = off + i by omega] at r
  exact r
end Go.Proofs.YtlgpcngfcglanaaGreat
/- PositionAppend: what is put on a stream that appends stands at the file's end. -/
namespace Go.Proofs.YtlgpcngfcglanaaGreat
open Go Go.Eng
set_option maxHeartbeats 4000000
set_option linter.unusedSimpArgs false
set_option linter.unusedVariables false
set_option maxRecDepth 100000

/-- Rows as the program sees them. -/
def lelA (rows : List (List Int)) (i j : Nat) : SV := .ints .u8 .old (rows.getD i [])
theorem lelA_W (f : Nat → Nat) (rows : List (List Int)) (i j : Nat) : W false f (lelA rows i j) (lelA rows i j) := by
  simp [lelA, W, TW]
theorem copyBA_c (l : List Int) (hl : l.length ≤ 140737488355328) : Contract Tryz.prog 21 nilSS [.ints .u8 .old l] (fun sv post => sv = .ints .u8 (.tok 0 true) l ∧ post = ⟨[], [], [0], [], 1, 0, []⟩) := by
  refine contract_ev Γok Tryz.func21 rfl rfl [] ?_
  simp (maxSteps := 4000000) only [push_cast, Int.reduceEq, Int.reduceBNe, Int.reduceBEq, Int.reduceAdd, Int.reduceSub, Int.reduceMul, Int.reduceNeg, Int.reduceLT, Int.reduceLE, Int.reduceToNat, Nat.reduceLT, Nat.reduceAdd, Nat.reduceSub, Nat.reduceMul, Nat.reduceEqDiff, Nat.reduceLeDiff, Nat.reduceBEq, reduceIte, reduceCtorEq, Tryz.f21]
  exact ⟨by omega, Fin.w [0] (.ints .u8 (.tok 0 true) l) _ (by simp (maxSteps := 4000000) only [push_cast, Int.reduceEq, Int.reduceBNe, Int.reduceBEq, Int.reduceAdd, Int.reduceSub, Int.reduceMul, Int.reduceNeg, Int.reduceLT, Int.reduceLE, Int.reduceToNat, Nat.reduceLT, Nat.reduceAdd, Nat.reduceSub, Nat.reduceMul, Nat.reduceEqDiff, Nat.reduceLeDiff, Nat.reduceBEq, reduceIte, reduceCtorEq]) ⟨rfl, rfl⟩⟩
theorem kernM_vA (b : Nat) (fl : Int) : (kernM b fl).v = .ifc 149 (.raw (hdlV b)) := rfl
theorem kernW_v (b : Nat) (fl : Int) : (kernW b fl).v = .ifc 149 (.raw (hdlV b)) := rfl
theorem kernW_res (b : Nat) (fl : Int) (s : KSt) : (kernW b fl).res s = kernR b fl s := rfl
theorem positionAppend_c (b : List Int) (hb : b.length ≤ 140737488355328) (F : List (Int × Int)) (hF : F.length ≤ 140737488355328) (kind size : Int) (rows : List (List Int)) (hrows : ∀ i, (rows.getD i []).length ≤ 9223372036854775807) (offs : List Int) : Contract Tryz.prog 5 nilSS [.ints .u8 .old b, .sl 2 .old F.length (faultEl F), .i .i64 kind, .i .i64 size, .sl 1 .old rows.length (lelA rows), .ints .i64 .old offs] (fun sv post => sv = .b true ∧ post = nilSS) := by
  refine contract_ev Γok Tryz.func5 rfl rfl [] ?_
  simp (maxSteps := 4000000) only [push_cast, Int.reduceEq, Int.reduceBNe, Int.reduceBEq, Int.reduceAdd, Int.reduceSub, Int.reduceMul, Int.reduceNeg, Int.reduceLT, Int.reduceLE, Int.reduceToNat, Nat.reduceLT, Nat.reduceAdd, Nat.reduceSub, Nat.reduceMul, Nat.reduceEqDiff, Nat.reduceLeDiff, Nat.reduceBEq, reduceIte, reduceCtorEq, Tryz.f5]
  refine call_w alive14_c [] (by simp (maxSteps := 4000000) only [push_cast, Int.reduceEq, Int.reduceBNe, Int.reduceBEq, Int.reduceAdd, Int.reduceSub, Int.reduceMul, Int.reduceNeg, Int.reduceLT, Int.reduceLE, Int.reduceToNat, Nat.reduceLT, Nat.reduceAdd, Nat.reduceSub, Nat.reduceMul, Nat.reduceEqDiff, Nat.reduceLeDiff, Nat.reduceBEq, reduceIte, reduceCtorEq]) ?_
  rintro sv post ⟨rfl, rfl⟩
  simp (maxSteps := 4000000) only [push_cast, Int.reduceEq, Int.reduceBNe, Int.reduceBEq, Int.reduceAdd, Int.reduceSub, Int.reduceMul, Int.reduceNeg, Int.reduceLT, Int.reduceLE, Int.reduceToNat, Nat.reduceLT, Nat.reduceAdd, Nat.reduceSub, Nat.reduceMul, Nat.reduceEqDiff, Nat.reduceLeDiff, Nat.reduceBEq, reduceIte, reduceCtorEq]
  by_cases h0 : chkK b F = 0
  case neg =>
    refine call_w (make4Bad_c b F true hF h0) [] (by simp (maxSteps := 4000000) only [push_cast, Int.reduceEq, Int.reduceBNe, Int.reduceBEq, Int.reduceAdd, Int.reduceSub, Int.reduceMul, Int.reduceNeg, Int.reduceLT, Int.reduceLE, Int.reduceToNat, Nat.reduceLT, Nat.reduceAdd, Nat.reduceSub, Nat.reduceMul, Nat.reduceEqDiff, Nat.reduceLeDiff, Nat.reduceBEq, reduceIte, reduceCtorEq, plant4]; exact fun i _ j _ => W_fault _ F i j) ?_
    rintro sv post ⟨rfl, rfl⟩
    simp (maxSteps := 4000000) only [push_cast, Int.reduceEq, Int.reduceBNe, Int.reduceBEq, Int.reduceAdd, Int.reduceSub, Int.reduceMul, Int.reduceNeg, Int.reduceLT, Int.reduceLE, Int.reduceToNat, Nat.reduceLT, Nat.reduceAdd, Nat.reduceSub, Nat.reduceMul, Nat.reduceEqDiff, Nat.reduceLeDiff, Nat.reduceBEq, reduceIte, reduceCtorEq]
    refine call_w (newS_c _ _ _ _ _ _ _ _ openAP_c kind size) [] (by simp (maxSteps := 4000000) only [push_cast, Int.reduceEq, Int.reduceBNe, Int.reduceBEq, Int.reduceAdd, Int.reduceSub, Int.reduceMul, Int.reduceNeg, Int.reduceLT, Int.reduceLE, Int.reduceToNat, Nat.reduceLT, Nat.reduceAdd, Nat.reduceSub, Nat.reduceMul, Nat.reduceEqDiff, Nat.reduceLeDiff, Nat.reduceBEq, reduceIte, reduceCtorEq, modeV]) ?_
    rintro sv post ⟨rfl, rfl⟩
    simp (maxSteps := 4000000) only [push_cast, Int.reduceEq, Int.reduceBNe, Int.reduceBEq, Int.reduceAdd, Int.reduceSub, Int.reduceMul, Int.reduceNeg, Int.reduceLT, Int.reduceLE, Int.reduceToNat, Nat.reduceLT, Nat.reduceAdd, Nat.reduceSub, Nat.reduceMul, Nat.reduceEqDiff, Nat.reduceLeDiff, Nat.reduceBEq, reduceIte, reduceCtorEq, St.sv, St.cells]
    exact Fin.nil rfl (psv := .b true) (by simp (maxSteps := 4000000) only [push_cast, Int.reduceEq, Int.reduceBNe, Int.reduceBEq, Int.reduceAdd, Int.reduceSub, Int.reduceMul, Int.reduceNeg, Int.reduceLT, Int.reduceLE, Int.reduceToNat, Nat.reduceLT, Nat.reduceAdd, Nat.reduceSub, Nat.reduceMul, Nat.reduceEqDiff, Nat.reduceLeDiff, Nat.reduceBEq, reduceIte, reduceCtorEq]) ⟨rfl, rfl⟩
  refine call_w (make4_c b F true h0) [] (by simp (maxSteps := 4000000) only [push_cast, Int.reduceEq, Int.reduceBNe, Int.reduceBEq, Int.reduceAdd, Int.reduceSub, Int.reduceMul, Int.reduceNeg, Int.reduceLT, Int.reduceLE, Int.reduceToNat, Nat.reduceLT, Nat.reduceAdd, Nat.reduceSub, Nat.reduceMul, Nat.reduceEqDiff, Nat.reduceLeDiff, Nat.reduceBEq, reduceIte, reduceCtorEq, plant4]; exact fun i _ j _ => W_fault _ F i j) ?_
  rintro sv post ⟨r, rfl, rfl⟩
  simp (maxSteps := 4000000) only [push_cast, Int.reduceEq, Int.reduceBNe, Int.reduceBEq, Int.reduceAdd, Int.reduceSub, Int.reduceMul, Int.reduceNeg, Int.reduceLT, Int.reduceLE, Int.reduceToNat, Nat.reduceLT, Nat.reduceAdd, Nat.reduceSub, Nat.reduceMul, Nat.reduceEqDiff, Nat.reduceLeDiff, Nat.reduceBEq, reduceIte, reduceCtorEq, made4, kernM_vA]
  refine call_w (newS_c _ _ _ _ _ _ _ _ openAP_c kind size) [] (by simp (maxSteps := 4000000) only [push_cast, Int.reduceEq, Int.reduceBNe, Int.reduceBEq, Int.reduceAdd, Int.reduceSub, Int.reduceMul, Int.reduceNeg, Int.reduceLT, Int.reduceLE, Int.reduceToNat, Nat.reduceLT, Nat.reduceAdd, Nat.reduceSub, Nat.reduceMul, Nat.reduceEqDiff, Nat.reduceLeDiff, Nat.reduceBEq, reduceIte, reduceCtorEq, modeV]) ?_
  rintro sv post ⟨rfl, rfl⟩
  simp (maxSteps := 4000000) only [push_cast, Int.reduceEq, Int.reduceBNe, Int.reduceBEq, Int.reduceAdd, Int.reduceSub, Int.reduceMul, Int.reduceNeg, Int.reduceLT, Int.reduceLE, Int.reduceToNat, Nat.reduceLT, Nat.reduceAdd, Nat.reduceSub, Nat.reduceMul, Nat.reduceEqDiff, Nat.reduceLeDiff, Nat.reduceBEq, reduceIte, reduceCtorEq, St.sv, St.cells]
  refine call_w (num14_c (mayV kind size)) [] (by simp (maxSteps := 4000000) only [push_cast, Int.reduceEq, Int.reduceBNe, Int.reduceBEq, Int.reduceAdd, Int.reduceSub, Int.reduceMul, Int.reduceNeg, Int.reduceLT, Int.reduceLE, Int.reduceToNat, Nat.reduceLT, Nat.reduceAdd, Nat.reduceSub, Nat.reduceMul, Nat.reduceEqDiff, Nat.reduceLeDiff, Nat.reduceBEq, reduceIte, reduceCtorEq]) ?_
  rintro sv post ⟨rfl, rfl⟩
  by_cases hm : mayV kind size = 0
  case neg =>
    simp (maxSteps := 4000000) only [push_cast, Int.reduceEq, Int.reduceBNe, Int.reduceBEq, Int.reduceAdd, Int.reduceSub, Int.reduceMul, Int.reduceNeg, Int.reduceLT, Int.reduceLE, Int.reduceToNat, Nat.reduceLT, Nat.reduceAdd, Nat.reduceSub, Nat.reduceMul, Nat.reduceEqDiff, Nat.reduceLeDiff, Nat.reduceBEq, reduceIte, reduceCtorEq, hm]
    exact ⟨Fin.nil rfl (psv := .b true) (by simp (maxSteps := 4000000) only [push_cast, Int.reduceEq, Int.reduceBNe, Int.reduceBEq, Int.reduceAdd, Int.reduceSub, Int.reduceMul, Int.reduceNeg, Int.reduceLT, Int.reduceLE, Int.reduceToNat, Nat.reduceLT, Nat.reduceAdd, Nat.reduceSub, Nat.reduceMul, Nat.reduceEqDiff, Nat.reduceLeDiff, Nat.reduceBEq, reduceIte, reduceCtorEq]) ⟨rfl, rfl⟩, fun h => h.1.elim⟩
  rw [hm]
  simp (maxSteps := 4000000) only [push_cast, Int.reduceEq, Int.reduceBNe, Int.reduceBEq, Int.reduceAdd, Int.reduceSub, Int.reduceMul, Int.reduceNeg, Int.reduceLT, Int.reduceLE, Int.reduceToNat, Nat.reduceLT, Nat.reduceAdd, Nat.reduceSub, Nat.reduceMul, Nat.reduceEqDiff, Nat.reduceLeDiff, Nat.reduceBEq, reduceIte, reduceCtorEq]
  refine ⟨fun h => ?_, fun hlen => ?_⟩
  · exact Fin.nil rfl (psv := .b true) (by simp (maxSteps := 4000000) only [push_cast, Int.reduceEq, Int.reduceBNe, Int.reduceBEq, Int.reduceAdd, Int.reduceSub, Int.reduceMul, Int.reduceNeg, Int.reduceLT, Int.reduceLE, Int.reduceToNat, Nat.reduceLT, Nat.reduceAdd, Nat.reduceSub, Nat.reduceMul, Nat.reduceEqDiff, Nat.reduceLeDiff, Nat.reduceBEq, reduceIte, reduceCtorEq]) ⟨rfl, rfl⟩
  have hn := newSt_ok true true hm
  have hok := kok0 h0
  refine call_w (copyBA_c b hb) [] (by simp (maxSteps := 4000000) only [push_cast, Int.reduceEq, Int.reduceBNe, Int.reduceBEq, Int.reduceAdd, Int.reduceSub, Int.reduceMul, Int.reduceNeg, Int.reduceLT, Int.reduceLE, Int.reduceToNat, Nat.reduceLT, Nat.reduceAdd, Nat.reduceSub, Nat.reduceMul, Nat.reduceEqDiff, Nat.reduceLeDiff, Nat.reduceBEq, reduceIte, reduceCtorEq]) ?_
  rintro sv post ⟨rfl, rfl⟩
  simp (maxSteps := 4000000) only [push_cast, Int.reduceEq, Int.reduceBNe, Int.reduceBEq, Int.reduceAdd, Int.reduceSub, Int.reduceMul, Int.reduceNeg, Int.reduceLT, Int.reduceLE, Int.reduceToNat, Nat.reduceLT, Nat.reduceAdd, Nat.reduceSub, Nat.reduceMul, Nat.reduceEqDiff, Nat.reduceLeDiff, Nat.reduceBEq, reduceIte, reduceCtorEq, hn]
  have h7 : flagsOf true = 7 := rfl
  rw [h7]
  have hlen2 : b.length ≤ 5000 := by omega
  have hA0 := new_aw (text := b) hm hok hlen2
  rw [hn] at hA0
  have hwr := kernW_wr r 7 (.inr rfl)
  have hsk := kernW_sk r 7 (.inr rfl)
  have hv := kernW_v r 7
  have hrs := kernW_res r 7
  have hA (x : St) (g : KSt) (want : List Int) (h : AW x g want) : x.o.length ≤ (kernW r 7).rm g := by
    have := h.ol
    show x.o.length ≤ 1125899906842624
    omega
  refine loop_ok (ι := {q : Nat × List Int × St × KSt // q.1 ≤ rows.length ∧ q.1 ≤ 30 ∧ AW q.2.2.1 q.2.2.2 q.2.1 ∧ q.2.1.length ≤ 5000 + 100 * q.1 ∧ q.2.2.1.o = []})
    (fun q => ⟨[.ints .u8 .old b, .sl 2 .old F.length (faultEl F), .i .i64 kind, .i .i64 size, .sl 1 .old rows.length (lelA rows), .ints .i64 .old offs, .any, .any, .any, .any, .any, .any, .any, .ptr 0 0, .any, .ptr 1 0, .any, .ints .u8 (.tok 3 true) q.1.2.1, .i .i64 q.1.1] ++ List.replicate 156 .any, [(0, 52, [.ifc 149 (.raw (hdlV r)), .any, .nilp, .nilp, .nilp, .raw (.pointer (some ⟨r, 0, none⟩)), .any]), (1, 34, q.1.2.2.1.cells .new .new .new)], [3], [(2, kernR r 7 q.1.2.2.2)], 4, 0, []⟩)
    (fun q => rows.length - q.1.1) ⟨(0, b, ⟨true, true, kind, size, [], [], [], 0, false, false, false⟩, ⟨b, 0, F, 0, 0⟩), Nat.zero_le _, by omega, hA0, by omega, rfl⟩ ?_ ?_
  · refine Sub.w [0, 2, 1, 3] ?_
    simp (maxSteps := 4000000) only [push_cast, Int.reduceEq, Int.reduceBNe, Int.reduceBEq, Int.reduceAdd, Int.reduceSub, Int.reduceMul, Int.reduceNeg, Int.reduceLT, Int.reduceLE, Int.reduceToNat, Nat.reduceLT, Nat.reduceAdd, Nat.reduceSub, Nat.reduceMul, Nat.reduceEqDiff, Nat.reduceLeDiff, Nat.reduceBEq, reduceIte, reduceCtorEq, St.cells]
    exact ⟨⟨fun i _ j _ => W_fault _ F i j, fun i _ j _ => lelA_W _ _ i j⟩, rfl⟩
  rintro ⟨⟨i, want, x, g⟩, hi, hi30, hx, hwl, hxo⟩
  simp only at hi hi30 hx hwl hxo
  refine CodeOK.seq (evCode_sound Γok _ _ _ ?_)
  simp (maxSteps := 4000000) only [push_cast, Int.reduceEq, Int.reduceBNe, Int.reduceBEq, Int.reduceAdd, Int.reduceSub, Int.reduceMul, Int.reduceNeg, Int.reduceLT, Int.reduceLE, Int.reduceToNat, Nat.reduceLT, Nat.reduceAdd, Nat.reduceSub, Nat.reduceMul, Nat.reduceEqDiff, Nat.reduceLeDiff, Nat.reduceBEq, reduceIte, reduceCtorEq, St.cells, seqC]
  refine ⟨fun h1 => ?_, fun h1 => ?_⟩
  · refine CodeOK.seq (CodeOK.block (code_cutI (ι := {q : St × KSt // AW q.1 q.2 want}) (fun q => ⟨[.ints .u8 .old b, .sl 2 .old F.length (faultEl F), .i .i64 kind, .i .i64 size, .sl 1 .old rows.length (lelA rows), .ints .i64 .old offs, .any, .any, .any, .any, .any, .any, .any, .ptr 0 0, .any, .ptr 1 0, .any, .ints .u8 (.tok 3 true) want, .i .i64 i] ++ List.replicate 156 .any, [(0, 52, [.ifc 149 (.raw (hdlV r)), .any, .nilp, .nilp, .nilp, .raw (.pointer (some ⟨r, 0, none⟩)), .any]), (1, 34, q.1.1.cells .new .new .new)], [3], [(2, kernR r 7 q.1.2)], 4, 0, []⟩) (evCode_sound Γok _ _ _ ?_) ?_))
    · simp (maxSteps := 4000000) only [push_cast, Int.reduceEq, Int.reduceBNe, Int.reduceBEq, Int.reduceAdd, Int.reduceSub, Int.reduceMul, Int.reduceNeg, Int.reduceLT, Int.reduceLE, Int.reduceToNat, Nat.reduceLT, Nat.reduceAdd, Nat.reduceSub, Nat.reduceMul, Nat.reduceEqDiff, Nat.reduceLeDiff, Nat.reduceBEq, reduceIte, reduceCtorEq, cutI, seqC]
      refine ⟨fun h2 => ?_, fun h2 => ?_⟩
      · refine (region_plan rfl Γok mixed (.pure 0 (.pure 1 (.pure 2 (.pure 3 (.pure 4 (.pure 5 (.pure 6 (.pure 7 (.pure 8 (.eff (.cons 9 [] (.pure 10 (.pure 11 (.pure 12 (.pure 13 (.eff (.cons 14 [0, 4, 8] (.eff (.cons 15 [] (.pure 16 (.pure 17 .done)) .nil)) .nil)))))) (.cons 14 [0, 4, 8] (.eff (.cons 9 [] (.pure 10 (.pure 11 (.pure 12 (.pure 13 (.eff (.cons 15 [] (.pure 16 (.pure 17 .done)) .nil)))))) .nil)) .nil)))))))))))) 175 rfl (by kernel_rfl) ?_)
        simp (maxSteps := 4000000) only [push_cast, Int.reduceEq, Int.reduceBNe, Int.reduceBEq, Int.reduceAdd, Int.reduceSub, Int.reduceMul, Int.reduceNeg, Int.reduceLT, Int.reduceLE, Int.reduceToNat, Nat.reduceLT, Nat.reduceAdd, Nat.reduceSub, Nat.reduceMul, Nat.reduceEqDiff, Nat.reduceLeDiff, Nat.reduceBEq, reduceIte, reduceCtorEq]
        obtain ⟨y, g1, n1, e1, hS, hy⟩ := aw_seek r hx (offs.getD i 0)
        have hC := Seek_c (kernW r 7) hwr hsk x hx.fits (by have := hx.ol; omega) g hx.ok (hA x g want hx) (offs.getD i 0) 0
        rw [hS] at hC
        unfold isT at hC
        dsimp only at hC
        refine ⟨⟨by omega, by omega⟩, ?_⟩
        and_intros
        all_goals
          refine call_w hC [2] (by simp (maxSteps := 4000000) only [push_cast, Int.reduceEq, Int.reduceBNe, Int.reduceBEq, Int.reduceAdd, Int.reduceSub, Int.reduceMul, Int.reduceNeg, Int.reduceLT, Int.reduceLE, Int.reduceToNat, Nat.reduceLT, Nat.reduceAdd, Nat.reduceSub, Nat.reduceMul, Nat.reduceEqDiff, Nat.reduceLeDiff, Nat.reduceBEq, reduceIte, reduceCtorEq, preR, St.sv, St.cells, hv, hrs]; try simp) ?_
          rintro sv post ⟨rfl, rfl⟩
          simp (maxSteps := 4000000) only [push_cast, Int.reduceEq, Int.reduceBNe, Int.reduceBEq, Int.reduceAdd, Int.reduceSub, Int.reduceMul, Int.reduceNeg, Int.reduceLT, Int.reduceLE, Int.reduceToNat, Nat.reduceLT, Nat.reduceAdd, Nat.reduceSub, Nat.reduceMul, Nat.reduceEqDiff, Nat.reduceLeDiff, Nat.reduceBEq, reduceIte, reduceCtorEq, preR, St.sv, St.cells, cutI, seqC, hrs]
          refine ⟨⟨(y, g1), hy⟩, Sub.w [0, 1, 2, 3] ?_⟩
          simp (maxSteps := 4000000) only [push_cast, Int.reduceEq, Int.reduceBNe, Int.reduceBEq, Int.reduceAdd, Int.reduceSub, Int.reduceMul, Int.reduceNeg, Int.reduceLT, Int.reduceLE, Int.reduceToNat, Nat.reduceLT, Nat.reduceAdd, Nat.reduceSub, Nat.reduceMul, Nat.reduceEqDiff, Nat.reduceLeDiff, Nat.reduceBEq, reduceIte, reduceCtorEq, St.cells]
          first | done | (and_intros; all_goals first | exact fun i _ j _ => W_fault _ F i j | exact fun i _ j _ => lelA_W _ _ i j | rfl)
      · refine ⟨⟨(x, g), hx⟩, Sub.w [0, 1, 2, 3] ?_⟩
        simp (maxSteps := 4000000) only [push_cast, Int.reduceEq, Int.reduceBNe, Int.reduceBEq, Int.reduceAdd, Int.reduceSub, Int.reduceMul, Int.reduceNeg, Int.reduceLT, Int.reduceLE, Int.reduceToNat, Nat.reduceLT, Nat.reduceAdd, Nat.reduceSub, Nat.reduceMul, Nat.reduceEqDiff, Nat.reduceLeDiff, Nat.reduceBEq, reduceIte, reduceCtorEq, St.cells]
        first | done | (and_intros; all_goals first | exact fun i _ j _ => W_fault _ F i j | exact fun i _ j _ => lelA_W _ _ i j | rfl)
    · rintro ⟨⟨x, g⟩, hx⟩
      simp only at hx
      refine evCode_sound Γok _ _ _ ?_
      simp (maxSteps := 4000000) only [push_cast, Int.reduceEq, Int.reduceBNe, Int.reduceBEq, Int.reduceAdd, Int.reduceSub, Int.reduceMul, Int.reduceNeg, Int.reduceLT, Int.reduceLE, Int.reduceToNat, Nat.reduceLT, Nat.reduceAdd, Nat.reduceSub, Nat.reduceMul, Nat.reduceEqDiff, Nat.reduceLeDiff, Nat.reduceBEq, reduceIte, reduceCtorEq, St.cells, seqC]
      generalize hrow : rows.getD i [] = row
      have hrl := hrows i
      rw [hrow] at hrl
      refine loop_ok (ι := {q : Nat × St × KSt // q.1 ≤ row.length ∧ q.1 ≤ 100 ∧ AW q.2.1 q.2.2 (want ++ row.take q.1) ∧ (0 < q.1 → AQ q.2.1 q.2.2)})
        (fun q => ⟨[.ints .u8 .old b, .sl 2 .old F.length (faultEl F), .i .i64 kind, .i .i64 size, .sl 1 .old rows.length (lelA rows), .ints .i64 .old offs, .any, .any, .any, .any, .any, .any, .any, .ptr 0 0, .any, .ptr 1 0, .any, .ints .u8 (.tok 3 true) (want ++ row.take q.1.1), .i .i64 i, .any, .any, .any, .i .i64 q.1.1] ++ List.replicate 152 .any, [(0, 52, [.ifc 149 (.raw (hdlV r)), .any, .nilp, .nilp, .nilp, .raw (.pointer (some ⟨r, 0, none⟩)), .any]), (1, 34, q.1.2.1.cells .new .new .new)], [3], [(2, kernR r 7 q.1.2.2)], 4, 0, []⟩)
        (fun q => row.length - q.1.1) ⟨(0, x, g), Nat.zero_le _, by omega, by simpa using hx, by omega⟩ ?_ ?_
      · refine Sub.w [0, 1, 2, 3] ?_
        simp (maxSteps := 4000000) only [push_cast, Int.reduceEq, Int.reduceBNe, Int.reduceBEq, Int.reduceAdd, Int.reduceSub, Int.reduceMul, Int.reduceNeg, Int.reduceLT, Int.reduceLE, Int.reduceToNat, Nat.reduceLT, Nat.reduceAdd, Nat.reduceSub, Nat.reduceMul, Nat.reduceEqDiff, Nat.reduceLeDiff, Nat.reduceBEq, reduceIte, reduceCtorEq, St.cells, List.append_nil]
        first | done | (and_intros; all_goals first | exact fun i _ j _ => W_fault _ F i j | exact fun i _ j _ => lelA_W _ _ i j | rfl)
      · rintro ⟨⟨k, x, g⟩, hk, hk100, hx, hq⟩
        simp only at hk hk100 hx hq
        refine evCode_sound Γok _ _ _ ?_
        simp (maxSteps := 4000000) only [push_cast, Int.reduceEq, Int.reduceBNe, Int.reduceBEq, Int.reduceAdd, Int.reduceSub, Int.reduceMul, Int.reduceNeg, Int.reduceLT, Int.reduceLE, Int.reduceToNat, Nat.reduceLT, Nat.reduceAdd, Nat.reduceSub, Nat.reduceMul, Nat.reduceEqDiff, Nat.reduceLeDiff, Nat.reduceBEq, reduceIte, reduceCtorEq, St.cells, seqC, lelA, Int.toNat_natCast, hrow]
        refine ⟨⟨by omega, by omega⟩, fun h3 => ?_, fun h3 => ?_⟩
        · have hwl2 : (want ++ row.take k).length < 100000 := by rw [List.length_append, List.length_take]; omega
          obtain ⟨y, g1, hP, hy, hyq⟩ := aw_put r hx (row.getD k 0) hwl2
          have hC := PutR_c (kernW r 7) hwr x g hx.ok hx.fits (row.getD k 0) (by have := hx.ol; show x.o.length + 1 ≤ 1125899906842624; omega)
          rw [hP] at hC
          unfold isS at hC
          dsimp only at hC
          have hk1 : want ++ row.take k ++ [row.getD k 0] = want ++ row.take (k + 1) := by
            rw [List.append_assoc, List.take_succ_eq_append_getElem (show k < row.length by omega)]
            simp [List.getD, show k < row.length by omega]
          refine (region_plan rfl Γok mixed (.pure 0 (.pure 1 (.pure 2 (.pure 3 (.pure 4 (.pure 5 (.pure 6 (.pure 7 (.pure 8 (.pure 9 (.pure 10 (.pure 11 (.eff (.cons 12 [] (.pure 13 (.pure 14 (.pure 15 (.eff (.cons 16 [0, 4, 8, 11] (.eff (.cons 17 [] (.pure 18 .done) .nil)) .nil))))) (.cons 16 [0, 4, 8, 11] (.eff (.cons 12 [] (.pure 13 (.pure 14 (.pure 15 (.eff (.cons 17 [] (.pure 18 .done) .nil))))) .nil)) .nil))))))))))))))) 175 rfl (by kernel_rfl) ?_)
          simp (maxSteps := 4000000) only [push_cast, Int.reduceEq, Int.reduceBNe, Int.reduceBEq, Int.reduceAdd, Int.reduceSub, Int.reduceMul, Int.reduceNeg, Int.reduceLT, Int.reduceLE, Int.reduceToNat, Nat.reduceLT, Nat.reduceAdd, Nat.reduceSub, Nat.reduceMul, Nat.reduceEqDiff, Nat.reduceLeDiff, Nat.reduceBEq, reduceIte, reduceCtorEq, lelA, Int.toNat_natCast, hrow]
          refine ⟨⟨by omega, by omega⟩, ⟨by omega, by omega⟩, ?_⟩
          and_intros
          all_goals
            refine call_w hC [2] (by simp (maxSteps := 4000000) only [push_cast, Int.reduceEq, Int.reduceBNe, Int.reduceBEq, Int.reduceAdd, Int.reduceSub, Int.reduceMul, Int.reduceNeg, Int.reduceLT, Int.reduceLE, Int.reduceToNat, Nat.reduceLT, Nat.reduceAdd, Nat.reduceSub, Nat.reduceMul, Nat.reduceEqDiff, Nat.reduceLeDiff, Nat.reduceBEq, reduceIte, reduceCtorEq, preR, St.sv, St.cells, hv, hrs]; try simp) ?_
            rintro sv post ⟨rfl, rfl⟩
            simp (maxSteps := 4000000) only [push_cast, Int.reduceEq, Int.reduceBNe, Int.reduceBEq, Int.reduceAdd, Int.reduceSub, Int.reduceMul, Int.reduceNeg, Int.reduceLT, Int.reduceLE, Int.reduceToNat, Nat.reduceLT, Nat.reduceAdd, Nat.reduceSub, Nat.reduceMul, Nat.reduceEqDiff, Nat.reduceLeDiff, Nat.reduceBEq, reduceIte, reduceCtorEq, preR, St.sv, St.cells, seqC, hrs, lelA, Int.toNat_natCast, hrow]
            refine call_w (num14_c 0) [] (by simp (maxSteps := 4000000) only [push_cast, Int.reduceEq, Int.reduceBNe, Int.reduceBEq, Int.reduceAdd, Int.reduceSub, Int.reduceMul, Int.reduceNeg, Int.reduceLT, Int.reduceLE, Int.reduceToNat, Nat.reduceLT, Nat.reduceAdd, Nat.reduceSub, Nat.reduceMul, Nat.reduceEqDiff, Nat.reduceLeDiff, Nat.reduceBEq, reduceIte, reduceCtorEq]) ?_
            rintro sv post ⟨rfl, rfl⟩
            simp (maxSteps := 4000000) only [push_cast, Int.reduceEq, Int.reduceBNe, Int.reduceBEq, Int.reduceAdd, Int.reduceSub, Int.reduceMul, Int.reduceNeg, Int.reduceLT, Int.reduceLE, Int.reduceToNat, Nat.reduceLT, Nat.reduceAdd, Nat.reduceSub, Nat.reduceMul, Nat.reduceEqDiff, Nat.reduceLeDiff, Nat.reduceBEq, reduceIte, reduceCtorEq, preR, St.sv, St.cells, seqC, hrs, lelA, Int.toNat_natCast, hrow]
            refine ⟨⟨by omega, by omega⟩, ⟨by omega, by omega⟩, by omega, ⟨(k + 1, y, g1), by omega, by omega, by rw [← hk1]; exact hy, fun _ => hyq⟩, by simp only; omega, Sub.w [0, 1, 2, 6] ?_⟩
            simp (maxSteps := 4000000) only [push_cast, Int.reduceEq, Int.reduceBNe, Int.reduceBEq, Int.reduceAdd, Int.reduceSub, Int.reduceMul, Int.reduceNeg, Int.reduceLT, Int.reduceLE, Int.reduceToNat, Nat.reduceLT, Nat.reduceAdd, Nat.reduceSub, Nat.reduceMul, Nat.reduceEqDiff, Nat.reduceLeDiff, Nat.reduceBEq, reduceIte, reduceCtorEq, St.cells, hk1]
            have hwk : (k : Int) + 1 = IntKind.i64.wrap ((k : Int) + 1) := (wrap64 (n := (k : Int) + 1) (by omega) (by omega)).symm
            first | exact hwk | (and_intros; all_goals first | exact fun i _ j _ => W_fault _ F i j | exact fun i _ j _ => lelA_W _ _ i j | exact hwk | rfl)
        · obtain ⟨y, g1, n1, hT, hy, hn1, hyo⟩ := aw_tell r hx
          have hC := Tell_c (kernW r 7) hwr hsk x hx.fits (by have := hx.ol; omega) g hx.ok (hA x g _ hx)
          rw [hT] at hC
          unfold isT at hC
          dsimp only at hC
          refine (region_plan rfl Γok mixed (.pure 0 (.pure 1 (.pure 2 (.pure 3 (.pure 4 (.eff (.cons 5 [] (.pure 6 (.pure 7 (.pure 8 (.pure 9 (.eff (.cons 10 [0, 4] (.eff (.cons 11 [] (.pure 12 (.pure 13 .done)) .nil)) .nil)))))) (.cons 10 [0, 4] (.eff (.cons 5 [] (.pure 6 (.pure 7 (.pure 8 (.pure 9 (.eff (.cons 11 [] (.pure 12 (.pure 13 .done)) .nil)))))) .nil)) .nil)))))))) 175 rfl (by kernel_rfl) ?_)
          simp (maxSteps := 4000000) only [push_cast, Int.reduceEq, Int.reduceBNe, Int.reduceBEq, Int.reduceAdd, Int.reduceSub, Int.reduceMul, Int.reduceNeg, Int.reduceLT, Int.reduceLE, Int.reduceToNat, Nat.reduceLT, Nat.reduceAdd, Nat.reduceSub, Nat.reduceMul, Nat.reduceEqDiff, Nat.reduceLeDiff, Nat.reduceBEq, reduceIte, reduceCtorEq]
          and_intros
          all_goals
            refine call_w hC [2] (by simp (maxSteps := 4000000) only [push_cast, Int.reduceEq, Int.reduceBNe, Int.reduceBEq, Int.reduceAdd, Int.reduceSub, Int.reduceMul, Int.reduceNeg, Int.reduceLT, Int.reduceLE, Int.reduceToNat, Nat.reduceLT, Nat.reduceAdd, Nat.reduceSub, Nat.reduceMul, Nat.reduceEqDiff, Nat.reduceLeDiff, Nat.reduceBEq, reduceIte, reduceCtorEq, preR, St.sv, St.cells, hv, hrs]) ?_
            rintro sv post ⟨rfl, rfl⟩
            simp (maxSteps := 4000000) only [push_cast, Int.reduceEq, Int.reduceBNe, Int.reduceBEq, Int.reduceAdd, Int.reduceSub, Int.reduceMul, Int.reduceNeg, Int.reduceLT, Int.reduceLE, Int.reduceToNat, Nat.reduceLT, Nat.reduceAdd, Nat.reduceSub, Nat.reduceMul, Nat.reduceEqDiff, Nat.reduceLeDiff, Nat.reduceBEq, reduceIte, reduceCtorEq, preR, St.sv, St.cells, seqC, hrs, lelA, Int.toNat_natCast, hrow]
            refine call_w (num14_c 0) [] (by simp (maxSteps := 4000000) only [push_cast, Int.reduceEq, Int.reduceBNe, Int.reduceBEq, Int.reduceAdd, Int.reduceSub, Int.reduceMul, Int.reduceNeg, Int.reduceLT, Int.reduceLE, Int.reduceToNat, Nat.reduceLT, Nat.reduceAdd, Nat.reduceSub, Nat.reduceMul, Nat.reduceEqDiff, Nat.reduceLeDiff, Nat.reduceBEq, reduceIte, reduceCtorEq]) ?_
            rintro sv post ⟨rfl, rfl⟩
            simp (maxSteps := 4000000) only [push_cast, Int.reduceEq, Int.reduceBNe, Int.reduceBEq, Int.reduceAdd, Int.reduceSub, Int.reduceMul, Int.reduceNeg, Int.reduceLT, Int.reduceLE, Int.reduceToNat, Nat.reduceLT, Nat.reduceAdd, Nat.reduceSub, Nat.reduceMul, Nat.reduceEqDiff, Nat.reduceLeDiff, Nat.reduceBEq, reduceIte, reduceCtorEq, preR, St.sv, St.cells, seqC, hrs, lelA, Int.toNat_natCast, hrow]
            refine ⟨⟨by omega, by omega⟩, fun h4 => ?_, fun h4 => ?_⟩
            · exact absurd (hn1 (hq (by omega))) h4.2
            · have hlw : (want ++ row.take k).length ≤ 5000 + 100 * (i + 1) := by rw [List.length_append, List.length_take]; omega
              refine evCode_sound Γok _ _ _ ?_
              simp (maxSteps := 4000000) only [push_cast, Int.reduceEq, Int.reduceBNe, Int.reduceBEq, Int.reduceAdd, Int.reduceSub, Int.reduceMul, Int.reduceNeg, Int.reduceLT, Int.reduceLE, Int.reduceToNat, Nat.reduceLT, Nat.reduceAdd, Nat.reduceSub, Nat.reduceMul, Nat.reduceEqDiff, Nat.reduceLeDiff, Nat.reduceBEq, reduceIte, reduceCtorEq, St.cells, seqC]
              refine ⟨⟨(i + 1, want ++ row.take k, y, g1), by omega, by omega, hy, hlw, hyo⟩, by simp only; omega, Sub.w [0, 1, 2, 3] ?_⟩
              simp (maxSteps := 4000000) only [push_cast, Int.reduceEq, Int.reduceBNe, Int.reduceBEq, Int.reduceAdd, Int.reduceSub, Int.reduceMul, Int.reduceNeg, Int.reduceLT, Int.reduceLE, Int.reduceToNat, Nat.reduceLT, Nat.reduceAdd, Nat.reduceSub, Nat.reduceMul, Nat.reduceEqDiff, Nat.reduceLeDiff, Nat.reduceBEq, reduceIte, reduceCtorEq, St.cells]
              have hwk : (i : Int) + 1 = IntKind.i64.wrap ((i : Int) + 1) := (wrap64 (n := (i : Int) + 1) (by omega) (by omega)).symm
              first | exact hwk | (and_intros; all_goals first | exact fun i _ j _ => W_fault _ F i j | exact fun i _ j _ => lelA_W _ _ i j | exact hwk | rfl)
  · refine call_w (kernFilesR_c r 7 g hx.ok) [2] (by simp (maxSteps := 4000000) only [push_cast, Int.reduceEq, Int.reduceBNe, Int.reduceBEq, Int.reduceAdd, Int.reduceSub, Int.reduceMul, Int.reduceNeg, Int.reduceLT, Int.reduceLE, Int.reduceToNat, Nat.reduceLT, Nat.reduceAdd, Nat.reduceSub, Nat.reduceMul, Nat.reduceEqDiff, Nat.reduceLeDiff, Nat.reduceBEq, reduceIte, reduceCtorEq, preR]) ?_
    rintro sv post ⟨rfl, rfl⟩
    simp (maxSteps := 4000000) only [push_cast, Int.reduceEq, Int.reduceBNe, Int.reduceBEq, Int.reduceAdd, Int.reduceSub, Int.reduceMul, Int.reduceNeg, Int.reduceLT, Int.reduceLE, Int.reduceToNat, Nat.reduceLT, Nat.reduceAdd, Nat.reduceSub, Nat.reduceMul, Nat.reduceEqDiff, Nat.reduceLeDiff, Nat.reduceBEq, reduceIte, reduceCtorEq, preR, fEl]
    refine call_w (sameBytes_c g.data want) [] (by simp (maxSteps := 4000000) only [push_cast, Int.reduceEq, Int.reduceBNe, Int.reduceBEq, Int.reduceAdd, Int.reduceSub, Int.reduceMul, Int.reduceNeg, Int.reduceLT, Int.reduceLE, Int.reduceToNat, Nat.reduceLT, Nat.reduceAdd, Nat.reduceSub, Nat.reduceMul, Nat.reduceEqDiff, Nat.reduceLeDiff, Nat.reduceBEq, reduceIte, reduceCtorEq]) ?_
    rintro sv post ⟨rfl, rfl⟩
    have hgd : g.data = want := by rw [← hx.all, hxo, List.append_nil]
    rw [hgd]
    simp (maxSteps := 4000000) only [push_cast, Int.reduceEq, Int.reduceBNe, Int.reduceBEq, Int.reduceAdd, Int.reduceSub, Int.reduceMul, Int.reduceNeg, Int.reduceLT, Int.reduceLE, Int.reduceToNat, Nat.reduceLT, Nat.reduceAdd, Nat.reduceSub, Nat.reduceMul, Nat.reduceEqDiff, Nat.reduceLeDiff, Nat.reduceBEq, reduceIte, reduceCtorEq, beq_self_eq_true]
    exact Fin.nil rfl (psv := .b true) (by simp (maxSteps := 4000000) only [push_cast, Int.reduceEq, Int.reduceBNe, Int.reduceBEq, Int.reduceAdd, Int.reduceSub, Int.reduceMul, Int.reduceNeg, Int.reduceLT, Int.reduceLE, Int.reduceToNat, Nat.reduceLT, Nat.reduceAdd, Nat.reduceSub, Nat.reduceMul, Nat.reduceEqDiff, Nat.reduceLeDiff, Nat.reduceBEq, reduceIte, reduceCtorEq]) ⟨rfl, rfl⟩
end Go.Proofs.YtlgpcngfcglanaaGreat
/- Lines that came in; PositionAppend of what came in. -/
namespace Go.Proofs.YtlgpcngfcglanaaGreat
open Go Go.Eng Go.RowKit
set_option linter.unusedSimpArgs false
set_option linter.unusedVariables false
set_option maxRecDepth 100000

theorem faultEl_get : ∀ (rows : List (Int × Int)) (i j : Nat) (d : Int × Int), i < rows.length → faultEl rows i j = lget [.i .i64 (rows.getD i d).1, .i .i64 (rows.getD i d).2] j
  | [], i, j, d, h => by simp at h
  | a :: r, 0, j, d, h => rfl
  | a :: r, i + 1, j, d, h => by
    have := faultEl_get r i j d (by simpa using h)
    rw [show (a :: r).getD (i + 1) d = r.getD i d by simp [List.getD]]
    exact this
def FaultsIn (W : World) (v : Value) : Prop := ∃ F : List (Int × Int), F.length ≤ 140737488355328 ∧ Den (env0 W) (.sl 2 .old F.length (faultEl F)) v
theorem FaultsIn_in {H : Type} {enc : TypeId × Value → H} {W : World} {base : Nat} {sp : Nat → Bool} {held : Bool} {v : Value} {d : DataW H} {ps : List MemPlace} (h : DataW.Trod enc Tryz.prog W base sp held 23 v d ps) (hv : ∃ a n c, v = .slice a n c)
    (hz : ∀ k, k ∈ d.weights Tryz.prog 23 → k ≤ reachBytes) : FaultsIn W v := by
  obtain ⟨fuel, h⟩ := h
  have hs : ∃ f0 f1 : Field, Tryz.prog.underlying 239 = some (.struct #[f0, f1]) ∧ (f0.offset = 0 ∧ f0.type = 3) ∧ (f1.offset = 1 ∧ f1.type = 3) := ⟨_, _, Tryz.underlying239, ⟨rfl, rfl⟩, ⟨rfl, rfl⟩⟩
  obtain ⟨f0, f1, hs, ⟨o0, t0⟩, o1, t1⟩ := hs
  have hi : Tryz.prog.underlying 3 = some (.int .i64) := by kernel_rfl
  have hc1 : Tryz.prog.cellsOf 3 = 1 := by kernel_rfl
  have hc2 : Tryz.prog.cellsOf 239 = 2 := by kernel_rfl
  have hby : Tryz.prog.bytesOf 239 = 16 := by kernel_rfl
  obtain ⟨rows, h1, h2⟩ := den_sliceW (by kernel_rfl : Tryz.prog.underlying 23 = some (.slice 239)) hc2 (by omega) (α := Int × Int) (fun t => [.i .i64 t.1, .i .i64 t.2]) (fun n cs y hl ht hw => by
    obtain ⟨h1, h2⟩ := trod_fields hs (fun i f hf => by
      match i with
      | 0 => simp at hf; subst hf; exact ⟨o0, by rw [t0]; exact hc1⟩
      | 1 => simp at hf; subst hf; exact ⟨o1, by rw [t1]; exact hc1⟩
      | i + 2 => simp at hf) hc2 ht
    obtain ⟨u0, y0, n0, c0, r0⟩ := h2 0 f0 rfl
    obtain ⟨u1, y1, n1, c1, r1⟩ := h2 1 f1 rfl
    obtain ⟨x0, e0, _⟩ := DataW.trod_int (by rw [t0]; exact hi) r0
    obtain ⟨x1, e1, _⟩ := DataW.trod_int (by rw [t1]; exact hi) r1
    refine ⟨(x0, x1), ?_⟩
    match cs, hl with
    | [a, b], _ =>
      simp at c0 c1 e0 e1
      subst c0 c1 e0 e1
      simp only [DenL, Den]
      exact ⟨trivial, trivial, trivial⟩) h hv hz (by rw [hby]; omega)
  refine ⟨rows, h1, den_el (fun i hi j hj => ?_) (h2 (0, 0))⟩
  rw [faultEl_get rows i j (0, 0) hi]
def LinesInA (W : World) (v : Value) : Prop := ∃ rows : List (List Int), (∀ i, (rows.getD i []).length ≤ 9223372036854775807) ∧ Den (env0 W) (.sl 1 .old rows.length (lelA rows)) v
theorem den_bytesA {W : World} {k : IntKind} {a : Addr} {len cap : Nat} {zs : List Int} (h1 : len ≤ cap) (h2 : cap ≤ maxLen) (h3 : len ≤ zs.length) (h4 : ∀ i, i < zs.length → W.cell? (a.add i) = some (.int k (zs.getD i 0))) :
    Den (env0 W) (.ints k .old (zs.take len)) (.slice (some a) len cap) := by
  simp only [Den]
  have hl : (zs.take len).length = len := by simp; omega
  refine ⟨some a, cap, by rw [hl], by omega, by unfold maxLen at h2; omega, fun i y hy => ?_, trivial⟩
  rw [List.getElem?_take] at hy
  split at hy
  · have hi : i < zs.length := by omega
    have hc := h4 i hi
    obtain ⟨b, off, spot⟩ := a
    have hspot : spot = none := by
      cases spot with
      | none => rfl
      | some s =>
        have := World.cell?_spot (h4 0 (by omega))
        simp [Addr.add] at this
    subst hspot
    refine ⟨b, off, rfl, ?_⟩
    have : zs.getD i 0 = y := by simp [List.getD, hy]
    rw [this, addr_add] at hc
    exact hc
  · cases hy
theorem den_bytes0A {W : World} {k : IntKind} : Den (env0 W) (.ints k .old []) (.slice none 0 0) := by
  simp only [Den]
  exact ⟨none, 0, by simp, by simp, by simp, fun i x hx => by simp at hx, trivial⟩

theorem LinesInA_in {H : Type} {enc : TypeId × Value → H} {W : World} {base : Nat} {sp : Nat → Bool} {held : Bool} {v : Value} {d : DataW H} {ps : List MemPlace} (h : DataW.Trod enc Tryz.prog W base sp held 29 v d ps) (hv : ∃ a n c, v = .slice a n c) : LinesInA W v := by
  obtain ⟨fuel, h⟩ := h
  have hc1 : Tryz.prog.cellsOf 22 = 1 := by kernel_rfl
  obtain ⟨rows, h1, h2⟩ := den_slice (by kernel_rfl : Tryz.prog.underlying 29 = some (.slice 22)) hc1 (by omega) (α := {r : List Int // r.length ≤ 9223372036854775807}) (fun r => [.ints .u8 .old r.1]) (fun n cs y hl ht => by
    rcases Go.ChangeShapes.open_ints (by kernel_rfl : Tryz.prog.underlying 22 = some (.slice 5)) (by kernel_rfl : Tryz.prog.underlying 5 = some (.int .u8)) (by kernel_rfl) ht with ⟨rfl, _⟩ | ⟨a, len, cap, zs, rfl, _, q1, q2, q3, _, q4, _⟩
    · exact ⟨⟨[], by simp⟩, by simp only [DenL]; exact ⟨den_bytes0A, trivial⟩⟩
    · refine ⟨⟨zs.take len, by rw [List.length_take]; unfold maxLen at q2; omega⟩, ?_⟩
      simp only [DenL]
      exact ⟨den_bytesA q1 q2 (by rw [q3]; split <;> omega) q4, trivial⟩) h hv
  have hget : ∀ i, (rows.map (·.1)).getD i [] = (rows.getD i ⟨[], by simp⟩).1 := fun i => by
    simp only [List.getD_eq_getElem?_getD, List.getElem?_map]
    cases rows[i]? <;> rfl
  refine ⟨rows.map (·.1), fun i => by rw [hget]; exact (rows.getD i ⟨[], by simp⟩).2, ?_⟩
  rw [List.length_map]
  refine den_el (fun i hi j hj => ?_) (h2 ⟨[], by simp⟩)
  have : j = 0 := by omega
  subst this
  unfold lelA
  rw [hget]
  rfl
theorem positionAppendB_c (b : List UInt8) (F : List (Int × Int)) (kind size : Int) (rows : List (List Int)) (offs : List Int) (hb : b.length ≤ 140737488355328) (hF : F.length ≤ 140737488355328) (hrows : ∀ i, (rows.getD i []).length ≤ 9223372036854775807) : Contract Tryz.prog 5 nilSS [.ints .u8 .old (ofU b), .sl 2 .old F.length (faultEl F), .i .i64 kind, .i .i64 size, .sl 1 .old rows.length (lelA rows), .ints .i64 .old offs] (fun sv post => sv = .b true ∧ post = nilSS) :=
  positionAppend_c (ofU b) (by rw [show (ofU b).length = b.length by simp [ofU]]; exact hb) F hF kind size rows hrows offs
end Go.Proofs.YtlgpcngfcglanaaGreat
