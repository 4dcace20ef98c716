/- Texts joined, in order: Ng. -/
import Derived.Test.YtmciepkhpocafaaGreatZEmGg
import Derived.Test.YtmciepkhpocafaaGreatZNaNd
import Derived.ChangeSlices
import Derived.SizedLaws
/- A state that came in: its slices hold bytes. -/
namespace Go.Proofs.YtmciepkhpocafaaGreat
open Go Go.Eng Go.RowKit
set_option linter.unusedSimpArgs false
set_option linter.unusedVariables false
set_option maxRecDepth 100000

section
variable {H : Type} {enc : TypeId × Value → H} {P : Program} {W : World} {base : Nat} {sp : Nat → Bool} {held : Bool}
theorem weights_all {e : TypeId} {d : DataW H} {k : Nat} : ∀ {ds : List (DataW H)}, d ∈ ds → k ∈ d.weights P e → k ∈ DataW.weightsAll P e ds
  | [], hd, _ => by cases hd
  | y :: r, hd, hk => by
    simp only [DataW.weightsAll, List.mem_append]
    rcases List.mem_cons.1 hd with rfl | hd
    · exact .inl hk
    · exact .inr (weights_all hd hk)
/-- A slice of elements that came in. -/
theorem den_sliceW {t e : TypeId} {fuel sz : Nat} {v : Value} {x : DataW H × List MemPlace} (ht : P.underlying t = some (.slice e)) (hc : P.cellsOf e = sz) (hsz : 0 < sz) {α : Type} (f : α → List SV)
    (hel : ∀ (n : Nat) (cs : List Value) (y : DataW H × List MemPlace), cs.length = sz → DataW.trod enc P W base sp held n e cs = some y → (∀ k, k ∈ y.1.weights P e → k ≤ reachBytes) → ∃ a : α, DenL (env0 W) (f a) cs)
    (h : DataW.trod enc P W base sp held fuel t v.cells.toList = some x) (hv : ∃ a n c, v = .slice a n c) (hz : ∀ k, k ∈ x.1.weights P t → k ≤ reachBytes) (hby : sz ≤ P.bytesOf e) :
    ∃ (rows : List α), rows.length ≤ 140737488355328 ∧ ∀ d : α, Den (env0 W) (.sl sz .old rows.length (fun i j => lget (f (rows.getD i d)) j)) v := by
  obtain ⟨va, vn, vc, rfl⟩ := hv
  rcases DataW.trod_slice ht h with ⟨h0, _⟩ | ⟨a, len, cap, elems, rest, n, _, hcs, hx, hb, hl, hm, hlen, hel', _, _⟩
  · simp [Value.cells] at h0
    obtain ⟨rfl, rfl, rfl⟩ := h0
    refine ⟨[], by simp, fun d => ?_⟩
    simp only [Den]
    exact ⟨none, 0, rfl, Nat.le_refl _, by omega, fun i hi => absurd hi (Nat.not_lt_zero _), trivial⟩
  · simp [Value.cells] at hcs
    obtain ⟨rfl, rfl, rfl⟩ := hcs
    have hn : vn ≤ 140737488355328 := by
      have h1 := hz (((elems.map (·.1)).length + (rest.map (·.1)).length) * P.bytesOf e) (by rw [hx]; simp only [DataW.weights, ht]; exact List.mem_cons_self)
      rw [List.length_map, List.length_map] at h1
      have h2 : vn * 1 ≤ (elems.length + rest.length) * P.bytesOf e := Nat.mul_le_mul (by omega) (by omega)
      unfold reachBytes at h1
      omega
    have each : ∀ i, i < vn → ∃ r : α, ∃ cs : List Value, cs.length = sz ∧ (∀ (j : Nat) (u : Value), cs[j]? = some u → W.cell? ((a.add (i * sz)).add j) = some u) ∧ DenL (env0 W) (f r) cs := by
      intro i hi
      have h1 := hel' i hi
      rw [List.getElem?_eq_getElem (by omega), Option.bind_eq_some_iff, hc] at h1
      obtain ⟨cs, h2, h3⟩ := h1
      obtain ⟨h4, h5⟩ := cells_get h2
      obtain ⟨r, hr⟩ := hel n cs _ h4 h3 (fun k hk => hz k (by
        rw [hx]
        simp only [DataW.weights, ht]
        refine List.mem_cons_of_mem _ (List.mem_append.2 (.inl ?_))
        exact weights_all (List.mem_map.2 ⟨_, List.getElem_mem (by omega), rfl⟩) hk))
      exact ⟨r, cs, h4, h5, hr⟩
    have build : ∀ m, m ≤ vn → ∃ rows : List α, rows.length = m ∧ ∀ i, i < m → ∃ r cs, rows[i]? = some r ∧ List.length cs = sz ∧ (∀ (j : Nat) (u : Value), cs[j]? = some u → W.cell? ((a.add (i * sz)).add j) = some u) ∧ DenL (env0 W) (f r) cs := by
      intro m
      induction m with
      | zero => intro _; exact ⟨[], rfl, fun i hi => absurd hi (Nat.not_lt_zero _)⟩
      | succ m ih =>
        intro hm
        obtain ⟨rows, h1, h2⟩ := ih (by omega)
        obtain ⟨r, cs, h3, h4, h5⟩ := each m (by omega)
        refine ⟨rows ++ [r], by simp [h1], fun i hi => ?_⟩
        rcases Nat.lt_or_ge i m with h | h
        · obtain ⟨r', cs', q1, q2⟩ := h2 i h
          exact ⟨r', cs', by rw [List.getElem?_append_left (by omega)]; exact q1, q2⟩
        · have : i = m := by omega
          subst this
          exact ⟨r, cs, by rw [List.getElem?_append_right (by omega), h1]; simp, h3, h4, h5⟩
    obtain ⟨rows, hr, hrows⟩ := build vn (Nat.le_refl _)
    refine ⟨rows, by omega, fun d => ?_⟩
    rw [hr]
    simp only [Den]
    refine ⟨some a, vc, rfl, hl, by unfold maxLen at hm; omega, fun i hi => ?_, trivial⟩
    obtain ⟨r, cs, q1, q2, q3, q4⟩ := hrows i hi
    have hspot : a.spot = none := by
      obtain ⟨r0, cs0, _, l0, c0, _⟩ := hrows 0 (by omega)
      have h1 := World.cell?_spot (c0 0 (cs0[0]'(by omega)) (List.getElem?_eq_getElem (by omega)))
      simpa [Addr.add] using h1
    obtain ⟨b, off, spot⟩ := a
    simp only at hspot
    subst hspot
    refine ⟨b, off, rfl, fun j hj => ?_⟩
    have hju : cs[j]? = some (cs[j]'(by omega)) := List.getElem?_eq_getElem (by omega)
    refine ⟨cs[j]'(by omega), ?_, ?_⟩
    · have := q3 j _ hju
      rw [addr_add, addr_add] at this
      exact this
    · have h1 : rows.getD i d = r := by simp [List.getD, q1]
      rw [h1]
      have := denL_get _ _ j undef q4
      rw [hju] at this
      exact this

end
def BytesIn (W : World) (v : Value) : Prop := ∃ l : List UInt8, l.length ≤ 140737488355328 ∧ Den (env0 W) (.ints .u8 .old (ofU l)) v
theorem wfb {n : Int} (h : (Lit.int .u8 n).wf = true) : 0 ≤ n ∧ n ≤ 255 := by
  simp only [Lit.wf, Bool.and_eq_true, decide_eq_true_eq] at h
  exact h
theorem BytesIn_in {H : Type} {enc : TypeId × Value → H} {W : World} {base : Nat} {sp : Nat → Bool} {held : Bool} {v : Value} {d : DataW H} {ps : List MemPlace} (h : DataW.Trod enc Tryz.prog W base sp held 22 v d ps) (hv : ∃ a n c, v = .slice a n c)
    (hz : ∀ k, k ∈ d.weights Tryz.prog 22 → k ≤ reachBytes) : BytesIn W v := by
  obtain ⟨fuel, h⟩ := h
  have hc : Tryz.prog.cellsOf 5 = 1 := by kernel_rfl
  have hby : Tryz.prog.bytesOf 5 = 1 := by kernel_rfl
  obtain ⟨rows, h1, h2⟩ := den_sliceW (by kernel_rfl : Tryz.prog.underlying 22 = some (.slice 5)) hc (by omega) (α := UInt8) (fun c => [.i .u8 c.toNat]) (fun n cs y hl ht hw => by
    obtain ⟨z, e, g, w⟩ := DataW.trod_int (by kernel_rfl : Tryz.prog.underlying 5 = some (.int .u8)) ht
    subst e
    obtain ⟨w1, w2⟩ := wfb w
    refine ⟨UInt8.ofNat z.toNat, ?_⟩
    simp only [DenL, Den]
    refine ⟨?_, trivial⟩
    congr 1
    rw [UInt8.toNat_ofNat']
    omega) h hv hz (by rw [hby]; omega)
  refine ⟨rows, h1, ?_⟩
  have h3 := h2 0
  simp only [Den, IsInts] at h3 ⊢
  obtain ⟨a, cap, e1, e2, e3, e4, e5⟩ := h3
  have hlen : (ofU rows).length = rows.length := by unfold ofU; rw [List.length_map]
  refine ⟨a, cap, by rw [hlen]; exact e1, by rw [hlen]; exact e2, e3, fun i x hx => ?_, e5⟩
  unfold ofU at hx
  rw [List.getElem?_map] at hx
  obtain ⟨c, hc1, hc2⟩ := Option.map_eq_some_iff.1 hx
  have hi : i < rows.length := by
    rcases Nat.lt_or_ge i rows.length with h | h
    · exact h
    · rw [List.getElem?_eq_none h] at hc1; cases hc1
  obtain ⟨b, off, p, q⟩ := e4 i hi
  obtain ⟨y, r, s⟩ := q 0 (by omega)
  have hg : rows.getD i 0 = c := by simp [List.getD, hc1]
  rw [hg] at s
  simp only [lget, Den] at s
  subst s
  refine ⟨b, off, p, ?_⟩
  rw [← hc2]
  rw [show off + i * 1 + 0 = off + i by omega] at r
  exact r
theorem trod_partsB {H : Type} {enc : TypeId × Value → H} {P : Program} {W : World} {base : Nat} {sp : Nat → Bool} {held : Bool} {t : TypeId} {fs : Array Field} {fuel : Nat} {cs : List Value} {x : DataW H × List MemPlace} (ht : P.underlying t = some (.struct fs)) (hone : ∀ i (f : Field), fs[i]? = some f → f.offset = i ∧ P.cellsOf f.type = 1) (hn : P.cellsOf t = fs.size)
    (h : DataW.trod enc P W base sp held fuel t cs = some x) : ∃ xs : List (DataW H × List MemPlace), x.1 = .agg (xs.map (·.1)) ∧ cs.length = fs.size ∧ ∀ (i : Nat) (f : Field), fs[i]? = some f → ∃ v y n, cs[i]? = some v ∧ xs[i]? = some y ∧ DataW.trod enc P W base sp held n f.type [v] = some y := by
  obtain ⟨xs, n, _, rfl, hl, hx, hf⟩ := DataW.trod_struct ht h
  refine ⟨xs, rfl, hl.trans hn, fun i f hfi => ?_⟩
  have h1 := hf i f hfi
  obtain ⟨h2, h3⟩ := hone i f hfi
  have hi : i < fs.size := by
    rcases Nat.lt_or_ge i fs.size with h | h
    · exact h
    · rw [Array.getElem?_eq_none h] at hfi; cases hfi
  have hc : i < cs.length := by rw [hl, hn]; exact hi
  rw [h2, h3] at h1
  have h4 : (cs.drop i).take 1 = [cs[i]] := by
    rw [List.drop_eq_getElem_cons hc, List.take_succ_cons, List.take_zero]
  rw [h4, List.getElem?_eq_getElem (by omega)] at h1
  exact ⟨cs[i], _, n, List.getElem?_eq_getElem hc, List.getElem?_eq_getElem (by omega), h1⟩

theorem bytes_ofB {H : Type} {enc : TypeId × Value → H} {W : World} {base : Nat} {sp : Nat → Bool} {held : Bool} {n : Nat} {v : Value} {y : DataW H × List MemPlace}
    (h : DataW.trod enc Tryz.prog W base sp held n 22 [v] = some y) (hz : ∀ k, k ∈ y.1.weights Tryz.prog 22 → k ≤ reachBytes) : ∃ l : List Int, l.length ≤ 140737488355328 ∧ (∀ c, c ∈ l → isByte c) ∧ Den (env0 W) (.ints .u8 .old l) v := by
  have hs : Tryz.prog.underlying 22 = some (.slice 5) := by kernel_rfl
  have hv : ∃ a n c, v = .slice a n c := by
    rcases Go.ChangeShapes.open_ints hs (by kernel_rfl : Tryz.prog.underlying 5 = some (.int .u8)) (by kernel_rfl) h with ⟨e, _⟩ | ⟨a, len, cap, zs, e, _⟩
    · injection e with e _
      exact ⟨_, _, _, e⟩
    · injection e with e _
      exact ⟨_, _, _, e⟩
  have hcell : v.cells.toList = [v] := by obtain ⟨a, n, c, rfl⟩ := hv; rfl
  obtain ⟨l, h1, h2⟩ := BytesIn_in (d := y.1) (ps := y.2) ⟨n, by rw [hcell]; exact h⟩ hv hz
  exact ⟨ofU l, by rw [ofU_len]; exact h1, fun c hc => ofU_by hc, h2⟩
def StateInB (W : World) (v : Value) : Prop := ∃ x : St, (x.fits ∧ (∀ c, c ∈ x.i → isByte c) ∧ (∀ c, c ∈ x.k → isByte c)) ∧ Den (env0 W) (x.sv .old) v
theorem StateInB_in {H : Type} {enc : TypeId × Value → H} {W : World} {base : Nat} {sp : Nat → Bool} {held : Bool} {v : Value} {d : DataW H} {ps : List MemPlace} (h : DataW.Trod enc Tryz.prog W base sp held 24 v d ps) (hv : ∃ cs, v = .agg cs)
    (hz : ∀ k, k ∈ d.weights Tryz.prog 24 → k ≤ reachBytes) : StateInB W v := by
  obtain ⟨fuel, h⟩ := h
  obtain ⟨cs0, rfl⟩ := hv
  have hs : ∃ f0 f1 f2 f3 f4 f5 f6 f7 f8 f9 f10 : Field, Tryz.prog.underlying 24 = some (.struct #[f0, f1, f2, f3, f4, f5, f6, f7, f8, f9, f10]) ∧ (f0.offset = 0 ∧ f0.type = 4) ∧ (f1.offset = 1 ∧ f1.type = 4) ∧ (f2.offset = 2 ∧ f2.type = 3) ∧ (f3.offset = 3 ∧ f3.type = 3) ∧ (f4.offset = 4 ∧ f4.type = 22) ∧ (f5.offset = 5 ∧ f5.type = 22) ∧ (f6.offset = 6 ∧ f6.type = 22) ∧ (f7.offset = 7 ∧ f7.type = 3) ∧ (f8.offset = 8 ∧ f8.type = 4) ∧ (f9.offset = 9 ∧ f9.type = 4) ∧ (f10.offset = 10 ∧ f10.type = 4) := ⟨_, _, _, _, _, _, _, _, _, _, _, Tryz.underlying24, ⟨rfl, rfl⟩, ⟨rfl, rfl⟩, ⟨rfl, rfl⟩, ⟨rfl, rfl⟩, ⟨rfl, rfl⟩, ⟨rfl, rfl⟩, ⟨rfl, rfl⟩, ⟨rfl, rfl⟩, ⟨rfl, rfl⟩, ⟨rfl, rfl⟩, ⟨rfl, rfl⟩⟩
  obtain ⟨f0, f1, f2, f3, f4, f5, f6, f7, f8, f9, f10, hs, ⟨o0, t0⟩, ⟨o1, t1⟩, ⟨o2, t2⟩, ⟨o3, t3⟩, ⟨o4, t4⟩, ⟨o5, t5⟩, ⟨o6, t6⟩, ⟨o7, t7⟩, ⟨o8, t8⟩, ⟨o9, t9⟩, ⟨o10, t10⟩⟩ := hs
  have hb : Tryz.prog.underlying 4 = some .bool := by kernel_rfl
  have hi : Tryz.prog.underlying 3 = some (.int .i64) := by kernel_rfl
  have cb : Tryz.prog.cellsOf 4 = 1 := by kernel_rfl
  have ci : Tryz.prog.cellsOf 3 = 1 := by kernel_rfl
  have cl : Tryz.prog.cellsOf 22 = 1 := by kernel_rfl
  have hc : Tryz.prog.cellsOf 24 = 11 := by kernel_rfl
  obtain ⟨xs, hx, hlen, hf⟩ := trod_partsB hs (fun i f hf => by
    match i with
    | 0 => simp at hf; subst hf; exact ⟨o0, by rw [t0]; exact cb⟩
    | 1 => simp at hf; subst hf; exact ⟨o1, by rw [t1]; exact cb⟩
    | 2 => simp at hf; subst hf; exact ⟨o2, by rw [t2]; exact ci⟩
    | 3 => simp at hf; subst hf; exact ⟨o3, by rw [t3]; exact ci⟩
    | 4 => simp at hf; subst hf; exact ⟨o4, by rw [t4]; exact cl⟩
    | 5 => simp at hf; subst hf; exact ⟨o5, by rw [t5]; exact cl⟩
    | 6 => simp at hf; subst hf; exact ⟨o6, by rw [t6]; exact cl⟩
    | 7 => simp at hf; subst hf; exact ⟨o7, by rw [t7]; exact ci⟩
    | 8 => simp at hf; subst hf; exact ⟨o8, by rw [t8]; exact cb⟩
    | 9 => simp at hf; subst hf; exact ⟨o9, by rw [t9]; exact cb⟩
    | 10 => simp at hf; subst hf; exact ⟨o10, by rw [t10]; exact cb⟩
    | i + 11 => simp at hf) hc h
  obtain ⟨u0, y0, n0, c0, x0, r0⟩ := hf 0 f0 rfl
  rw [t0] at r0
  obtain ⟨u1, y1, n1, c1, x1, r1⟩ := hf 1 f1 rfl
  rw [t1] at r1
  obtain ⟨u2, y2, n2, c2, x2, r2⟩ := hf 2 f2 rfl
  rw [t2] at r2
  obtain ⟨u3, y3, n3, c3, x3, r3⟩ := hf 3 f3 rfl
  rw [t3] at r3
  obtain ⟨u4, y4, n4, c4, x4, r4⟩ := hf 4 f4 rfl
  rw [t4] at r4
  obtain ⟨u5, y5, n5, c5, x5, r5⟩ := hf 5 f5 rfl
  rw [t5] at r5
  obtain ⟨u6, y6, n6, c6, x6, r6⟩ := hf 6 f6 rfl
  rw [t6] at r6
  obtain ⟨u7, y7, n7, c7, x7, r7⟩ := hf 7 f7 rfl
  rw [t7] at r7
  obtain ⟨u8, y8, n8, c8, x8, r8⟩ := hf 8 f8 rfl
  rw [t8] at r8
  obtain ⟨u9, y9, n9, c9, x9, r9⟩ := hf 9 f9 rfl
  rw [t9] at r9
  obtain ⟨u10, y10, n10, c10, x10, r10⟩ := hf 10 f10 rfl
  rw [t10] at r10
  simp only at hx
  subst hx
  have hw : ∀ (i : Nat) (f : Field) (y : DataW H × List MemPlace), (#[f0, f1, f2, f3, f4, f5, f6, f7, f8, f9, f10] : Array Field)[i]? = some f → xs[i]? = some y → ∀ k, k ∈ y.1.weights Tryz.prog f.type → k ≤ reachBytes := by
    intro i f y h1 h2 k hk
    refine hz k ?_
    simp only [DataW.weights, hs]
    exact DataW.weights_mem_each (t := f.type) (j := i) (by simp only [List.getElem?_map]; rw [← Array.getElem?_toList] at h1; rw [h1]; rfl) (by rw [List.getElem?_map, h2]; rfl) k hk
  obtain ⟨a0, e0, _⟩ := DataW.trod_bool hb r0
  obtain ⟨a1, e1, _⟩ := DataW.trod_bool hb r1
  obtain ⟨a2, e2, _⟩ := DataW.trod_int hi r2
  obtain ⟨a3, e3, _⟩ := DataW.trod_int hi r3
  obtain ⟨a4, l4, g4, e4⟩ := bytes_ofB r4 (by have := hw 4 f4 y4 rfl x4; rw [t4] at this; exact this)
  obtain ⟨a5, l5, g5, e5⟩ := bytes_ofB r5 (by have := hw 5 f5 y5 rfl x5; rw [t5] at this; exact this)
  obtain ⟨a6, l6, g6, e6⟩ := bytes_ofB r6 (by have := hw 6 f6 y6 rfl x6; rw [t6] at this; exact this)
  obtain ⟨a7, e7, _⟩ := DataW.trod_int hi r7
  obtain ⟨a8, e8, _⟩ := DataW.trod_bool hb r8
  obtain ⟨a9, e9, _⟩ := DataW.trod_bool hb r9
  obtain ⟨a10, e10, _⟩ := DataW.trod_bool hb r10
  have hl : cs0.toList = [u0, u1, u2, u3, u4, u5, u6, u7, u8, u9, u10] := by
    have c : (Value.agg cs0).cells = cs0 := rfl
    rw [c] at c0 c1 c2 c3 c4 c5 c6 c7 c8 c9 c10 hlen
    clear hz h hf
    generalize cs0.toList = L at c0 c1 c2 c3 c4 c5 c6 c7 c8 c9 c10 hlen ⊢
    match L, hlen with
    | [b0, b1, b2, b3, b4, b5, b6, b7, b8, b9, b10], _ =>
      simp only [List.getElem?_cons_zero, List.getElem?_cons_succ, Option.some.injEq] at c0 c1 c2 c3 c4 c5 c6 c7 c8 c9 c10
      simp only [c0, c1, c2, c3, c4, c5, c6, c7, c8, c9, c10]
  refine ⟨⟨a0, a1, a2, a3, a4, a5, a6, a7, a8, a9, a10⟩, ⟨⟨l4, l5, l6⟩, g5, g6⟩, ?_⟩
  unfold St.sv St.cells
  rw [Den]
  refine ⟨cs0.toList, by simp, ?_⟩
  rw [hl]
  injection e0 with e0 _
  subst e0
  injection e1 with e1 _
  subst e1
  injection e2 with e2 _
  subst e2
  injection e3 with e3 _
  subst e3
  injection e7 with e7 _
  subst e7
  injection e8 with e8 _
  subst e8
  injection e9 with e9 _
  subst e9
  injection e10 with e10 _
  subst e10
  simp only [DenL]
  exact ⟨by simp only [Den], by simp only [Den], by simp only [Den], by simp only [Den], e4, e5, e6, by simp only [Den], by simp only [Den], by simp only [Den], by simp only [Den], trivial⟩
theorem scanOwnB_c (f : ByteArray) (b : List UInt8) (x : St) (hx : x.fits ∧ (∀ c, c ∈ x.i → isByte c) ∧ (∀ c, c ∈ x.k → isByte c)) (hb : b.length ≤ 140737488355328) : Contract Tryz.prog 3 nilSS [.s f, .ints .u8 .old (ofU b), x.sv .old] (fun sv post => sv = .b true ∧ post = nilSS) := by
  rw [← bs_of f]
  exact scanOwn_c f.data.toList b hb x hx.1 hx.2.1 hx.2.2
end Go.Proofs.YtmciepkhpocafaaGreat
