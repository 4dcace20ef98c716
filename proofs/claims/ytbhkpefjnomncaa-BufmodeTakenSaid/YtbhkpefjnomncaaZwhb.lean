/- Texts joined, in order: Gc, Ek, El, Em, En, Eo, Ep, Es, Et, Eq, Eu, Ew. -/
import Derived.Test.YtbhkpefjnomncaaZwha
import Derived.Laws.IdiomStrings
import Derived.Laws.MakeOwn
import Derived.Laws.OwnMore
import Derived.Laws.StructEq
import Derived.TacticsIn
import Derived.Sort.LoopGhostIn
import Derived.RangeFuncIn
import Derived.RangeFuncRecord
import Derived.RangeFuncLeaves
/- The engine, part GC: slices of structs, pointers and slices: appends. -/
namespace Go.Eng
open Go
set_option linter.unusedVariables false
set_option linter.unusedSimpArgs false

def catEl (n : Nat) (el el' : Nat → Nat → SV) (i j : Nat) : SV := if i < n then el i j else el' (i - n) j

/-- The cells of a slice's elements. -/
theorem sl_cells {P : Program} {E : Env} {sz : Nat} {tg : Tag} {m : Nat} {el : Nat → Nat → SV} {v : Value} (hx : Den E (.sl sz tg m el) v) {w : World} (hmu : ∀ a v, E.μ a = some v → w.cell? a = some v) (hsz : 0 < sz) :
    (Builtin.lenOf v).run P w = .ok m w ∧ ∃ vs : List Value, vs.length = m * sz ∧ (∀ w', w'.heap = w.heap → (Builtin.firstCells sz m v).run P w' = .ok vs.toArray w') ∧ ∀ i, i < m → ∀ j, j < sz → ∃ x, vs[i * sz + j]? = some x ∧ Den E (el i j) x := by
  simp only [Den] at hx
  obtain ⟨p, cap, rfl, hc, hc2, q, ht⟩ := hx
  refine ⟨run_lenOf_slice _ _ _, ?_⟩
  cases p with
  | none =>
    have hm : m = 0 := by
      rcases Nat.eq_zero_or_pos m with h | h
      · exact h
      · obtain ⟨b, off, e, _⟩ := q 0 h; cases e
    subst hm
    exact ⟨[], by simp, fun w' _ => by simp [Builtin.firstCells], fun i h => absurd h (Nat.not_lt_zero _)⟩
  | some ad =>
    rcases Nat.eq_zero_or_pos m with rfl | hm
    · refine ⟨[], by simp, fun w' _ => ?_, fun i h => absurd h (Nat.not_lt_zero _)⟩
      have := run_loadCells_list (P := P) w' ad [] (by simp)
      simpa [Builtin.firstCells] using this
    obtain ⟨b, off, e0, _⟩ := q 0 hm
    injection e0 with e0
    subst e0
    have hcell : ∀ d, d < m * sz → ∃ x, E.μ ⟨b, off + d, none⟩ = some x ∧ Den E (el (d / sz) (d % sz)) x := by
      intro d hd
      have h1 : d / sz < m := by rw [Nat.div_lt_iff_lt_mul hsz]; exact hd
      obtain ⟨b', off', e1, h2⟩ := q (d / sz) h1
      injection e1 with e1
      injection e1 with e1 e2
      subst e1 e2
      obtain ⟨x, h3, h4⟩ := h2 (d % sz) (Nat.mod_lt _ hsz)
      refine ⟨x, ?_, h4⟩
      rw [← h3, Nat.add_assoc, Nat.div_add_mod' d sz]
    let f : Nat → Value := fun d => (E.μ ⟨b, off + d, none⟩).getD undef
    have hf : ∀ d, d < m * sz → E.μ ⟨b, off + d, none⟩ = some (f d) ∧ Den E (el (d / sz) (d % sz)) (f d) := by
      intro d hd
      obtain ⟨x, h1, h2⟩ := hcell d hd
      have : f d = x := by simp [f, h1]
      rw [this]
      exact ⟨h1, h2⟩
    refine ⟨(List.range (m * sz)).map f, by simp, fun w' hh => ?_, fun i hi j hj => ?_⟩
    · have hl := run_loadCells_list (P := P) w' ⟨b, off, none⟩ ((List.range (m * sz)).map f) (fun j v hj => by
        simp only [List.getElem?_map, Option.map_eq_some_iff] at hj
        obtain ⟨d, hd, rfl⟩ := hj
        have hlt : j < m * sz := by
          rcases Nat.lt_or_ge j (m * sz) with h | h
          · exact h
          · rw [List.getElem?_eq_none (by simpa using h)] at hd; cases hd
        rw [List.getElem?_range hlt] at hd
        injection hd with hd
        subst hd
        rw [addr_add, cell_heap hh]
        exact hmu _ _ (hf j hlt).1)
      rw [List.length_map, List.length_range] at hl
      simp only [Builtin.firstCells]
      exact hl
    · have hlt : i * sz + j < m * sz := by
        have : (i + 1) * sz ≤ m * sz := Nat.mul_le_mul_right _ hi
        rw [Nat.add_mul] at this
        omega
      refine ⟨f (i * sz + j), by simp [hlt], ?_⟩
      have h := (hf _ hlt).2
      have h1 : (i * sz + j) / sz = i := by rw [Nat.add_comm, Nat.add_mul_div_right _ _ hsz, Nat.div_eq_of_lt hj]; omega
      have h2 : (i * sz + j) % sz = j := by rw [Nat.add_comm, Nat.add_mul_mod_self_right, Nat.mod_eq_of_lt hj]
      rw [h1, h2] at h
      exact h

theorem run_growS {P : Program} {w : World} {t t2 ty e : TypeId} {i : TypeInfo} {z : Value} {d2 : TypeDesc} (ht : P.underlying t = some (.slice e)) (ht2 : P.underlying t2 = some d2) (hd2 : ∀ k, d2 ≠ .int k) (hi : P.info? e = some i) (hz : i.zero = some z)
    {base : Option Addr} {sLen sCap n : Nat} {x : Value} {olds news : List Value} (hx : (Builtin.lenOf x).run P w = .ok n w) (ho : (Builtin.firstCells i.size sLen (.slice base sLen sCap)).run P w.drew = .ok olds.toArray w.drew) (hn : (Builtin.firstCells i.size n x).run P w.drew = .ok news.toArray w.drew)
    (hg : sCap < sLen + n) (h63 : ((sLen + n : Nat) : Int) ≤ 9223372036854775807) (hb : (sLen + n) * i.bytes ≤ 140737488355328) (hb0 : 0 < i.bytes) :
    (Builtin.append_ #[t, t2] ty #[.slice base sLen sCap, x]).run P w = .ok (.slice (some ⟨w.heap.size, 0, none⟩) (sLen + n) (grownCap w (sLen + n) sCap e))
      (w.drew.alloc (.cells ((olds ++ news).toArray ++ Builtin.zeroCells z.cells (grownCap w (sLen + n) sCap e - (sLen + n))) e)) := by
  have hn' : ¬ (sLen + n ≤ sCap) := by omega
  have h63' : ¬ (9223372036854775807 < ((sLen : Int) + (n : Int))) := by omega
  have h48 := growslice_fits (need := sLen + n) (old := sCap) hg hb
  have h48' : ¬ (281474976710656 < Builtin.nextslicecap (sLen + n) sCap * i.bytes) := by omega
  have hm : (match d2 with | .int _ => true | _ => false) = false := by
    cases d2 <;> first | rfl | exact absurd rfl (hd2 _)
  have hb1 : i.bytes ≠ 0 := by omega
  simp [Builtin.append_, run_underlying ht, run_underlying ht2, sizeOf, typeInfo, zeroValue, hi, hz, hx, hm, hn', h63', h48', Question.forced, ho, hn, newRow, grownCap, hb1]
  cases d2 <;> first | exact absurd rfl (hd2 _) | (simp [hx, hn', h63', h48', ho, hn]; congr 2; apply Array.ext'; simp; done) | (simp_all; congr 2; apply Array.ext'; simp; done)

theorem run_roomS {P : Program} {w w' : World} {t t2 ty e : TypeId} {i : TypeInfo} {d2 : TypeDesc} (ht : P.underlying t = some (.slice e)) (ht2 : P.underlying t2 = some d2) (hd2 : ∀ k, d2 ≠ .int k) (hi : P.info? e = some i)
    {base : Option Addr} {sLen sCap n : Nat} {x : Value} {news : List Value} (hx : (Builtin.lenOf x).run P w = .ok n w) (hn : (Builtin.firstCells i.size n x).run P w = .ok news.toArray w)
    (hg : sLen + n ≤ sCap) (hst : match base with | some ad => (storeCells (ad.add (sLen * i.size)) news).run P w = .ok () w' | none => w' = w) :
    (Builtin.append_ #[t, t2] ty #[.slice base sLen sCap, x]).run P w = .ok (.slice base (sLen + n) sCap) w' := by
  cases base with
  | none =>
    simp only at hst
    subst hst
    simp [Builtin.append_, run_underlying ht, run_underlying ht2, sizeOf, typeInfo, hi]
    cases d2 <;> first | exact absurd rfl (hd2 _) | (simp [hx, hg, hn]; done)
  | some ad =>
    simp only at hst
    simp [Builtin.append_, run_underlying ht, run_underlying ht2, sizeOf, typeInfo, hi]
    cases d2 <;> first | exact absurd rfl (hd2 _) | (simp [hx, hg, hn, hst]; done)

/-- A new row of elements with a token. -/
theorem new_sl {E : Env} {st : SS} {w : World} (h : Good E st w) (T : TypeId) (sz n cap : Nat) (cs : List Value) (zs : Array Value) (el : Nat → Nat → SV) (hcs : cs.length = n * sz) (hc : n ≤ cap) (hz : cap * sz ≤ n * sz + zs.size) (h63 : cap ≤ 9223372036854775807)
    (hd : ∀ i, i < n → ∀ j, j < sz → ∃ x, cs[i * sz + j]? = some x ∧ Den E (el i j) x) :
    ∃ E', E.Le E' ∧ Good E' { st with tk := st.nx :: st.tk, nx := st.nx + 1 } (w.alloc (.cells (cs.toArray ++ zs) T (0, 0))) ∧ Den E' (.sl sz (.tok st.nx true) n el) (.slice (some ⟨w.heap.size, 0, none⟩) n cap) := by
  obtain ⟨E', h1, h2, h3, h4, h5⟩ := h.alloc_tok (cs.toArray ++ zs) T sz n cap hc (by simp; omega)
  refine ⟨E', h1, h5, ?_⟩
  simp only [Den]
  refine ⟨_, cap, rfl, hc, h63, fun i hi => ⟨_, 0, rfl, fun j hj => ?_⟩, by rw [h2]; exact TokV.self hc, fun _ a n c e => ?_⟩
  · obtain ⟨x, hx, hdx⟩ := hd i hi j hj
    have hlt : i * sz + j < n * sz := by
      have : (i + 1) * sz ≤ n * sz := Nat.mul_le_mul_right _ hi
      rw [Nat.add_mul] at this
      omega
    refine ⟨x, ?_, Den.mono h1 _ _ hdx⟩
    rw [Nat.zero_add]
    refine h3 _ x hlt ?_
    rw [Array.getElem?_append_left (by simpa [hcs] using hlt)]
    simpa using hx
  · simp only [Value.slice.injEq, Option.some.injEq] at e
    rw [← e.1]
    exact h4

/-- What appended elements come to. -/
def slAppend (Γ : Tab) (st : SS) (dst : Option Tmp) (e t2 : TypeId) (s x : SV) (K : SS → Prop) : Prop :=
  match s, x with
  | .sl sz (.tok τ b) n el, .sl sz' _ m el' =>
    if sz = sz' ∧ tkMem st.tk τ = true then (Γ e).size = sz ∧ 0 < sz ∧ (Γ e).d ≠ .none ∧ (Γ t2).d = .slice e ∧ (n + m) * (Γ e).bytes ≤ 140737488355328 ∧ 0 < (Γ e).bytes ∧ (Γ e).zero.length = sz ∧ (∀ i, i < m → ∀ j, j < sz → one (el' i j) = true) ∧
      K (({ st with tk := st.nx :: tkDel st.tk τ, nx := st.nx + 1 } : SS).put dst (.sl sz (.tok st.nx b) (n + m) (catEl n el el')))
    else False
  | .ints _ .nil [], .sl sz' _ m el' => (Γ e).size = sz' ∧ 0 < sz' ∧ (Γ e).d ≠ .none ∧ (Γ t2).d = .slice e ∧ m * (Γ e).bytes ≤ 140737488355328 ∧ 0 < (Γ e).bytes ∧ (Γ e).zero.length = sz' ∧
      K (({ st with tk := st.nx :: st.tk, nx := st.nx + 1 } : SS).put dst (.sl sz' (.tok st.nx true) m el'))
  | _, _ => False

theorem sl_weak {E : Env} {sz τ n : Nat} {el : Nat → Nat → SV} {v : Value} (b : Bool) (h : Den E (.sl sz (.tok τ true) n el) v) : Den E (.sl sz (.tok τ b) n el) v := by
  simp only [Den] at h ⊢
  obtain ⟨a, c, h1, h2, h3, h4, h5, h6⟩ := h
  exact ⟨a, c, h1, h2, h3, h4, h5, fun _ => h6 rfl⟩

theorem slAppend_sound {P : Program} {Γ : Tab} (hΓ : Γ.ok P) {E : Env} {st : SS} {w : World} (hw : Good E st w) {dst : Option Tmp} {t t2 ty e : TypeId} (ht : P.underlying t = some (.slice e)) {s x : SV} {vs vx : Value} (hs : Den E s vs) (hx : Den E x vx) {K : SS → Prop}
    (h : slAppend Γ st dst e t2 s x K) : ∃ v w' E' st' sv, (Builtin.append_ #[t, t2] ty #[vs, vx]).run P w = .ok v w' ∧ E.Le E' ∧ Good E' st' w' ∧ Den E' sv v ∧ (st'.fr = st.fr ∧ st'.df = st.df) ∧ K (st'.put dst sv) := by
  unfold slAppend at h
  split at h
  · rename_i sz τ b n el sz' tg m el'
    split at h
    · rename_i hcond
      obtain ⟨rfl, hmem⟩ := hcond
      obtain ⟨h1, h2, h3, h4, h5, h6, h7, hone, hK⟩ := h
      obtain ⟨i, z, hi, his, hib, hiz, hzc⟩ := Tab.info hΓ e h3
      obtain ⟨d2, hd2, hd2'⟩ := td_slice_str hΓ (.inl h4)
      have hτ := tkMem_sound _ _ hmem
      have hs' := hs
      have his' : i.size = sz := his.trans h1
      obtain ⟨l1, cs, c1, c2, c3⟩ := sl_cells (P := P) hx hw.mu h2
      obtain ⟨_, ds, d1, d2', d3⟩ := sl_cells (P := P) hs' hw.mu h2
      have honev : ∀ v ∈ cs, v.oneCell' = true := by
        intro v hv
        obtain ⟨q, hq, rfl⟩ := List.getElem_of_mem hv
        have hqm : q / sz < m := by rw [Nat.div_lt_iff_lt_mul h2]; omega
        obtain ⟨y, hy, hdy⟩ := c3 (q / sz) hqm (q % sz) (Nat.mod_lt _ h2)
        rw [Nat.div_add_mod' q sz, List.getElem?_eq_getElem hq] at hy
        injection hy with hy
        rw [hy]
        exact one_sound hdy (hone _ hqm _ (Nat.mod_lt _ h2))
      simp only [Den] at hs
      obtain ⟨p, cap, rfl, hc, hc63, q, hθ, hfresh⟩ := hs
      obtain ⟨a0, n0, c0, j0, p', hθ, hnc, hj0, hv0, hp0⟩ := hθ
      simp only [Value.slice.injEq] at hv0
      obtain ⟨rfl, hn0, hc0⟩ := hv0
      by_cases hg : n + m ≤ cap
      · obtain ⟨E', w', k1, k2, k3, k4, k5, k6⟩ := hw.grow hτ hθ cs m c1 (by omega) h2 P honev
        refine ⟨_, w', E', { st with tk := st.nx :: tkDel st.tk τ, nx := st.nx + 1 }, _, run_roomS ht hd2 hd2' hi l1 (by rw [his']; exact c2 w rfl) hg ?_, k1, k4, ?_, ⟨rfl, rfl⟩, hK⟩
        · rw [his']
          rcases hp0 with hp0 | rfl
          · have hm0 : m = 0 := by omega
            subst hm0
            have hcs0 : cs = [] := by simpa using c1
            subst hcs0
            have hw' : w' = w := by
              cases a0 with
              | none => exact k5.1
              | some ad =>
                simp only [storeCells, Sem.run_pure, Result.ok.injEq] at k5
                exact k5.2.symm
            cases p with
            | none => exact hw'
            | some ad => simp only [storeCells, Sem.run_pure]; rw [hw']
          · cases a0 with
            | none => exact k5.1
            | some ad =>
              simp only [Option.map_some]
              rw [Addr_add_add, ← Nat.add_mul, show j0 + n = n0 by omega]
              exact k5
        · simp only [Den]
          refine ⟨p, cap, rfl, hg, hc63, fun i hi => ?_, ⟨a0, n0 + m, c0, j0, p, k3, by omega, by omega, by simp only [Value.slice.injEq]; exact ⟨trivial, by omega, by omega⟩, hp0⟩, fun hb a n c ee => ?_⟩
          · rcases Nat.lt_or_ge i n with hin | hin
            · obtain ⟨b', off, e5, e6⟩ := q i hin
              refine ⟨b', off, e5, fun j hj => ?_⟩
              obtain ⟨y, e7, e8⟩ := e6 j hj
              exact ⟨y, k1.μ _ _ e7, by simp only [catEl, if_pos hin]; exact Den.mono k1 _ _ e8⟩
            · have him : i - n < m := by omega
              have hget : ∀ j, j < sz → ∃ y b' off, cs[(i - n) * sz + j]? = some y ∧ Den E (el' (i - n) j) y ∧ a0 = some ⟨b', off, none⟩ ∧ E'.μ ⟨b', off + n0 * sz + ((i - n) * sz + j), none⟩ = some y := by
                intro j hj
                obtain ⟨y, e7, e8⟩ := c3 (i - n) him j hj
                obtain ⟨b', off, e9, e10⟩ := k6 _ y e7
                exact ⟨y, b', off, e7, e8, e9, e10⟩
              obtain ⟨y0, b', off, _, _, e9, _⟩ := hget 0 h2
              rcases hp0 with hp0 | rfl
              · omega
              · subst e9
                refine ⟨b', off + j0 * sz, ?_, fun j hj => ?_⟩
                · simp only [Option.map_some, add_none]
                · obtain ⟨y, b2, off2, e7, e8, e9, e10⟩ := hget j hj
                  injection e9 with e9
                  injection e9 with e9 e9'
                  subst e9 e9'
                  refine ⟨y, ?_, by simp only [catEl]; rw [if_neg (by omega)]; exact Den.mono k1 _ _ e8⟩
                  rw [← e10]
                  have : n0 * sz + (i - n) * sz = j0 * sz + i * sz := by rw [← Nat.add_mul, ← Nat.add_mul]; congr 1; omega
                  congr 2
                  omega
          · simp only [Value.slice.injEq] at ee
            rw [k1.Z]; exact hfresh hb a _ _ (by rw [ee.1])
      · have hbound : n + m ≤ 140737488355328 := by
          have : (n + m) * 1 ≤ (n + m) * (Γ e).bytes := Nat.mul_le_mul_left _ h6
          omega
        have hrun := run_growS (ty := ty) ht hd2 hd2' hi hiz (base := p) (sLen := n) (sCap := cap) l1 (by rw [his']; exact d2' w.drew rfl) (by rw [his']; exact c2 w.drew rfl) (by omega) (by omega) (by rw [hib]; exact h5) (by rw [hib]; exact h6)
        have hgc1 := grownCap_ge w (n + m) cap e
        have hgc2 := grownCap_le_maxLen w (n + m) cap e (by unfold maxLen; omega)
        obtain ⟨E', k1, k2, k3⟩ := new_sl hw.drewN e sz (n + m) (grownCap w (n + m) cap e) (ds ++ cs) (Builtin.zeroCells z.cells (grownCap w (n + m) cap e - (n + m))) (catEl n el el') (by simp [c1, d1, Nat.add_mul]) hgc1 (by
            rw [size_zeroCells]
            have : z.cells.size = sz := by rw [← Array.length_toList, hzc, h7]
            rw [this, ← Nat.add_mul]
            exact Nat.mul_le_mul_right _ (by omega)) (by unfold maxLen at hgc2; omega) (fun i hi j hj => by
            rcases Nat.lt_or_ge i n with hin | hin
            · obtain ⟨y, e7, e8⟩ := d3 i hin j hj
              have hlt : i * sz + j < ds.length := by
                rw [d1]
                have : (i + 1) * sz ≤ n * sz := Nat.mul_le_mul_right _ hin
                rw [Nat.add_mul] at this
                omega
              exact ⟨y, by rw [List.getElem?_append_left hlt]; exact e7, by simp only [catEl, if_pos hin]; exact e8⟩
            · obtain ⟨y, e7, e8⟩ := c3 (i - n) (by omega) j hj
              have hge : ds.length ≤ i * sz + j := by
                rw [d1]
                have : n * sz ≤ i * sz := Nat.mul_le_mul_right _ hin
                omega
              refine ⟨y, ?_, by simp only [catEl]; rw [if_neg (by omega)]; exact e8⟩
              rw [List.getElem?_append_right hge, d1]
              rw [← e7]
              congr 1
              have : i * sz = n * sz + (i - n) * sz := by rw [← Nat.add_mul]; congr 1; omega
              omega)
        exact ⟨_, _, E', { st with tk := st.nx :: tkDel st.tk τ, nx := st.nx + 1 }, _, hrun, k1, k2.fewerTok (st := { st with tk := st.nx :: st.tk, nx := st.nx + 1 }) (fun y hy => by
            rcases List.mem_cons.1 hy with rfl | hy
            · simp
            · exact List.mem_cons_of_mem _ (tkDel_mem _ _ _ hy).1), sl_weak b k3, ⟨rfl, rfl⟩, hK⟩
    · exact h.elim
  · rename_i sz tg m el'
    obtain ⟨h1, h2, h3, h4, h5, h6, h7, hK⟩ := h
    obtain ⟨i, z, hi, his, hib, hiz, hzc⟩ := Tab.info hΓ e h3
    obtain ⟨d2, hd2, hd2'⟩ := td_slice_str hΓ (.inl h4)
    have his' : i.size = sz := his.trans h1
    obtain ⟨l1, cs, c1, c2, c3⟩ := sl_cells (P := P) hx hw.mu h2
    simp only [Den] at hs
    obtain ⟨p, cap, _, hc, hc63, q, hnil⟩ := hs
    simp only [TagOK] at hnil
    subst hnil
    by_cases hm : m = 0
    · subst hm
      have hcs0 : cs = [] := by simpa using c1
      subst hcs0
      obtain ⟨E', k1, k2, k3, k4, k5⟩ := hw.tok_none sz none 0
      refine ⟨_, w, E', { st with tk := st.nx :: st.tk, nx := st.nx + 1 }, _, run_roomS ht hd2 hd2' hi (base := none) (sLen := 0) (sCap := 0) l1 (by rw [his']; exact c2 w rfl) (by omega) rfl, k1, k5, ?_, ⟨rfl, rfl⟩, hK⟩
      simp only [Den]
      exact ⟨none, 0, rfl, by simp, by omega, fun i hi => absurd hi (Nat.not_lt_zero _), by rw [k2]; exact TokV.self (Nat.le_refl _), fun _ a n c e => by simp at e⟩
    · have hbound : m ≤ 140737488355328 := by
        have : m * 1 ≤ m * (Γ e).bytes := Nat.mul_le_mul_left _ h6
        omega
      have hrun := run_growS (ty := ty) (olds := []) ht hd2 hd2' hi hiz (base := none) (sLen := 0) (sCap := 0) l1 (by simp [Builtin.firstCells]) (by rw [his']; exact c2 w.drew rfl) (by omega) (by omega) (by rw [hib, Nat.zero_add]; exact h5) (by rw [hib]; exact h6)
      simp only [Nat.zero_add, List.nil_append] at hrun
      have hgc1 := grownCap_ge w m 0 e
      have hgc2 := grownCap_le_maxLen w m 0 e (by unfold maxLen; omega)
      obtain ⟨E', k1, k2, k3⟩ := new_sl hw.drewN e sz m (grownCap w m 0 e) cs (Builtin.zeroCells z.cells (grownCap w m 0 e - m)) el' c1 hgc1 (by
          rw [size_zeroCells]
          have : z.cells.size = sz := by rw [← Array.length_toList, hzc, h7]
          rw [this, ← Nat.add_mul]
          exact Nat.mul_le_mul_right _ (by omega)) (by unfold maxLen at hgc2; omega) c3
      exact ⟨_, _, E', { st with tk := st.nx :: st.tk, nx := st.nx + 1 }, _, hrun, k1, k2, k3, ⟨rfl, rfl⟩, hK⟩
  · exact h.elim
end Go.Eng
/- The engine, part K: one operation, a region, a function's code. -/
namespace Go.Eng
open Go
set_option linter.unusedVariables false
set_option linter.unusedSimpArgs false

def isNilS : Operand → Bool
  | .const (.slice none 0 0) => true
  | _ => false

def evSliceNil (op : BinOp) (x : SV) (K : Bool → Prop) : Prop :=
  match op, x with
  | .eql, .ints _ .nil _ => K true
  | .neq, .ints _ .nil _ => K false
  | .eql, .ints _ _ l => ∀ c, (c = true → l = []) → K c
  | .neq, .ints _ _ l => ∀ c, (c = false → l = []) → K c
  | .eql, .sl _ _ n _ => ∀ c, (c = true → n = 0) → K c
  | .neq, .sl _ _ n _ => ∀ c, (c = false → n = 0) → K c
  | .eql, .raw (.slice p _ _) => (p = none → K true) ∧ (p ≠ none → K false)
  | .neq, .raw (.slice p _ _) => (p = none → K false) ∧ (p ≠ none → K true)
  | _, _ => False

/-- What follows a call. -/
def callK (K : SS → Prop) (dst : Option Tmp) (sv : SV) (st : SS) : Prop := K (st.put dst sv)
theorem callK_eq {K : SS → Prop} {dst : Option Tmp} {sv : SV} {st : SS} : callK K dst sv st = K (st.put dst sv) := rfl
def nilK (K : SS → Prop) (st : SS) (dst : Option Tmp) (c : Bool) : Prop := K (st.put dst (.b c))
theorem nilK_eq {K : SS → Prop} {st : SS} {dst : Option Tmp} {c : Bool} : nilK K st dst c = K (st.put dst (.b c)) := rfl

/-- An append: to numbers, or to a row of one's own; of numbers, or of what a row shows. -/
def evAppendX (Γ : Tab) (st : SS) (dst : Option Tmp) (t t2 : TypeId) (s x : SV) (K : SS → Prop) : Prop :=
  match s with
  | .raw v => match v with
    | .slice p n c => rowApp Γ st dst t t2 p n c x K
    | _ => False
  | s => match x with
    | .raw v => match v with
      | .slice p n c => appRow Γ st dst t t2 s p n K
      | _ => False
    | .sl sz tg m el => match (Γ t).d with
      | .slice e => slAppend Γ st dst e t2 s (.sl sz tg m el) K
      | _ => False
    | x => evAppend Γ st dst t t2 s x K
def evCopy (Γ : Tab) (st : SS) (dst : Option Tmp) (t : TypeId) (s x : SV) (K : SS → Prop) : Prop :=
  match s with
  | .raw v => match v with
    | .slice p n c => rowCopy Γ st dst t p n x K
    | _ => False
  | _ => False
theorem evAppendX_sound {P : Program} {Γ : Tab} (hΓ : Γ.ok P) {E : Env} {st : SS} {w : World} (hw : Good E st w) {dst : Option Tmp} {t t2 ty : TypeId} {s x : SV} {vs vx : Value} (hs : Den E s vs) (hx : Den E x vx) {K : SS → Prop}
    (h : evAppendX Γ st dst t t2 s x K) : ∃ v w' E' st' sv, (Builtin.append_ #[t, t2] ty #[vs, vx]).run P w = .ok v w' ∧ E.Le E' ∧ Good E' st' w' ∧ Den E' sv v ∧ (st'.fr = st.fr ∧ st'.df = st.df) ∧ K (st'.put dst sv) := by
  unfold evAppendX at h
  split at h
  · split at h
    · simp only [Den] at hs
      subst hs
      exact rowApp_sound hΓ hw hx h
    · exact h.elim
  · split at h
    · split at h
      · simp only [Den] at hx
        subst hx
        exact appRow_sound hΓ hw hs h
      · exact h.elim
    · split at h
      · rename_i e1
        have hd := (hΓ t).und
        rw [e1] at hd
        exact slAppend_sound hΓ hw hd hs hx h
      · exact h.elim
    · exact evAppend_sound hΓ hw hs (fun k m e w' hh => appd_run hΓ e hx (fun a v e => by rw [cell_heap hh]; exact hw.mu a v e)) h
theorem evCopy_sound {P : Program} {Γ : Tab} (hΓ : Γ.ok P) {E : Env} {st : SS} {w : World} (hw : Good E st w) {dst : Option Tmp} {t t2 ty : TypeId} {s x : SV} {vs vx : Value} (hs : Den E s vs) (hx : Den E x vx) {K : SS → Prop}
    (h : evCopy Γ st dst t s x K) : ∃ v w' E' st' sv, (Builtin.copy_ #[t, t2] ty #[vs, vx]).run P w = .ok v w' ∧ E.Le E' ∧ Good E' st' w' ∧ Den E' sv v ∧ (st'.fr = st.fr ∧ st'.df = st.df) ∧ K (st'.put dst sv) := by
  unfold evCopy at h
  split at h
  · split at h
    · simp only [Den] at hs
      subst hs
      exact rowCopy_sound hΓ hw hx h
    · exact h.elim
  · exact h.elim

def evCall (P : Program) (Γ : Tab) (st : SS) (dst : Option Tmp) (c : Call) (K : SS → Prop) : Prop :=
  match c.callee with
  | .value f =>
    match opd st f with
    | .fn (.func f') first cap => ovc st true f ∧ ovcL st true c.args.toList ∧ CallOK P f' (first ++ c.args.toList.map (opd st) ++ cap) st (callK K dst)
    | _ => False
  | .invoke r name => ovc st true r ∧ ovcL st true c.args.toList ∧ InvOK P (opd st r) name (c.args.toList.map (opd st)) st (callK K dst)
  | .builtin .append =>
    match c.args.toList, c.argTypes.toList with
    | [s, x], [t, t2] => ovc st true s ∧ ovc st true x ∧ evAppendX Γ st dst t t2 (opd st s) (opd st x) K
    | _, _ => False
  | .builtin .copy =>
    match c.args.toList, c.argTypes.toList with
    | [s, x], [t, t2] => ovc st true s ∧ ovc st true x ∧ evCopy Γ st dst t (opd st s) (opd st x) K
    | _, _ => False
  | _ => False

def pickL : List (List SV) → Nat → List SV
  | [], _ => []
  | x :: _, 0 => x
  | _ :: r, n + 1 => pickL r n
def elOf (L : List (List SV)) (i j : Nat) : SV := lget (pickL L i) j
/-- Parts in a row, each of so many cells. -/
def rowsOf (sz : Nat) : List (Nat × SV) → Nat → Option (List (List SV))
  | [], _ => some []
  | (i, x) :: r, j =>
    match leaves x with
    | some ls =>
      if i = j ∧ ls.length = sz then
        match rowsOf sz r (j + 1) with
        | some L => some (ls :: L)
        | none => none
      else none
    | none => none
/-- '==' of two plain structs. -/
def leafEq (d : TD) (x y : SV) : Option Bool :=
  match d, x, y with
  | .bool, .b a, .b b => some (a == b)
  | .int k, .i k1 a, .i k2 b => if k1 = k ∧ k2 = k then some (a == b) else none
  | .str, .s a, .s b => some (a == b)
  | _, _, _ => none
def eqB (Γ : Tab) (xs ys : List SV) : List (Nat × TypeId) → Option Bool
  | [] => some true
  | (o, t) :: r =>
    match nth xs o, nth ys o with
    | some x, some y =>
      match leafEq (Γ t).d x y with
      | some a =>
        match eqB Γ xs ys r with
        | some c => some (a && c)
        | none => none
      | none => none
    | _, _ => none
def eqPlain (P : Program) (t : TypeId) : Bool := !P.eqGuardType P.depth t && !P.stoodInHeld t && (P.fieldsOf t).toList.all fun f => f.name != "_"

/-- A text's bytes. -/
def bytesOf (y : ByteArray) : List Int := y.data.toList.map fun b => (b.toNat : Int)

def evEff (P : Program) (Γ : Tab) (st : SS) (o : Oper) (K : SS → Prop) : Prop :=
  match o.op with
  | .alloc t => (Γ t).d ≠ .none ∧ K ((st.addBlk t ((Γ t).zero.map ofLeaf)).put o.dst (.ptr st.nx 0))
  | .box t x =>
    match leaves (opd st x) with
    | some ls => ovc st true x ∧ K ((st.addBlk t ls).put o.dst (.ptr st.nx 0))
    | none => False
  | .store t ad x =>
    match opd st ad, leaves (opd st x) with
    | .ptr n off, some ls =>
      match hfind st.hp n with
      | some (_, l) => ovc st true ad ∧ ovc st true x ∧ (Γ t).d ≠ .none ∧ ls.length = (Γ t).size ∧ off + ls.length ≤ l.length ∧ allOne ls = true ∧ K ((st.setBlk n (spl l off ls)).put o.dst (.raw undef))
      | none => False
    | .raw (.pointer q), some ls => ovc st true ad ∧ ovc st true x ∧ (Γ t).d ≠ .none ∧ (Γ t).size = 1 ∧ ∃ r k p0 c0 l0 i n, (r, RowR k p0 c0 l0) ∈ st.rs ∧ i < l0.length ∧ q = p0.map (·.add i) ∧ ls = [.i k n] ∧
        K (({ st with rs := rsSet st.rs r (RowR k p0 c0 (l0.set i n)) } : SS).put o.dst (.raw undef))
    | _, _ => False
  | .load t x =>
    match opd st x with
    | .raw (.pointer q) => ovc st true x ∧ (Γ t).d.agg = false ∧ (Γ t).d ≠ .none ∧ ∃ r k p0 c0 l0 i, (r, RowR k p0 c0 l0) ∈ st.rs ∧ i < l0.length ∧ q = p0.map (·.add i) ∧ K (st.put o.dst (.i k (l0.getD i 0)))
    | _ => False
  | .buildSlice t len parts =>
    match (Γ t).d with
    | .slice e =>
      match (Γ e).d with
      | .int k =>
        match intsOf k (parts.toList.map fun p => (p.1, opd st p.2)) 0 with
        | some l => ovcL st true (parts.toList.map (·.2)) ∧ l.length = len ∧ len ≤ 16777216 ∧ (Γ e).size = 1 ∧ (Γ e).zero.length = 1 ∧ K (st.addTok.put o.dst (.ints k (.tok st.nx true) l))
        | none => False
      | _ =>
        match rowsOf (Γ e).size (parts.toList.map fun p => (p.1, opd st p.2)) 0 with
        | some L => ovcL st true (parts.toList.map (·.2)) ∧ L.length = len ∧ (len ≤ 16777216 ∧ len * (Γ e).size ≤ 16777216) ∧ (Γ e).d ≠ .none ∧ K (st.addTok.put o.dst (.sl (Γ e).size (.tok st.nx true) len (elOf L)))
        | none => False
    | _ => False
  | .range t x =>
    match opd st x, (Γ t).d with
    | .s y, .str => ovc st true x ∧ ∀ b : Nat, K (({ st with rs := (st.nx, RObj b (.stringIter y 0)) :: st.rs, nx := st.nx + 1 } : SS).put o.dst (.raw (.pointer (some ⟨b, 0, none⟩))))
    | _, _ => False
  | .makeSlice t n c =>
    match opd st n, opd st c, (Γ t).d with
    | .i _ n', .i _ c', .slice e =>
      match (Γ e).d with
      | .int k => ovc st true n ∧ ovc st true c ∧ 0 ≤ n' ∧ n' ≤ c' ∧ ((Γ e).bytes : Int) * c' ≤ 281474976710656 ∧ c' ≤ 9223372036854775807 ∧ (Γ e).size = 1 ∧ (Γ e).zero = [Value.int k 0] ∧ K (st.addTok.put o.dst (.ints k (.tok st.nx true) (List.replicate n'.toNat 0)))
      | _ => False
    | _, _, _ => False
  | .convert s d x =>
    match opd st x, (Γ s).d, (Γ d).d with
    | .ints .u8 (.tok τ b) l, .slice e, .slice _ => ovc st true x ∧ s = d ∧ (Γ e).d = .int .u8 ∧ l ≠ [] ∧ tkMem st.tk τ = true ∧ K (st.put o.dst (.ints .u8 (.tok τ b) l))
    | .s y, .str, .slice e => ovc st true x ∧ (Γ e).d = .int .u8 ∧ y.size ≤ 140737488355328 ∧ K (st.addTok.put o.dst (.ints .u8 (.tok st.nx true) (bytesOf y)))
    | _, _, _ => False
  | .binOp op t x y _ =>
    match (Γ t).d, isNilS y with
    | .slice _, true => ovc st true x ∧ evSliceNil op (opd st x) (nilK K st o.dst)
    | .struct fs, _ =>
      match op, opd st x, opd st y with
      | .eql, .agg xs, .agg ys =>
        match eqB Γ xs ys fs with
        | some c => ovc st true x ∧ ovc st true y ∧ eqPlain P t = true ∧ K (st.put o.dst (.b c))
        | none => False
      | _, _, _ => False
    | _, _ => False
  | .call c => evCall P Γ st o.dst c K
  | _ => False

theorem wp_value {P : Program} {o : Oper} {a : Act} {w w' : World} {next : Act → World → Prop} {Q : Exit → Act → World → Prop} {v : Value} (h : (execOp a.eval o).run P w = .ok (.value v) w') (hn : next (a.put o.dst v) w') : o.wp P a w next Q := by
  unfold Oper.wp; rw [h]; exact hn

theorem wp_skip' {P : Program} {o : Oper} {a : Act} {w w' : World} {next : Act → World → Prop} {Q : Exit → Act → World → Prop} (h : (execOp a.eval o).run P w = .ok .skip w') (hn : next (a.put o.dst undef) w') : o.wp P a w next Q := by
  unfold Oper.wp; rw [h]; exact hn

theorem wp_enter {P : Program} {o : Oper} {a : Act} {w w' : World} {next : Act → World → Prop} {Q : Exit → Act → World → Prop} {f : FuncId} {ars : Array Value} (h : (execOp a.eval o).run P w = .ok (.enter f ars) w')
    (hn : Calls P f ars w' (fun e w'' => ∃ v, e = .returned v ∧ next (a.put o.dst v) w'')) : o.wp P a w next Q := by
  unfold Oper.wp; rw [h]
  show Calls _ _ _ _ _
  refine hn.mono ?_
  rintro e w'' ⟨v, rfl, h⟩
  exact h

theorem denL_append' {E : Env} {l m n : List SV} {cs ds es : List Value} (h : DenL E l cs) (k : DenL E m ds) (j : DenL E n es) : DenL E (l ++ m ++ n) (cs ++ ds ++ es) := denL_append _ _ _ _ (denL_append _ _ _ _ h k) j

theorem evCall_sound {P : Program} {Γ : Tab} (hΓ : Γ.ok P) {E : Env} {st : SS} {a : Act} {w : World} (hf : Fr E st a) (hw : Good E st w) {o : Oper} {c : Call} (ho : o.op = .call c) {K : SS → Prop} (h : evCall P Γ st o.dst c K)
    {next : Act → World → Prop} {Q : Exit → Act → World → Prop} (hn : ∀ E' st' a' w', E.Le E' → Fr E' st' a' → Good E' st' w' → K st' → next a' w') : o.wp P a w next Q := by
  have fin : ∀ {v : Value} {E' : Env} {st' : SS} {sv : SV} {w' : World}, E.Le E' → Good E' st' w' → Den E' sv v → (st'.fr = st.fr ∧ st'.df = st.df) → K (st'.put o.dst sv) → next (a.put o.dst v) w' := by
    intro v E' st' sv w' h1 h2 h3 h4 h5
    refine hn E' (st'.put o.dst sv) _ w' h1 (Fr.put ?_ _ h3) (h2.put _ _) h5
    exact ⟨by rw [h4.1]; exact DenL.mono h1 _ _ hf.tmps, by rw [h4.2]; exact hf.defers⟩
  unfold evCall at h
  split at h
  · rename_i f e1
    split at h
    · rename_i f' first cap e2
      obtain ⟨h1, h2, h3⟩ := h
      have hd := opd_den hf rfl h1
      rw [e2] at hd
      simp only [Den] at hd
      obtain ⟨fs, cs, ev, d1, d2⟩ := hd
      rcases h3 with h3 | ⟨sv, h3, h4⟩
      · obtain ⟨k1, k2⟩ := h3 E w _ hw (denL_append' d1 (denL_ops hf rfl _ h2) d2)
        refine wp_enter (w' := w) ?_ (k2.mono ?_)
        · rw [← k1]
          simp only [execOp, ho, resolve, e1, ev, Deferred.ofValue, Sem.run_bind, Sem.run_pure, Result.andThen_ok, invoke]
          congr 2
          apply Array.ext'; simp
        · rintro e w'' ⟨v, E', st', sv, rfl, q1, q2, q3, q4, q5⟩
          exact ⟨v, rfl, fin q1 q2 q3 q4 q5⟩
      · obtain ⟨v, k1, k2⟩ := h3 E w _ (denL_append' d1 (denL_ops hf rfl _ h2) d2)
        refine wp_value (v := v) (w' := w) ?_ (fin (Env.Le.refl E) hw k2 ⟨rfl, rfl⟩ h4)
        rw [← k1]
        simp only [execOp, ho, resolve, e1, ev, Deferred.ofValue, Sem.run_bind, Sem.run_pure, Result.andThen_ok, invoke]
        congr 2
        apply Array.ext'; simp
    · exact h.elim
  · rename_i r name e1
    obtain ⟨h1, h2, h3⟩ := h
    obtain ⟨f', ars, k1, k2⟩ := h3 E w _ _ hw (opd_den hf rfl h1) (denL_ops hf rfl _ h2)
    refine wp_enter (w' := w) (f := f') (ars := ars) ?_ (k2.mono ?_)
    · rw [← k1]
      have e0 : (#[a.eval r] ++ c.args.map a.eval) = ((a.eval r) :: c.args.toList.map a.eval).toArray := by apply Array.ext'; simp
      simp only [execOp, ho, resolve, e1, Sem.run_bind, Sem.run_pure, Result.andThen_ok, invoke]
      rw [e0]
      simp only [List.getElem?_toArray, List.getElem?_cons_zero]
      congr 2
      apply Array.ext'; simp
      rw [List.take_of_length_le (by simp)]
    · rintro e w'' ⟨v, E', st', sv, rfl, q1, q2, q3, q4, q5⟩
      exact ⟨v, rfl, fin q1 q2 q3 q4 q5⟩
  · rename_i e1
    split at h
    · rename_i s x t t2 e2 e3
      obtain ⟨h1, h2, h3⟩ := h
      obtain ⟨v, w', E', st', sv, q0, q1, q2, q3, q4, q5⟩ := evAppendX_sound (ty := o.type) hΓ hw (opd_den hf rfl h1) (opd_den hf rfl h2) h3
      refine wp_value (v := v) (w' := w') ?_ (fin q1 q2 q3 q4 q5)
      have e2' : c.args = #[s, x] := by apply Array.ext'; simpa using e2
      have e3' : c.argTypes = #[t, t2] := by apply Array.ext'; simpa using e3
      simp only [execOp, ho, resolve, e1, e2', e3', Sem.run_bind, Sem.run_pure, Result.andThen_ok, invoke, builtin]
      simp [q0]
    · exact h.elim
  · rename_i e1
    split at h
    · rename_i s x t t2 e2 e3
      obtain ⟨h1, h2, h3⟩ := h
      obtain ⟨v, w', E', st', sv, q0, q1, q2, q3, q4, q5⟩ := evCopy_sound (t2 := t2) (ty := o.type) hΓ hw (opd_den hf rfl h1) (opd_den hf rfl h2) h3
      refine wp_value (v := v) (w' := w') ?_ (fin q1 q2 q3 q4 q5)
      have e2' : c.args = #[s, x] := by apply Array.ext'; simpa using e2
      have e3' : c.argTypes = #[t, t2] := by apply Array.ext'; simpa using e3
      simp only [execOp, ho, resolve, e1, e2', e3', Sem.run_bind, Sem.run_pure, Result.andThen_ok, invoke, builtin]
      simp [q0]
    · exact h.elim
  · exact h.elim

theorem run_zero {P : Program} {t : TypeId} {i : TypeInfo} {z : Value} (h : P.info? t = some i) (hz : i.zero = some z) (w : World) : (zeroValue t).run P w = .ok z w := by simp [zeroValue, typeInfo, h, hz]

theorem evSliceNil_sound {P : Program} {w : World} {E : Env} {op : BinOp} {t e : TypeId} (hd : P.underlying t = some (.slice e)) {x : SV} {vx : Value} (hx : Den E x vx) {K : Bool → Prop} (h : evSliceNil op x K) {xo yo : Operand} :
    ∃ c, (do eqGuard op t xo yo vx (.slice none 0 0); binOp op t vx (.slice none 0 0) : Sem Value).run P w = .ok (.bool c) w ∧ K c := by
  have run : ∀ (p : Option Addr) (n c : Nat), (do eqGuard .eql t xo yo (.slice p n c) (.slice none 0 0); binOp .eql t (.slice p n c) (.slice none 0 0) : Sem Value).run P w = .ok (.bool p.isNone) w := by
    intro p n c
    simp [eqGuard]
    refine eql_of (by simp) (by simp) (by simp) (by simp) fun d => ?_
    cases p <;> simp [Op.equalIn, run_underlying hd]
  have run2 : ∀ (p : Option Addr) (n c : Nat), (do eqGuard .neq t xo yo (.slice p n c) (.slice none 0 0); binOp .neq t (.slice p n c) (.slice none 0 0) : Sem Value).run P w = .ok (.bool (!p.isNone)) w := by
    intro p n c
    have := neq_of (P := P) (w := w) (t := t) (x := .slice p n c) (y := .slice none 0 0) (b := p.isNone) (by simp) (by simp) (by simp) (by simp) (fun d => by cases p <;> simp [Op.equalIn, run_underlying hd])
    simpa [eqGuard] using this
  unfold evSliceNil at h
  split at h
  · simp only [Den] at hx; obtain ⟨p, c, _, _, _, _, hn⟩ := hx; simp only [TagOK] at hn; subst hn; exact ⟨true, run none 0 0, h⟩
  · simp only [Den] at hx; obtain ⟨p, c, _, _, _, _, hn⟩ := hx; simp only [TagOK] at hn; subst hn; exact ⟨false, run2 none 0 0, h⟩
  · rename_i l _
    simp only [Den] at hx; obtain ⟨p, c, rfl, _, _, q, _⟩ := hx
    refine ⟨_, run p _ c, h _ fun hn => ?_⟩
    cases l with
    | nil => rfl
    | cons y ys => obtain ⟨b, off, e, _⟩ := q 0 y (by simp); subst e; simp at hn
  · rename_i l _
    simp only [Den] at hx; obtain ⟨p, c, rfl, _, _, q, _⟩ := hx
    refine ⟨_, run2 p _ c, h _ fun hn => ?_⟩
    cases l with
    | nil => rfl
    | cons y ys => obtain ⟨b, off, e, _⟩ := q 0 y (by simp); subst e; simp at hn
  · rename_i n el
    simp only [Den] at hx; obtain ⟨p, c, rfl, _, _, q, _⟩ := hx
    refine ⟨_, run p _ c, h _ fun hn => ?_⟩
    cases n with
    | zero => rfl
    | succ n => obtain ⟨b, off, e, _⟩ := q 0 (by omega); subst e; simp at hn
  · rename_i n el
    simp only [Den] at hx; obtain ⟨p, c, rfl, _, _, q, _⟩ := hx
    refine ⟨_, run2 p _ c, h _ fun hn => ?_⟩
    cases n with
    | zero => rfl
    | succ n => obtain ⟨b, off, e, _⟩ := q 0 (by omega); subst e; simp at hn
  · simp only [Den] at hx
    subst hx
    rename_i p n c
    refine ⟨_, run p n c, ?_⟩
    cases p with
    | none => exact h.1 rfl
    | some a => exact h.2 (by simp)
  · simp only [Den] at hx
    subst hx
    rename_i p n c
    refine ⟨_, run2 p n c, ?_⟩
    cases p with
    | none => exact h.1 rfl
    | some a => exact h.2 (by simp)
  · exact h.elim

theorem isNilS_eval {a : Act} {y : Operand} (h : isNilS y = true) : a.eval y = .slice none 0 0 := by
  unfold isNilS at h
  split at h
  · rfl
  · cases h

theorem intsOf_sound {E : Env} {k : IntKind} : ∀ (ps : List (Nat × SV)) (j : Nat) (l : List Int) (vs : List (Nat × Value)), intsOf k ps j = some l → vs.map (·.1) = ps.map (·.1) → DenL E (ps.map (·.2)) (vs.map (·.2)) →
    vs = (l.map (Value.int k)).mapIdx (fun i v => (j + i, v))
  | [], j, l, vs, h, h1, _ => by
    simp only [intsOf, Option.some.injEq] at h
    subst h
    simpa using h1
  | (i, .i k' n) :: r, j, l, [], h, h1, h2 => by simp at h1
  | (i, .i k' n) :: r, j, l, (i', v) :: vr, h, h1, h2 => by
    simp only [intsOf] at h
    split at h
    · rename_i hc
      obtain ⟨rfl, rfl⟩ := hc
      split at h
      · rename_i l' e
        simp only [Option.some.injEq] at h
        subst h
        simp only [List.map_cons, List.cons.injEq] at h1
        obtain ⟨rfl, h1⟩ := h1
        simp only [List.map_cons, DenL, Den] at h2
        obtain ⟨rfl, h2⟩ := h2
        have := intsOf_sound r _ l' vr e h1 h2
        rw [this]
        simp only [List.map_cons, List.mapIdx_cons, Nat.add_zero, List.cons.injEq, true_and]
        congr 1
        funext i v
        rw [Nat.add_assoc, Nat.add_comm 1 i]
      · cases h
    · cases h
  | (i, .b _) :: r, j, l, vs, h, _, _ => by simp [intsOf] at h
  | (i, .s _) :: r, j, l, vs, h, _, _ => by simp [intsOf] at h
  | (i, .ptr _ _) :: r, j, l, vs, h, _, _ => by simp [intsOf] at h
  | (i, .nilp) :: r, j, l, vs, h, _, _ => by simp [intsOf] at h
  | (i, .ints _ _ _) :: r, j, l, vs, h, _, _ => by simp [intsOf] at h
  | (i, .sl _ _ _ _) :: r, j, l, vs, h, _, _ => by simp [intsOf] at h
  | (i, .ep _ _) :: r, j, l, vs, h, _, _ => by simp [intsOf] at h
  | (i, .agg _) :: r, j, l, vs, h, _, _ => by simp [intsOf] at h
  | (i, .tup _) :: r, j, l, vs, h, _, _ => by simp [intsOf] at h
  | (i, .nili) :: r, j, l, vs, h, _, _ => by simp [intsOf] at h
  | (i, .ifc _ _) :: r, j, l, vs, h, _, _ => by simp [intsOf] at h
  | (i, .fn _ _ _) :: r, j, l, vs, h, _, _ => by simp [intsOf] at h
  | (i, .nilf) :: r, j, l, vs, h, _, _ => by simp [intsOf] at h
  | (i, .raw _) :: r, j, l, vs, h, _, _ => by simp [intsOf] at h
  | (i, .cnd _ _) :: r, j, l, vs, h, _, _ => by simp [intsOf] at h
  | (i, .any) :: r, j, l, vs, h, _, _ => by simp [intsOf] at h

/-- A row of numbers written out. -/
theorem fill_ints (k : IntKind) : ∀ (l : List Int) (j : Nat) (cs : Array Value), j + l.length = cs.size → (∀ i, i < j → True) →
    Instr.fill (fun i => some (i * 1, 1)) cs ((l.map (Value.int k)).mapIdx (fun i v => (j + i, v))) = some (cs.toList.take j ++ l.map (Value.int k)).toArray
  | [], j, cs, hj, _ => by
    simp [Instr.fill]
    have : cs.size ≤ j := by simp at hj; omega
    apply Array.ext'; simp; rw [List.take_of_length_le (by simpa using this)]
  | n :: r, j, cs, hj, _ => by
    simp only [List.map_cons, List.mapIdx_cons, Nat.add_zero, Instr.fill]
    have hlt : j < cs.size := by simp at hj; omega
    rw [if_neg (by simp [Value.cells]; omega)]
    have e1 : ((Value.int k n).cells.zipIdx.foldl (fun (cs : Array Value) (p : Value × Nat) => cs.setIfInBounds (j * 1 + p.2) p.1) cs) = cs.setIfInBounds j (.int k n) := by simp [Value.cells]
    have ih := fill_ints k r (j + 1) (cs.setIfInBounds j (.int k n)) (by simp at hj ⊢; omega) (fun _ _ => trivial)
    rw [show (fun i (v : Value) => (j + (i + 1), v)) = (fun i v => (j + 1 + i, v)) by funext i v; congr 1; omega]
    rw [e1, ih]
    congr 2
    simp only [Array.toList_setIfInBounds]
    rw [List.take_set]
    apply List.ext_getElem?
    intro i
    simp only [List.getElem?_append, List.length_set, List.length_take, Array.length_toList, List.getElem?_set, List.getElem?_take]
    by_cases h1 : i < j
    · rw [if_pos (by omega), if_neg (by omega), if_pos (by omega), if_pos (by omega), if_pos (by omega)]
    · by_cases h2 : i = j
      · subst h2
        rw [if_pos (by omega), if_pos rfl, if_pos (by omega), if_neg (by omega)]
        simp [Nat.min_eq_left (Nat.le_of_lt hlt)]
      · rw [if_neg (by omega), if_neg (by omega)]
        rw [show i - min j cs.size = (i - min (j + 1) cs.size) + 1 by omega]
        simp

theorem fill_rows (sz : Nat) : ∀ (vs : List Value) (j : Nat) (cs : Array Value), (j + vs.length) * sz = cs.size → (∀ v ∈ vs, v.cells.size = sz) →
    ∃ cs', Instr.fill (fun i => some (i * sz, sz)) cs (vs.mapIdx (fun i v => (j + i, v))) = some cs' ∧ cs'.size = cs.size ∧ (∀ k, k < j * sz → cs'[k]? = cs[k]?) ∧ ∀ i v, vs[i]? = some v → ∀ d, d < sz → cs'[(j + i) * sz + d]? = v.cells[d]?
  | [], j, cs, hj, _ => ⟨cs, by simp [Instr.fill], rfl, fun _ _ => rfl, fun i v h => by simp at h⟩
  | v :: r, j, cs, hj, hs => by
    have hv := hs v (by simp)
    have hm : (j + (v :: r).length) * sz = j * sz + (sz + r.length * sz) := by simp [Nat.add_mul]; omega
    simp only [List.mapIdx_cons, Nat.add_zero, Instr.fill]
    rw [if_neg (by rw [hv]; simp; omega)]
    have e1 : (v.cells.zipIdx.foldl (fun (cs : Array Value) (p : Value × Nat) => cs.setIfInBounds (j * sz + p.2) p.1) cs) = (splV cs.toList (j * sz) v.cells.toList).toArray := by
      have := foldl_set v.cells.toList 0 (j * sz) cs
      rw [Nat.add_zero] at this
      rw [← this, ← Array.foldl_toList, Array.toList_zipIdx]
    rw [e1]
    have hget : ∀ k, (splV cs.toList (j * sz) v.cells.toList).toArray[k]? = if j * sz ≤ k ∧ k < j * sz + sz then v.cells[k - j * sz]? else cs[k]? := fun k => by
      rw [List.getElem?_toArray, splV_getElem]
      have h1 : v.cells.toList.length = sz := by simpa using hv
      have h2 : cs.toList.length = cs.size := by simp
      rw [h1, h2]
      by_cases hk : j * sz ≤ k ∧ k < j * sz + sz
      · rw [if_pos hk, if_pos ⟨hk.1, hk.2, by omega⟩]; simp
      · rw [if_neg hk, if_neg (by omega)]; simp
    have hsz : (splV cs.toList (j * sz) v.cells.toList).toArray.size = cs.size := by
      have a1 : ∀ k, k < cs.size → k < (splV cs.toList (j * sz) v.cells.toList).toArray.size := fun k hk => by
        rcases Nat.lt_or_ge k (splV cs.toList (j * sz) v.cells.toList).toArray.size with h | h
        · exact h
        · have := hget k
          rw [Array.getElem?_eq_none h] at this
          split at this
          · rename_i hk2
            rw [Array.getElem?_eq_getElem (by rw [hv]; omega)] at this; cases this
          · rw [Array.getElem?_eq_getElem hk] at this; cases this
      have a2 : ∀ k, k < (splV cs.toList (j * sz) v.cells.toList).toArray.size → k < cs.size := fun k hk => by
        rcases Nat.lt_or_ge k cs.size with h | h
        · exact h
        · have := hget k
          rw [Array.getElem?_eq_getElem hk, if_neg (by omega), Array.getElem?_eq_none h] at this
          cases this
      rcases Nat.lt_trichotomy (splV cs.toList (j * sz) v.cells.toList).toArray.size cs.size with h | h | h
      · have := a1 _ h; omega
      · exact h
      · have := a2 _ h; omega
    obtain ⟨cs', q1, q2, q3, q4⟩ := fill_rows sz r (j + 1) (splV cs.toList (j * sz) v.cells.toList).toArray (by rw [hsz, ← hj, hm, Nat.add_mul, Nat.add_mul]; omega) (fun u hu => hs u (List.mem_cons_of_mem _ hu))
    refine ⟨cs', ?_, by rw [q2, hsz], fun k hk => ?_, fun i u hu d hd => ?_⟩
    · rw [show (fun i (v : Value) => (j + (i + 1), v)) = (fun i v => (j + 1 + i, v)) by funext i v; congr 1; omega]
      exact q1
    · rw [q3 k (by rw [Nat.add_mul]; omega), hget, if_neg (by omega)]
    · cases i with
      | zero =>
        simp only [List.getElem?_cons_zero, Option.some.injEq] at hu
        subst hu
        rw [Nat.add_zero, q3 _ (by rw [Nat.add_mul]; omega), hget, if_pos ⟨by omega, by omega⟩]
        congr 1
        omega
      | succ i =>
        simp only [List.getElem?_cons_succ] at hu
        have := q4 i u hu d hd
        rw [show j + (i + 1) = j + 1 + i by omega]
        exact this

theorem rowsOf_sound {E : Env} {sz : Nat} : ∀ (ps : List (Nat × SV)) (j : Nat) (L : List (List SV)) (vs : List (Nat × Value)), rowsOf sz ps j = some L → vs.map (·.1) = ps.map (·.1) → DenL E (ps.map (·.2)) (vs.map (·.2)) →
    ∃ us : List Value, vs = us.mapIdx (fun i v => (j + i, v)) ∧ us.length = L.length ∧ (∀ v ∈ us, v.cells.size = sz) ∧ ∀ i v, us[i]? = some v → DenL E (pickL L i) v.cells.toList
  | [], j, L, vs, h, h1, _ => by
    simp only [rowsOf, Option.some.injEq] at h
    subst h
    have : vs = [] := by simpa using h1
    subst this
    exact ⟨[], rfl, rfl, fun v hv => by simp at hv, fun i v hv => by simp at hv⟩
  | (i, x) :: r, j, L, [], h, h1, h2 => by simp at h1
  | (i, x) :: r, j, L, (i', v) :: vr, h, h1, h2 => by
    simp only [rowsOf] at h
    split at h
    · rename_i ls e
      split at h
      · rename_i hc
        obtain ⟨rfl, hlen⟩ := hc
        split at h
        · rename_i L' e'
          simp only [Option.some.injEq] at h
          subst h
          simp only [List.map_cons, List.cons.injEq] at h1
          obtain ⟨rfl, h1⟩ := h1
          simp only [List.map_cons, DenL] at h2
          obtain ⟨us, p1, p2, p3, p4⟩ := rowsOf_sound r _ L' vr e' h1 h2.2
          have hd := denL_leaves h2.1 e
          have hsz : v.cells.size = sz := by rw [← Array.length_toList, denL_length _ _ hd, hlen]
          refine ⟨v :: us, ?_, by simp [p2], fun u hu => ?_, fun k u hu => ?_⟩
          · rw [List.mapIdx_cons, p1]
            congr 1
            congr 1
            funext k u
            congr 1
            omega
          · rcases List.mem_cons.1 hu with rfl | hu
            · exact hsz
            · exact p3 u hu
          · cases k with
            | zero =>
              simp only [List.getElem?_cons_zero, Option.some.injEq] at hu
              subst hu
              exact hd
            | succ k => exact p4 k u (by simpa using hu)
        · cases h
      · cases h
    · cases h

theorem eqB_sound {P : Program} {Γ : Tab} (hΓ : Γ.ok P) {E : Env} {w : World} {xs ys : List SV} {vx vy : List Value} (hx : DenL E xs vx) (hy : DenL E ys vy) (d : Nat) : ∀ (fs : List Field) (c : Bool), eqB Γ xs ys (fs.map fun f => (f.offset, f.type)) = some c → (fs.all fun f => f.name != "_") = true →
    (Op.eqFields (d + 1) vx.toArray vy.toArray fs).run P w = .ok c w
  | [], c, h, _ => by
    simp only [List.map_nil, eqB, Option.some.injEq] at h
    subst h
    simp [Op.eqFields]
  | f :: r, c, h, hn => by
    simp only [List.all_cons, Bool.and_eq_true, bne_iff_ne, ne_eq] at hn
    simp only [List.map_cons, eqB] at h
    have und := (hΓ f.type).und
    have hcell : ∀ (l : List SV) (cs : List Value) (x : SV), DenL E l cs → nth l f.offset = some x → ∃ v, cs[f.offset]? = some v ∧ Den E x v := fun l cs x hl hnx => by
      rw [nth_eq] at hnx
      have hlt : f.offset < l.length := (List.getElem?_eq_some_iff.1 hnx).1
      have hlen := denL_length _ _ hl
      refine ⟨cs[f.offset]'(by omega), List.getElem?_eq_getElem (by omega), ?_⟩
      have := denL_get l cs f.offset undef hl
      rw [List.getElem?_eq_getElem (by omega)] at this
      have h2 : lget l f.offset = x := by
        have aux : ∀ (l : List SV) (n : Nat) (x : SV), l[n]? = some x → lget l n = x := by
          intro l
          induction l with
          | nil => intro n x h; simp at h
          | cons y r ih => intro n x h; cases n with
            | zero => simpa [lget] using h
            | succ n => simp only [lget]; exact ih n x (by simpa using h)
        exact aux _ _ _ hnx
      rw [h2] at this
      exact this
    split at h
    · rename_i x y e2 e3
      split at h
      · rename_i a e1
        split at h
        · rename_i c' e4
          simp only [Option.some.injEq] at h
          subst h
          obtain ⟨v1, p1, p2⟩ := hcell _ _ _ hx e2
          obtain ⟨v2, p3, p4⟩ := hcell _ _ _ hy e3
          have ih := eqB_sound (P := P) (w := w) hΓ hx hy d r c' e4 hn.2
          have main : (part f.type vx.toArray f.offset).run P w = .ok v1 w ∧ (part f.type vy.toArray f.offset).run P w = .ok v2 w ∧ (Op.equalIn (d + 1) f.type v1 v2).run P w = .ok a w := by
            unfold leafEq at e1
            split at e1
            · rename_i a' b' e5
              simp only [Option.some.injEq] at e1
              subst e1
              rw [e5] at und
              simp only [TD.ok] at und
              simp only [Den] at p2 p4
              subst p2; subst p4
              exact ⟨by simp [part, isAgg, run_underlying und, p1], by simp [part, isAgg, run_underlying und, p3], run_equalIn_bool' w d f.type a' b' und⟩
            · rename_i k k1 a' k2 b' e5
              split at e1
              · rename_i hk
                obtain ⟨rfl, rfl⟩ := hk
                simp only [Option.some.injEq] at e1
                subst e1
                rw [e5] at und
                simp only [TD.ok] at und
                simp only [Den] at p2 p4
                subst p2; subst p4
                exact ⟨by simp [part, isAgg, run_underlying und, p1], by simp [part, isAgg, run_underlying und, p3], by simp [Op.equalIn, run_underlying und]⟩
              · cases e1
            · rename_i a' b' e5
              simp only [Option.some.injEq] at e1
              subst e1
              rw [e5] at und
              simp only [TD.ok] at und
              simp only [Den] at p2 p4
              subst p2; subst p4
              exact ⟨by simp [part, isAgg, run_underlying und, p1], by simp [part, isAgg, run_underlying und, p3], by simp [Op.equalIn, run_underlying und]⟩
            · cases e1
          obtain ⟨q1, q2, q3⟩ := main
          simp only [Op.eqFields]
          rw [if_pos hn.1]
          simp only [Sem.run_bind, q1, q2, Result.andThen_ok, q3]
          cases hab : a
          · simp
          · simpa using ih
        · cases h
      · cases h
    · cases h

theorem evEff_sound {P : Program} {Γ : Tab} (hΓ : Γ.ok P) {E : Env} {st : SS} {a : Act} {w : World} (hf : Fr E st a) (hw : Good E st w) {o : Oper} {K : SS → Prop} (h : evEff P Γ st o K)
    {next : Act → World → Prop} {Q : Exit → Act → World → Prop} (hn : ∀ E' st' a' w', E.Le E' → Fr E' st' a' → Good E' st' w' → K st' → next a' w') : o.wp P a w next Q := by
  have fin : ∀ {v : Value} {E' : Env} {st' : SS} {sv : SV} {w' : World}, E.Le E' → Good E' st' w' → Den E' sv v → (st'.fr = st.fr ∧ st'.df = st.df) → K (st'.put o.dst sv) → next (a.put o.dst v) w' := by
    intro v E' st' sv w' h1 h2 h3 h4 h5
    refine hn E' (st'.put o.dst sv) _ w' h1 (Fr.put ?_ _ h3) (h2.put _ _) h5
    exact ⟨by rw [h4.1]; exact DenL.mono h1 _ _ hf.tmps, by rw [h4.2]; exact hf.defers⟩
  unfold evEff at h
  split at h
  · rename_i t ho
    obtain ⟨h1, h2⟩ := h
    obtain ⟨i, z, hi, his, hib, hiz, hzc⟩ := Tab.info hΓ t h1
    obtain ⟨E', q1, q2, q3⟩ := hw.alloc_named (ls := (Γ t).zero.map ofLeaf) (cs := z.cells) t (by rw [hzc]; exact denL_ofLeaf E _)
    refine wp_value (v := .pointer (some ⟨w.heap.size, 0, none⟩)) (w' := w.alloc (.cells z.cells t)) ?_ (fin q1 q3 (by simp only [Den]; exact ⟨_, q2, rfl⟩) ⟨rfl, rfl⟩ h2)
    simp only [execOp, ho]
    simp [Instr.alloc, run_zero hi hiz, newVar, newRow]
    try rfl
  · rename_i t x ho
    split at h
    · rename_i ls e1
      obtain ⟨h1, h2⟩ := h
      have hx := opd_den hf rfl h1
      obtain ⟨E', q1, q2, q3⟩ := hw.alloc_named (ls := ls) (cs := (a.eval x).cells) t (denL_leaves hx e1)
      refine wp_value (v := .pointer (some ⟨w.heap.size, 0, none⟩)) (w' := w.alloc (.cells (a.eval x).cells t)) ?_ (fin q1 q3 (by simp only [Den]; exact ⟨_, q2, rfl⟩) ⟨rfl, rfl⟩ h2)
      simp only [execOp, ho]
      simp [Instr.box, newVar, newRow]
      try rfl
    · exact h.elim
  · rename_i t ad x ho
    split at h
    · rename_i n off ls e1 e2
      split at h
      · rename_i T l e3
        obtain ⟨h1, h2, h3, h4, h5, h6, h7⟩ := h
        have hx := opd_den hf rfl h2
        have hlv := denL_leaves hx e2
        have hp := opd_den hf rfl h1
        rw [e1] at hp
        simp only [Den] at hp
        obtain ⟨b', hb', ep⟩ := hp
        obtain ⟨b, w', q1, q2, q3⟩ := hw.store e3 off hlv h5 P (allOne_sound hlv h6)
        obtain rfl : b' = b := by rw [q1] at hb'; injection hb' with e; exact e.symm
        obtain ⟨i, z, hi, his, hib, hiz, hzc⟩ := Tab.info hΓ t h3
        have hsz : (a.eval x).cells.size = i.size := by rw [← Array.length_toList, leaves_one hx e2, h4, his]
        refine wp_skip' (w' := w') ?_ (fin (Env.Le.refl E) q3 (by simp only [Den]) ⟨rfl, rfl⟩ h7)
        simp only [execOp, ho]
        simp [Instr.storeAt, Instr.sureAddr, ep, storeVar, run_sizeOf' hi, hsz, q2]
      · exact h.elim
    · rename_i q ls e1 e2
      obtain ⟨h1, h2, h3, h4, r, k, p0, c0, l0, i0, n, hr, hi0, rfl, rfl, hK⟩ := h
      have hx := opd_den hf rfl h2
      have hlv := denL_leaves hx e2
      have hp := opd_den hf rfl h1
      rw [e1] at hp
      simp only [Den] at hp
      have hc := (hw.rowOf hr).1
      obtain ⟨ad', w', k1, k2, k3⟩ := hw.rowStore hr P i0 [n] (by omega) (by simp; omega) (by simp)
      rw [k1] at hp
      have hset : l0.take i0 ++ [n] ++ l0.drop (i0 + [n].length) = l0.set i0 n := by
        rw [List.set_eq_take_append_cons_drop, if_pos hi0]; simp
      rw [hset] at k3
      have hcells : (a.eval x).cells.toList = [Value.int k n] := by
        cases hcs : (a.eval x).cells.toList with
        | nil => rw [hcs] at hlv; simp only [DenL] at hlv
        | cons u us =>
          rw [hcs] at hlv
          cases us with
          | nil => simp only [DenL, Den] at hlv; rw [hlv.1]
          | cons u' us' => simp only [DenL] at hlv; exact hlv.2.elim
      obtain ⟨i, z, hi, his, hib, hiz, hzc⟩ := Tab.info hΓ t h3
      have hsz : (a.eval x).cells.size = i.size := by rw [← Array.length_toList, hcells, his, h4]; rfl
      refine wp_skip' (w' := w') ?_ (fin (Env.Le.refl E) k3 (by simp only [Den]) ⟨rfl, rfl⟩ hK)
      simp only [execOp, ho]
      simp only [List.map_cons, List.map_nil] at k2
      simp [Instr.storeAt, Instr.sureAddr, hp, storeVar, run_sizeOf' hi, hsz, hcells, k2]
    · exact h.elim
  · rename_i t x ho
    split at h
    · rename_i q e1
      obtain ⟨h1, h2, h3, r, k, p0, c0, l0, i0, hr, hi0, rfl, hK⟩ := h
      have hp := opd_den hf rfl h1
      rw [e1] at hp
      simp only [Den] at hp
      obtain ⟨q0, q1, q2⟩ := hw.rowOf hr
      rcases q2 with rfl | ⟨b, off, T, cs, rfl, ⟨fz, hb, _⟩, hsz, hcs, _⟩
      · omega
      have hv : cs[off + i0]? = some (Value.int k (l0.getD i0 0)) := hcs i0 _ (by simp [List.getD, hi0])
      have hrun := run_loadVar_of hΓ h3 (w := w) (a := ⟨b, off + i0, none⟩) [Value.int k (l0.getD i0 0)] (fun j y hy => by
        cases j with
        | zero =>
          simp only [List.getElem?_cons_zero, Option.some.injEq] at hy
          subst hy
          rw [addr_add]
          simp only [World.cell?, hb, Nat.add_zero]
          exact hv
        | succ j => simp at hy) (by rw [h2]; simp)
      refine wp_value (v := Value.int k (l0.getD i0 0)) (w' := w) ?_ (fin (Env.Le.refl E) hw (by simp only [Den]) ⟨rfl, rfl⟩ hK)
      simp only [execOp, ho]
      rw [h2] at hrun
      simp only [Option.map_some, add_none] at hp
      simp [Instr.loadAt, Instr.sureAddr, hp, hrun]
    · exact h.elim
  · rename_i t len parts ho
    split at h
    · rename_i e e1
      have hd := (hΓ t).und
      rw [e1] at hd
      simp only [TD.ok] at hd
      split at h
      · rename_i k e2
        split at h
        · rename_i l e3
          obtain ⟨h1, h2, h3, h4, h5, h6⟩ := h
          obtain ⟨i, z, hi, his, hib, hiz, hzc⟩ := Tab.info hΓ e (by rw [e2]; simp)
          have hden := denL_ops hf rfl _ h1
          have hvs := intsOf_sound (E := E) (k := k) _ 0 l (parts.toList.map fun p => (p.1, a.eval p.2)) e3 (by simp [Function.comp_def]) (by simpa [Function.comp_def] using hden)
          have hparts : (parts.map fun (p : Nat × Operand) => (p.1, a.eval p.2)).toList = parts.toList.map fun p => (p.1, a.eval p.2) := by simp
          obtain ⟨E', q1, q2, q3⟩ := new_ints hw k e l #[] l.length (Nat.le_refl _) (by simp) (by omega)
          refine wp_value (v := .slice (some ⟨w.heap.size, 0, none⟩) len len) (w' := w.alloc (.cells ((l.map (Value.int k)).toArray) e)) ?_ (fin q1 (st' := st.addTok) (by rw [Array.append_empty] at q2; exact q2) (by rw [h2] at q3; exact q3) ⟨rfl, rfl⟩ h6)
          have h16 : ¬ (16777216 < len * 1) := by omega
          have his1 : i.size = 1 := his.trans h4
          simp only [execOp, ho]
          have hrun : (Instr.buildSlice t len (parts.map fun (p : Nat × Operand) => (p.1, a.eval p.2))).run P w = .ok (.slice (some ⟨w.heap.size, 0, none⟩) len len) (w.alloc (.cells ((l.map (Value.int k)).toArray) e)) := by
            simp only [Instr.buildSlice, Sem.run_bind, run_underlying hd, Result.andThen_ok, run_sizeOf' hi, his1]
            rw [if_neg (by simpa using h16)]
            by_cases h0 : len = 0
            · subst h0
              have hl0 : l = [] := by simpa using h2
              subst hl0
              have hv0 : (parts.map fun (p : Nat × Operand) => (p.1, a.eval p.2)).toList = [] := by rw [hparts, hvs]; simp
              rw [hv0]
              simp [Instr.fill, newRow]
              rw [show Array.range 0 = #[] from rfl]
              simp
            · have hfill := fill_ints k l 0 ((Array.range (len * 1)).map (fun j => z.cells[j % z.cells.size]!)) (by simp [h2]) (fun _ _ => trivial)
              rw [if_neg (by omega)]
              simp only [Sem.run_bind, Sem.run_pure, Result.andThen_ok, run_zero hi hiz]
              rw [hparts, hvs, hfill]
              simp [newRow]
              try rfl
          rw [Sem.run_bind, hrun]
          rfl
        · exact h.elim
      · split at h
        · rename_i L e3
          obtain ⟨h1, h2, ⟨h3', h3⟩, h4, h5⟩ := h
          obtain ⟨i, z, hi, his, hib, hiz, hzc⟩ := Tab.info hΓ e h4
          have hden := denL_ops hf rfl _ h1
          obtain ⟨us, p1, p2, p3, p4⟩ := rowsOf_sound (E := E) _ 0 L (parts.toList.map fun p => (p.1, a.eval p.2)) e3 (by simp [Function.comp_def]) (by simpa [Function.comp_def] using hden)
          have hlen : us.length = len := p2.trans h2
          obtain ⟨cs', f1, f2, f3, f4⟩ := fill_rows (Γ e).size us 0 ((Array.range (len * (Γ e).size)).map (fun j => (if len * (Γ e).size = 0 then #[] else z.cells)[j % (if len * (Γ e).size = 0 then (#[] : Array Value) else z.cells).size]!)) (by simp [hlen]) p3
          obtain ⟨E', q1, q2, q3, q4, q5⟩ := hw.alloc_tok cs' e (Γ e).size len len (Nat.le_refl _) (by rw [f2]; simp)
          have hparts : (parts.map fun (p : Nat × Operand) => (p.1, a.eval p.2)).toList = us.mapIdx (fun i v => (0 + i, v)) := by rw [← p1]; simp
          refine wp_value (v := .slice (some ⟨w.heap.size, 0, none⟩) len len) (w' := w.alloc (.cells cs' e)) ?_ (fin q1 (st' := st.addTok) q5 ?_ ⟨rfl, rfl⟩ h5)
          · simp only [execOp, ho]
            have hrun : (Instr.buildSlice t len (parts.map fun (p : Nat × Operand) => (p.1, a.eval p.2))).run P w = .ok (.slice (some ⟨w.heap.size, 0, none⟩) len len) (w.alloc (.cells cs' e)) := by
              have h16 : ¬ (16777216 < len * (Γ e).size) := by omega
              simp only [Instr.buildSlice, Sem.run_bind, run_underlying hd, Result.andThen_ok, run_sizeOf' hi, his]
              rw [if_neg (by simpa using h16)]
              by_cases h0 : len * (Γ e).size = 0
              · simp only [if_pos h0] at f1
                simp only [if_pos h0, Sem.run_bind, Sem.run_pure, Result.andThen_ok]
                rw [hparts, f1]
                simp [newRow]
              · rw [if_neg h0]
                simp only [if_neg h0] at f1
                simp only [Sem.run_bind, Sem.run_pure, Result.andThen_ok, run_zero hi hiz]
                rw [hparts, f1]
                simp [newRow]
            rw [Sem.run_bind, hrun]
            rfl
          · simp only [Den]
            have hcap' : len ≤ 9223372036854775807 := by omega
            refine ⟨_, len, rfl, Nat.le_refl _, hcap', fun i hi => ⟨_, 0, rfl, fun j hj => ?_⟩, by rw [q2]; exact TokV.self (Nat.le_refl _), fun _ a n c ee => ?_⟩
            · have hu : us[i]? = some us[i] := List.getElem?_eq_getElem (by omega)
              have hc := f4 i us[i] hu j hj
              have hsz := p3 us[i] (List.getElem_mem _)
              have hc' : us[i].cells[j]? = some (us[i].cells[j]'(by omega)) := Array.getElem?_eq_getElem (by omega)
              rw [hc', Nat.zero_add] at hc
              have hlt : i * (Γ e).size + j < len * (Γ e).size := by
                have : (i + 1) * (Γ e).size ≤ len * (Γ e).size := Nat.mul_le_mul_right _ hi
                rw [Nat.add_mul] at this
                omega
              refine ⟨_, by rw [Nat.zero_add]; exact q3 _ _ hlt hc, ?_⟩
              have hdl := p4 i us[i] hu
              have := denL_get _ _ j undef hdl
              have hj2 : us[i].cells.toList[j]? = some (us[i].cells[j]'(by omega)) := by rw [Array.getElem?_toList]; exact hc'
              rw [hj2] at this
              exact Den.mono q1 _ _ this
            · injection ee with ee1
              injection ee1 with ee1
              rw [← ee1]; exact q4
        · exact h.elim
    · exact h.elim
  · rename_i t x ho
    split at h
    · rename_i y x1 x2
      obtain ⟨h1, h2⟩ := h
      have dx := opd_den hf rfl h1
      rw [x1] at dx
      simp only [Den] at dx
      have hd := (hΓ t).und
      rw [x2] at hd
      simp only [TD.ok] at hd
      refine wp_value (v := .pointer (some ⟨w.heap.size, 0, none⟩)) (w' := w.alloc (.stringIter y 0)) ?_ (fin (Env.Le.refl E) (hw.alloc_res (.stringIter y 0)) (by simp only [Den]) ⟨rfl, rfl⟩ (h2 w.heap.size))
      simp only [execOp, ho, dx]
      simp [Instr.range, run_underlying hd, newObj]
      rfl
    · exact h.elim
  · rename_i t n c ho
    split at h
    · rename_i k1 n' k2 c' e x1 x2 x3
      split at h
      · rename_i k y1
        obtain ⟨h1, h2, h3, h4, h5, h6, h7, h8, h9⟩ := h
        have hd := (hΓ t).und
        rw [x3] at hd
        simp only [TD.ok] at hd
        obtain ⟨i, z, hi, his, hib, hiz, hzc⟩ := Tab.info hΓ e (by rw [y1]; simp)
        have dn := opd_den hf rfl h1
        have dc := opd_den hf rfl h2
        rw [x1] at dn
        rw [x2] at dc
        simp only [Den] at dn dc
        have hz1 : z.cells = #[Value.int k 0] := by apply Array.ext'; rw [hzc, h8]
        have hr := run_make (P := P) w t e i z hd hi hiz k1 k2 n' c' h3 h4 (by rw [hib]; exact h5) h6
        rw [hz1, his, h7] at hr
        have hm : madeCells #[Value.int k 0] (c'.toNat * 1) = ((List.replicate n'.toNat (0 : Int)).map (Value.int k)).toArray ++ (List.replicate (c'.toNat - n'.toNat) (Value.int k 0)).toArray := by
          apply Array.ext'
          rw [toList_madeCells_one]
          simp [List.replicate_append_replicate]
          omega
        rw [hm] at hr
        obtain ⟨E', q1, q2, q3⟩ := new_ints hw k e (List.replicate n'.toNat 0) (List.replicate (c'.toNat - n'.toNat) (Value.int k 0)).toArray c'.toNat (by simp; omega) (by simp; omega) (by omega)
        rw [List.length_replicate] at q3
        refine wp_value (v := .slice (some ⟨w.heap.size, 0, none⟩) n'.toNat c'.toNat) ?_ (fin q1 (st' := st.addTok) q2 q3 ⟨rfl, rfl⟩ h9)
        simp only [execOp, ho]
        rw [dn, dc, Sem.run_bind, hr]
        rfl
      · exact h.elim
    · exact h.elim
  · rename_i s d x ho
    have mark : ∀ (tg : Tag) (l : List Int), (∀ v, TagOK E 1 v tg → ∀ a n c, 0 < n → v = .slice (some a) n c → Mut E a.block) → opd st x = .ints .u8 tg l → ∀ e e', (Γ s).d = .slice e → (Γ d).d = .slice e' → ovc st true x → s = d → (Γ e).d = .int .u8 → l ≠ [] → K (st.put o.dst (.ints .u8 tg l)) → o.wp P a w next Q := by
      intro tg l htg e1 e e' e2 e3 h1 h2 h3 h4 h5
      subst h2
      have dx := opd_den hf rfl h1
      rw [e1] at dx
      have dx' := dx
      simp only [Den] at dx
      obtain ⟨p, cap, hv, hc, h63, q, ht⟩ := dx
      obtain ⟨y, ys, rfl⟩ := List.exists_cons_of_ne_nil h4
      obtain ⟨b, off, rfl, hμ⟩ := q 0 y (by simp)
      have hmut := htg _ ht ⟨b, off, none⟩ _ _ (by simp) hv
      obtain ⟨w', k1, k2⟩ := hw.mark P (b := b) (off := off) hmut hμ rfl
      have hs := (hΓ s).und
      rw [e2] at hs
      have hu := (hΓ e).und
      rw [h3] at hu
      simp only [TD.ok] at hs hu
      refine wp_value (v := a.eval x) (w' := w') ?_ (fin (Env.Le.refl E) k2 dx' ⟨rfl, rfl⟩ h5)
      simp only [execOp, ho, hv]
      have : (convert s s (.slice (some ⟨b, off, none⟩) (y :: ys).length cap)).run P w = .ok (.slice (some ⟨b, off, none⟩) (y :: ys).length cap) w' := by
        simp [convert, run_underlying hs, run_underlying hu, k1]
      rw [Sem.run_bind, this]
      rfl
    split at h
    · rename_i τ b l e e' x1 x2 x3
      obtain ⟨h1, h2, h3, h4, h6, h5⟩ := h
      refine mark _ _ (fun v hv a n c hn e => ?_) x1 _ _ x2 x3 h1 h2 h3 h4 h5
      simp only [TagOK] at hv
      obtain ⟨⟨a0, n0, c0, j, p, e1, e2, e3, e4, e5⟩, _⟩ := hv
      obtain ⟨κ, hk⟩ := hw.own
      obtain ⟨sz, a', len, cap, q1, q2, q3⟩ := hk.tk τ (tkMem_sound _ _ h6)
      rw [e1] at q1
      simp only [Option.some.injEq, Prod.mk.injEq, Value.slice.injEq] at q1
      obtain ⟨rfl, rfl, rfl, rfl⟩ := q1
      rw [e] at e4
      simp only [Value.slice.injEq] at e4
      obtain ⟨rfl, rfl, rfl⟩ := e4
      rcases q3 with q3 | ⟨b', off, T, cs, rfl, q5, q6, _⟩
      · rcases e5 with e5 | e5
        · omega
        · rw [q3.2] at e5; cases e5
      · rcases e5 with e5 | e5
        · omega
        · simp only [Option.map_some, Option.some.injEq] at e5
          rw [e5]
          simp only [Addr.add]
          split <;> exact q6
    · rename_i y e x1 x2 x3
      obtain ⟨h1, h3, h4, h5⟩ := h
      have dx := opd_den hf rfl h1
      rw [x1] at dx
      simp only [Den] at dx
      have hs := (hΓ s).und
      rw [x2] at hs
      have hd := (hΓ d).und
      rw [x3] at hd
      have hu := (hΓ e).und
      rw [h3] at hu
      simp only [TD.ok] at hs hd hu
      have hr := run_bytes_of_string (P := P) w s d e y hs hd hu
      have hgc1 := grownCap_ge w y.size 0 e
      have hgc2 := grownCap_le_maxLen w y.size 0 e (by unfold maxLen; omega)
      generalize hg : grownCap w y.size 0 e = cap at hr hgc1 hgc2
      have hrow : bytesRow y cap = ((bytesOf y).map (Value.int .u8)).toArray ++ Array.replicate (cap - y.size) (.int .u8 0) := by
        unfold bytesRow bytesOf
        congr 1
        apply Array.ext'
        simp [Function.comp_def]
      have hlen : (bytesOf y).length = y.size := by simp [bytesOf]
      obtain ⟨E', q1, q2, q3⟩ := new_ints hw.drewN .u8 e (bytesOf y) (Array.replicate (cap - y.size) (.int .u8 0)) cap (by rw [hlen]; exact hgc1) (by rw [hlen]; simp; omega) (by unfold maxLen at hgc2; omega) ((bytesRow y cap).size, (bytesRow y cap).size + 1) (.inr (by rw [hrow]; simp))
      rw [hlen] at q3
      rw [← hrow] at q2
      refine wp_value (v := .slice (some ⟨w.heap.size, 0, none⟩) y.size cap) ?_ (fin q1 (st' := st.addTok) q2 q3 ⟨rfl, rfl⟩ h5)
      simp only [execOp, ho, dx]
      rw [Sem.run_bind, hr]
      rfl
    · exact h.elim
  · rename_i op t x y ty ho
    split at h
    · rename_i e e1 e2
      obtain ⟨h1, h2⟩ := h
      have hd := (hΓ t).und
      rw [e1] at hd
      simp only [TD.ok] at hd
      obtain ⟨c, q1, q2⟩ := evSliceNil_sound (P := P) (w := w) hd (opd_den hf rfl h1) h2 (xo := x) (yo := y)
      refine wp_value (v := .bool c) (w' := w) ?_ (fin (Env.Le.refl E) hw (by simp only [Den]) ⟨rfl, rfl⟩ q2)
      simp only [execOp, ho]
      rw [isNilS_eval (a := a) e2]
      rw [Sem.run_bind, q1]
      rfl
    · rename_i fs e1
      split at h
      · rename_i xs ys x1 x2
        split at h
        · rename_i c e3
          obtain ⟨h1, h2, h3, h4⟩ := h
          have dx := opd_den hf rfl h1
          have dy := opd_den hf rfl h2
          rw [x1] at dx
          rw [x2] at dy
          simp only [Den] at dx dy
          obtain ⟨vx, v1, dx⟩ := dx
          obtain ⟨vy, v2, dy⟩ := dy
          have hd := (hΓ t).und
          rw [e1] at hd
          simp only [TD.ok] at hd
          obtain ⟨fields, hd, hfs⟩ := hd
          have hfo : P.fieldsOf t = fields := by simp [Program.fieldsOf, hd]
          unfold eqPlain at h3
          simp only [Bool.and_eq_true, Bool.not_eq_true'] at h3
          have hq := eqB_sound (P := P) (w := w) hΓ dx dy 9998 fields.toList c (by rw [hfs]; exact e3) (by rw [← hfo]; exact h3.2)
          refine wp_value (v := .bool c) (w' := w) ?_ (fin (Env.Le.refl E) hw (by simp only [Den]) ⟨rfl, rfl⟩ h4)
          simp only [execOp, ho, v1, v2]
          have r1 := run_eqGuard_agg (P := P) w .eql t x y vx.toArray vy.toArray h3.1.1
          have r2 := run_eql_struct (P := P) w t vx.toArray vy.toArray
          rw [run_equalIn_struct w 9999 t _ _ (by rw [hfo]; exact hd) h3.1.2, hfo, hq] at r2
          simp only [Sem.run_bind, r1, Result.andThen_ok, r2]
          rfl
        · exact h.elim
      · exact h.elim
    · exact h.elim
  · rename_i c ho
    exact evCall_sound hΓ hf hw ho h hn
  · exact h.elim
end Go.Eng
/- The engine, part L: regions and code. -/
namespace Go.Eng
open Go
set_option linter.unusedVariables false
set_option linter.unusedSimpArgs false

inductive Gd where
  | bad | run | when (g : Bool)

/-- An operation's guard. -/
def evGuard (st : SS) (ops : List Oper) (o : Oper) : Gd :=
  match o.guard with
  | none => .run
  | some (j, want) =>
    match nth ops j with
    | some oj =>
      match oj.dst with
      | some d =>
        match lget st.fr d with
        | .b c => .when (c == want)
        | .cnd g (.b c) => .when (g && (c == want))
        | _ => .bad
      | none => .bad
    | none => .bad

theorem evGuard_sound {E : Env} {st : SS} {a : Act} (hf : Fr E st a) {ops : List Oper} {o : Oper} :
    (evGuard st ops o = .run → Region.wanted o (yielded ops.toArray a.tmps) = true) ∧ (∀ g, evGuard st ops o = .when g → Region.wanted o (yielded ops.toArray a.tmps) = g) := by
  unfold evGuard Region.wanted
  cases o.guard with
  | none => exact ⟨fun _ => rfl, fun g h => by simp at h⟩
  | some p =>
    obtain ⟨j, want⟩ := p
    simp only
    cases hj : nth ops j with
    | none => exact ⟨fun h => by simp at h, fun g h => by simp at h⟩
    | some oj =>
      simp only
      cases hd : oj.dst with
      | none => exact ⟨fun h => by simp at h, fun g h => by simp at h⟩
      | some d =>
        simp only
        have hden := denL_get st.fr a.tmps.toList d undef hf.tmps
        rw [nth_eq] at hj
        refine ⟨fun h => by split at h <;> simp at h, fun g h => ?_⟩
        have hy : ∀ v, a.tmps.toList[d]?.getD undef = v → v ≠ undef → yielded ops.toArray a.tmps j = (match v with | .bool b => some b | _ => none) := by
          intro v hv hne
          unfold yielded
          simp only [List.getElem?_toArray, hj, Option.bind_some, hd]
          cases ht : a.tmps[d]? with
          | none => rw [Array.getElem?_toList, ht] at hv; exact absurd hv.symm hne
          | some u =>
            rw [Array.getElem?_toList, ht] at hv
            have : u = v := hv
            subst this
            cases u <;> rfl
        split at h
        · rename_i c e
          rw [e] at hden
          simp only [Den] at hden
          simp only [Gd.when.injEq] at h
          subst h
          rw [hy _ hden (by simp [undef])]
          cases c <;> cases want <;> rfl
        · rename_i g' c e
          rw [e] at hden
          simp only [Den] at hden
          simp only [Gd.when.injEq] at h
          subst h
          cases g' with
          | true =>
            rw [hy _ (hden.1 rfl) (by simp [undef])]
            cases c <;> cases want <;> rfl
          | false =>
            have hu := hden.2 rfl
            unfold yielded
            simp only [List.getElem?_toArray, hj, Option.bind_some, hd]
            cases ht : a.tmps[d]? with
            | none => simp
            | some u =>
              have : u = undef := by rw [← hu]; simp [ht]
              subst this
              simp [undef]
        · cases h

/-- What stands for a value that was skipped. -/
def skipV (Γ : Tab) (t : TypeId) : SV :=
  match (Γ t).d with
  | .int k => .i k 0
  | .bool => .b false
  | .str => .s ⟨#[]⟩
  | _ => .any
/-- Operations one by one. -/
def evOps (P : Program) (Γ : Tab) (ops : List Oper) (K : SS → Prop) : List Oper → SS → Prop
  | [], s => K s
  | o :: r, s =>
    match evGuard s ops o with
    | .bad => False
    | .run =>
      match evalP P Γ s true o.op with
      | some (v, vc) => vc ∧ evOps P Γ ops K r (s.put o.dst v)
      | none => evEff P Γ s o (evOps P Γ ops K r)
    | .when g =>
      match evalP P Γ s g o.op with
      | some (v, vc) => (g = true → vc) ∧ evOps P Γ ops K r (s.put o.dst (.cnd g v))
      | none => (g = true → evEff P Γ s o (evOps P Γ ops K r)) ∧ (g = false → evOps P Γ ops K r (s.put o.dst (.cnd false (skipV Γ o.type))))

theorem evalP_defer {P : Program} {Γ : Tab} {s : SS} {g : Bool} {o : Oper} {x : SV × Prop} (h : evalP P Γ s g o.op = some x) : ∀ c, o.op ≠ .defer c := by
  intro c hc
  rw [hc] at h
  simp [evalP] at h
theorem evEff_defer {P : Program} {Γ : Tab} {s : SS} {o : Oper} {K : SS → Prop} (h : evEff P Γ s o K) : ∀ c, o.op ≠ .defer c := by
  intro c hc
  unfold evEff at h
  rw [hc] at h
  exact h

theorem evOps_soundL {P : Program} {Γ : Tab} (hΓ : Γ.ok P) {ops : List Oper} {K : SS → Prop} {Q : Exit → Act → World → Prop} {L : List Oper → Act → World → Prop}
    (hnil : ∀ a w, Q .normal a w → L [] a w)
    (hrun : ∀ o r a w, Region.wanted o (yielded ops.toArray a.tmps) = true → (∀ c, o.op ≠ .defer c) → o.wp P a w (L r) Q → L (o :: r) a w)
    (hskip : ∀ o r a w, Region.wanted o (yielded ops.toArray a.tmps) = false → L r (a.put o.dst undef) w → L (o :: r) a w) :
    ∀ (l : List Oper) (E : Env) (st : SS) (a : Act) (w : World), Fr E st a → Good E st w → evOps P Γ ops K l st →
      (∀ E' st' a' w', E.Le E' → Fr E' st' a' → Good E' st' w' → K st' → Q .normal a' w') → L l a w
  | [], E, st, a, w, hf, hw, h, hK => hnil a w (hK E st a w (Env.Le.refl E) hf hw h)
  | o :: r, E, st, a, w, hf, hw, h, hK => by
    have hg := evGuard_sound (E := E) hf (ops := ops) (o := o)
    simp only [evOps] at h
    have rest : ∀ E' st' a' w', E.Le E' → Fr E' st' a' → Good E' st' w' → evOps P Γ ops K r st' → L r a' w' := fun E' st' a' w' h1 h2 h3 h4 =>
      evOps_soundL hΓ hnil hrun hskip r E' st' a' w' h2 h3 h4 (fun E2 st2 a2 w2 k1 k2 k3 k4 => hK E2 st2 a2 w2 (h1.trans k1) k2 k3 k4)
    split at h
    · exact h.elim
    · rename_i e1
      split at h
      · rename_i v vc e2
        refine hrun _ _ _ _ (hg.1 e1) (evalP_defer e2) ?_
        obtain ⟨h1, h2⟩ := h
        obtain ⟨x, k1, k2⟩ := evalP_sound hΓ hf hw rfl e2 h1
        exact wp_value k1 (rest E _ _ w (Env.Le.refl E) (hf.put _ k2) (hw.put _ _) h2)
      · exact hrun _ _ _ _ (hg.1 e1) (evEff_defer h) (evEff_sound hΓ hf hw h rest)
    · rename_i g e1
      have hgw := hg.2 g e1
      split at h
      · rename_i v vc e2
        obtain ⟨h1, h2⟩ := h
        cases g with
        | true =>
          refine hrun _ _ _ _ hgw (evalP_defer e2) ?_
          obtain ⟨x, k1, k2⟩ := evalP_sound hΓ hf hw rfl e2 (h1 rfl)
          exact wp_value k1 (rest E _ _ w (Env.Le.refl E) (hf.put _ (by simp only [Den]; exact ⟨fun _ => k2, fun h => by simp at h⟩)) (hw.put _ _) h2)
        | false =>
          refine hskip _ _ _ _ hgw ?_
          exact rest E _ _ w (Env.Le.refl E) (hf.put _ (by simp only [Den]; exact ⟨fun h => by simp at h, fun _ => by trivial⟩)) (hw.put _ _) h2
      · obtain ⟨h1, h2⟩ := h
        cases g with
        | true =>
          exact hrun _ _ _ _ hgw (evEff_defer (h1 rfl)) (evEff_sound hΓ hf hw (h1 rfl) rest)
        | false =>
          refine hskip _ _ _ _ hgw ?_
          exact rest E _ _ w (Env.Le.refl E) (hf.put _ (by simp only [Den]; exact ⟨fun h => by simp at h, fun _ => by trivial⟩)) (hw.put _ _) (h2 rfl)

theorem evOps_sound {P : Program} {Γ : Tab} (hΓ : Γ.ok P) {ops : List Oper} {K : SS → Prop} {Q : Exit → Act → World → Prop} (l : List Oper) (E : Env) (st : SS) (a : Act) (w : World) (hf : Fr E st a) (hw : Good E st w) (h : evOps P Γ ops K l st)
    (hK : ∀ E' st' a' w', E.Le E' → Fr E' st' a' → Good E' st' w' → K st' → Q .normal a' w') : wpList P ops.toArray Q l a w :=
  evOps_soundL (L := wpList P ops.toArray Q) hΓ (fun a w h => h) (fun o r a w h1 _ h2 => by simp only [wpList]; rw [if_pos h1]; exact .inl h2) (fun o r a w h1 h2 => by simp only [wpList]; rw [if_neg (by rw [h1]; simp)]; exact h2) l E st a w hf hw h hK

/-- The fence that shuts nothing out, in a round's frame or not. -/
def wideR (rd : Option Nat) : Fence := { Fence.wide with round := rd }
theorem wideR_fn (rd : Option Nat) (f : FuncId) : (wideR rd).fn f := trivial
theorem wideR_none : wideR none = Fence.wide := rfl
theorem rowsIn_of {rd : Option Nat} {P : Program} {row : String} {args : Array Value} {w : World} {R : Value → World → Prop} {n : Nat} (h : Rows P row args w R) : RowsIn (wideR rd) n P row args w R := by
  intro c cs _
  obtain ⟨v, w', r, s⟩ := h c cs
  exact ⟨v, w', r, stepsIn_wide.2 s⟩
theorem wpIn_of {rd : Option Nat} {P : Program} {o : Oper} {a : Act} {w : World} {next : Act → World → Prop} {Q : Exit → Act → World → Prop} (hd : ∀ c, o.op ≠ .defer c) (hQ : ¬ LetsOut Q) (h : o.wp P a w next Q) : o.wpIn (wideR rd) 0 P a w next Q := by
  refine ⟨fun _ _ => trivial, ?_⟩
  rw [Oper.semAt_eq _ _ _ hd]
  unfold Oper.wp at h
  revert h
  cases (execOp a.eval o).run P w with
  | ok x w' =>
    cases x <;> intro h <;> first
      | exact h
      | exact ⟨fun h => by simp [wideR, Fence.wide] at h, callsIn_wide.2 h⟩
      | exact ⟨fun h => by simp [wideR, Fence.wide] at h, rowsIn_of h⟩
      | exact h.elim
  | halt x w' => cases x <;> intro h <;> first | exact h | exact h.elim
theorem evOps_soundIn {P : Program} {Γ : Tab} (hΓ : Γ.ok P) {rd : Option Nat} {ops : List Oper} {K : SS → Prop} {Q : Exit → Act → World → Prop} (hQ : ¬ LetsOut Q) (l : List Oper) (E : Env) (st : SS) (a : Act) (w : World) (hf : Fr E st a) (hw : Good E st w) (h : evOps P Γ ops K l st)
    (hK : ∀ E' st' a' w', E.Le E' → Fr E' st' a' → Good E' st' w' → K st' → Q .normal a' w') : wpListIn (wideR rd) 0 P ops.toArray Q l a w :=
  evOps_soundL (L := wpListIn (wideR rd) 0 P ops.toArray Q) hΓ (fun a w h => h) (fun o r a w h1 hd h2 => by simp only [wpListIn]; rw [if_pos h1]; exact wpIn_of hd hQ h2)
    (fun o r a w h1 h2 => by simp only [wpListIn]; rw [if_neg (by rw [h1]; simp)]; exact ⟨fun _ _ => trivial, h2⟩) l E st a w hf hw h hK

/-- Operations that leave the world alone. -/
def evStill (P : Program) (Γ : Tab) (ops : List Oper) (K : SS → Prop) : List Oper → SS → Prop
  | [], s => K s
  | o :: r, s =>
    match evGuard s ops o with
    | .bad => False
    | .run =>
      match evalP P Γ s true o.op with
      | some (v, vc) => vc ∧ evStill P Γ ops K r (s.put o.dst v)
      | none => False
    | .when g =>
      match evalP P Γ s g o.op with
      | some (v, vc) => (g = true → vc) ∧ evStill P Γ ops K r (s.put o.dst (.cnd g v))
      | none => False

theorem evStill_sound {P : Program} {Γ : Tab} (hΓ : Γ.ok P) {ops : List Oper} {K : SS → Prop} {Q : Act → Prop} {E : Env} {w : World} :
    ∀ (l : List Oper) (st : SS) (a : Act), Fr E st a → Good E st w → evStill P Γ ops K l st →
      (∀ st' a', Fr E st' a' → Good E st' w → K st' → Q a') → wpStill P ops.toArray w Q l a
  | [], st, a, hf, hw, h, hK => hK st a hf hw h
  | o :: r, st, a, hf, hw, h, hK => by
    have hg := evGuard_sound (E := E) hf (ops := ops) (o := o)
    simp only [evStill] at h
    simp only [wpStill]
    split at h
    · exact h.elim
    · rename_i e1
      rw [if_pos (hg.1 e1)]
      split at h
      · rename_i v vc e2
        obtain ⟨h1, h2⟩ := h
        obtain ⟨x, k1, k2⟩ := evalP_sound hΓ hf hw rfl e2 h1
        unfold Oper.still
        rw [k1]
        exact ⟨rfl, evStill_sound hΓ r _ _ (hf.put _ k2) (hw.put _ _) h2 hK⟩
      · exact h.elim
    · rename_i g e1
      have hgw := hg.2 g e1
      split at h
      · rename_i v vc e2
        obtain ⟨h1, h2⟩ := h
        cases g with
        | true =>
          rw [if_pos hgw]
          obtain ⟨x, k1, k2⟩ := evalP_sound hΓ hf hw rfl e2 (h1 rfl)
          unfold Oper.still
          rw [k1]
          exact ⟨rfl, evStill_sound hΓ r _ _ (hf.put _ (by simp only [Den]; exact ⟨fun _ => k2, fun h => by simp at h⟩)) (hw.put _ _) h2 hK⟩
        | false =>
          rw [if_neg (by rw [hgw]; simp)]
          exact evStill_sound hΓ r _ _ (hf.put _ (by simp only [Den]; exact ⟨fun h => by simp at h, fun _ => by trivial⟩)) (hw.put _ _) h2 hK
      · exact h.elim
end Go.Eng
/- The engine, part M: code, loops, what a function hands back. -/
namespace Go.Eng
open Go
set_option linter.unusedVariables false
set_option linter.unusedSimpArgs false

inductive Ex where
  | normal | ret | exit (id : Nat) | goto (l : Nat)

def ExRel : Ex → Exit → Prop
  | .normal, .normal => True
  | .ret, .ret => True
  | .exit i, .exit j => i = j
  | .goto i, .goto j => i = j
  | _, _ => False

/-- What follows a piece of code. -/
def QK (E : Env) (K : Ex → SS → Prop) (e : Exit) (a : Act) (w : World) : Prop :=
  ∃ E' st x, E.Ext E' ∧ Fr E' st a ∧ Good E' st w ∧ ExRel x e ∧ K x st

/-- What a walk stands in: what was known when it began; the round's record whose frame it is; the regions at which it stops. -/
structure Ctx where
  env : Option Env
  rd : Option Nat
  stop : List Nat
def Ctx.top : Ctx := ⟨none, none, []⟩
def Ctx.ok (B : Ctx) (E : Env) : Prop := ∀ E0, B.env = some E0 → E0.Ext E
theorem Ctx.ok.ext {B : Ctx} {E E' : Env} (h : B.ok E) (k : E.Ext E') : B.ok E' := fun E0 e => (h E0 e).trans k

/-- The code, from every good world of that state. -/
def CodeOK (P : Program) (B : Ctx) (c : Code) (s : SS) (K : Ex → SS → Prop) : Prop :=
  ∀ E a w, B.ok E → Fr E s a → Good E s w → c.wpIn (wideR B.rd) 0 P (QK E K) a w

theorem not_letsOut {E : Env} {K : Ex → SS → Prop} : ¬ LetsOut (QK E K) := by
  rintro ⟨a, w, E', st, x, _, _, _, h, _⟩
  cases x <;> exact h

def memId : Nat → List Nat → Bool
  | _, [] => false
  | n, m :: r => if n = m then true else memId n r

theorem QK.mono {E E' : Env} (h : E.Ext E') {K K' : Ex → SS → Prop} (hk : ∀ x s, K x s → K' x s) {e : Exit} {a : Act} {w : World} : QK E' K e a w → QK E K' e a w
  | ⟨E2, st, x, h1, h2, h3, h4, h5⟩ => ⟨E2, st, x, h.trans h1, h2, h3, h4, hk _ _ h5⟩

theorem CodeOK.mono {P : Program} {B : Ctx} {c : Code} {s : SS} {K K' : Ex → SS → Prop} (h : CodeOK P B c s K) (hk : ∀ x s, K x s → K' x s) : CodeOK P B c s K' :=
  fun E a w hb hf hw => wpIn_mono (h E a w hb hf hw) fun e a w q => QK.mono (Env.Ext.refl E) hk q

def thenK (n : SS → Prop) (K : Ex → SS → Prop) : Ex → SS → Prop
  | .normal, s => n s
  | .ret, s => K .ret s
  | .exit i, s => K (.exit i) s
  | .goto i, s => K (.goto i) s
def blockK (id : Nat) (K : Ex → SS → Prop) : Ex → SS → Prop
  | .normal, s => K .normal s
  | .ret, s => K .ret s
  | .exit i, s => if i = id then K .normal s else K (.exit i) s
  | .goto i, s => K (.goto i) s

def evCode (P : Program) (Γ : Tab) (B : Ctx) : Code → (Ex → SS → Prop) → SS → Prop
  | .skip, K, s => K .normal s
  | .region id ops draw, K, s =>
    match draw || memId id B.stop with
    | false => evOps P Γ ops.toList (K .normal) ops.toList s
    | true => CodeOK P B (.region id ops draw) s K
  | .seq a b, K, s => evCode P Γ B a (thenK (fun s' => evCode P Γ B b K s') K) s
  | .cond c a b, K, s =>
    match s.eval c with
    | .b t => (t = true → evCode P Γ B a K s) ∧ (t = false → evCode P Γ B b K s)
    | _ => False
  | .block id c, K, s => evCode P Γ B c (blockK id K) s
  | .ret, K, s => K .ret s
  | .exit id, K, s => K (.exit id) s
  | .label _, K, s => K .normal s
  | .goto l, K, s => K (.goto l) s
  | .loop c, K, s => CodeOK P B (.loop c) s K
  | .scope c, K, s => CodeOK P B (.scope c) s K
  | .rangeFunc f ps a b, K, s => CodeOK P B (.rangeFunc f ps a b) s K
  | .refuse _, _, _ => False

theorem evCode_sound {P : Program} {Γ : Tab} (hΓ : Γ.ok P) {B : Ctx} : ∀ (c : Code) (K : Ex → SS → Prop) (s : SS), evCode P Γ B c K s → CodeOK P B c s K
  | .skip, K, s, h => fun E a w hb hf hw => wpIn_skip ⟨E, s, .normal, Env.Ext.refl E, hf, hw, trivial, h⟩
  | .label _, K, s, h => fun E a w hb hf hw => wpIn_label ⟨E, s, .normal, Env.Ext.refl E, hf, hw, trivial, h⟩
  | .ret, K, s, h => fun E a w hb hf hw => wpIn_ret ⟨E, s, .ret, Env.Ext.refl E, hf, hw, trivial, h⟩
  | .exit i, K, s, h => fun E a w hb hf hw => wpIn_exit ⟨E, s, .exit i, Env.Ext.refl E, hf, hw, rfl, h⟩
  | .goto i, K, s, h => fun E a w hb hf hw => wpIn_goto ⟨E, s, .goto i, Env.Ext.refl E, hf, hw, rfl, h⟩
  | .region id ops draw, K, s, h => by
    simp only [evCode] at h
    cases draw with
    | true => simpa using h
    | false =>
      simp only [Bool.false_or] at h
      split at h
      · intro E a w hb hf hw
        refine wpIn_region_list ?_
        have := evOps_soundIn (rd := B.rd) (Q := QK E K) hΓ not_letsOut ops.toList E s a w hf hw h (fun E' st' a' w' h1 h2 h3 h4 => ⟨E', st', .normal, h1.ext, h2, h3, trivial, h4⟩)
        simpa using this
      · exact h
  | .seq x y, K, s, h => by
    intro E a w hb hf hw
    simp only [evCode] at h
    refine wpIn_seq (wpIn_mono (evCode_sound hΓ x _ s h E a w hb hf hw) ?_)
    rintro e a' w' ⟨E', st, x', h1, h2, h3, h4, h5⟩
    cases x' <;> cases e <;> simp only [ExRel] at h4 <;> simp only [thenK] at h5
    · exact wpIn_mono (evCode_sound hΓ y K st h5 E' a' w' (hb.ext h1) h2 h3) fun e a w q => QK.mono h1 (fun _ _ h => h) q
    · exact ⟨E', st, .ret, h1, h2, h3, trivial, h5⟩
    · subst h4; exact ⟨E', st, .exit _, h1, h2, h3, rfl, h5⟩
    · subst h4; exact ⟨E', st, .goto _, h1, h2, h3, rfl, h5⟩
  | .cond c x y, K, s, h => by
    intro E a w hb hf hw
    simp only [evCode] at h
    split at h
    · rename_i t e
      have hd := hf.eval c
      rw [e] at hd
      simp only [Den] at hd
      refine wpIn_cond hd ?_
      cases t with
      | true => exact evCode_sound hΓ x K s (h.1 rfl) E a w hb hf hw
      | false => exact evCode_sound hΓ y K s (h.2 rfl) E a w hb hf hw
    · exact h.elim
  | .block id c, K, s, h => by
    intro E a w hb hf hw
    simp only [evCode] at h
    refine wpIn_block (wpIn_mono (evCode_sound hΓ c _ s h E a w hb hf hw) ?_)
    rintro e a' w' ⟨E', st, x', h1, h2, h3, h4, h5⟩
    cases x' <;> cases e <;> simp only [ExRel] at h4 <;> simp only [blockK] at h5
    · exact ⟨E', st, .normal, h1, h2, h3, trivial, h5⟩
    · exact ⟨E', st, .ret, h1, h2, h3, trivial, h5⟩
    · subst h4
      simp only [Exit.inBlock]
      split at h5
      · rename_i e; rw [if_pos e]; exact ⟨E', st, .normal, h1, h2, h3, trivial, h5⟩
      · rename_i e; rw [if_neg e]; exact ⟨E', st, .exit _, h1, h2, h3, rfl, h5⟩
    · subst h4; exact ⟨E', st, .goto _, h1, h2, h3, rfl, h5⟩
  | .loop c, K, s, h => h
  | .scope c, K, s, h => h
  | .rangeFunc f ps x y, K, s, h => h
  | .refuse _, K, s, h => h.elim

/-- What follows the first of two. -/
def seqK (P : Program) (Γ : Tab) (B : Ctx) (b : Code) (K : Ex → SS → Prop) : Ex → SS → Prop
  | .normal, s => evCode P Γ B b K s
  | .ret, s => K .ret s
  | .exit i, s => K (.exit i) s
  | .goto i, s => K (.goto i) s
section
variable {P : Program} {Γ : Tab} {B : Ctx} {K : Ex → SS → Prop} {s : SS}
theorem evC_skip : evCode P Γ B .skip K s = K .normal s := rfl
theorem evC_label {l : Nat} : evCode P Γ B (.label l) K s = K .normal s := rfl
theorem evC_ret : evCode P Γ B .ret K s = K .ret s := rfl
theorem evC_exit {i : Nat} : evCode P Γ B (.exit i) K s = K (.exit i) s := rfl
theorem evC_goto {i : Nat} : evCode P Γ B (.goto i) K s = K (.goto i) s := rfl
theorem evC_region {id : Nat} {l : List Oper} {dr : Bool} : evCode P Γ B (.region id l.toArray dr) K s = match dr || memId id B.stop with
    | false => evOps P Γ l (K .normal) l s
    | true => CodeOK P B (.region id l.toArray dr) s K := by simp only [evCode]
theorem evC_seq {a b : Code} : evCode P Γ B (.seq a b) K s = evCode P Γ B a (seqK P Γ B b K) s := by
  have : thenK (fun s' => evCode P Γ B b K s') K = seqK P Γ B b K := by
    funext x s
    cases x <;> rfl
  simp only [evCode, this]
theorem evC_cond {c : Operand} {a b : Code} : evCode P Γ B (.cond c a b) K s = match s.eval c with
    | .b t => (t = true → evCode P Γ B a K s) ∧ (t = false → evCode P Γ B b K s)
    | _ => False := rfl
theorem evC_block {id : Nat} {c : Code} : evCode P Γ B (.block id c) K s = evCode P Γ B c (blockK id K) s := rfl
theorem evC_loop {c : Code} : evCode P Γ B (.loop c) K s = CodeOK P B (.loop c) s K := rfl
theorem evC_scope {c : Code} : evCode P Γ B (.scope c) K s = CodeOK P B (.scope c) s K := rfl
theorem evC_rangeFunc {f : Operand} {ps : Array Tmp} {a b : Code} : evCode P Γ B (.rangeFunc f ps a b) K s = CodeOK P B (.rangeFunc f ps a b) s K := rfl
end

/-- A region that draws its order and leaves the world alone. -/
theorem region_still {P : Program} {Γ : Tab} {B : Ctx} (hrd : B.rd = none) (hΓ : Γ.ok P) (hm : P.follows .mixedOrders = true) {id : Nat} {l : List Oper} {s : SS} {K : Ex → SS → Prop} (hB : Region.lexB .any l.toArray = true)
    (h : evStill P Γ l (K .normal) l s) : CodeOK P B (.region id l.toArray true) s K := by
  intro E a w hb hf hw
  rw [hrd]
  refine wpIn_wide.2 (wp_region_still_lit hm hB ?_)
  have hw' : Good E s { w with drawn := w.drawn + 1 } := hw.congr rfl rfl rfl rfl
  exact evStill_sound hΓ l s a hf hw' h (fun st' a' h1 h2 h3 => ⟨E, st', .normal, Env.Ext.refl E, h1, h2, trivial, h3⟩)

/-- A region that draws its order: what leaves the world alone first, then the rest in the text's order. -/
theorem region_tail {P : Program} {Γ : Tab} {B : Ctx} (hrd : B.rd = none) (hΓ : Γ.ok P) (hm : P.follows .mixedOrders = true) (n : Nat) {id : Nat} {l : List Oper} {s : SS} {K : Ex → SS → Prop} (hB : Region.lexTailB .any l.toArray n = true)
    (h : evStill P Γ l (evOps P Γ l (K .normal) (l.drop n)) (l.take n) s) : CodeOK P B (.region id l.toArray true) s K := by
  intro E a w hb hf hw
  rw [hrd]
  refine wpIn_wide.2 (wp_region_still_tail n hm hB ?_)
  have hw' : Good E s { w with drawn := w.drawn + 1 } := hw.congr rfl rfl rfl rfl
  refine evStill_sound hΓ (l.take n) s a hf hw' h (fun st' a' h1 h2 h3 => ?_)
  exact evOps_sound (Q := QK E K) hΓ (l.drop n) E st' a' _ h1 h2 h3 (fun E' st2 a2 w2 k1 k2 k3 k4 => ⟨E', st2, .normal, k1.ext, k2, k3, trivial, k4⟩)

/-- Less is said of the same. -/
def Sub (s s' : SS) : Prop := ∀ E a w, Fr E s a → Good E s w → ∃ E', E.Ext E' ∧ Fr E' s' a ∧ Good E' s' w

theorem Sub.refl (s : SS) : Sub s s := fun E a w hf hw => ⟨E, Env.Ext.refl E, hf, hw⟩

theorem CodeOK.sub {P : Program} {B : Ctx} {c : Code} {s s' : SS} {K : Ex → SS → Prop} (hs : Sub s s') (h : CodeOK P B c s' K) : CodeOK P B c s K := by
  intro E a w hb hf hw
  obtain ⟨E', h1, h2, h3⟩ := hs E a w hf hw
  exact wpIn_mono (h E' a w (hb.ext h1) h2 h3) fun e a w q => QK.mono h1 (fun _ _ h => h) q

/-- A loop: a family of states, each round leads to one of a smaller measure. -/
theorem loop_ok {P : Program} {B : Ctx} {c : Code} {K : Ex → SS → Prop} {ι : Type} (inv : ι → SS) (m : ι → Nat) (i0 : ι) {s : SS} (h0 : Sub s (inv i0))
    (round : ∀ i, CodeOK P B c (inv i) (thenK (fun s' => ∃ j, m j < m i ∧ Sub s' (inv j)) K)) : CodeOK P B (.loop c) s K := by
  intro E a w hb hf hw
  obtain ⟨E0, h1, h2, h3⟩ := h0 E a w hf hw
  refine wpIn_mono (wpIn_loop_ghost (Q := QK E0 K) (fun n a w => ∃ i E', m i = n ∧ E0.Ext E' ∧ Fr E' (inv i) a ∧ Good E' (inv i) w) (m i0) ⟨i0, E0, rfl, Env.Ext.refl E0, h2, h3⟩ ?_) fun e a w q => QK.mono h1 (fun _ _ h => h) q
  rintro n a w ⟨i, E', rfl, k1, k2, k3⟩
  refine wpIn_mono (round i E' a w (hb.ext (h1.trans k1)) k2 k3) ?_
  rintro e a' w' ⟨E2, st, x, q1, q2, q3, q4, q5⟩
  cases x <;> cases e <;> simp only [ExRel] at q4 <;> simp only [thenK] at q5
  · obtain ⟨j, hj, hsub⟩ := q5
    obtain ⟨E3, r1, r2, r3⟩ := hsub E2 a' w' q2 q3
    exact ⟨m j, hj, j, E3, rfl, (k1.trans q1).trans r1, r2, r3⟩
  · exact ⟨E2, st, .ret, k1.trans q1, q2, q3, trivial, q5⟩
  · subst q4; exact ⟨E2, st, .exit _, k1.trans q1, q2, q3, rfl, q5⟩
  · subst q4; exact ⟨E2, st, .goto _, k1.trans q1, q2, q3, rfl, q5⟩

/-- What a function hands back. -/
def evRes (Γ : Tab) (s : SS) : List ResultVar → Option (List SV × Prop)
  | [] => some ([], True)
  | .tmp t :: r =>
    match evRes Γ s r with
    | some (l, vc) => some (opd s (.tmp t) :: l, vc ∧ ovc s true (.tmp t))
    | none => none
  | .cell p ty :: r =>
    match evLoad Γ s true ty (.tmp p), evRes Γ s r with
    | some (v, vc1), some (l, vc) => some (v :: l, vc ∧ vc1)
    | _, _ => none

def single : List SV → SV
  | [x] => x
  | l => .tup l

theorem evRes_sound {P : Program} {Γ : Tab} (hΓ : Γ.ok P) {E : Env} {s : SS} {a : Act} {w : World} (hf : Fr E s a) (hw : Good E s w) (g : ResultVar → Sem Value) (g1 : ∀ t, g (.tmp t) = pure (a.tmps.getD t undef)) (g2 : ∀ p t, g (.cell p t) = (do loadVar t (← asAddr (a.tmps.getD p undef)))) : ∀ (rs : List ResultVar) (l : List SV) (vc : Prop), evRes Γ s rs = some (l, vc) → vc →
    ∃ vs : List Value, (rs.mapM g).run P w = .ok vs w ∧ DenL E l vs
  | [], l, vc, h, hv => by
    simp only [evRes, Option.some.injEq, Prod.mk.injEq] at h
    obtain ⟨rfl, rfl⟩ := h
    exact ⟨[], by simp, by simp only [DenL]⟩
  | .tmp t :: r, l, vc, h, hv => by
    simp only [evRes] at h
    split at h
    · rename_i l' vc' e
      simp only [Option.some.injEq, Prod.mk.injEq] at h
      obtain ⟨rfl, rfl⟩ := h
      obtain ⟨vs, k1, k2⟩ := evRes_sound hΓ hf hw g g1 g2 r l' vc' e hv.1
      have hd := opd_den hf rfl hv.2
      refine ⟨a.tmps.getD t undef :: vs, ?_, by simp only [DenL]; exact ⟨hd, k2⟩⟩
      rw [List.mapM_cons, Sem.run_bind, g1]
      simp only [Sem.run_pure, Result.andThen_ok]
      rw [Sem.run_bind, k1]
      rfl
    · cases h
  | .cell p ty :: r, l, vc, h, hv => by
    simp only [evRes] at h
    split at h
    · rename_i v vc1 l' vc' e1 e2
      simp only [Option.some.injEq, Prod.mk.injEq] at h
      obtain ⟨rfl, rfl⟩ := h
      obtain ⟨vs, k1, k2⟩ := evRes_sound hΓ hf hw g g1 g2 r l' vc' e2 hv.1
      obtain ⟨u, q1, q2⟩ := evLoad_sound (w := w) hΓ hf hw rfl e1 hv.2
      refine ⟨u :: vs, ?_, by simp only [DenL]; exact ⟨q2, k2⟩⟩
      have hp : ∃ ad, a.tmps.getD p undef = .pointer (some ad) := by
        have q1' := q1
        unfold Instr.loadAt at q1'
        have : a.eval (.tmp p) = a.tmps.getD p undef := rfl
        rw [this] at q1'
        cases hx : a.tmps.getD p undef <;> rw [hx] at q1' <;> simp [Instr.sureAddr] at q1'
        rename_i ad
        cases ad with
        | none => simp [Instr.sureAddr] at q1'
        | some ad => exact ⟨ad, rfl⟩
      obtain ⟨ad, hp⟩ := hp
      rw [List.mapM_cons, Sem.run_bind, g2]
      have : (do loadVar ty (← asAddr (a.tmps.getD p undef)) : Sem Value).run P w = .ok u w := by
        have q1' := q1
        unfold Instr.loadAt at q1'
        rw [show a.eval (.tmp p) = a.tmps.getD p undef from rfl, hp] at q1'
        rw [hp]
        simpa [Instr.sureAddr, asAddr] using q1'
      rw [this]
      simp only [Result.andThen_ok]
      rw [Sem.run_bind, k1]
      rfl
    · cases h

theorem results_run {P : Program} {Γ : Tab} (hΓ : Γ.ok P) {E : Env} {s : SS} {a : Act} {w : World} (hf : Fr E s a) (hw : Good E s w) {fn : Func} {l : List SV} {vc : Prop} (h : evRes Γ s fn.results.toList = some (l, vc)) (hv : vc) :
    ∃ v, (results fn a.tmps).run P w = .ok v w ∧ Den E (single l) v := by
  obtain ⟨vs, k1, k2⟩ := evRes_sound hΓ hf hw (fun
    | .tmp t => pure (a.tmps.getD t undef)
    | .cell p t => do loadVar t (← asAddr (a.tmps.getD p undef))) (fun _ => rfl) (fun _ _ => rfl) _ l vc h hv
  unfold results
  rw [Array.mapM_eq_mapM_toList]
  refine ⟨if h : vs.length = 1 then vs[0] else .tuple vs.toArray, ?_, ?_⟩
  · rw [Sem.run_bind, Sem.run_map]
    have k1' := k1
    erw [k1']
    simp
  · match l, vs, k2 with
    | [], [], _ => simp only [single, Den]; exact ⟨[], by simp, by simp only [DenL]⟩
    | [x], [v], k2 => simp only [DenL] at k2; simp only [single]; simpa using k2.1
    | x :: y :: l, v :: u :: vs, k2 => simp only [single, Den]; exact ⟨v :: u :: vs, by simp, k2⟩
    | [], _ :: _, k2 => simp only [DenL] at k2
    | _ :: _, [], k2 => simp only [DenL] at k2
    | [_], _ :: _ :: _, k2 => simp only [DenL] at k2; exact k2.2.elim
    | _ :: _ :: _, [_], k2 => simp only [DenL] at k2; exact k2.2.elim
end Go.Eng
/- The engine, part N: states under other names; less said of the same. -/
namespace Go.Eng
open Go
set_option linter.unusedVariables false
set_option linter.unusedSimpArgs false

def TW (imp : Bool) (f : Nat → Nat) : Tag → Tag → Prop
  | .old, _ => True
  | .nil, .nil => True
  | .new, .new => imp = false
  | .new, .nil => True
  | .new, .tok _ b => b = true ∧ imp = false
  | .tok τ b, .tok τ' b' => τ' = f τ ∧ (b = true → b' = true ∧ imp = false)
  | _, _ => False

mutual
/-- The first says no more than the second, under the names f (imp: of a state that is handed in). -/
def W (imp : Bool) (f : Nat → Nat) : SV → SV → Prop
  | .any, _ => True
  | .i k n, y => match y with | .i k' n' => k = k' ∧ n = n' | _ => False
  | .b c, y => match y with | .b c' => c = c' | _ => False
  | .s x, y => match y with | .s x' => x = x' | _ => False
  | .ptr n o, y => match y with | .ptr n' o' => n' = f n ∧ o = o' | _ => False
  | .nilp, y => match y with | .nilp => True | _ => False
  | .ints k t l, y => match y with | .ints k' t' l' => (k = k' ∨ l = []) ∧ l = l' ∧ TW imp f t t' | _ => False
  | .sl sz t n el, y => match y with
    | .sl sz' t' n' el' => sz = sz' ∧ n = n' ∧ TW imp f t t' ∧ ∀ i, i < n → ∀ j, j < sz → W imp f (el i j) (el' i j)
    | .ints _ .nil _ => n = 0 ∧ (t = .nil ∨ t = .old ∨ t = .new)
    | _ => False
  | .ep n g, y => match y with | .ep n' g' => n ≤ n' ∧ ∀ d, d < n → W imp f (g d) (g' d) | _ => False
  | .agg l, y => match y with | .agg l' => WL imp f l l' | _ => False
  | .tup l, y => match y with | .tup l' => WL imp f l l' | _ => False
  | .nili, y => match y with | .nili => True | _ => False
  | .ifc t x, y => match y with | .ifc t' x' => t = t' ∧ W imp f x x' | _ => False
  | .fn g a c, y => match y with | .fn g' a' c' => g = g' ∧ WL imp f a a' ∧ WL imp f c c' | _ => False
  | .nilf, y => match y with | .nilf => True | _ => False
  | .raw x, y => match y with | .raw x' => x = x' | _ => False
  | .cnd g x, y => match y with | .cnd g' x' => g = g' ∧ W imp f x x' | _ => False
def WL (imp : Bool) (f : Nat → Nat) : List SV → List SV → Prop
  | [], [] => True
  | x :: xs, y :: ys => W imp f x y ∧ WL imp f xs ys
  | [], _ :: _ => False
  | _ :: _, [] => False
end

structure Pull (imp : Bool) (f : Nat → Nat) (E E' : Env) : Prop where
  ρ : ∀ n, E'.ρ n = E.ρ (f n)
  θ : ∀ n, E'.θ n = E.θ (f n)
  μ : E'.μ = E.μ
  mt : imp = false → ∀ b, E.Z b → E'.Z b

theorem TW_ok {imp : Bool} {f : Nat → Nat} {E E' : Env} (h : Pull imp f E E') {sz : Nat} {v : Value} : ∀ {t t' : Tag}, TW imp f t t' → TagOK E sz v t' → TagOK E' sz v t
  | .old, _, _, _ => trivial
  | .nil, .nil, _, k => k
  | .new, .new, i, k => fun a n c e => h.mt i _ (k a n c e)
  | .new, .nil, _, k => fun a n c e => by simp only [TagOK] at k; rw [k] at e; simp at e
  | .new, .tok τ b, i, k => fun a n c e => by
    simp only [TW] at i
    exact h.mt i.2 _ (k.2 i.1 a n c e)
  | .tok τ b, .tok τ' b', i, k => by
    simp only [TW] at i
    refine ⟨by have := k.1; rw [i.1, ← h.θ] at this; exact this, fun hb a n c e => ?_⟩
    obtain ⟨i1, i2⟩ := i.2 hb
    exact h.mt i2 _ (k.2 i1 a n c e)
  | .new, .old, i, _ => by simp only [TW] at i
  | .nil, .old, i, _ => by simp only [TW] at i
  | .nil, .new, i, _ => by simp only [TW] at i
  | .nil, .tok _ _, i, _ => by simp only [TW] at i
  | .tok _ _, .old, i, _ => by simp only [TW] at i
  | .tok _ _, .new, i, _ => by simp only [TW] at i
  | .tok _ _, .nil, i, _ => by simp only [TW] at i

mutual
theorem W_den {imp : Bool} {f : Nat → Nat} {E E' : Env} (h : Pull imp f E E') : ∀ (x y : SV) (v : Value), W imp f x y → Den E y v → Den E' x v
  | .any, y, v, _, _ => by simp only [Den]
  | .i k n, y, v, hw, hd => by
    simp only [W] at hw; split at hw
    · obtain ⟨rfl, rfl⟩ := hw; simpa only [Den] using hd
    · exact hw.elim
  | .b c, y, v, hw, hd => by
    simp only [W] at hw; split at hw
    · subst hw; simpa only [Den] using hd
    · exact hw.elim
  | .s c, y, v, hw, hd => by
    simp only [W] at hw; split at hw
    · subst hw; simpa only [Den] using hd
    · exact hw.elim
  | .ptr n o, y, v, hw, hd => by
    simp only [W] at hw; split at hw
    · obtain ⟨rfl, rfl⟩ := hw
      simp only [Den] at hd ⊢
      obtain ⟨b, h1, h2⟩ := hd
      exact ⟨b, by rw [h.ρ]; exact h1, h2⟩
    · exact hw.elim
  | .nilp, y, v, hw, hd => by
    simp only [W] at hw; split at hw
    · simpa only [Den] using hd
    · exact hw.elim
  | .ints k t l, y, v, hw, hd => by
    simp only [W] at hw; split at hw
    · obtain ⟨hk, rfl, ht⟩ := hw
      simp only [Den] at hd ⊢
      obtain ⟨a, c, h1, h2, h3, h4, h5⟩ := hd
      refine ⟨a, c, h1, h2, h3, fun i x hx => ?_, TW_ok h ht h5⟩
      rcases hk with rfl | rfl
      · obtain ⟨b, off, e1, e2⟩ := h4 i x hx
        exact ⟨b, off, e1, by rw [h.μ]; exact e2⟩
      · simp at hx
    · exact hw.elim
  | .sl sz t n el, y, v, hw, hd => by
    unfold W at hw; split at hw
    · obtain ⟨rfl, rfl, ht, hel⟩ := hw
      simp only [Den] at hd ⊢
      obtain ⟨a, c, h1, h2, h3, h4, h5⟩ := hd
      refine ⟨a, c, h1, h2, h3, fun i hi => ?_, TW_ok h ht h5⟩
      obtain ⟨b, off, e1, e2⟩ := h4 i hi
      refine ⟨b, off, e1, fun j hj => ?_⟩
      obtain ⟨x, q1, q2⟩ := e2 j hj
      exact ⟨x, by rw [h.μ]; exact q1, W_den h (el i j) _ x (hel i hi j hj) q2⟩
    · obtain ⟨rfl, ht⟩ := hw
      simp only [Den] at hd ⊢
      obtain ⟨a, c, h1, h2, h3, h4, h5⟩ := hd
      simp only [TagOK] at h5
      subst h5
      refine ⟨none, 0, rfl, by omega, by omega, fun i hi => by omega, ?_⟩
      rcases ht with rfl | rfl | rfl
      · rfl
      · trivial
      · intro a n c e; simp at e
    · exact hw.elim
  | .ep n g, y, v, hw, hd => by
    unfold W at hw; split at hw
    · obtain ⟨hn, hg⟩ := hw
      simp only [Den] at hd ⊢
      obtain ⟨b, off, h1, h2⟩ := hd
      refine ⟨b, off, h1, fun d hd => ?_⟩
      obtain ⟨x, q1, q2⟩ := h2 d (by omega)
      exact ⟨x, by rw [h.μ]; exact q1, W_den h (g d) _ x (hg d hd) q2⟩
    · exact hw.elim
  | .agg l, y, v, hw, hd => by
    simp only [W] at hw; split at hw
    · simp only [Den] at hd ⊢
      obtain ⟨cs, h1, h2⟩ := hd
      exact ⟨cs, h1, WL_den h l _ cs hw h2⟩
    · exact hw.elim
  | .tup l, y, v, hw, hd => by
    simp only [W] at hw; split at hw
    · simp only [Den] at hd ⊢
      obtain ⟨cs, h1, h2⟩ := hd
      exact ⟨cs, h1, WL_den h l _ cs hw h2⟩
    · exact hw.elim
  | .nili, y, v, hw, hd => by
    simp only [W] at hw; split at hw
    · simpa only [Den] using hd
    · exact hw.elim
  | .ifc t x, y, v, hw, hd => by
    simp only [W] at hw; split at hw
    · obtain ⟨rfl, hw⟩ := hw
      simp only [Den] at hd ⊢
      obtain ⟨u, h1, h2⟩ := hd
      exact ⟨u, h1, W_den h x _ u hw h2⟩
    · exact hw.elim
  | .fn g a c, y, v, hw, hd => by
    simp only [W] at hw; split at hw
    · obtain ⟨rfl, h1, h2⟩ := hw
      simp only [Den] at hd ⊢
      obtain ⟨fs, cs, q1, q2, q3⟩ := hd
      exact ⟨fs, cs, q1, WL_den h a _ fs h1 q2, WL_den h c _ cs h2 q3⟩
    · exact hw.elim
  | .nilf, y, v, hw, hd => by
    simp only [W] at hw; split at hw
    · simpa only [Den] using hd
    · exact hw.elim
  | .raw x, y, v, hw, hd => by
    simp only [W] at hw; split at hw
    · subst hw; simpa only [Den] using hd
    · exact hw.elim
  | .cnd g x, y, v, hw, hd => by
    simp only [W] at hw; split at hw
    · obtain ⟨rfl, hw⟩ := hw
      simp only [Den] at hd ⊢
      exact ⟨fun e => W_den h x _ v hw (hd.1 e), hd.2⟩
    · exact hw.elim
theorem WL_den {imp : Bool} {f : Nat → Nat} {E E' : Env} (h : Pull imp f E E') : ∀ (l m : List SV) (cs : List Value), WL imp f l m → DenL E m cs → DenL E' l cs
  | [], [], [], _, _ => by simp only [DenL]
  | x :: xs, y :: ys, v :: vs, hw, hd => by
    simp only [WL] at hw
    simp only [DenL] at hd ⊢
    exact ⟨W_den h x y v hw.1 hd.1, WL_den h xs ys vs hw.2 hd.2⟩
  | [], _ :: _, _, hw, _ => by simp only [WL] at hw
  | _ :: _, [], _, hw, _ => by simp only [WL] at hw
  | [], [], _ :: _, _, hd => by simp only [DenL] at hd
  | _ :: _, _ :: _, [], _, hd => by simp only [DenL] at hd
end

/-- Names: the first ones by a list, the others behind all that there are. -/
def fmap : List Nat → Nat → Nat → Nat
  | [], nx, n => nx + n
  | m :: _, _, 0 => m
  | _ :: r, nx, n + 1 => fmap r nx n

def distincts : List Nat → Prop
  | [] => True
  | m :: r => (∀ x, x ∈ r → m ≠ x) ∧ distincts r
def allLt (nx : Nat) : List Nat → Prop
  | [] => True
  | m :: r => m < nx ∧ allLt nx r

theorem fmap_lt : ∀ (l : List Nat) (nx n : Nat), allLt nx l → n < l.length → fmap l nx n ∈ l ∧ fmap l nx n < nx
  | [], nx, n, _, h => by simp at h
  | m :: r, nx, 0, hl, h => by simp only [allLt] at hl; simp [fmap, hl.1]
  | m :: r, nx, n + 1, hl, h => by
    simp only [allLt] at hl
    have := fmap_lt r nx n hl.2 (by simpa using h)
    simp only [fmap]
    exact ⟨List.mem_cons_of_mem _ this.1, this.2⟩
theorem fmap_ge : ∀ (l : List Nat) (nx n : Nat), l.length ≤ n → fmap l nx n = nx + (n - l.length)
  | [], nx, n, _ => by simp [fmap]
  | m :: r, nx, 0, h => by simp at h
  | m :: r, nx, n + 1, h => by
    simp only [fmap]
    rw [fmap_ge r nx n (by simpa using h)]
    simp
theorem fmap_inj : ∀ (l : List Nat) (nx : Nat), distincts l → allLt nx l → ∀ n m, fmap l nx n = fmap l nx m → n = m
  | [], nx, _, _, n, m, h => by simp only [fmap] at h; omega
  | x :: r, nx, hd, hl, 0, 0, h => rfl
  | x :: r, nx, hd, hl, n + 1, m + 1, h => by
    simp only [distincts] at hd
    simp only [allLt] at hl
    simp only [fmap] at h
    rw [fmap_inj r nx hd.2 hl.2 n m h]
  | x :: r, nx, hd, hl, 0, m + 1, h => by
    simp only [distincts] at hd
    simp only [allLt] at hl
    simp only [fmap] at h
    exfalso
    rcases Nat.lt_or_ge m r.length with h' | h'
    · exact hd.1 _ (fmap_lt r nx m hl.2 h').1 h
    · have := fmap_ge r nx m h'; omega
  | x :: r, nx, hd, hl, n + 1, 0, h => by
    simp only [distincts] at hd
    simp only [allLt] at hl
    simp only [fmap] at h
    exfalso
    rcases Nat.lt_or_ge n r.length with h' | h'
    · exact hd.1 _ (fmap_lt r nx n hl.2 h').1 h.symm
    · have := fmap_ge r nx n h'; omega

noncomputable def finv (f : Nat → Nat) (N : Nat → Prop) (m : Nat) : Option Nat := open Classical in if h : ∃ n, N n ∧ f n = m then some (Classical.choose h) else none
theorem finv_of {f : Nat → Nat} {N : Nat → Prop} (hf : ∀ n m, f n = f m → n = m) {n : Nat} (hn : N n) : finv f N (f n) = some n := by
  unfold finv
  have h : ∃ m, N m ∧ f m = f n := ⟨n, hn, rfl⟩
  rw [dif_pos h]
  rw [hf _ _ (Classical.choose_spec h).2]
theorem finv_some {f : Nat → Nat} {N : Nat → Prop} {m n : Nat} (h : finv f N m = some n) : N n ∧ f n = m := by
  unfold finv at h
  split at h
  · rename_i h'
    injection h with h
    rw [← h]; exact Classical.choose_spec h'
  · cases h

def hpSub (imp : Bool) (f : Nat → Nat) (hp : List (Nat × TypeId × List SV)) : List (Nat × TypeId × List SV) → Prop
  | [] => True
  | (n, T, ls) :: r => (match hfind hp (f n) with | some (T', ls') => T = T' ∧ WL imp f ls ls' | none => False) ∧ hpSub imp f hp r
def tkSub (f : Nat → Nat) (tk : List Nat) : List Nat → Prop
  | [] => True
  | τ :: r => tkMem tk (f τ) = true ∧ tkSub f tk r
def rsFind : List (Nat × Res) → Nat → Option Res
  | [], _ => none
  | (m, R) :: r, n => if m = n then some R else rsFind r n
def rsSub (f : Nat → Nat) (rs : List (Nat × Res)) : List (Nat × Res) → Prop
  | [] => True
  | (n, R) :: r => rsFind rs (f n) = some R ∧ rsSub f rs r

theorem rsFind_mem : ∀ (l : List (Nat × Res)) (n : Nat) (R : Res), rsFind l n = some R → (n, R) ∈ l
  | [], n, R, h => by simp [rsFind] at h
  | (m, R') :: r, n, R, h => by
    simp only [rsFind] at h
    split at h
    · rename_i e; subst e; injection h with h; subst h; simp
    · exact List.mem_cons_of_mem _ (rsFind_mem r n R h)

theorem hpSub_find {imp : Bool} {f : Nat → Nat} {hp : List (Nat × TypeId × List SV)} : ∀ {l : List (Nat × TypeId × List SV)}, hpSub imp f hp l → ∀ n T ls, hfind l n = some (T, ls) → ∃ ls', hfind hp (f n) = some (T, ls') ∧ WL imp f ls ls'
  | [], _, n, T, ls, e => by simp [hfind] at e
  | (m, T', ls') :: r, h, n, T, ls, e => by
    simp only [hpSub] at h
    simp only [hfind] at e
    split at e
    · rename_i hm
      subst hm
      simp only [Option.some.injEq, Prod.mk.injEq] at e
      obtain ⟨rfl, rfl⟩ := e
      obtain ⟨h1, -⟩ := h
      split at h1
      · rename_i T2 l2 e2
        obtain ⟨rfl, h1⟩ := h1
        exact ⟨l2, e2, h1⟩
      · exact h1.elim
    · exact hpSub_find h.2 n T ls e
theorem tkSub_mem {f : Nat → Nat} {tk : List Nat} : ∀ {l : List Nat}, tkSub f tk l → ∀ τ, τ ∈ l → f τ ∈ tk
  | [], _, τ, h => by simp at h
  | x :: r, h, τ, hτ => by
    simp only [tkSub] at h
    rcases List.mem_cons.1 hτ with rfl | hτ
    · exact tkMem_sound _ _ h.1
    · exact tkSub_mem h.2 τ hτ
theorem rsSub_mem {f : Nat → Nat} {rs : List (Nat × Res)} : ∀ {l : List (Nat × Res)}, rsSub f rs l → ∀ r R, (r, R) ∈ l → (f r, R) ∈ rs
  | [], _, r, R, h => by simp at h
  | (m, R') :: l, h, r, R, hr => by
    simp only [rsSub] at h
    rcases List.mem_cons.1 hr with e | hr
    · simp only [Prod.mk.injEq] at e
      obtain ⟨rfl, rfl⟩ := e
      exact rsFind_mem _ _ _ h.1
    · exact rsSub_mem h.2 r R hr

def Key.name : Key → Nat
  | .blk n => n
  | .tok n => n
  | .res n => n
def Key.ren (g : Nat → Option Nat) : Key → Option Key
  | .blk n => (g n).map .blk
  | .tok n => (g n).map .tok
  | .res n => (g n).map .res

theorem Owns.pull {imp : Bool} {f : Nat → Nat} (hf : ∀ n m, f n = f m → n = m) {E E' : Env} (hp : Pull imp f E E') {s t : SS} {w : World} {κ : Nat → Option Key} (h : Owns E s w κ)
    (h1 : hpSub imp f s.hp t.hp) (h2 : tkSub f s.tk t.tk) (h3 : rsSub f s.rs t.rs) (N : Nat → Prop) (hN1 : ∀ n T ls, hfind t.hp n = some (T, ls) → N n) (hN2 : ∀ τ, τ ∈ t.tk → N τ) (hN3 : ∀ r R, (r, R) ∈ t.rs → N r)
    (hm : ∀ b key n, κ b = some key → key.name = f n → N n → Mut E b → Mut E' b) :
    Owns E' t w (fun b => (κ b).bind (Key.ren (finv f N))) := by
  refine ⟨?_, ?_, ?_, ?_, ?_⟩
  · intro n T ls e
    obtain ⟨ls', q1, q2⟩ := hpSub_find h1 n T ls e
    obtain ⟨b, cs, k1, k2, k3, k4, k5⟩ := h.hp _ _ _ q1
    exact ⟨b, cs, by rw [hp.ρ]; exact k1, k2, WL_den hp _ _ _ q2 k3, by simp [k4, Key.ren, finv_of hf (hN1 n T ls e)], hm b _ n k4 rfl (hN1 n T ls e) k5⟩
  · intro τ hτ
    obtain ⟨sz, a, len, cap, k1, k2, k3⟩ := h.tk _ (tkSub_mem h2 τ hτ)
    refine ⟨sz, a, len, cap, by rw [hp.θ]; exact k1, k2, ?_⟩
    rcases k3 with k3 | ⟨b, off, T, cs, k4, k5, k6, k7, k8, k9⟩
    · exact .inl k3
    · exact .inr ⟨b, off, T, cs, k4, by simp [k5, Key.ren, finv_of hf (hN2 τ hτ)], hm b _ τ k5 rfl (hN2 τ hτ) k6, k7, k8, by rw [hp.μ]; exact k9⟩
  · intro r R hr
    obtain ⟨F, k1, k2⟩ := h.rs _ _ (rsSub_mem h3 r R hr)
    exact ⟨F, by rw [hp.μ]; exact k1, fun b hb => ⟨(k2 b hb).1, by simp [(k2 b hb).2.1, Key.ren, finv_of hf (hN3 r R hr)], hm b _ r (k2 b hb).2.1 rfl (hN3 r R hr) (k2 b hb).2.2⟩⟩
  · intro a v e
    rw [hp.μ] at e
    have k1 := h.mu a v e
    intro n e'
    cases hk : κ a.block with
    | none => simp [hk] at e'
    | some key =>
      cases key with
      | blk m => exact k1 m hk
      | tok m => simp [hk, Key.ren] at e'
      | res m => simp [hk, Key.ren] at e'
  · intro b k e
    cases hk : κ b with
    | none => simp [hk] at e
    | some key =>
      refine ⟨(h.dom b key hk).1, ?_⟩
      rw [hk] at e
      simp only [Option.bind_some] at e
      have : ∃ n, N n ∧ key.name = f n := by
        cases key <;> simp only [Key.ren, Option.map_eq_some_iff] at e <;> obtain ⟨n, h1, _⟩ := e <;> exact ⟨n, (finv_some h1).1, (finv_some h1).2.symm⟩
      obtain ⟨n, h1, h2⟩ := this
      exact hm b key n hk h2 h1 (h.dom b key hk).2

/-- The same world, under other names; less is said. -/
theorem Good.pull {f : Nat → Nat} (hf : ∀ n m, f n = f m → n = m) {E : Env} {s t : SS} {w : World} (h : Good E s w) (hk : t.k = s.k) (hkx : t.k ≤ t.nx) (hn : ∀ n, t.nx ≤ n → s.nx ≤ f n)
    (h1 : hpSub false f s.hp t.hp) (h2 : tkSub f s.tk t.tk) (h3 : rsSub f s.rs t.rs) :
    ∃ E', Pull false f E E' ∧ E'.w0 = E.w0 ∧ (E'.S0 = E.S0 ∧ E'.Z = E.Z) ∧ E'.k = E.k ∧ Good E' t w := by
  have hp : Pull false f E { E with ρ := fun n => E.ρ (f n), θ := fun n => E.θ (f n) } := ⟨fun _ => rfl, fun _ => rfl, rfl, fun _ _ h => h⟩
  refine ⟨_, hp, rfl, ⟨rfl, rfl⟩, rfl, ?_⟩
  obtain ⟨κ, ho⟩ := h.own
  exact ⟨h.k.trans hk.symm, hkx, h.os, h.tape, h.output, h.size, h.old, h.mu, fun n hn' => h.nxρ _ (hn n hn'), fun n hn' => h.nxθ _ (hn n hn'), _, ho.pull hf hp h1 h2 h3 (fun _ => True) (fun _ _ _ _ => trivial) (fun _ _ => trivial) (fun _ _ _ => trivial) (fun _ _ _ _ _ _ h => h)⟩

/-- Less is said of the same, names by a list: the names that came in stay. -/
theorem Sub.of {s t : SS} (im : List Nat) (hd : distincts im) (hl : allLt s.nx im) (hlen : im.length ≤ t.nx) (hk : t.k = s.k) (hkx : t.k ≤ t.nx) (hid : ∀ n, n < s.k → fmap im s.nx n = n) (hdf : t.df = s.df)
    (hfr : WL false (fmap im s.nx) t.fr s.fr) (h1 : hpSub false (fmap im s.nx) s.hp t.hp) (h2 : tkSub (fmap im s.nx) s.tk t.tk) (h3 : rsSub (fmap im s.nx) s.rs t.rs) : Sub s t := by
  intro E a w hf hw
  obtain ⟨E', q1, q2, q3, q4, q5⟩ := hw.pull (t := t) (fmap_inj im s.nx hd hl) hk hkx (fun n hn => by rw [fmap_ge im s.nx n (by omega)]; omega) h1 h2 h3
  refine ⟨E', ⟨q4, fun n hn => ?_, fun n hn => ?_, q2, q3.1, fun a v e => by rw [q1.μ]; exact e, fun a v e => .inl (by rw [q1.μ] at e; exact e), q3.2⟩, ⟨WL_den q1 _ _ _ hfr hf.tmps, by rw [hdf]; exact hf.defers⟩, q5⟩
  · rw [q1.ρ, hid n (by rw [← hw.k]; exact hn)]
  · rw [q1.θ, hid n (by rw [← hw.k]; exact hn)]
end Go.Eng
/- The engine, part O: a callee's contract in a caller's state. -/
namespace Go.Eng
open Go
set_option linter.unusedVariables false
set_option linter.unusedSimpArgs false

def renT (f : Nat → Nat) : Tag → Tag
  | .old => .old
  | .new => .new
  | .nil => .nil
  | .tok τ b => .tok (f τ) b
mutual
def ren (f : Nat → Nat) : SV → SV
  | .i k n => .i k n
  | .b c => .b c
  | .s x => .s x
  | .ptr n o => .ptr (f n) o
  | .nilp => .nilp
  | .ints k t l => .ints k (renT f t) l
  | .sl sz t n el => .sl sz (renT f t) n (fun i j => ren f (el i j))
  | .ep n g => .ep n (fun d => ren f (g d))
  | .agg l => .agg (renL f l)
  | .tup l => .tup (renL f l)
  | .nili => .nili
  | .ifc t x => .ifc t (ren f x)
  | .fn g a c => .fn g (renL f a) (renL f c)
  | .nilf => .nilf
  | .raw x => .raw x
  | .cnd g x => .cnd g (ren f x)
  | .any => .any
def renL (f : Nat → Nat) : List SV → List SV
  | [] => []
  | x :: r => ren f x :: renL f r
end

structure Later (f : Nat → Nat) (E E' : Env) : Prop where
  ρ : ∀ n b, E.ρ n = some b → E'.ρ (f n) = some b
  θ : ∀ n b, E.θ n = some b → E'.θ (f n) = some b
  μ : ∀ a v, E.μ a = some v → E'.μ a = some v
  mt : ∀ b, E.Z b → E'.Z b

theorem TagOK.ren {f : Nat → Nat} {E E' : Env} (h : Later f E E') {sz : Nat} {v : Value} : ∀ {t : Tag}, TagOK E sz v t → TagOK E' sz v (renT f t)
  | .old, _ => trivial
  | .new, k => fun a n c e => h.mt _ (k a n c e)
  | .nil, k => k
  | .tok τ b, k => ⟨TokV.to (fun v => h.θ _ v) k.1, fun hb a n c e => h.mt _ (k.2 hb a n c e)⟩

mutual
theorem Den.ren {f : Nat → Nat} {E E' : Env} (h : Later f E E') : ∀ (x : SV) (v : Value), Den E x v → Den E' (ren f x) v
  | .i k n, v, hd => by simpa only [Go.Eng.ren, Den] using hd
  | .b c, v, hd => by simpa only [Go.Eng.ren, Den] using hd
  | .s x, v, hd => by simpa only [Go.Eng.ren, Den] using hd
  | .ptr n off, v, hd => by
      simp only [Go.Eng.ren, Den] at hd ⊢
      obtain ⟨b, h1, h2⟩ := hd
      exact ⟨b, h.ρ _ _ h1, h2⟩
  | .nilp, v, hd => by simpa only [Go.Eng.ren, Den] using hd
  | .ints k tg l, v, hd => by
      simp only [Go.Eng.ren, Den] at hd ⊢
      obtain ⟨a, c, h1, h2, h3, h4, h5⟩ := hd
      exact ⟨a, c, h1, h2, h3, fun i x hx => let ⟨b, off, e1, e2⟩ := h4 i x hx; ⟨b, off, e1, h.μ _ _ e2⟩, h5.ren h⟩
  | .sl sz tg n el, v, hd => by
      simp only [Go.Eng.ren, Den] at hd ⊢
      obtain ⟨a, cap, h1, h2, h3, h4, h5⟩ := hd
      refine ⟨a, cap, h1, h2, h3, fun i hi => ?_, h5.ren h⟩
      obtain ⟨b, off, p, q⟩ := h4 i hi
      refine ⟨b, off, p, fun j hj => ?_⟩
      obtain ⟨x, r, s⟩ := q j hj
      exact ⟨x, h.μ _ _ r, Den.ren h (el i j) x s⟩
  | .ep n get, v, hd => by
      simp only [Go.Eng.ren, Den] at hd ⊢
      obtain ⟨b, off, p, q⟩ := hd
      refine ⟨b, off, p, fun d hd => ?_⟩
      obtain ⟨x, r, s⟩ := q d hd
      exact ⟨x, h.μ _ _ r, Den.ren h (get d) x s⟩
  | .agg l, v, hd => by
      simp only [Go.Eng.ren, Den] at hd ⊢
      obtain ⟨cs, p, q⟩ := hd
      exact ⟨cs, p, DenL.ren h l cs q⟩
  | .tup l, v, hd => by
      simp only [Go.Eng.ren, Den] at hd ⊢
      obtain ⟨cs, p, q⟩ := hd
      exact ⟨cs, p, DenL.ren h l cs q⟩
  | .nili, v, hd => by simpa only [Go.Eng.ren, Den] using hd
  | .ifc t x, v, hd => by
      simp only [Go.Eng.ren, Den] at hd ⊢
      obtain ⟨y, p, q⟩ := hd
      exact ⟨y, p, Den.ren h x y q⟩
  | .fn g first cap, v, hd => by
      simp only [Go.Eng.ren, Den] at hd ⊢
      obtain ⟨fs, cs, p, q, r⟩ := hd
      exact ⟨fs, cs, p, DenL.ren h first fs q, DenL.ren h cap cs r⟩
  | .nilf, v, hd => by simpa only [Go.Eng.ren, Den] using hd
  | .raw x, v, hd => by simpa only [Go.Eng.ren, Den] using hd
  | .cnd g x, v, hd => by
      simp only [Go.Eng.ren, Den] at hd ⊢
      exact ⟨fun e => Den.ren h x v (hd.1 e), hd.2⟩
  | .any, v, hd => by simp only [Go.Eng.ren, Den]
theorem DenL.ren {f : Nat → Nat} {E E' : Env} (h : Later f E E') : ∀ (l : List SV) (cs : List Value), DenL E l cs → DenL E' (renL f l) cs
  | [], [], _ => by simp only [renL, DenL]
  | x :: xs, v :: vs, hd => by
      simp only [renL, DenL] at hd ⊢
      exact ⟨Den.ren h x v hd.1, DenL.ren h xs vs hd.2⟩
  | [], _ :: _, hd => by simp only [DenL] at hd
  | _ :: _, [], hd => by simp only [DenL] at hd
end

/-- What a function promises: of every good world of the state 'pre', whose names all came in. -/
def Contract (P : Program) (f : FuncId) (pre : SS) (pargs : List SV) (R : SV → SS → Prop) : Prop :=
  ∀ E w vs, E.w0 = w → Good E pre w → DenL E pargs vs → (callFunc f vs.toArray).run P w = .ok (.enter f vs.toArray) w ∧
    Calls P f vs.toArray w (fun e w' => ∃ v E' post sv, e = .returned v ∧ E.Ext E' ∧ Good E' post w' ∧ Den E' sv v ∧ R sv post)

def hpRen (f : Nat → Nat) : List (Nat × TypeId × List SV) → List (Nat × TypeId × List SV) → List (Nat × TypeId × List SV)
  | [], m => m
  | (n, T, ls) :: r, m => (f n, T, renL f ls) :: hpRen f r m
def memB : List Nat → Nat → Bool
  | [], _ => false
  | m :: r, n => if m = n then true else memB r n
theorem memB_iff : ∀ (l : List Nat) (n : Nat), memB l n = true ↔ n ∈ l
  | [], n => by simp [memB]
  | m :: r, n => by
    simp only [memB, List.mem_cons]
    split
    · rename_i e; simp [e]
    · rename_i e; rw [memB_iff r n]; constructor
      · exact .inr
      · rintro (h | h)
        · exact absurd h.symm e
        · exact h
def hpDel (im : List Nat) : List (Nat × TypeId × List SV) → List (Nat × TypeId × List SV)
  | [] => []
  | (n, T, ls) :: r => match memB im n with | true => hpDel im r | false => (n, T, ls) :: hpDel im r
def tkRen (f : Nat → Nat) : List Nat → List Nat → List Nat
  | [], m => m
  | n :: r, m => f n :: tkRen f r m
def tkDelL (im : List Nat) : List Nat → List Nat
  | [] => []
  | n :: r => match memB im n with | true => tkDelL im r | false => n :: tkDelL im r
def rsRen (f : Nat → Nat) : List (Nat × Res) → List (Nat × Res) → List (Nat × Res)
  | [], m => m
  | (n, R) :: r, m => (f n, R) :: rsRen f r m
def rsDel (im : List Nat) : List (Nat × Res) → List (Nat × Res)
  | [] => []
  | (n, R) :: r => match memB im n with | true => rsDel im r | false => (n, R) :: rsDel im r

/-- The caller's state behind a call: what was lent out (im) has come back; the names ik are what they were. -/
def SS.back (st : SS) (im ik : List Nat) (post : SS) : SS :=
  { st with hp := hpRen (fmap ik st.nx) post.hp (hpDel im st.hp), tk := tkRen (fmap ik st.nx) post.tk (tkDelL im st.tk), rs := rsRen (fmap ik st.nx) post.rs (rsDel im st.rs), nx := st.nx + (post.nx - ik.length) }

theorem hpRen_find {f : Nat → Nat} (hf : ∀ n m, f n = f m → n = m) : ∀ (l m : List (Nat × TypeId × List SV)) (k : Nat) (T : TypeId) (ls : List SV), hfind (hpRen f l m) k = some (T, ls) →
    (∃ n ls', k = f n ∧ hfind l n = some (T, ls') ∧ ls = renL f ls') ∨ hfind m k = some (T, ls)
  | [], m, k, T, ls, h => .inr h
  | (n, T', l') :: r, m, k, T, ls, h => by
    simp only [hpRen, hfind] at h
    split at h
    · rename_i e
      simp only [Option.some.injEq, Prod.mk.injEq] at h
      obtain ⟨rfl, rfl⟩ := h
      exact .inl ⟨n, l', e.symm, by simp [hfind], rfl⟩
    · rename_i e
      rcases hpRen_find hf r m k T ls h with ⟨n', ls', rfl, h2, h3⟩ | h
      · refine .inl ⟨n', ls', rfl, ?_, h3⟩
        have : ¬ n = n' := fun h => e (by rw [h])
        simp [hfind, this, h2]
      · exact .inr h
theorem hpDel_find (im : List Nat) : ∀ (l : List (Nat × TypeId × List SV)) (k : Nat) (T : TypeId) (ls : List SV), hfind (hpDel im l) k = some (T, ls) → hfind l k = some (T, ls) ∧ k ∉ im
  | [], k, T, ls, h => by simp [hpDel, hfind] at h
  | (n, T', l') :: r, k, T, ls, h => by
    simp only [hpDel] at h
    split at h
    · rename_i e
      obtain ⟨h1, h2⟩ := hpDel_find im r k T ls h
      have hn := (memB_iff im n).1 e
      have : ¬ n = k := by rintro rfl; exact h2 hn
      exact ⟨by simp [hfind, this, h1], h2⟩
    · rename_i e
      have hn : n ∉ im := fun h => by rw [(memB_iff im n).2 h] at e; cases e
      simp only [hfind] at h ⊢
      split at h
      · rename_i e2; rw [if_pos e2]; exact ⟨h, by rw [← e2]; exact hn⟩
      · rename_i e2; rw [if_neg e2]; exact hpDel_find im r k T ls h
theorem tkRen_mem {f : Nat → Nat} : ∀ (l m : List Nat) (k : Nat), k ∈ tkRen f l m → (∃ n, n ∈ l ∧ k = f n) ∨ k ∈ m
  | [], m, k, h => .inr h
  | n :: r, m, k, h => by
    simp only [tkRen] at h
    rcases List.mem_cons.1 h with rfl | h
    · exact .inl ⟨n, by simp, rfl⟩
    · rcases tkRen_mem r m k h with ⟨n', h1, h2⟩ | h
      · exact .inl ⟨n', by simp [h1], h2⟩
      · exact .inr h
theorem tkDelL_mem (im : List Nat) : ∀ (l : List Nat) (k : Nat), k ∈ tkDelL im l → k ∈ l ∧ k ∉ im
  | [], k, h => by simp [tkDelL] at h
  | n :: r, k, h => by
    simp only [tkDelL] at h
    split at h
    · obtain ⟨h1, h2⟩ := tkDelL_mem im r k h; exact ⟨by simp [h1], h2⟩
    · rename_i e
      rcases List.mem_cons.1 h with rfl | h
      · exact ⟨by simp, fun h => by rw [(memB_iff im k).2 h] at e; cases e⟩
      · obtain ⟨h1, h2⟩ := tkDelL_mem im r k h; exact ⟨by simp [h1], h2⟩
theorem rsRen_mem {f : Nat → Nat} : ∀ (l m : List (Nat × Res)) (k : Nat) (R : Res), (k, R) ∈ rsRen f l m → (∃ n, (n, R) ∈ l ∧ k = f n) ∨ (k, R) ∈ m
  | [], m, k, R, h => .inr h
  | (n, R') :: r, m, k, R, h => by
    simp only [rsRen] at h
    rcases List.mem_cons.1 h with e | h
    · simp only [Prod.mk.injEq] at e
      obtain ⟨rfl, rfl⟩ := e
      exact .inl ⟨n, by simp, rfl⟩
    · rcases rsRen_mem r m k R h with ⟨n', h1, h2⟩ | h
      · exact .inl ⟨n', by simp [h1], h2⟩
      · exact .inr h
theorem rsDel_mem (im : List Nat) : ∀ (l : List (Nat × Res)) (k : Nat) (R : Res), (k, R) ∈ rsDel im l → (k, R) ∈ l ∧ k ∉ im
  | [], k, R, h => by simp [rsDel] at h
  | (n, R') :: r, k, R, h => by
    simp only [rsDel] at h
    split at h
    · obtain ⟨h1, h2⟩ := rsDel_mem im r k R h; exact ⟨by simp [h1], h2⟩
    · rename_i e
      rcases List.mem_cons.1 h with e' | h
      · simp only [Prod.mk.injEq] at e'
        obtain ⟨rfl, rfl⟩ := e'
        exact ⟨by simp, fun h => by rw [(memB_iff im k).2 h] at e; cases e⟩
      · obtain ⟨h1, h2⟩ := rsDel_mem im r k R h; exact ⟨by simp [h1], h2⟩
end Go.Eng
/- The engine, part P: a callee's contract, used by a caller; a contract out of a function's code. -/
namespace Go.Eng
open Go
set_option linter.unusedVariables false
set_option linter.unusedSimpArgs false

def hpLt (k : Nat) : List (Nat × TypeId × List SV) → Prop
  | [] => True
  | (n, _, _) :: r => n < k ∧ hpLt k r
def rsLt (k : Nat) : List (Nat × Res) → Prop
  | [] => True
  | (n, _) :: r => n < k ∧ rsLt k r
theorem hpLt_find {k : Nat} : ∀ {l : List (Nat × TypeId × List SV)}, hpLt k l → ∀ n T ls, hfind l n = some (T, ls) → n < k
  | [], _, n, T, ls, e => by simp [hfind] at e
  | (m, T', l') :: r, h, n, T, ls, e => by
    simp only [hpLt] at h
    simp only [hfind] at e
    split at e
    · rename_i hm; rw [← hm]; exact h.1
    · exact hpLt_find h.2 n T ls e
theorem allLt_mem {k : Nat} : ∀ {l : List Nat}, allLt k l → ∀ x, x ∈ l → x < k
  | [], _, x, h => by simp at h
  | m :: r, h, x, hx => by
    simp only [allLt] at h
    rcases List.mem_cons.1 hx with rfl | hx
    · exact h.1
    · exact allLt_mem h.2 x hx
theorem rsLt_mem {k : Nat} : ∀ {l : List (Nat × Res)}, rsLt k l → ∀ r R, (r, R) ∈ l → r < k
  | [], _, r, R, h => by simp at h
  | (m, R') :: l, h, r, R, hr => by
    simp only [rsLt] at h
    rcases List.mem_cons.1 hr with e | hr
    · simp only [Prod.mk.injEq] at e
      rw [e.1]; exact h.1
    · exact rsLt_mem h.2 r R hr

/-- The names of a state are all below. -/
def SS.lt (s : SS) (k : Nat) : Prop := hpLt k s.hp ∧ allLt k s.tk ∧ rsLt k s.rs

theorem distincts_take : ∀ (l : List Nat) (k : Nat), distincts l → distincts (l.take k)
  | [], k, h => by simp [distincts]
  | m :: r, 0, h => by simp [distincts]
  | m :: r, k + 1, h => by
    simp only [distincts, List.take_succ_cons] at h ⊢
    exact ⟨fun x hx => h.1 x (List.mem_of_mem_take hx), distincts_take r k h.2⟩
theorem allLt_take {nx : Nat} : ∀ (l : List Nat) (k : Nat), allLt nx l → allLt nx (l.take k)
  | [], k, h => by simp [allLt]
  | m :: r, 0, h => by simp [allLt]
  | m :: r, k + 1, h => by
    simp only [allLt, List.take_succ_cons] at h ⊢
    exact ⟨h.1, allLt_take r k h.2⟩
theorem fmap_take : ∀ (l : List Nat) (nx k n : Nat), n < (l.take k).length → fmap (l.take k) nx n = fmap l nx n
  | [], nx, k, n, h => by simp at h
  | m :: r, nx, 0, n, h => by simp at h
  | m :: r, nx, k + 1, 0, h => by simp [fmap]
  | m :: r, nx, k + 1, n + 1, h => by
    simp only [List.take_succ_cons, fmap]
    exact fmap_take r nx k n (by simpa using h)

theorem back_good {E : Env} {st : SS} {w : World} (hw : Good E st w) {κ : Nat → Option Key} (ho : Owns E st w κ) {im ik : List Nat} (hd : distincts ik) (hl : allLt st.nx ik)
    {E' : Env} {post : SS} {w' : World} (h0 : E'.w0 = w) (hZ : E'.Z = E.Z) (hS : E'.S0 = fun b => ∃ key, κ b = some key ∧ key.name ∈ im)
    (hρ : ∀ n b, n < ik.length → E'.ρ n = some b → E.ρ (fmap ik st.nx n) = some b) (hθ : ∀ n b, n < ik.length → E'.θ n = some b → E.θ (fmap ik st.nx n) = some b)
    (hμ : ∀ a v, E.μ a = some v → E'.μ a = some v) (hμn : ∀ a v, E'.μ a = some v → E.μ a = some v ∨ Mut E' a.block) (hp : Good E' post w') :
    ∃ E2, E.Le E2 ∧ Later (fmap ik st.nx) E' E2 ∧ Good E2 (st.back im ik post) w' := by
  have hinj := fmap_inj ik st.nx hd hl
  have hmut : ∀ b, Mut E' b → Mut E b := by
    intro b hb
    rcases hb with hb | hb
    · rw [h0] at hb; exact .inl (Nat.le_trans hw.size hb)
    · rw [hS] at hb
      obtain ⟨key, hk, -⟩ := hb
      exact (ho.dom _ _ hk).2
  have hfar : ∀ b key, κ b = some key → key.name ∉ im → ¬ Mut E' b := by
    rintro b key hk hn (hb | hb)
    · rw [h0] at hb; have := (ho.dom _ _ hk).1; omega
    · rw [hS] at hb
      obtain ⟨key', hk', hn'⟩ := hb
      rw [hk] at hk'
      injection hk' with e
      subst e
      exact hn hn'
  have hold : ∀ b, b < w.heap.size → ¬ Mut E' b → w'.heap[b]? = w.heap[b]? := fun b hb hm => by
    have := hp.old b (by rw [h0]; exact hb) (fun h => hm (.inr h))
    rw [this, h0]
  let E2 : Env := { E with ρ := fun n => if n < st.nx then E.ρ n else E'.ρ (n - st.nx + ik.length), θ := fun n => if n < st.nx then E.θ n else E'.θ (n - st.nx + ik.length), μ := E'.μ }
  have hle : E.Le E2 := by
    refine ⟨rfl, rfl, rfl, fun n b e => ?_, fun n v e => ?_, hμ, fun a v e => ?_, fun n hn => if_pos (by have := hw.k; have := hw.kx; omega), fun n hn => if_pos (by have := hw.k; have := hw.kx; omega), rfl⟩
    · have : n < st.nx := by
        rcases Nat.lt_or_ge n st.nx with h | h
        · exact h
        · rw [hw.nxρ n h] at e; cases e
      show (if n < st.nx then E.ρ n else _) = _
      rw [if_pos this]; exact e
    · have : n < st.nx := by
        rcases Nat.lt_or_ge n st.nx with h | h
        · exact h
        · rw [hw.nxθ n h] at e; cases e
      show (if n < st.nx then E.θ n else _) = _
      rw [if_pos this]; exact e
    · rcases hμn a v e with h | h
      · exact .inl h
      · exact .inr (hmut _ h)
  have hlater : Later (fmap ik st.nx) E' E2 := by
    refine ⟨fun n b e => ?_, fun n b e => ?_, fun a v e => e, fun b hb => by rw [hZ] at hb; exact hb⟩
    · show (if _ < st.nx then E.ρ _ else E'.ρ _) = _
      rcases Nat.lt_or_ge n ik.length with h | h
      · rw [if_pos (fmap_lt ik st.nx n hl h).2]; exact hρ n b h e
      · rw [fmap_ge ik st.nx n h, if_neg (by omega), show st.nx + (n - ik.length) - st.nx + ik.length = n by omega]; exact e
    · show (if _ < st.nx then E.θ _ else E'.θ _) = _
      rcases Nat.lt_or_ge n ik.length with h | h
      · rw [if_pos (fmap_lt ik st.nx n hl h).2]; exact hθ n b h e
      · rw [fmap_ge ik st.nx n h, if_neg (by omega), show st.nx + (n - ik.length) - st.nx + ik.length = n by omega]; exact e
  refine ⟨E2, hle, hlater, ?_⟩
  obtain ⟨κ', ho'⟩ := hp.own
  let ren' : Key → Key := fun | .blk n => .blk (fmap ik st.nx n) | .tok n => .tok (fmap ik st.nx n) | .res n => .res (fmap ik st.nx n)
  open Classical in
  let κ2 : Nat → Option Key := fun b => if Mut E' b then (κ' b).map ren' else (match κ b with | some key => if key.name ∈ im then none else some key | none => none)
  have k2m : ∀ b, Mut E' b → κ2 b = (κ' b).map ren' := fun b h => if_pos h
  have k2o : ∀ b key, κ b = some key → key.name ∉ im → κ2 b = some key := fun b key h hn => by
    show (if Mut E' b then _ else _) = _
    rw [if_neg (hfar b key h hn), h]
    simp [hn]
  have k2n : ∀ b key, ¬ Mut E' b → κ2 b = some key → κ b = some key := fun b key hm e => by
    have e' : (if Mut E' b then (κ' b).map ren' else (match κ b with | some key => if key.name ∈ im then none else some key | none => none)) = some key := e
    rw [if_neg hm] at e'
    split at e'
    · rename_i key' hk
      split at e'
      · cases e'
      · rw [hk]; exact e'
    · cases e'
  refine ⟨hw.k, Nat.le_trans hw.kx (Nat.le_add_right _ _), ?_, ?_, ?_, ?_, ?_, hp.mu, ?_, ?_, κ2, ?_, ?_, ?_, ?_, ?_⟩
  · have := hp.os; rw [h0] at this; exact this.trans hw.os
  · have := hp.tape; rw [h0] at this; exact this.trans hw.tape
  · have := hp.output; rw [h0] at this; exact this.trans hw.output
  · have := hp.size; rw [h0] at this; exact Nat.le_trans hw.size this
  · intro b hb hs
    have hb' : b < w.heap.size := Nat.lt_of_lt_of_le hb hw.size
    have hm : ¬ Mut E' b := fun h => by
      rcases hmut b h with h | h
      · have : b < E.w0.heap.size := hb; omega
      · exact hs h
    rw [hold b hb' hm]; exact hw.old b hb hs
  · intro n hn
    have hn' : st.nx + (post.nx - ik.length) ≤ n := hn
    show (if n < st.nx then E.ρ n else E'.ρ (n - st.nx + ik.length)) = none
    rw [if_neg (by omega)]; exact hp.nxρ _ (by omega)
  · intro n hn
    have hn' : st.nx + (post.nx - ik.length) ≤ n := hn
    show (if n < st.nx then E.θ n else E'.θ (n - st.nx + ik.length)) = none
    rw [if_neg (by omega)]; exact hp.nxθ _ (by omega)
  · intro m T ls e
    have e' : hfind (hpRen (fmap ik st.nx) post.hp (hpDel im st.hp)) m = some (T, ls) := e
    rcases hpRen_find hinj _ _ m T ls e' with ⟨n, ls', rfl, q1, rfl⟩ | q
    · obtain ⟨b, cs, k1, k2, k3, k4, k5⟩ := ho'.hp _ _ _ q1
      exact ⟨b, cs, hlater.ρ _ _ k1, k2, DenL.ren hlater _ _ k3, by rw [k2m b k5, k4]; rfl, hmut b k5⟩
    · obtain ⟨q1, q2⟩ := hpDel_find im _ m T ls q
      obtain ⟨b, cs, k1, k2, k3, k4, k5⟩ := ho.hp _ _ _ q1
      have hm := hfar b _ k4 q2
      exact ⟨b, cs, hle.ρ _ _ k1, by rw [hold b (ho.dom _ _ k4).1 hm]; exact k2, DenL.mono hle _ _ k3, k2o b _ k4 q2, k5⟩
  · intro τ hτ
    have hτ' : τ ∈ tkRen (fmap ik st.nx) post.tk (tkDelL im st.tk) := hτ
    rcases tkRen_mem _ _ _ hτ' with ⟨n, q1, rfl⟩ | q
    · obtain ⟨sz, a, len, cap, k1, k2, k3⟩ := ho'.tk _ q1
      refine ⟨sz, a, len, cap, hlater.θ _ _ k1, k2, ?_⟩
      rcases k3 with k3 | ⟨b, off, T, cs, k4, k5, k6, k7, k8, k9⟩
      · exact .inl k3
      · exact .inr ⟨b, off, T, cs, k4, by rw [k2m b k6, k5]; rfl, hmut b k6, k7, k8, k9⟩
    · obtain ⟨q1, q2⟩ := tkDelL_mem im _ _ q
      obtain ⟨sz, a, len, cap, k1, k2, k3⟩ := ho.tk _ q1
      refine ⟨sz, a, len, cap, hle.θ _ _ k1, k2, ?_⟩
      rcases k3 with k3 | ⟨b, off, T, cs, k4, k5, k6, k7, k8, k9⟩
      · exact .inl k3
      · have hm := hfar b _ k5 q2
        refine .inr ⟨b, off, T, cs, k4, k2o b _ k5 q2, k6, k7.congr (hold b (ho.dom _ _ k5).1 hm), k8, fun ad v e hab => ?_⟩
        rcases hμn ad v e with h | h
        · exact k9 ad v h hab
        · rw [hab] at h; exact absurd h hm
  · intro r R hr
    have hr' : (r, R) ∈ rsRen (fmap ik st.nx) post.rs (rsDel im st.rs) := hr
    rcases rsRen_mem _ _ _ _ hr' with ⟨n, q1, rfl⟩ | q
    · obtain ⟨F, k1, k2⟩ := ho'.rs _ _ q1
      exact ⟨F, k1, fun b hb => ⟨(k2 b hb).1, by rw [k2m b (k2 b hb).2.2, (k2 b hb).2.1]; rfl, hmut b (k2 b hb).2.2⟩⟩
    · obtain ⟨q1, q2⟩ := rsDel_mem im _ _ _ q
      obtain ⟨F, k1, k2⟩ := ho.rs _ _ q1
      have hm : ∀ b, F b → ¬ Mut E' b := fun b hb => hfar b _ (k2 b hb).2.1 q2
      have hsz : w.heap.size ≤ w'.heap.size := by have := hp.size; rw [h0] at this; exact this
      exact ⟨F, R.next _ _ F _ _ k1 (fun b hb => .inl (hold b (k2 b hb).1 (hm b hb))) hμ (fun a v e => by
        rcases hμn a v e with h | h
        · exact .inl h
        · exact .inr (fun hF => hm _ hF h)), fun b hb => ⟨Nat.lt_of_lt_of_le (k2 b hb).1 hsz, k2o b _ (k2 b hb).2.1 q2, (k2 b hb).2.2⟩⟩
  · intro a v e
    by_cases hm : Mut E' a.block
    · rw [k2m _ hm]
      have q1 := ho'.mu a v e
      intro n e'
      cases hk : κ' a.block with
      | none => simp [hk] at e'
      | some key =>
        cases key with
        | blk m => exact q1 m hk
        | tok m => simp [hk, ren'] at e'
        | res m => simp [hk, ren'] at e'
    · rcases hμn a v e with h | h
      · exact fun n e' => ho.mu a v h n (k2n _ _ hm e')
      · exact absurd h hm
  · intro b key e
    have hsz : w.heap.size ≤ w'.heap.size := by have := hp.size; rw [h0] at this; exact this
    by_cases hm : Mut E' b
    · rw [k2m b hm] at e
      cases hk : κ' b with
      | none => simp [hk] at e
      | some key' => exact ⟨(ho'.dom _ _ hk).1, hmut b hm⟩
    · have := k2n b key hm e
      exact ⟨Nat.lt_of_lt_of_le (ho.dom _ _ this).1 hsz, (ho.dom _ _ this).2⟩

def lentHp (f : Nat → Nat) : List (Nat × TypeId × List SV) → List Nat
  | [] => []
  | (n, _, _) :: r => f n :: lentHp f r
def lentTk (f : Nat → Nat) : List Nat → List Nat
  | [] => []
  | n :: r => f n :: lentTk f r
def lentRs (f : Nat → Nat) : List (Nat × Res) → List Nat
  | [] => []
  | (n, _) :: r => f n :: lentRs f r
/-- The caller's names of what is lent out. -/
def lentOf (im : List Nat) (nx : Nat) (pre : SS) : List Nat := lentHp (fmap im nx) pre.hp ++ (lentTk (fmap im nx) pre.tk ++ lentRs (fmap im nx) pre.rs)
theorem lentHp_find (f : Nat → Nat) : ∀ (l : List (Nat × TypeId × List SV)) (n : Nat) (T : TypeId) (ls : List SV), hfind l n = some (T, ls) → f n ∈ lentHp f l
  | [], n, T, ls, h => by simp [hfind] at h
  | (m, _, _) :: r, n, T, ls, h => by
    simp only [hfind] at h
    simp only [lentHp]
    split at h
    · rename_i e; rw [e]; simp
    · exact List.mem_cons_of_mem _ (lentHp_find f r n T ls h)
theorem lentTk_mem (f : Nat → Nat) : ∀ (l : List Nat) (n : Nat), n ∈ l → f n ∈ lentTk f l
  | m :: r, n, h => by
    simp only [lentTk]
    rcases List.mem_cons.1 h with rfl | h
    · simp
    · exact List.mem_cons_of_mem _ (lentTk_mem f r n h)
theorem lentRs_mem (f : Nat → Nat) : ∀ (l : List (Nat × Res)) (n : Nat) (R : Res), (n, R) ∈ l → f n ∈ lentRs f l
  | (m, _) :: r, n, R, h => by
    simp only [lentRs]
    rcases List.mem_cons.1 h with h | h
    · injection h with h1 h2; rw [h1]; simp
    · exact List.mem_cons_of_mem _ (lentRs_mem f r n R h)

/-- A callee's contract, in a caller's state: 'im' lists the caller's names of what the callee knows. -/
theorem call_of {P : Program} {f : FuncId} {pre : SS} {pargs : List SV} {R : SV → SS → Prop} (hC : Contract P f pre pargs R) (im : List Nat) {st : SS} {args : List SV} {K : SV → SS → Prop}
    (hd : distincts im) (hl : allLt st.nx im) (hlen : im.length = pre.nx) (hk : pre.k ≤ pre.nx) (hlt : pre.lt pre.nx)
    (h1 : hpSub false (fmap im st.nx) st.hp pre.hp) (h2 : tkSub (fmap im st.nx) st.tk pre.tk) (h3 : rsSub (fmap im st.nx) st.rs pre.rs) (ha : WL false (fmap im st.nx) pargs args)
    (hK : ∀ sv post, R sv post → K (ren (fmap (im.take pre.k) st.nx) sv) (st.back (lentOf im st.nx pre) (im.take pre.k) post)) : CallOK P f args st K := by
  refine .inl fun E w vs hw hv => ?_
  obtain ⟨κ, ho⟩ := hw.own
  have hinj := fmap_inj im st.nx hd hl
  let E' : Env := { w0 := w, S0 := fun b => ∃ key, κ b = some key ∧ key.name ∈ lentOf im st.nx pre, ρ := fun n => E.ρ (fmap im st.nx n), θ := fun n => E.θ (fmap im st.nx n), μ := E.μ, k := pre.k, Z := E.Z, hZ := fun b hb => E.hZ b (Nat.le_trans hw.size hb) }
  have hp : Pull false (fmap im st.nx) E E' := ⟨fun _ => rfl, fun _ => rfl, rfl, fun _ _ h => h⟩
  have hg : Good E' pre w := by
    refine ⟨rfl, hk, rfl, rfl, rfl, Nat.le_refl _, fun _ _ _ => rfl, hw.mu, fun n hn => hw.nxρ _ ?_, fun n hn => hw.nxθ _ ?_, _, ho.pull hinj hp h1 h2 h3 (fun n => fmap im st.nx n ∈ lentOf im st.nx pre) (fun n T ls e => List.mem_append_left _ (lentHp_find _ _ n T ls e)) (fun τ hτ => List.mem_append_right _ (List.mem_append_left _ (lentTk_mem _ _ τ hτ))) (fun r R hr => List.mem_append_right _ (List.mem_append_right _ (lentRs_mem _ _ r R hr))) ?_⟩
    · rw [fmap_ge im st.nx n (by omega)]; omega
    · rw [fmap_ge im st.nx n (by omega)]; omega
    · intro b key n hκ hn hN _
      exact .inr ⟨key, hκ, by rw [hn]; exact hN⟩
  obtain ⟨q1, q2⟩ := hC E' w vs rfl hg (WL_den hp _ _ _ ha hv)
  refine ⟨q1, q2.mono ?_⟩
  rintro e w' ⟨v, E1, post, sv, rfl, k1, k2, k3, k4⟩
  have hw0 : E1.w0 = w := k1.w0
  have hS0 : E1.S0 = fun b => ∃ key, κ b = some key ∧ key.name ∈ lentOf im st.nx pre := k1.S0
  have hkl : (im.take pre.k).length = pre.k := by simp; omega
  obtain ⟨E2, r1, r2, r3⟩ := back_good (ik := im.take pre.k) hw ho (distincts_take _ _ hd) (allLt_take _ _ hl) hw0 k1.Z hS0 (fun n b hn e => by rw [k1.ρ n (by show n < pre.k; omega)] at e; rw [fmap_take _ _ _ _ (by omega)]; exact e) (fun n b hn e => by rw [k1.θ n (by show n < pre.k; omega)] at e; rw [fmap_take _ _ _ _ (by omega)]; exact e) k1.μ (fun a v e => by
      rcases k1.μnew a v e with h | h
      · exact .inl h
      · exact .inr ((Mut.ext k1).1 h)) k2
  · exact ⟨v, E2, _, _, rfl, r1, r3, Den.ren r2 _ _ k3, ⟨rfl, rfl⟩, hK sv post k4⟩
end Go.Eng
/- The engine, part S: objects of the machine's own as resources; a range over a function. -/
namespace Go.Eng
open Go
set_option linter.unusedVariables false
set_option linter.unusedSimpArgs false

/-- More is known, whatever is frozen. -/
structure Le0 (E E' : Env) : Prop where
  ρ : ∀ n b, E.ρ n = some b → E'.ρ n = some b
  θ : ∀ n v, E.θ n = some v → E'.θ n = some v
  μ : ∀ a v, E.μ a = some v → E'.μ a = some v
  mt : ∀ b, E.Z b → E'.Z b
theorem TagOK.mono0 {E E' : Env} (h : Le0 E E') {sz : Nat} {v : Value} : ∀ {t : Tag}, TagOK E sz v t → TagOK E' sz v t
  | .old, _ => trivial
  | .new, k => fun a n c e => h.mt _ (k a n c e)
  | .nil, k => k
  | .tok τ b, k => ⟨TokV.to (fun v => h.θ _ v) k.1, fun hb a n c e => h.mt _ (k.2 hb a n c e)⟩

theorem IsInts.mono0 {E E' : Env} (h : Le0 E E') {k : IntKind} {tg : Tag} {l : List Int} {v : Value} : IsInts E k tg l v → IsInts E' k tg l v
  | ⟨a, cap, h1, h2, h3, h4, h5⟩ => ⟨a, cap, h1, h2, h3, fun i x e => let ⟨b, off, p, q⟩ := h4 i x e; ⟨b, off, p, h.μ _ _ q⟩, h5.mono0 h⟩

mutual
theorem Den.mono0 {E E' : Env} (h : Le0 E E') : ∀ (x : SV) (v : Value), Den E x v → Den E' x v
  | .i k n, v, hd => by simpa only [Den] using hd
  | .b c, v, hd => by simpa only [Den] using hd
  | .s x, v, hd => by simpa only [Den] using hd
  | .ptr n off, v, hd => by
      simp only [Den] at hd ⊢
      obtain ⟨b, h1, h2⟩ := hd
      exact ⟨b, h.ρ _ _ h1, h2⟩
  | .nilp, v, hd => by simpa only [Den] using hd
  | .ints k tg l, v, hd => by
      simp only [Den] at hd ⊢
      exact hd.mono0 h
  | .sl sz tg n el, v, hd => by
      simp only [Den] at hd ⊢
      obtain ⟨a, cap, h1, h2, h3, h4, h5⟩ := hd
      refine ⟨a, cap, h1, h2, h3, fun i hi => ?_, h5.mono0 h⟩
      obtain ⟨b, off, p, q⟩ := h4 i hi
      refine ⟨b, off, p, fun j hj => ?_⟩
      obtain ⟨x, r, s⟩ := q j hj
      exact ⟨x, h.μ _ _ r, Den.mono0 h (el i j) x s⟩
  | .ep n get, v, hd => by
      simp only [Den] at hd ⊢
      obtain ⟨b, off, p, q⟩ := hd
      refine ⟨b, off, p, fun d hd => ?_⟩
      obtain ⟨x, r, s⟩ := q d hd
      exact ⟨x, h.μ _ _ r, Den.mono0 h (get d) x s⟩
  | .agg l, v, hd => by
      simp only [Den] at hd ⊢
      obtain ⟨cs, p, q⟩ := hd
      exact ⟨cs, p, DenL.mono0 h l cs q⟩
  | .tup l, v, hd => by
      simp only [Den] at hd ⊢
      obtain ⟨cs, p, q⟩ := hd
      exact ⟨cs, p, DenL.mono0 h l cs q⟩
  | .nili, v, hd => by simpa only [Den] using hd
  | .ifc t x, v, hd => by
      simp only [Den] at hd ⊢
      obtain ⟨y, p, q⟩ := hd
      exact ⟨y, p, Den.mono0 h x y q⟩
  | .fn f first cap, v, hd => by
      simp only [Den] at hd ⊢
      obtain ⟨fs, cs, p, q, r⟩ := hd
      exact ⟨fs, cs, p, DenL.mono0 h first fs q, DenL.mono0 h cap cs r⟩
  | .nilf, v, hd => by simpa only [Den] using hd
  | .raw x, v, hd => by simpa only [Den] using hd
  | .cnd g x, v, hd => by
      simp only [Den] at hd ⊢
      exact ⟨fun e => Den.mono0 h x v (hd.1 e), hd.2⟩
  | .any, v, hd => by simp only [Den]
theorem DenL.mono0 {E E' : Env} (h : Le0 E E') : ∀ (l : List SV) (cs : List Value), DenL E l cs → DenL E' l cs
  | [], [], _ => by simp only [DenL]
  | x :: xs, v :: vs, hd => by
      simp only [DenL] at hd ⊢
      exact ⟨Den.mono0 h x v hd.1, DenL.mono0 h xs vs hd.2⟩
  | [], _ :: _, hd => by simp only [DenL] at hd
  | _ :: _, [], hd => by simp only [DenL] at hd
end

def rsCut : List (Nat × Res) → Nat → List (Nat × Res)
  | [], _ => []
  | (m, Q) :: t, r => if m = r then rsCut t r else (m, Q) :: rsCut t r
theorem rsCut_mem {r : Nat} : ∀ {l : List (Nat × Res)} {m : Nat} {Q : Res}, (m, Q) ∈ rsCut l r → m ≠ r ∧ (m, Q) ∈ l
  | (n, S) :: t, m, Q, h => by
    simp only [rsCut] at h
    split at h
    · exact ⟨(rsCut_mem h).1, List.mem_cons_of_mem _ (rsCut_mem h).2⟩
    · rename_i e
      rcases List.mem_cons.1 h with h | h
      · injection h with h1 h2
        exact ⟨by rw [h1]; exact e, by rw [h1, h2]; exact List.mem_cons_self⟩
      · exact ⟨(rsCut_mem h).1, List.mem_cons_of_mem _ (rsCut_mem h).2⟩

/-- A resource's own place is written. -/
theorem Good.reres {E : Env} {st : SS} {w : World} (h : Good E st w) {r b : Nat} {o : Obj} (hr : (r, RObj b o) ∈ st.rs) :
    w.heap[b]? = some o ∧ ∀ w' : World, (∀ c, c ≠ b → w'.heap[c]? = w.heap[c]?) → w'.heap.size = w.heap.size → w'.os = w.os → w'.tape = w.tape → w'.output = w.output →
      Good E { st with rs := rsCut st.rs r } w' ∧ ∀ o', w'.heap[b]? = some o' → Good E { st with rs := rsSet st.rs r (RObj b o') } w' := by
  obtain ⟨κ, hk⟩ := h.own
  obtain ⟨F, ⟨hF, hb, hμb⟩, hF2⟩ := hk.rs _ _ hr
  obtain ⟨hlt, hκ, hmut⟩ := hF2 b hF
  refine ⟨hb, fun w' hother hsz hos htape hout => ?_⟩
  have cell : ∀ ad v, E.μ ad = some v → w'.cell? ad = some v := fun ad v e => by
    have : ad.block ≠ b := hμb ad v e
    rw [World.cell?_of_block (hother _ this)]; exact h.mu ad v e
  have old : ∀ c, c < E.w0.heap.size → ¬ E.S0 c → w'.heap[c]? = E.w0.heap[c]? := fun c hc hs => by
    rw [hother c]
    · exact h.old c hc hs
    · rintro rfl
      rcases hmut with hm | hm
      · omega
      · exact hs hm
  have own : ∀ rs', (∀ m Q, (m, Q) ∈ rs' → (m ≠ r ∧ (m, Q) ∈ st.rs) ∨ (m = r ∧ ∃ o', Q = RObj b o' ∧ w'.heap[b]? = some o')) → Owns E { st with rs := rs' } w' κ := by
    intro rs' hrs
    refine ⟨fun n T ls e => ?_, fun τ hτ => ?_, fun m Q hm => ?_, hk.mu, fun c k e => by rw [hsz]; exact hk.dom c k e⟩
    · obtain ⟨c, cs, q1, q2, q3, q4, q5⟩ := hk.hp n T ls e
      have hne : c ≠ b := by rintro rfl; rw [hκ] at q4; cases q4
      exact ⟨c, cs, q1, by rw [hother c hne]; exact q2, q3, q4, q5⟩
    · obtain ⟨sz, a, len, cap, q1, q2, q3⟩ := hk.tk τ hτ
      refine ⟨sz, a, len, cap, q1, q2, ?_⟩
      rcases q3 with q3 | ⟨c, off, T, cs, q4, q5, q6, q7, q8, q9⟩
      · exact .inl q3
      · have hne : c ≠ b := by rintro rfl; rw [hκ] at q5; cases q5
        exact .inr ⟨c, off, T, cs, q4, q5, q6, q7.congr (hother c hne), q8, q9⟩
    · rcases hrs m Q hm with ⟨q1, q2⟩ | ⟨rfl, o', rfl, q2⟩
      · obtain ⟨G, p1, p2⟩ := hk.rs m Q q2
        have hne : ∀ c, G c → c ≠ b := by rintro c hG rfl; have := (p2 _ hG).2.1; rw [hκ] at this; injection this with this; injection this with this; exact q1 this.symm
        exact ⟨G, Q.loc p1 (fun c hc => hother c (hne c hc)), fun c hc => ⟨by rw [hsz]; exact (p2 c hc).1, (p2 c hc).2⟩⟩
      · exact ⟨fun c => c = b, ⟨rfl, q2, hμb⟩, fun c hc => by subst hc; exact ⟨by rw [hsz]; exact hlt, hκ, hmut⟩⟩
  refine ⟨⟨h.k, h.kx, hos.trans h.os, htape.trans h.tape, hout.trans h.output, by rw [hsz]; exact h.size, old, cell, h.nxρ, h.nxθ, κ, own _ fun m Q hm => .inl (rsCut_mem hm)⟩, fun o' ho' =>
    ⟨h.k, h.kx, hos.trans h.os, htape.trans h.tape, hout.trans h.output, by rw [hsz]; exact h.size, old, cell, h.nxρ, h.nxθ, κ, own _ fun m Q hm => ?_⟩⟩
  rcases rsSet_mem hm with ⟨q1, q2⟩ | q
  · exact .inr ⟨q1, o', q2, ho'⟩
  · exact .inl q

/-- Another frame, other names frozen. -/
theorem Good.rek {E : Env} {st : SS} {w : World} (h : Good E st w) (k : Nat) (hk : k ≤ st.nx) (fr : List SV) (df : List Nat) : Good { E with k := k } { st with fr := fr, k := k, df := df } w := by
  obtain ⟨κ, ho⟩ := h.own
  have le : Le0 E { E with k := k } := ⟨fun _ _ h => h, fun _ _ h => h, fun _ _ h => h, fun _ h => h⟩
  exact ⟨rfl, hk, h.os, h.tape, h.output, h.size, h.old, h.mu, h.nxρ, h.nxθ, κ, fun n T ls e => let ⟨b, cs, q1, q2, q3, q4, q5⟩ := ho.hp n T ls e; ⟨b, cs, q1, q2, DenL.mono0 le _ _ q3, q4, q5⟩, ho.tk, ho.rs, ho.mu, ho.dom⟩

theorem Env.Ext.le0 {E E' : Env} (h : E.Ext E') (hρ : ∀ n b, E.ρ n = some b → n < E.k) (hθ : ∀ n b, E.θ n = some b → n < E.k) : Le0 E E' :=
  ⟨fun n b e => by rw [h.ρ n (hρ n b e)]; exact e, fun n b e => by rw [h.θ n (hθ n b e)]; exact e, h.μ, fun b hb => by rw [h.Z]; exact hb⟩

theorem denL_undef' (E : Env) : ∀ n, DenL E (List.replicate n (.raw undef)) (List.replicate n undef)
  | 0 => by simp only [List.replicate_zero, DenL]
  | n + 1 => by simp only [List.replicate_succ, DenL, Den]; exact ⟨trivial, denL_undef' E n⟩
theorem run_callFunc' {P : Program} {f : FuncId} {fn : Func} {c : Code} (hfn : P.funcs[f]? = some fn) (hb : fn.body = some c) (hnm : (fn.name == "runtime.NumGoroutine") = false) (ars : Array Value) (w : World) :
    (callFunc f ars).run P w = .ok (.enter f ars) w := by
  simp [callFunc, hfn, hb]
  intro h
  simp [h] at hnm
end Go.Eng
/- The engine, part T: a range over a function. -/
namespace Go.Eng
open Go
set_option linter.unusedVariables false
set_option linter.unusedSimpArgs false

/-- What the loop's record says, whatever its state. -/
structure RF where
  fn : FuncId
  tmps : Array Value
  ps : Array Tmp
  assign : Code
  body : Code
  D : Nat
def RF.loop (x : RF) (st : LoopState) (pe : Option Code) : Loop := { state := st, pending := pe, fn := x.fn, tmps := x.tmps, params := x.ps, assign := x.assign, body := x.body, defers := x.D }
def RF.res (x : RF) (l : Nat) (st : LoopState) (pe : Option Code) : Res := RObj l (.loop (x.loop st pe))

def pendK (K : Ex → SS → Prop) : Option Code → SS → Prop
  | none, s => K .normal s
  | some .ret, s => K .ret s
  | some (.exit i), s => K (.exit i) s
  | some (.goto i), s => K (.goto i) s
  | _, _ => False

/-- The iterator's frame, as it is entered. -/
def SS.iter (s : SS) (cap : List SV) (n : Nat) (x : RF) (l : Nat) : SS :=
  { s with fr := (.raw (.func (.yield l) #[] #[]) :: cap) ++ List.replicate (n - (cap.length + 1)) (.raw undef), rs := (s.nx + 1, x.res l .ready none) :: (s.nx, RObj x.D (.deferred (some []))) :: s.rs, nx := s.nx + 2, k := s.nx + 2, df := [] }

def iterEnd (s : SS) (x : RF) (l : Nat) (K : Ex → SS → Prop) (t : SS) : Prop :=
  t.df = [] ∧ s.nx + 2 ≤ t.nx ∧ ∃ st pe, st ≠ .busy ∧ (s.nx + 1, x.res l st pe) ∈ t.rs ∧ pendK K pe { t with fr := s.fr, rs := rsCut t.rs (s.nx + 1), k := s.k, df := x.D :: s.df }

def iterK (s : SS) (x : RF) (l : Nat) (K : Ex → SS → Prop) : Ex → SS → Prop
  | .normal, t => iterEnd s x l K t
  | .ret, t => iterEnd s x l K t
  | _, _ => False

theorem putObj_frame (w : World) (b : Nat) (o : Obj) : (∀ c, c ≠ b → (w.putObj b o).heap[c]? = w.heap[c]?) ∧ (w.putObj b o).heap.size = w.heap.size ∧ (w.putObj b o).os = w.os ∧ (w.putObj b o).tape = w.tape ∧ (w.putObj b o).output = w.output :=
  ⟨fun c hc => World.putObj_heap_other hc, World.putObj_size, rfl, rfl, rfl⟩

theorem rf_ok {P : Program} {Γ : Tab} (hΓ : Γ.ok P) {B : Ctx} (hrd : B.rd = none) {g : Operand} {ps : Array Tmp} {assign body : Code} {s : SS} {K : Ex → SS → Prop} {gf : Nat} {cap : List SV} {fnG : Func} {cG : Code} (stop : List Nat)
    (hg : opd s g = .fn (.func gf) [] cap) (hgc : ovc s true g) (hfn : P.funcs[gf]? = some fnG) (hbody : fnG.body = some cG) (hres : fnG.results = #[]) (hnm : (fnG.name == "runtime.NumGoroutine") = false)
    (h : ∀ (E1 : Env) (x : RF) (l : Nat), E1.k = s.nx + 2 → (∀ n b, E1.ρ n = some b → n < E1.k) → (∀ n b, E1.θ n = some b → n < E1.k) → DenL E1 s.fr x.tmps.toList → x.ps = ps → x.assign = assign → x.body = body →
      CodeOK P ⟨some E1, none, stop⟩ cG (s.iter cap fnG.ntmps x l) (iterK s x l K)) : CodeOK P B (.rangeFunc g ps assign body) s K := by
  intro E a w hb hf hw
  rw [hrd]
  refine wpIn_rangeFunc (fun fn _ => ?_)
  have hd := opd_den hf rfl hgc
  rw [hg] at hd
  simp only [Den] at hd
  obtain ⟨fs, cs, ev, d1, d2⟩ := hd
  obtain rfl : fs = [] := by cases fs with | nil => rfl | cons _ _ => simp only [DenL] at d1
  let x : RF := ⟨fn, a.tmps, ps, assign, body, w.heap.size⟩
  let l := w.heap.size + 1
  let W1 := (w.alloc (.deferred (some []))).alloc (.loop (x.loop .ready none))
  refine ⟨l, [mkD w.heap.size], W1, { target := .fn (.func gf) cs.toArray, args := #[.func (.yield l) #[] #[]] }, W1, gf, #[.func (.yield l) #[] #[]] ++ cs.toArray, W1, run_enterLoop_outer _ _ _ _ _, ?_, fun _ _ => trivial, ?_, fun h => by simp [wideR, Fence.wide] at h, ?_⟩
  · simp only [resolve, ev]
    simp [Deferred.ofValue, Act.eval]
  · simp only [invoke]
    exact run_callFunc' hfn hbody hnm _ _
  let E1 : Env := { E with k := s.nx + 2 }
  have hg1 : Good E1 (s.iter cap fnG.ntmps x l) W1 := by
    have h1 := (hw.alloc_res (.deferred (some []))).alloc_res (.loop (x.loop .ready none))
    have h2 := h1.rek (s.nx + 2) (Nat.le_refl _) ((.raw (.func (.yield l) #[] #[]) :: cap) ++ List.replicate (fnG.ntmps - (cap.length + 1)) (.raw undef)) []
    simp only [size_alloc'] at h2
    exact h2
  have le1 : Le0 E E1 := ⟨fun _ _ h => h, fun _ _ h => h, fun _ _ h => h, fun _ h => h⟩
  have bρ : ∀ n b, E1.ρ n = some b → n < E1.k := fun n b e => by
    show n < s.nx + 2
    by_cases hn : s.nx ≤ n
    · rw [show E1.ρ n = E.ρ n from rfl, hw.nxρ n hn] at e; cases e
    · omega
  have bθ : ∀ n b, E1.θ n = some b → n < E1.k := fun n b e => by
    show n < s.nx + 2
    by_cases hn : s.nx ≤ n
    · rw [show E1.θ n = E.θ n from rfl, hw.nxθ n hn] at e; cases e
    · omega
  have hlen := denL_length _ _ d2
  refine callsIn_of_wp_marks hfn hbody trivial ?_
  refine wpIn_mono (h E1 x l rfl bρ bθ (DenL.mono0 le1 _ _ hf.tmps) rfl rfl rfl E1 _ W1 (fun E0 e => by injection e with e; subst e; exact Env.Ext.refl _) ⟨?_, rfl⟩ hg1) ?_
  · show DenL E1 ((.raw (.func (.yield l) #[] #[]) :: cap) ++ List.replicate (fnG.ntmps - (cap.length + 1)) (.raw undef)) _
    have := denL_append (E := E1) (.raw (.func (.yield l) #[] #[]) :: cap) (List.replicate (fnG.ntmps - (cap.length + 1)) (.raw undef)) (.func (.yield l) #[] #[] :: cs) _ (by simp only [DenL, Den]; exact ⟨trivial, DenL.mono0 le1 _ _ d2⟩) (denL_undef' E1 _)
    simpa [hlen, Nat.add_comm] using this
  · rintro e a' w' ⟨E2, t, y, q1, q2, q3, q4, q5⟩
    have key : iterEnd s x l K t → LeavesInM (wideR none) (0 - 1) P fnG a'.tmps (rangePost (wideR none) 0 P l (QK E K) { a with defers := [mkD w.heap.size] ++ a.defers }) a'.defers .returning w' := by
      rintro ⟨k1, k2, st, pe, k3, k4, k5⟩
      rw [q2.defers, k1]
      obtain ⟨p1, p2⟩ := q3.reres k4
      obtain ⟨v, r1, _⟩ := results_run (P := P) hΓ q2 q3 (fn := fnG) (l := []) (vc := True) (by rw [hres]; rfl) trivial
      have hend := run_endLoop (P := P) p1 (by exact k3)
      obtain ⟨f1, f2, f3, f4, f5⟩ := putObj_frame w' l (.loop { x.loop st pe with state := .exhausted })
      have hg2 := ((p2 _ f1 f2 f3 f4 f5).1).rek s.k (show s.k ≤ t.nx by have := hw.kx; omega) s.fr (x.D :: s.df)
      have le2 : E.Ext { E2 with k := s.k } := by
        refine ⟨hw.k.symm, fun n hn => ?_, fun n hn => ?_, q1.w0, q1.S0, q1.μ, q1.μnew, q1.Z⟩
        · exact q1.ρ n (by show n < s.nx + 2; have := hw.k; have := hw.kx; omega)
        · exact q1.θ n (by show n < s.nx + 2; have := hw.k; have := hw.kx; omega)
      have le3 : Le0 E { E2 with k := s.k } := ⟨fun n b e => by
          show E2.ρ n = some b
          rw [q1.ρ n (bρ n b e)]; exact e, fun n b e => by
          show E2.θ n = some b
          rw [q1.θ n (bθ n b e)]; exact e, q1.μ, fun b hb => by show E2.Z b; rw [q1.Z]; exact hb⟩
      have hf2 : Fr { E2 with k := s.k } { t with fr := s.fr, rs := rsCut t.rs (s.nx + 1), k := s.k, df := x.D :: s.df } { a with defers := [mkD w.heap.size] ++ a.defers } := by
        refine ⟨DenL.mono0 le3 _ _ hf.tmps, ?_⟩
        show [mkD w.heap.size] ++ a.defers = List.map mkD (x.D :: s.df)
        rw [hf.defers]; rfl
      refine ⟨v, r1, pe, _, hend, ?_⟩
      cases pe with
      | none => exact ⟨_, _, .normal, le2, hf2, hg2, trivial, k5⟩
      | some c =>
        cases c <;> simp only [pendK] at k5
        · exact wpIn_exit ⟨_, _, .exit _, le2, hf2, hg2, rfl, k5⟩
        · exact wpIn_goto ⟨_, _, .goto _, le2, hf2, hg2, rfl, k5⟩
        · exact wpIn_ret ⟨_, _, .ret, le2, hf2, hg2, trivial, k5⟩
    cases y <;> cases e <;> simp only [ExRel] at q4 <;> simp only [iterK] at q5
    · exact key q5
    · exact key q5

def setPs : List Nat → List SV → List SV → List SV
  | p :: ps, v :: vs, fr => setPs ps vs (lset fr p v)
  | _, _, fr => fr

theorem setPs_den {E : Env} : ∀ (ps : List Nat) (xs : List SV) (vs : List Value) (fr : List SV) (tmps : Array Value), DenL E fr tmps.toList → DenL E xs vs →
    DenL E (setPs ps xs fr) ((ps.zip vs).foldl (fun (t : Array Value) (p : Nat × Value) => t.setIfInBounds p.1 p.2) tmps).toList
  | [], xs, vs, fr, tmps, h, _ => by simpa [setPs] using h
  | p :: ps, [], [], fr, tmps, h, _ => by simpa [setPs] using h
  | p :: ps, [], _ :: _, fr, tmps, h, k => by simp only [DenL] at k
  | p :: ps, _ :: _, [], fr, tmps, h, k => by simp only [DenL] at k
  | p :: ps, x :: xs, v :: vs, fr, tmps, h, k => by
    simp only [DenL] at k
    simp only [setPs, List.zip_cons_cons, List.foldl_cons]
    exact setPs_den ps xs vs _ _ (by simpa using denL_set _ _ _ _ _ h k.1) k.2

def roundEnd (x : RF) (l r : Nat) (t1 : SS) (dst : Option Tmp) (K : SS → Prop) (pe : Option Code) (b : SS) : Prop :=
  t1.nx ≤ b.nx ∧ (r, x.res l .busy none) ∈ b.rs ∧ K (SS.put { b with fr := t1.fr, rs := rsSet b.rs r (x.res l (if pe.isNone then .ready else .done) pe), k := t1.k, df := t1.df } dst (.b pe.isNone))

def roundK (x : RF) (l r : Nat) (t1 : SS) (dst : Option Tmp) (K : SS → Prop) : Ex → SS → Prop
  | .normal, b => roundEnd x l r t1 dst K none b
  | .ret, b => roundEnd x l r t1 dst K (some .ret) b
  | .exit i, b => roundEnd x l r t1 dst K (some (.exit i)) b
  | .goto i, b => roundEnd x l r t1 dst K (some (.goto i)) b

def assignK (P : Program) (x : RF) (l r : Nat) (t1 : SS) (dst : Option Tmp) (stop : List Nat) (K : SS → Prop) : Ex → SS → Prop
  | .normal, b => t1.nx ≤ b.nx ∧ (r, x.res l .ready none) ∈ b.rs ∧ CodeOK P ⟨none, some l, stop⟩ x.body { b with rs := rsSet b.rs r (x.res l .busy none) } (roundK x l r t1 dst K)
  | _, _ => False

/-- What is asked where yield is called. -/
def YOK (P : Program) (x : RF) (l r : Nat) (sfr : List SV) (stop : List Nat) (o : Oper) (K : SS → Prop) (t1 : SS) : Prop :=
  match o.op with
  | .call c =>
    match c.callee with
    | .value f => o.guard = none ∧ opd t1 f = .raw (.func (.yield l) #[] #[]) ∧ ovc t1 true f ∧ ovcL t1 true c.args.toList ∧ c.args.size = x.ps.size ∧ (r, x.res l .ready none) ∈ t1.rs ∧
        CodeOK P ⟨none, some l, stop⟩ x.assign { t1 with fr := setPs x.ps.toList (c.args.toList.map (opd t1)) sfr, k := t1.nx, df := [] } (assignK P x l r t1 o.dst stop K)
    | _ => False
  | _ => False
theorem YOK_eq {P : Program} {x : RF} {l r : Nat} {sfr : List SV} {stop : List Nat} {o : Oper} {K : SS → Prop} {t1 : SS} : YOK P x l r sfr stop o K t1 =
  (match o.op with
  | .call c =>
    match c.callee with
    | .value f => o.guard = none ∧ opd t1 f = .raw (.func (.yield l) #[] #[]) ∧ ovc t1 true f ∧ ovcL t1 true c.args.toList ∧ c.args.size = x.ps.size ∧ (r, x.res l .ready none) ∈ t1.rs ∧
        CodeOK P ⟨none, some l, stop⟩ x.assign { t1 with fr := setPs x.ps.toList (c.args.toList.map (opd t1)) sfr, k := t1.nx, df := [] } (assignK P x l r t1 o.dst stop K)
    | _ => False
  | _ => False) := rfl

theorem evStill_list {P : Program} {Γ : Tab} (hΓ : Γ.ok P) {rd : Option Nat} {ops : List Oper} {K : SS → Prop} {Q : Exit → Act → World → Prop} (hQ : ¬ LetsOut Q) {E : Env} {w : World} (rest : List Oper) :
    ∀ (l : List Oper) (st : SS) (a : Act), Fr E st a → Good E st w → evStill P Γ ops K l st →
      (∀ st' a', Fr E st' a' → Good E st' w → K st' → wpListIn (wideR rd) 0 P ops.toArray Q rest a' w) → wpListIn (wideR rd) 0 P ops.toArray Q (l ++ rest) a w
  | [], st, a, hf, hw, h, hK => hK st a hf hw h
  | o :: r, st, a, hf, hw, h, hK => by
    have hg := evGuard_sound (E := E) hf (ops := ops) (o := o)
    simp only [evStill] at h
    simp only [List.cons_append, wpListIn]
    split at h
    · exact h.elim
    · rename_i e1
      rw [if_pos (hg.1 e1)]
      split at h
      · rename_i v vc e2
        obtain ⟨h1, h2⟩ := h
        obtain ⟨x, k1, k2⟩ := evalP_sound hΓ hf hw rfl e2 h1
        exact wpIn_of (evalP_defer e2) hQ (wp_value k1 (evStill_list hΓ hQ rest r _ _ (hf.put _ k2) (hw.put _ _) h2 hK))
      · exact h.elim
    · rename_i g e1
      have hgw := hg.2 g e1
      split at h
      · rename_i v vc e2
        obtain ⟨h1, h2⟩ := h
        cases g with
        | true =>
          rw [if_pos hgw]
          obtain ⟨x, k1, k2⟩ := evalP_sound hΓ hf hw rfl e2 (h1 rfl)
          exact wpIn_of (evalP_defer e2) hQ (wp_value k1 (evStill_list hΓ hQ rest r _ _ (hf.put _ (by simp only [Den]; exact ⟨fun _ => k2, fun h => by simp at h⟩)) (hw.put _ _) h2 hK))
        | false =>
          rw [if_neg (by rw [hgw]; simp)]
          exact ⟨fun _ _ => trivial, evStill_list hΓ hQ rest r _ _ (hf.put _ (by simp only [Den]; exact ⟨fun h => by simp at h, fun _ => by trivial⟩)) (hw.put _ _) h2 hK⟩
      · exact h.elim

theorem yield_ok {P : Program} {Γ : Tab} (hΓ : Γ.ok P) {E1 : Env} {x : RF} {l : Nat} {sfr : List SV} (bρ : ∀ n b, E1.ρ n = some b → n < E1.k) (bθ : ∀ n b, E1.θ n = some b → n < E1.k) (hden : DenL E1 sfr x.tmps.toList)
    {stop : List Nat} (r : Nat) (stopB : List Nat) (n : Nat) {id : Nat} {L : List Oper} {t : SS} {K : Ex → SS → Prop} {o : Oper} {rest : List Oper} (hL : L = L.take n ++ o :: rest)
    (h : evStill P Γ L (YOK P x l r sfr stopB o (evStill P Γ L (K .normal) rest)) (L.take n) t) : CodeOK P ⟨some E1, none, stop⟩ (.region id L.toArray false) t K := by
  intro E a w hb hf hw
  have hx := hb E1 rfl
  refine wpIn_region_lit ?_
  have main := evStill_list (rd := none) (Q := QK E K) hΓ not_letsOut (o :: rest) (L.take n) t a hf hw h (fun t1 a1 f1 g1 hY => ?_)
  · rw [← hL] at main; exact main
  unfold YOK at hY
  split at hY
  · rename_i c hop
    split at hY
    · rename_i f hcal
      obtain ⟨y0, y1, y2, y3, y4, y5, y6⟩ := hY
      simp only [wpListIn]
      rw [if_pos (by unfold Region.wanted; rw [y0])]
      refine ⟨fun _ _ => trivial, ?_⟩
      have hv := opd_den f1 rfl y2
      rw [y1] at hv
      simp only [Den] at hv
      have hargs := denL_ops f1 rfl _ y3
      obtain ⟨p1, p2⟩ := g1.reres y5
      have hrun : (o.semAt (wideR none).round a1.eval).run P w = .ok (.round l x.fn ((x.ps.zip (c.args.map a1.eval)).foldl (fun t (p : Nat × Value) => t.setIfInBounds p.1 p.2) x.tmps) x.assign x.body) w := by
        have hy := run_yield (P := P) (args := c.args.map a1.eval) p1 (by rw [Array.size_map]; exact y4)
        show (execOp a1.eval o).run P w = _
        simp only [execOp, hop, resolve, hcal, hv, Deferred.ofValue, Sem.run_bind, Sem.run_pure, Result.andThen_ok, invoke]
        simpa [RF.loop] using hy
      rw [hrun, Oper.uponIn_round]
      refine ⟨fun h => by simp [wideR, Fence.wide] at h, roundIn_of_wpIn trivial ?_⟩
      let E' : Env := { E with k := t1.nx }
      have le0 : Le0 E1 E' := let k := hx.le0 bρ bθ; ⟨k.ρ, k.θ, k.μ, k.mt⟩
      have leE : Le0 E E' := ⟨fun _ _ h => h, fun _ _ h => h, fun _ _ h => h, fun _ h => h⟩
      have hfb : Fr E' { t1 with fr := setPs x.ps.toList (c.args.toList.map (opd t1)) sfr, k := t1.nx, df := [] } { tmps := (x.ps.zip (c.args.map a1.eval)).foldl (fun t (p : Nat × Value) => t.setIfInBounds p.1 p.2) x.tmps, defers := [] } := by
        refine ⟨?_, rfl⟩
        have := setPs_den (E := E') x.ps.toList (c.args.toList.map (opd t1)) (c.args.toList.map a1.eval) sfr x.tmps (DenL.mono0 le0 _ _ hden) (DenL.mono0 leE _ _ hargs)
        rw [← Array.foldl_toList]
        simpa [Array.toList_zip] using this
      have hgb := g1.rek t1.nx (Nat.le_refl _) (setPs x.ps.toList (c.args.toList.map (opd t1)) sfr) []
      refine wpIn_mono (y6 E' _ w (fun E0 e => by cases e) hfb hgb) ?_
      rintro e a2 w2 ⟨E2, b1, y, q1, q2, q3, q4, q5⟩
      cases y <;> cases e <;> simp only [ExRel] at q4 <;> simp only [assignK] at q5
      obtain ⟨k0, k1, k2⟩ := q5
      obtain ⟨p3, p4⟩ := q3.reres k1
      obtain ⟨f1', f2', f3', f4', f5'⟩ := putObj_frame w2 l (.loop { x.loop .ready none with state := .busy })
      have g2 := (p4 _ f1' f2' f3' f4' f5').2 (.loop (x.loop .busy none)) (World.putObj_heap_same (Array.getElem?_eq_some_iff.1 p3).1)
      refine ⟨_, run_beginRound p3 rfl, ?_⟩
      refine wpIn_mono (k2 E2 a2 _ (fun E0 e => by cases e) ⟨q2.tmps, q2.defers⟩ g2) ?_
      rintro e a3 w3 ⟨E3, b2, y, r1, r2, r3, r4, r5⟩
      have hext : E'.Ext E3 := q1.trans r1
      have key : ∀ pe, roundEnd x l r t1 o.dst (evStill P Γ L (K .normal) rest) pe b2 → ∃ v w', (Instr.endRound l pe).run P w3 = .ok v w' ∧ wpListIn (wideR none) 0 P L.toArray (QK E K) rest (a1.put o.dst v) w' := by
        rintro pe ⟨m1, m2, m3⟩
        obtain ⟨p5, p6⟩ := r3.reres m2
        obtain ⟨h1, h2, h3, h4, h5⟩ := putObj_frame w3 l (.loop { x.loop .busy none with state := if pe.isNone then .ready else .done, pending := pe })
        have g3 := ((p6 _ h1 h2 h3 h4 h5).2 (.loop (x.loop (if pe.isNone then .ready else .done) pe)) (World.putObj_heap_same (Array.getElem?_eq_some_iff.1 p5).1)).rek t1.k (Nat.le_trans g1.kx m1) t1.fr t1.df
        have le2 : E.Ext { E3 with k := t1.k } := by
          refine ⟨g1.k.symm, fun n hn => ?_, fun n hn => ?_, hext.w0, hext.S0, hext.μ, hext.μnew, hext.Z⟩
          · exact hext.ρ n (by show n < t1.nx; have := g1.k; have := g1.kx; omega)
          · exact hext.θ n (by show n < t1.nx; have := g1.k; have := g1.kx; omega)
        have le3 : Le0 E { E3 with k := t1.k } := ⟨fun n b e => by
            show E3.ρ n = some b
            rw [hext.ρ n (by show n < t1.nx; by_cases hn : t1.nx ≤ n; · rw [g1.nxρ n hn] at e; cases e
                             · omega)]; exact e, fun n b e => by
            show E3.θ n = some b
            rw [hext.θ n (by show n < t1.nx; by_cases hn : t1.nx ≤ n; · rw [g1.nxθ n hn] at e; cases e
                             · omega)]; exact e, hext.μ, fun b hb => by show E3.Z b; rw [hext.Z]; exact hb⟩
        refine ⟨_, _, run_endRound pe p5, ?_⟩
        have f4 : Fr { E3 with k := t1.k } { b2 with fr := t1.fr, rs := rsSet b2.rs r (x.res l (if pe.isNone then .ready else .done) pe), k := t1.k, df := t1.df } a1 := ⟨DenL.mono0 le3 _ _ f1.tmps, f1.defers⟩
        have := evStill_list (rd := none) (Q := QK E K) hΓ not_letsOut [] rest _ _ (f4.put o.dst (x := .b pe.isNone) (v := .bool pe.isNone) (by simp only [Den])) (g3.put _ _) m3 (fun t3 a3 f3 g3 h3 => ⟨_, t3, .normal, le2, f3, g3, trivial, h3⟩)
        simpa using this
      cases y <;> cases e <;> simp only [ExRel] at r4 <;> simp only [roundK] at r5
      · obtain ⟨v, w', z1, z2⟩ := key _ r5
        exact ⟨v, w', z1, z2⟩
      · obtain ⟨v, w', z1, z2⟩ := key _ r5
        exact ⟨v, w', z1, z2⟩
      · subst r4
        obtain ⟨v, w', z1, z2⟩ := key _ r5
        exact ⟨v, w', z1, z2⟩
      · subst r4
        obtain ⟨v, w', z1, z2⟩ := key _ r5
        exact ⟨v, w', z1, z2⟩
    · exact hY.elim
  · exact hY.elim
end Go.Eng
/- The engine, part Q: a contract out of a function's code. -/
namespace Go.Eng
open Go
set_option linter.unusedVariables false
set_option linter.unusedSimpArgs false

def idTo (im : List Nat) (nx : Nat) : Nat → Prop
  | 0 => True
  | n + 1 => fmap im nx n = n ∧ idTo im nx n
theorem idTo_all {im : List Nat} {nx : Nat} : ∀ {k : Nat}, idTo im nx k → ∀ n, n < k → fmap im nx n = n
  | 0, _, n, h => by omega
  | k + 1, hi, n, h => by
    simp only [idTo] at hi
    by_cases e : n = k
    · rw [e]; exact hi.1
    · exact idTo_all hi.2 n (by omega)

/-- The end: under names 'im' the state says what is promised. -/
def FinB (R : SV → SS → Prop) (sv : SV) (s : SS) : Prop :=
  ∃ im psv post, (distincts im ∧ allLt s.nx im ∧ im.length ≤ post.nx ∧ post.k = s.k ∧ post.k ≤ post.nx ∧ idTo im s.nx s.k) ∧ W false (fmap im s.nx) psv sv ∧
    hpSub false (fmap im s.nx) s.hp post.hp ∧ tkSub (fmap im s.nx) s.tk post.tk ∧ rsSub (fmap im s.nx) s.rs post.rs ∧ R psv post

/-- The same, where a nil slice that is handed back may have a token. -/
def Fin (R : SV → SS → Prop) (sv : SV) (s : SS) : Prop :=
  FinB R sv s ∨ ∃ k, sv = .ints k .nil [] ∧ FinB R (.ints k (.tok s.nx true) []) { s with tk := s.nx :: s.tk, nx := s.nx + 1 }

/-- The marks that ranges over functions have left, taken off. -/
def markK : List Nat → List (Nat × Res) → (List (Nat × Res) → Prop) → Prop
  | [], rs, K => K rs
  | D :: ds, rs, K => ∃ r, (r, RObj D (.deferred (some []))) ∈ rs ∧ markK ds (rsCut rs r) K

def retS (Γ : Tab) (rs : List ResultVar) (R : SV → SS → Prop) (s : SS) : Prop :=
  match evRes Γ s rs with
  | some (l, vc) => vc ∧ Fin R (single l) s
  | none => False

def retF (Γ : Tab) (rs : List ResultVar) (R : SV → SS → Prop) (s : SS) : Prop :=
  markK s.df s.rs (fun rs' => retS Γ rs R { s with rs := rs', df := [] })

def retK (Γ : Tab) (rs : List ResultVar) (R : SV → SS → Prop) : Ex → SS → Prop
  | .normal, s => retF Γ rs R s
  | .ret, s => retF Γ rs R s
  | .exit _, _ => False
  | .goto _, _ => False

def SS.enter (pre : SS) (args : List SV) (n : Nat) : SS := { pre with fr := args ++ List.replicate (n - args.length) (.raw undef), df := [] }

theorem finB_sound {E E1 : Env} {s : SS} {w : World} {R : SV → SS → Prop} {sv : SV} {v : Value} (hx : E.Ext E1) (hw : Good E1 s w) (hv : Den E1 sv v) (h : FinB R sv s) :
    ∃ E' post psv, E.Ext E' ∧ Good E' post w ∧ Den E' psv v ∧ R psv post := by
  obtain ⟨im, psv, post, ⟨h1, h2, h3, h4, h5, h6⟩, h7, h8, h9, h10, h11⟩ := h
  obtain ⟨E', q1, q2, q3, q4, q5⟩ := hw.pull (t := post) (fmap_inj im s.nx h1 h2) h4 h5 (fun n hn => by rw [fmap_ge im s.nx n (by omega)]; omega) h8 h9 h10
  have hid := idTo_all h6
  refine ⟨E', post, psv, ⟨q4.trans hx.k, fun n hn => ?_, fun n hn => ?_, q2.trans hx.w0, q3.1.trans hx.S0, fun a v e => by rw [q1.μ]; exact hx.μ a v e, fun a v e => hx.μnew a v (by rw [q1.μ] at e; exact e), q3.2.trans hx.Z⟩, q5, W_den q1 _ _ _ h7 hv, h11⟩
  · rw [q1.ρ, hid n (by rw [← hw.k, hx.k]; exact hn)]; exact hx.ρ n hn
  · rw [q1.θ, hid n (by rw [← hw.k, hx.k]; exact hn)]; exact hx.θ n hn

theorem nil_tok {E : Env} {k : IntKind} {τ : Nat} {v : Value} (hθ : E.θ τ = some (1, .slice none 0 0)) (h : Den E (.ints k .nil []) v) : Den E (.ints k (.tok τ true) []) v := by
  simp only [Den] at h ⊢
  obtain ⟨a, cap, h1, h2, h3, h4, h5⟩ := h
  simp only [TagOK] at h5
  refine ⟨a, cap, h1, h2, h3, h4, ?_, fun _ a n c e => ?_⟩
  · rw [h5, hθ]; exact TokV.self (Nat.le_refl _)
  · rw [h5] at e; cases e

theorem fin_sound {E E1 : Env} {s : SS} {w : World} {R : SV → SS → Prop} {sv : SV} {v : Value} (hx : E.Ext E1) (hw : Good E1 s w) (hv : Den E1 sv v) (h : Fin R sv s) :
    ∃ E' post psv, E.Ext E' ∧ Good E' post w ∧ Den E' psv v ∧ R psv post := by
  rcases h with h | ⟨k, rfl, h⟩
  · exact finB_sound hx hw hv h
  · obtain ⟨E', q1, q2, q3, q4, q5⟩ := hw.tok_none 1 none 0
    exact finB_sound (hx.trans q1.ext) q5 (nil_tok q2 (Den.mono q1 _ _ hv)) h

theorem markK_sound {P : Program} {E : Env} {fn : Func} {tmps : Array Value} {R : Ending → World → Prop} : ∀ (ds : List Nat) (s : SS) (w : World) (K : List (Nat × Res) → Prop), Good E s w → markK ds s.rs K →
    (∀ rs' w', Good E { s with rs := rs', df := [] } w' → K rs' → LeavesInM (wideR none) 0 P fn tmps R [] .returning w') →
    LeavesInM (wideR none) 0 P fn tmps R (ds.map mkD) .returning w
  | [], s, w, K, hw, h, hK => hK s.rs w ⟨hw.k, hw.kx, hw.os, hw.tape, hw.output, hw.size, hw.old, hw.mu, hw.nxρ, hw.nxθ, let ⟨κ, k⟩ := hw.own; ⟨κ, k.hp, k.tk, k.rs, k.mu, k.dom⟩⟩ h
  | D :: ds, s, w, K, hw, h, hK => by
    simp only [markK] at h
    obtain ⟨r, h1, h2⟩ := h
    obtain ⟨p1, p2⟩ := hw.reres h1
    obtain ⟨f1, f2, f3, f4, f5⟩ := putObj_frame w D (.deferred none)
    have g := (p2 _ f1 f2 f3 f4 f5).1
    simp only [List.map_cons, LeavesInM]
    exact ⟨by simp, .inl ⟨D, _, rfl, run_takeDeferred p1, markK_sound ds _ _ K g h2 (fun rs' w' g' k' => hK rs' w' g' k')⟩⟩

/-- A contract out of the code. -/
theorem contract_of {P : Program} {Γ : Tab} (hΓ : Γ.ok P) {f : FuncId} {fn : Func} {c : Code} (hfn : P.funcs[f]? = some fn) (hb : fn.body = some c) (hnm : (fn.name == "runtime.NumGoroutine") = false) {pre : SS} {pargs : List SV} {R : SV → SS → Prop} {stop : List Nat}
    (h : CodeOK P ⟨none, none, stop⟩ c (pre.enter pargs fn.ntmps) (retK Γ fn.results.toList R)) : Contract P f pre pargs R := by
  intro E w vs h0 hw hv
  refine ⟨run_callFunc' hfn hb hnm _ _, ?_⟩
  refine (callsIn_wide (n := 0)).1 (callsIn_of_wp_marks (F := wideR none) (n := 0) hfn hb trivial ?_)
  have hlen := denL_length _ _ hv
  have hfr : Fr E (pre.enter pargs fn.ntmps) { tmps := vs.toArray ++ Array.replicate (fn.ntmps - vs.toArray.size) undef, defers := [] } := by
    refine ⟨?_, rfl⟩
    have := denL_append _ _ _ _ hv (denL_undef' E (fn.ntmps - pargs.length))
    simpa [SS.enter, hlen] using this
  have hg : Good E (pre.enter pargs fn.ntmps) w := ⟨hw.k, hw.kx, hw.os, hw.tape, hw.output, hw.size, hw.old, hw.mu, hw.nxρ, hw.nxθ, let ⟨κ, k⟩ := hw.own; ⟨κ, k.hp, k.tk, k.rs, k.mu, k.dom⟩⟩
  refine wpIn_mono (h E _ w (fun E0 e => by cases e) hfr hg) ?_
  rintro e a' w' ⟨E1, s, x, q1, q2, q3, q4, q5⟩
  have key : retF Γ fn.results.toList R s → LeavesInM (wideR none) 0 P fn a'.tmps (fun e w' => ∃ v' E' post sv, e = .returned v' ∧ E.Ext E' ∧ Good E' post w' ∧ Den E' sv v' ∧ R sv post) a'.defers .returning w' := by
    intro hk
    unfold retF at hk
    rw [q2.defers]
    refine markK_sound s.df s w' _ q3 hk (fun rs' w2 g2 k2 => ?_)
    unfold retS at k2
    split at k2
    · rename_i l vc e1
      have f2 : Fr E1 { s with rs := rs', df := [] } { tmps := a'.tmps, defers := [] } := ⟨q2.tmps, rfl⟩
      obtain ⟨v, r1, r2⟩ := results_run (P := P) hΓ f2 g2 e1 k2.1
      obtain ⟨E', post, psv, t1, t2, t3, t4⟩ := fin_sound q1 g2 r2 k2.2
      exact ⟨v, r1, v, E', post, psv, rfl, t1, t2, t3, t4⟩
    · exact k2.elim
  cases x <;> cases e <;> simp only [ExRel] at q4 <;> simp only [retK] at q5
  · exact key q5
  · exact key q5

theorem contract_ev {P : Program} {Γ : Tab} (hΓ : Γ.ok P) {f : FuncId} {fn : Func} {c : Code} (hfn : P.funcs[f]? = some fn) (hb : fn.body = some c) (hnm : (fn.name == "runtime.NumGoroutine") = false) (stop : List Nat) {pre : SS} {pargs : List SV} {R : SV → SS → Prop}
    (h : evCode P Γ ⟨none, none, stop⟩ c (retK Γ fn.results.toList R) (pre.enter pargs fn.ntmps)) : Contract P f pre pargs R :=
  contract_of hΓ hfn hb hnm (evCode_sound hΓ c _ _ h)

def nilSS : SS := ⟨[], [], [], [], 0, 0, []⟩
end Go.Eng
/- The engine, part U: small helps. -/
namespace Go.Eng
open Go
set_option linter.unusedVariables false
set_option linter.unusedSimpArgs false

theorem Sub.trans {a b c : SS} (h : Sub a b) (k : Sub b c) : Sub a c := fun E x w hf hw => by
  obtain ⟨E1, p1, p2, p3⟩ := h E x w hf hw
  obtain ⟨E2, q1, q2, q3⟩ := k E1 x w p2 p3
  exact ⟨E2, p1.trans q1, q2, q3⟩

theorem denL_weak {E : Env} {x : SV} : ∀ (l : List SV) (cs : List Value) (j : Nat), DenL E l cs → (∀ v, Den E (lget l j) v → Den E x v) → DenL E (lset l j x) cs
  | [], [], j, h, _ => by simp only [lset, DenL]
  | y :: ys, v :: vs, 0, h, k => by
    simp only [DenL] at h
    simp only [lset, DenL]
    exact ⟨k v h.1, h.2⟩
  | y :: ys, v :: vs, j + 1, h, k => by
    simp only [DenL] at h
    simp only [lset, DenL]
    exact ⟨h.1, denL_weak ys vs j h.2 k⟩
  | [], _ :: _, j, h, _ => by simp only [DenL] at h
  | _ :: _, [], j, h, _ => by simp only [DenL] at h

/-- The nil slice in a cell has a token. -/
theorem Sub.tokHp {s : SS} (n j : Nat) {T : TypeId} {l : List SV} {k : IntKind} (h1 : hfind s.hp n = some (T, l)) (h2 : lget l j = .ints k .nil []) :
    Sub s { s with hp := hset s.hp n (lset l j (.ints k (.tok s.nx true) [])), tk := s.nx :: s.tk, nx := s.nx + 1 } := by
  intro E a w hf hw
  obtain ⟨E', q1, q2, q3, q4, q5⟩ := hw.tok_none 1 none 0
  obtain ⟨κ, ho⟩ := q5.own
  refine ⟨E', q1.ext, ⟨(hf.mono q1).tmps, hf.defers⟩, q5.k, q5.kx, q5.os, q5.tape, q5.output, q5.size, q5.old, q5.mu, q5.nxρ, q5.nxθ, κ, fun m T' ls e => ?_, ho.tk, ho.rs, ho.mu, ho.dom⟩
  by_cases hm : m = n
  · subst hm
    have := hfind_hset_same s.hp m T l (lset l j (.ints k (.tok s.nx true) [])) h1
    rw [this] at e
    simp only [Option.some.injEq, Prod.mk.injEq] at e
    obtain ⟨rfl, rfl⟩ := e
    obtain ⟨b, cs, p1, p2, p3, p4, p5⟩ := ho.hp _ _ _ h1
    exact ⟨b, cs, p1, p2, denL_weak _ _ _ p3 (fun v hv => nil_tok q2 (by rw [h2] at hv; exact hv)), p4, p5⟩
  · have := hfind_hset_ne s.hp n m (lset l j (.ints k (.tok s.nx true) [])) hm
    rw [this] at e
    exact ho.hp _ _ _ e

/-- The nil slice in a variable has a token. -/
theorem Sub.tokFr {s : SS} (j : Nat) {k : IntKind} (h2 : lget s.fr j = .ints k .nil []) :
    Sub s { s with fr := lset s.fr j (.ints k (.tok s.nx true) []), tk := s.nx :: s.tk, nx := s.nx + 1 } := by
  intro E a w hf hw
  obtain ⟨E', q1, q2, q3, q4, q5⟩ := hw.tok_none 1 none 0
  refine ⟨E', q1.ext, ⟨denL_weak _ _ _ (hf.mono q1).tmps (fun v hv => nil_tok q2 (by rw [h2] at hv; exact hv)), hf.defers⟩, ⟨q5.k, q5.kx, q5.os, q5.tape, q5.output, q5.size, q5.old, q5.mu, q5.nxρ, q5.nxθ, let ⟨κ, k⟩ := q5.own; ⟨κ, k.hp, k.tk, k.rs, k.mu, k.dom⟩⟩⟩

/-- The same, for a slice of elements. -/
theorem Sub.tokFrS {s : SS} (j sz : Nat) (el : Nat → Nat → SV) {k : IntKind} (h2 : lget s.fr j = .ints k .nil []) :
    Sub s { s with fr := lset s.fr j (.sl sz (.tok s.nx true) 0 el), tk := s.nx :: s.tk, nx := s.nx + 1 } := by
  intro E a w hf hw
  obtain ⟨E', q1, q2, q3, q4, q5⟩ := hw.tok_none sz none 0
  refine ⟨E', q1.ext, ⟨denL_weak _ _ _ (hf.mono q1).tmps (fun v hv => ?_), hf.defers⟩, ⟨q5.k, q5.kx, q5.os, q5.tape, q5.output, q5.size, q5.old, q5.mu, q5.nxρ, q5.nxθ, let ⟨κ, k⟩ := q5.own; ⟨κ, k.hp, k.tk, k.rs, k.mu, k.dom⟩⟩⟩
  rw [h2] at hv
  simp only [Den] at hv ⊢
  obtain ⟨a, cap, h1, _, _, _, h5⟩ := hv
  simp only [TagOK] at h5
  refine ⟨none, 0, h5, Nat.le_refl _, by omega, fun i hi => absurd hi (Nat.not_lt_zero _), ?_, fun _ a n c e => ?_⟩
  · rw [h5, q2]; exact TokV.self (Nat.le_refl _)
  · rw [h5] at e; cases e

/-- Nothing came in but what stays. -/
theorem Fin.nil {R : SV → SS → Prop} {sv psv : SV} {s : SS} (hk : s.k = 0) (hw : W false (fmap [] s.nx) psv sv) (h : R psv nilSS) : Fin R sv s :=
  .inl ⟨[], psv, nilSS, ⟨trivial, trivial, Nat.le_refl _, by rw [hk]; rfl, Nat.le_refl _, by rw [hk]; trivial⟩, hw, trivial, trivial, trivial, h⟩

theorem den_len {E : Env} {k : IntKind} {t : Tag} {l : List Int} {v : Value} (h : Den E (.ints k t l) v) : l.length ≤ 9223372036854775807 := by
  simp only [Den] at h
  obtain ⟨a, cap, h1, h2, h3, _⟩ := h
  omega
/-- No slice is longer than a length can tell. -/
theorem contract_len {P : Program} {f : FuncId} {pre : SS} {pargs : List SV} {R : SV → SS → Prop} (j : Nat) {k : IntKind} {t : Tag} {l : List Int} (hj : lget pargs j = .ints k t l)
    (h : l.length ≤ 9223372036854775807 → Contract P f pre pargs R) : Contract P f pre pargs R := by
  intro E w vs h0 hw hv
  have := denL_get pargs vs j undef hv
  rw [hj] at this
  exact h (den_len this) E w vs h0 hw hv
theorem code_len {P : Program} {B : Ctx} {c : Code} {s : SS} {K : Ex → SS → Prop} (j : Nat) {k : IntKind} {t : Tag} {l : List Int} (hj : lget s.fr j = .ints k t l)
    (h : l.length ≤ 9223372036854775807 → CodeOK P B c s K) : CodeOK P B c s K := by
  intro E a w hb hf hw
  have := denL_get s.fr a.tmps.toList j undef hf.tmps
  rw [hj] at this
  exact h (den_len this) E a w hb hf hw
theorem wrap64 {n : Int} (h1 : -9223372036854775808 ≤ n) (h2 : n ≤ 9223372036854775807) : IntKind.i64.wrap n = n := by
  rw [IntKind.wrap_i64]; omega

/-- 'Sub.of', its conditions in one. -/
def SubW (im : List Nat) (s t : SS) : Prop :=
  distincts im ∧ allLt s.nx im ∧ im.length ≤ t.nx ∧ t.k = s.k ∧ t.k ≤ t.nx ∧ idTo im s.nx s.k ∧ t.df = s.df ∧ WL false (fmap im s.nx) t.fr s.fr ∧ hpSub false (fmap im s.nx) s.hp t.hp ∧ tkSub (fmap im s.nx) s.tk t.tk ∧ rsSub (fmap im s.nx) s.rs t.rs
theorem Sub.w {s t : SS} (im : List Nat) (h : SubW im s t) : Sub s t :=
  let ⟨h1, h2, h3, h4, h5, h6, h7, h8, h9, h10, h11⟩ := h
  Sub.of im h1 h2 h3 h4 h5 (idTo_all h6) h7 h8 h9 h10 h11

/-- 'call_of', its conditions in one. -/
def CallW (im : List Nat) (pre : SS) (pargs : List SV) (st : SS) (args : List SV) : Prop :=
  distincts im ∧ allLt st.nx im ∧ im.length = pre.nx ∧ pre.k ≤ pre.nx ∧ pre.lt pre.nx ∧ hpSub false (fmap im st.nx) st.hp pre.hp ∧ tkSub (fmap im st.nx) st.tk pre.tk ∧ rsSub (fmap im st.nx) st.rs pre.rs ∧ WL false (fmap im st.nx) pargs args
theorem call_w {P : Program} {f : FuncId} {pre : SS} {pargs : List SV} {R : SV → SS → Prop} (hC : Contract P f pre pargs R) (im : List Nat) {st : SS} {args : List SV} {K : SV → SS → Prop}
    (h : CallW im pre pargs st args) (hK : ∀ sv post, R sv post → K (ren (fmap (im.take pre.k) st.nx) sv) (st.back (lentOf im st.nx pre) (im.take pre.k) post)) : CallOK P f args st K :=
  let ⟨h1, h2, h3, h4, h5, h6, h7, h8, h9⟩ := h
  call_of hC im h1 h2 h3 h4 h5 h6 h7 h8 h9 hK

def FinW (im : List Nat) (psv : SV) (post : SS) (sv : SV) (s : SS) : Prop :=
  (distincts im ∧ allLt s.nx im ∧ im.length ≤ post.nx ∧ post.k = s.k ∧ post.k ≤ post.nx ∧ idTo im s.nx s.k) ∧ W false (fmap im s.nx) psv sv ∧
    hpSub false (fmap im s.nx) s.hp post.hp ∧ tkSub (fmap im s.nx) s.tk post.tk ∧ rsSub (fmap im s.nx) s.rs post.rs
theorem Fin.w {R : SV → SS → Prop} {sv : SV} {s : SS} (im : List Nat) (psv : SV) (post : SS) (h : FinW im psv post sv s) (hR : R psv post) : Fin R sv s :=
  let ⟨h1, h2, h3, h4, h5⟩ := h
  .inl ⟨im, psv, post, h1, h2, h3, h4, h5, hR⟩
theorem Fin.wt {R : SV → SS → Prop} {k : IntKind} {s : SS} (im : List Nat) (psv : SV) (post : SS) (h : FinW im psv post (.ints k (.tok s.nx true) []) { s with tk := s.nx :: s.tk, nx := s.nx + 1 }) (hR : R psv post) : Fin R (.ints k .nil []) s :=
  let ⟨h1, h2, h3, h4, h5⟩ := h
  .inr ⟨k, rfl, im, psv, post, h1, h2, h3, h4, h5, hR⟩

theorem TW_self {f : Nat → Nat} (hf : ∀ n, f n = n) : ∀ t : Tag, TW false f t t
  | .old => trivial
  | .new => rfl
  | .nil => trivial
  | .tok τ b => ⟨(hf τ).symm, fun h => ⟨h, rfl⟩⟩
mutual
theorem W_self {f : Nat → Nat} (hf : ∀ n, f n = n) : ∀ x : SV, W false f x x
  | .any => by simp only [W]
  | .i k n => by simp only [W]; exact ⟨trivial, trivial⟩
  | .b c => by simp only [W]
  | .s x => by simp only [W]
  | .ptr n o => by simp only [W]; exact ⟨(hf n).symm, trivial⟩
  | .nilp => by simp only [W]
  | .ints k t l => by simp only [W]; exact ⟨.inl trivial, trivial, TW_self hf t⟩
  | .sl sz t n el => by simp only [W]; exact ⟨trivial, trivial, TW_self hf t, fun i _ j _ => W_self hf (el i j)⟩
  | .ep n g => by simp only [W]; exact ⟨Nat.le_refl _, fun d _ => W_self hf (g d)⟩
  | .agg l => by simp only [W]; exact WL_self hf l
  | .tup l => by simp only [W]; exact WL_self hf l
  | .nili => by simp only [W]
  | .ifc t x => by simp only [W]; exact ⟨trivial, W_self hf x⟩
  | .fn g a c => by simp only [W]; exact ⟨trivial, WL_self hf a, WL_self hf c⟩
  | .nilf => by simp only [W]
  | .raw x => by simp only [W]
  | .cnd g x => by simp only [W]; exact ⟨trivial, W_self hf x⟩
theorem WL_self {f : Nat → Nat} (hf : ∀ n, f n = n) : ∀ l : List SV, WL false f l l
  | [] => by simp only [WL]
  | x :: r => by simp only [WL]; exact ⟨W_self hf x, WL_self hf r⟩
end
end Go.Eng
/- The engine, part W: a region that draws its order, whatever it does: by a family of states, one for each set of what has been done. -/
namespace Go.Eng
open Go
set_option linter.unusedVariables false
set_option linter.unusedSimpArgs false

/-- What goes ahead of an operation has been done. -/
def Ahead (o : Oper) (D : Nat → Bool) : Prop := ∀ e ∈ o.after.toList, Region.binds .any e = true → D e.on = true

def doneK (J : SS → Prop) (t : SS) : Prop := ∃ s, Sub t s ∧ J s

theorem wpList_one {P : Program} {ops : Array Oper} {Q : Exit → Act → World → Prop} {o : Oper} {a : Act} {w : World} {i : Nat} {K : Act → World → Prop} (ho : ops[i]? = some o) {Q' : Exit → Act → World → Prop} (hQ : ∀ a w, Q' .normal a w → K a w) (hp : ∀ c a w, ¬ Q' (.panic c) a w) (hl : ¬ LetsOut Q')
    (h : wpList P ops Q' [o] a w) : wpOp P ops Q i K a w := by
  unfold wpOp
  rw [ho]
  simp only [wpList] at h ⊢
  split at h
  · rename_i hw
    rw [if_pos hw]
    left
    rcases h with h | h
    · unfold Oper.wp at h ⊢
      revert h
      cases (execOp a.eval o).run P w with
      | ok x w' =>
        cases x <;> intro h <;> first
          | exact hQ _ _ h
          | exact h.elim
          | (refine h.mono ?_
             intro e w'' h
             cases e with
             | returned v => exact hQ _ _ h
             | panicked c => exact (hp _ _ _ h).elim
             | outgrown => exact (hl h).elim)
          | (intro c cs
             obtain ⟨v, w2, h1, h2⟩ := h c cs
             exact ⟨v, w2, hQ _ _ h1, h2⟩)
      | halt x w' => cases x <;> intro h <;> first | exact (hp _ _ _ h).elim | exact h.elim
    · exact (hl h.2).elim
  · rename_i hw
    rw [if_neg hw]
    exact hQ _ _ h

def unl (f : Nat → Bool) (N : Nat) : Nat := ((List.range N).filter fun j => !f j).length
theorem unl_succ (f : Nat → Bool) (N : Nat) : unl f (N + 1) = unl f N + (if f N then 0 else 1) := by
  unfold unl
  rw [List.range_succ, List.filter_append, List.length_append]
  cases h : f N <;> simp [h]
theorem unl_upd (f : Nat → Bool) (i : Nat) (h : f i = false) : ∀ N, unl (fun j => if j = i then true else f j) N + (if i < N then 1 else 0) = unl f N
  | 0 => by simp [unl]
  | N + 1 => by
    have ih := unl_upd f i h N
    rw [unl_succ, unl_succ]
    by_cases e : N = i
    · subst e
      simp only [if_pos, h, Nat.lt_irrefl, if_false] at ih ⊢
      simp only [Nat.lt_succ_self, if_true, Bool.false_eq_true, if_false] at ih ⊢
      omega
    · have e2 : (if N = i then true else f N) = f N := if_neg e
      have e3 : (i < N + 1) ↔ (i < N) := by omega
      simp only [e2, e3]
      omega
theorem unl_zero (f : Nat → Bool) : ∀ N, unl f N = 0 → ∀ j, j < N → f j = true
  | 0, _, j, h => by omega
  | N + 1, h0, j, h => by
    rw [unl_succ] at h0
    by_cases e : j = N
    · subst e
      cases hf : f j with
      | true => rfl
      | false => rw [hf] at h0; simp at h0
    · exact unl_zero f N (by omega) j (by omega)

/-- Every operation waits for earlier ones alone. -/
def backB (l : List Oper) : Bool := (List.range l.length).all fun i => match l[i]? with | some o => o.after.toList.all fun e => !Region.binds .any e || decide (e.on < i) | none => true

theorem getD_set {a : Array Bool} {i : Nat} (h : i < a.size) : (fun j => (a.setIfInBounds i true).getD j false) = fun j => if j = i then true else a.getD j false := by
  funext j
  by_cases e : j = i
  · subst e
    simp [h]
  · simp only [Array.getD_eq_getD_getElem?, if_neg e]
    rw [Array.getElem?_setIfInBounds_ne (Ne.symm e)]

theorem region_any' {P : Program} {Γ : Tab} {B : Ctx} (hrd : B.rd = none) (hΓ : Γ.ok P) (hm : P.follows .mixedOrders = true) {id : Nat} {l : List Oper} {s : SS} {K : Ex → SS → Prop} (hback : backB l = true) (J : (Nat → Bool) → SS → Prop)
    (h0 : doneK (J fun _ => false) s)
    (step : ∀ (D : Nat → Bool) (i : Nat) (o : Oper) (t : SS), J D t → l[i]? = some o → D i = false → Ahead o D → (∀ j oj, l[j]? = some oj → D j = true → Ahead oj D) → evOps P Γ l (doneK (J fun j => if j = i then true else D j)) [o] t)
    (fin : ∀ (D : Nat → Bool) (t : SS), J D t → (∀ j, j < l.length → D j = true) → doneK (K .normal) t) : CodeOK P B (.region id l.toArray true) s K := by
  intro E a w hb hf hw
  rw [hrd]
  refine wpIn_wide.2 (wp_region_any hm ?_)
  have hw' : Good E s { w with drawn := w.drawn + 1 } := hw.congr rfl rfl rfl rfl
  obtain ⟨s0, hs, hJ⟩ := h0
  obtain ⟨E0, p1, p2, p3⟩ := hs E a _ hf hw'
  have hready : ∀ (listed : Array Bool) (i : Nat), listed.size = l.length → (i ∈ Region.ready .any l.toArray listed ↔ i < l.length ∧ listed.getD i false = false ∧ ∀ o, l[i]? = some o → Ahead o fun j => listed.getD j false) := by
    intro listed i hsz
    unfold Region.ready
    rw [List.mem_filter, List.mem_range, List.size_toArray]
    constructor
    · rintro ⟨h1, h2⟩
      have ho : l[i]? = some l[i] := List.getElem?_eq_getElem h1
      simp only [List.getElem?_toArray, ho, Option.map_some, Option.getD_some, Bool.and_eq_true, Bool.not_eq_true', Array.all_eq_true] at h2
      refine ⟨h1, ?_, fun o e => ?_⟩
      · have := h2.1
        simp only [Array.getD_eq_getD_getElem?, Array.getElem?_eq_getElem (show i < listed.size by omega), Option.getD_some] at this ⊢
        exact this
      · rw [ho] at e
        injection e with e
        subst e
        intro ed hed hbi
        rw [Array.mem_toList_iff, Array.mem_iff_getElem] at hed
        obtain ⟨k, hk, rfl⟩ := hed
        have := h2.2 k hk
        rw [hbi] at this
        simpa using this
    · rintro ⟨h1, h2, h3⟩
      have ho : l[i]? = some l[i] := List.getElem?_eq_getElem h1
      refine ⟨h1, ?_⟩
      simp only [List.getElem?_toArray, ho, Option.map_some, Option.getD_some, Bool.and_eq_true, Bool.not_eq_true', Array.all_eq_true]
      refine ⟨?_, fun k hk => ?_⟩
      · simp only [Array.getD_eq_getD_getElem?, Array.getElem?_eq_getElem (show i < listed.size by omega), Option.getD_some] at h2 ⊢
        exact h2
      · have := h3 _ ho l[i].after[k] (by rw [Array.mem_toList_iff]; exact Array.getElem_mem hk)
        cases hbi : Region.binds .any l[i].after[k] with
        | false => rfl
        | true => simpa [hbi] using this hbi
  have hall : ∀ (listed : Array Bool), listed.size = l.length → Region.ready .any l.toArray listed = [] → ∀ j, j < l.length → listed.getD j false = true := by
    intro listed hsz hr j
    induction j using Nat.strongRecOn with
    | ind j ih =>
      intro hj
      cases hd : listed.getD j false with
      | true => rfl
      | false =>
        have : j ∈ Region.ready .any l.toArray listed := by
          rw [hready listed j hsz]
          refine ⟨hj, hd, fun o ho e he hbd => ?_⟩
          have hB := hback
          unfold backB at hB
          rw [List.all_eq_true] at hB
          have := hB j (List.mem_range.2 hj)
          rw [ho] at this
          simp only [List.all_eq_true, Bool.or_eq_true, Bool.not_eq_true', decide_eq_true_eq] at this
          have hlt : e.on < j := (this e he).resolve_left (by rw [hbd]; simp)
          exact ih e.on hlt (by omega)
        rw [hr] at this
        cases this
  have main : ∀ (n : Nat) (listed : Array Bool) (E1 : Env) (t : SS) (a : Act) (w : World), listed.size = l.length → E.Ext E1 → Fr E1 t a → Good E1 t w → J (fun j => listed.getD j false) t →
      (∀ j oj, l[j]? = some oj → listed.getD j false = true → Ahead oj fun j => listed.getD j false) → unl (fun j => listed.getD j false) l.length ≤ n → wpAny P .any l.toArray (QK E K) n listed a w := by
    intro n
    induction n with
    | zero =>
      intro listed E1 t a w hsz hx hf hw hJ hcl hn
      have hdone := unl_zero _ _ (by omega : unl (fun j => listed.getD j false) l.length = 0)
      obtain ⟨t2, q1, q2⟩ := fin _ t hJ hdone
      obtain ⟨E2, m1, m2, m3⟩ := q1 E1 a w hf hw
      refine ⟨?_, E2, t2, .normal, hx.trans m1, m2, m3, trivial, q2⟩
      cases hr : Region.ready .any l.toArray listed with
      | nil => rfl
      | cons x xs =>
        have := (hready listed x hsz).1 (by rw [hr]; simp)
        have h2 := hdone x this.1
        rw [this.2.1] at h2
        cases h2
    | succ n ih =>
      intro listed E1 t a w hsz hx hf hw hJ hcl hn
      refine ⟨fun hr => ?_, fun i hi => ?_⟩
      · obtain ⟨t2, q1, q2⟩ := fin _ t hJ (hall listed hsz hr)
        obtain ⟨E2, m1, m2, m3⟩ := q1 E1 a w hf hw
        exact ⟨E2, t2, .normal, hx.trans m1, m2, m3, trivial, q2⟩
      obtain ⟨r1, r2, r3⟩ := (hready listed i hsz).1 hi
      have ho : l[i]? = some l[i] := List.getElem?_eq_getElem r1
      have hst := step _ i l[i] t hJ ho r2 (r3 _ ho) hcl
      have hset := getD_set (a := listed) (i := i) (by omega)
      have hl := evOps_sound (Q := fun e a' w' => e = .normal ∧ ∃ E2 t2, E.Ext E2 ∧ Fr E2 t2 a' ∧ Good E2 t2 w' ∧ J (fun j => if j = i then true else listed.getD j false) t2) hΓ [l[i]] E1 t a w hf hw hst (fun E' st' a' w' h1 h2 h3 h4 => by
        obtain ⟨t2, q1, q2⟩ := h4
        obtain ⟨E2, m1, m2, m3⟩ := q1 E' a' w' h2 h3
        exact ⟨rfl, E2, t2, (hx.trans h1.ext).trans m1, m2, m3, q2⟩)
      refine wpList_one (i := i) (by simp) (fun a' w' h => ?_) (fun c a' w' h => by cases h.1) (by rintro ⟨a', w', h⟩; cases h.1) hl
      obtain ⟨-, E2, t2, m1, m2, m3, m4⟩ := h
      refine ih _ E2 t2 a' w' (by simpa using hsz) m1 m2 m3 (by rw [hset]; exact m4) ?_ ?_
      · intro j oj hj hd e he hbi
        have hpt : ∀ j, (listed.setIfInBounds i true).getD j false = if j = i then true else listed.getD j false := fun j => congrFun hset j
        rw [hpt] at hd
        show (listed.setIfInBounds i true).getD e.on false = true
        rw [hpt]
        by_cases hji : j = i
        · subst hji
          rw [ho] at hj
          injection hj with hj
          subst hj
          have := r3 _ ho e he hbi
          split
          · rfl
          · exact this
        · rw [if_neg hji] at hd
          have := hcl j oj hj hd e he hbi
          split
          · rfl
          · exact this
      · rw [hset]
        have := unl_upd (fun j => listed.getD j false) i r2 l.length
        rw [if_pos r1] at this
        omega
  have hrep : (fun j => (Array.replicate l.toArray.size false).getD j false) = fun _ => false := by
    funext j
    simp only [Array.getD_eq_getD_getElem?, Array.getElem?_replicate]
    split <;> rfl
  refine main _ _ E0 s0 a _ (by simp) p1 p2 p3 (by rw [hrep]; exact hJ) ?_ ?_
  · intro j oj _ hd
    have this : (Array.replicate l.toArray.size false).getD j false = false := congrFun hrep j
    rw [this] at hd
    cases hd
  · unfold unl
    refine Nat.le_trans (List.length_filter_le _ _) ?_
    simp
theorem region_any {P : Program} {Γ : Tab} {B : Ctx} (hrd : B.rd = none) (hΓ : Γ.ok P) (hm : P.follows .mixedOrders = true) {id : Nat} {l : List Oper} {s : SS} {K : Ex → SS → Prop} (hback : backB l = true) (J : (Nat → Bool) → SS → Prop)
    (h0 : doneK (J fun _ => false) s)
    (step : ∀ (D : Nat → Bool) (i : Nat) (o : Oper) (t : SS), J D t → l[i]? = some o → D i = false → Ahead o D → (∀ j oj, l[j]? = some oj → D j = true → Ahead oj D) → evOps P Γ l (doneK (J fun j => if j = i then true else D j)) [o] t)
    (fin : ∀ (D : Nat → Bool) (t : SS), J D t → (∀ j, j < l.length → D j = true) → K .normal t) : CodeOK P B (.region id l.toArray true) s K :=
  region_any' hrd hΓ hm hback J h0 step fun D t h1 h2 => ⟨t, Sub.refl t, fin D t h1 h2⟩
end Go.Eng
