/- The engine, part I: what stays good when memory is made or written. -/
import Derived.Test.YtdbhgnjpjpmioaaEh
import Derived.Laws.CopyRow
import Derived.Laws.AppendOwn
namespace Go.Eng
open Go
set_option linter.unusedVariables false
set_option linter.unusedSimpArgs false

def upd {α : Type} (f : Nat → α) (n : Nat) (v : α) (m : Nat) : α := if m = n then v else f m
theorem upd_same {α : Type} (f : Nat → α) (n : Nat) (v : α) : upd f n v n = v := by simp [upd]
theorem upd_ne {α : Type} {f : Nat → α} {n : Nat} {v : α} {m : Nat} (h : m ≠ n) : upd f n v m = f m := by simp [upd, h]
theorem heap_alloc_new' (w : World) (o : Obj) : (w.alloc o).heap[w.heap.size]? = some o := by
  show (w.heap.push o)[w.heap.size]? = some o
  simp
theorem heap_alloc_old (w : World) (o : Obj) {b : Nat} (h : b < w.heap.size) : (w.alloc o).heap[b]? = w.heap[b]? := by
  simp only [World.alloc]; rw [Array.getElem?_push, if_neg (by omega)]
theorem cell_alloc_some {w : World} {o : Obj} {a : Addr} {v : Value} (h : w.cell? a = some v) : (w.alloc o).cell? a = some v := by
  rw [World.cell?_alloc_lt w o a (World.block_lt_of_cell? w a h)]; exact h
theorem size_alloc' (w : World) (o : Obj) : (w.alloc o).heap.size = w.heap.size + 1 := World.size_alloc w o

/-- A named block is made. -/
theorem Good.alloc_named {E : Env} {st : SS} {w : World} (h : Good E st w) {ls : List SV} {cs : Array Value} (T : TypeId) (hd : DenL E ls cs.toList) :
    ∃ E', E.Le E' ∧ E'.ρ st.nx = some w.heap.size ∧ Good E' { st with hp := (st.nx, T, ls) :: st.hp, nx := st.nx + 1 } (w.alloc (.cells cs T)) := by
  have hle : E.Le { E with ρ := upd E.ρ st.nx (some w.heap.size) } :=
    ⟨rfl, rfl, rfl, fun n b e => by
      have : n ≠ st.nx := by rintro rfl; rw [h.nxρ _ (Nat.le_refl _)] at e; cases e
      exact (upd_ne this).trans e, fun _ _ e => e, fun _ _ e => e, fun _ _ e => .inl e, fun n hn => (upd_ne (by have := h.k; have := h.kx; omega)), fun _ _ => rfl, rfl⟩
  refine ⟨_, hle, upd_same _ _ _, ?_⟩
  obtain ⟨κ, hk⟩ := h.own
  have hkn : κ w.heap.size = none := by
    cases e : κ w.heap.size with
    | none => rfl
    | some k => exact absurd (hk.dom _ _ e).1 (by omega)
  refine ⟨h.k, Nat.le_succ_of_le h.kx, h.os, h.tape, h.output, by rw [size_alloc']; exact Nat.le_succ_of_le h.size, fun b hb hs => ?_, fun a v e => cell_alloc_some (h.mu a v e), fun n hn => ?_, fun n hn => h.nxθ n (by simp at hn; omega), ?_⟩
  · rw [heap_alloc_old _ _ (Nat.lt_of_lt_of_le hb h.size)]; exact h.old b hb hs
  · simp only at hn
    exact (upd_ne (by omega)).trans (h.nxρ n (by omega))
  · refine ⟨upd κ w.heap.size (some (.blk st.nx)), ?_, ?_, ?_, ?_, ?_⟩
    · intro n T' ls' e
      simp only [hfind] at e
      by_cases hn : st.nx = n
      · rw [if_pos hn] at e
        simp only [Option.some.injEq, Prod.mk.injEq] at e
        obtain ⟨rfl, rfl⟩ := e
        subst hn
        exact ⟨w.heap.size, cs, upd_same _ _ _, heap_alloc_new' w _, DenL.mono hle _ _ hd, upd_same _ _ _, .inl h.size⟩
      · rw [if_neg hn] at e
        obtain ⟨b, cs', h1, h2, h3, h4, h5⟩ := hk.hp _ _ _ e
        have hb : b < w.heap.size := (hk.dom _ _ h4).1
        exact ⟨b, cs', hle.ρ _ _ h1, by rw [heap_alloc_old _ _ hb]; exact h2, DenL.mono hle _ _ h3, (upd_ne (by omega)).trans h4, h5⟩
    · intro τ hτ
      obtain ⟨sz, a, len, cap, h1, h2, h3⟩ := hk.tk τ hτ
      refine ⟨sz, a, len, cap, h1, h2, ?_⟩
      rcases h3 with h3 | ⟨b, off, T', cs', h4, h5, h6, h7, h8, h9⟩
      · exact .inl h3
      · have hb : b < w.heap.size := (hk.dom _ _ h5).1
        exact .inr ⟨b, off, T', cs', h4, (upd_ne (by omega)).trans h5, h6, h7.congr (heap_alloc_old _ _ hb), h8, h9⟩
    · intro r R hr
      obtain ⟨F, h1, h2⟩ := hk.rs r R hr
      exact ⟨F, R.loc h1 (fun b hb => heap_alloc_old _ _ (h2 b hb).1), fun b hb => ⟨by rw [size_alloc']; exact Nat.lt_succ_of_lt (h2 b hb).1, (upd_ne (by have := (h2 b hb).1; omega)).trans (h2 b hb).2.1, (h2 b hb).2.2⟩⟩
    · intro a v e
      have hb : a.block < w.heap.size := World.block_lt_of_cell? w a (h.mu a v e)
      rw [upd_ne (by omega)]
      exact hk.mu a v e
    · intro b k e
      rw [size_alloc']
      by_cases hb : b = w.heap.size
      · exact ⟨by omega, .inl (by rw [hb]; exact h.size)⟩
      · rw [upd_ne hb] at e; exact ⟨Nat.lt_succ_of_lt (hk.dom b k e).1, (hk.dom b k e).2⟩

def Env.withTok (E : Env) (n : Nat) (x : Option (Nat × Value)) (μ : Addr → Option Value) : Env := { E with θ := upd E.θ n x, μ := μ }

/-- A row that stays is made; its slice has a token. -/
theorem Good.alloc_tok {E : Env} {st : SS} {w : World} (h : Good E st w) (cs : Array Value) (T : TypeId) (sz n cap : Nat) (hn : n ≤ cap) (hc : cap * sz ≤ cs.size) (fz : Nat × Nat := (0, 0)) (hfz : fz = (0, 0) ∨ cs.size ≤ fz.1 := by exact .inl rfl) :
    ∃ E', E.Le E' ∧ E'.θ st.nx = some (sz, .slice (some ⟨w.heap.size, 0, none⟩) n cap) ∧ (∀ i x, i < n * sz → cs[i]? = some x → E'.μ ⟨w.heap.size, i, none⟩ = some x) ∧
      E'.Z w.heap.size ∧ Good E' { st with tk := st.nx :: st.tk, nx := st.nx + 1 } (w.alloc (.cells cs T fz)) := by
  have hnew : ∀ a v, E.μ a = some v → a.block < w.heap.size := fun a v e => World.block_lt_of_cell? w a (h.mu a v e)
  have hle : E.Le (E.withTok st.nx (some (sz, .slice (some ⟨w.heap.size, 0, none⟩) n cap))
      (fun a => if a.block = w.heap.size then (if a.spot.isSome then none else if a.off < n * sz then cs[a.off]? else none) else E.μ a)) :=
    ⟨rfl, rfl, rfl, fun _ _ e => e, fun m v e => by
      have : m ≠ st.nx := by rintro rfl; rw [h.nxθ _ (Nat.le_refl _)] at e; cases e
      exact (upd_ne this).trans e, fun a v e => by
      have := hnew a v e
      have : a.block ≠ w.heap.size := by omega
      simp [Env.withTok, this, e], fun a v e => by
      simp only [Env.withTok] at e
      by_cases hb : a.block = w.heap.size
      · exact .inr (.inl (by rw [hb]; exact h.size))
      · rw [if_neg hb] at e; exact .inl e, fun _ _ => rfl, fun n hn => (upd_ne (by have := h.k; have := h.kx; omega)), rfl⟩
  refine ⟨_, hle, upd_same _ _ _, fun i x hi e => by simp [Env.withTok, hi, e], E.hZ _ h.size, ?_⟩
  obtain ⟨κ, hk⟩ := h.own
  refine ⟨h.k, Nat.le_succ_of_le h.kx, h.os, h.tape, h.output, by rw [size_alloc']; exact Nat.le_succ_of_le h.size, fun b hb hs => ?_, fun a v e => ?_, fun m hm => h.nxρ m (by simp at hm; omega), fun m hm => ?_, ?_⟩
  · rw [heap_alloc_old _ _ (Nat.lt_of_lt_of_le hb h.size)]; exact h.old b hb hs
  · simp only [Env.withTok] at e
    by_cases hb : a.block = w.heap.size
    · rw [if_pos hb] at e
      by_cases hs : a.spot.isSome = true
      · rw [if_pos hs] at e; cases e
      · rw [if_neg hs] at e
        split at e
        · simp only [World.cell?, hb, heap_alloc_new', if_neg hs]; exact e
        · cases e
    · rw [if_neg hb] at e; exact cell_alloc_some (h.mu a v e)
  · simp only at hm
    exact (upd_ne (by omega)).trans (h.nxθ m (by omega))
  · refine ⟨upd κ w.heap.size (some (.tok st.nx)), ?_, ?_, ?_, ?_, ?_⟩
    · intro m T' ls' e
      obtain ⟨b, cs', h1, h2, h3, h4, h5⟩ := hk.hp _ _ _ e
      have hb : b < w.heap.size := (hk.dom _ _ h4).1
      exact ⟨b, cs', h1, by rw [heap_alloc_old _ _ hb]; exact h2, DenL.mono hle _ _ h3, (upd_ne (by omega)).trans h4, h5⟩
    · intro τ hτ
      rcases List.mem_cons.1 hτ with rfl | hτ
      · refine ⟨sz, _, n, cap, upd_same _ _ _, hn, .inr ⟨w.heap.size, 0, T, cs, rfl, upd_same _ _ _, .inl h.size, ⟨fz, heap_alloc_new' w _, hfz⟩, by simpa using hc, fun ad v e hb => ?_⟩⟩
        simp only [Env.withTok, hb, if_true] at e
        split at e
        · cases e
        · split at e
          · omega
          · cases e
      · obtain ⟨sz', a, len, cap', h1, h2, h3⟩ := hk.tk τ hτ
        refine ⟨sz', a, len, cap', hle.θ _ _ h1, h2, ?_⟩
        rcases h3 with h3 | ⟨b, off, T', cs', h4, h5, h6, h7, h8, h9⟩
        · exact .inl h3
        · have hb : b < w.heap.size := (hk.dom _ _ h5).1
          refine .inr ⟨b, off, T', cs', h4, (upd_ne (by omega)).trans h5, h6, h7.congr (heap_alloc_old _ _ hb), h8, fun ad v e hab => ?_⟩
          simp only [Env.withTok] at e
          rw [if_neg (by omega)] at e
          exact h9 ad v e hab
    · intro r R hr
      obtain ⟨F, h1, h2⟩ := hk.rs r R hr
      exact ⟨F, R.next _ _ F _ _ h1 (fun b hb => .inl (heap_alloc_old _ _ (h2 b hb).1)) hle.μ (fun a v e => by
        simp only [Env.withTok] at e
        by_cases hb : a.block = w.heap.size
        · exact .inr (fun hF => by have := (h2 _ hF).1; omega)
        · rw [if_neg hb] at e; exact .inl e), fun b hb => ⟨by rw [size_alloc']; exact Nat.lt_succ_of_lt (h2 b hb).1, (upd_ne (by have := (h2 b hb).1; omega)).trans (h2 b hb).2.1, (h2 b hb).2.2⟩⟩
    · intro a v e
      simp only [Env.withTok] at e
      by_cases hb : a.block = w.heap.size
      · rw [hb, upd_same]; exact fun n => by simp
      · rw [if_neg hb] at e
        rw [upd_ne hb]
        exact hk.mu a v e
    · intro b k e
      rw [size_alloc']
      by_cases hb : b = w.heap.size
      · exact ⟨by omega, .inl (by rw [hb]; exact h.size)⟩
      · rw [upd_ne hb] at e; exact ⟨Nat.lt_succ_of_lt (hk.dom b k e).1, (hk.dom b k e).2⟩

def tkDel : List Nat → Nat → List Nat
  | [], _ => []
  | m :: r, n => if m = n then tkDel r n else m :: tkDel r n
theorem tkDel_mem : ∀ (l : List Nat) (n x : Nat), x ∈ tkDel l n → x ∈ l ∧ x ≠ n
  | [], n, x, h => by simp [tkDel] at h
  | m :: r, n, x, h => by
    simp only [tkDel] at h
    split at h
    · have := tkDel_mem r n x h; exact ⟨List.mem_cons_of_mem _ this.1, this.2⟩
    · rename_i hm
      rcases List.mem_cons.1 h with rfl | h
      · exact ⟨by simp, hm⟩
      · have := tkDel_mem r n x h; exact ⟨List.mem_cons_of_mem _ this.1, this.2⟩

/-- A token whose slice has no spare room. -/
theorem Good.tok_none {E : Env} {st : SS} {w : World} (h : Good E st w) (sz : Nat) (a : Option Addr) (n : Nat) (ha : a = none := by rfl) :
    ∃ E', E.Le E' ∧ E'.θ st.nx = some (sz, .slice a n n) ∧ E'.μ = E.μ ∧ E'.w0 = E.w0 ∧ Good E' { st with tk := st.nx :: st.tk, nx := st.nx + 1 } w := by
  have hle : E.Le { E with θ := upd E.θ st.nx (some (sz, .slice a n n)) } :=
    ⟨rfl, rfl, rfl, fun _ _ e => e, fun m v e => by
      have : m ≠ st.nx := by rintro rfl; rw [h.nxθ _ (Nat.le_refl _)] at e; cases e
      exact (upd_ne this).trans e, fun _ _ e => e, fun _ _ e => .inl e, fun _ _ => rfl, fun n hn => (upd_ne (by have := h.k; have := h.kx; omega)), rfl⟩
  refine ⟨_, hle, upd_same _ _ _, rfl, rfl, ?_⟩
  obtain ⟨κ, hk⟩ := h.own
  refine ⟨h.k, Nat.le_succ_of_le h.kx, h.os, h.tape, h.output, h.size, h.old, h.mu, fun m hm => h.nxρ m (by simp at hm; omega), fun m hm => ?_, κ, ?_, ?_, hk.rs, hk.mu, hk.dom⟩
  · simp only at hm
    exact (upd_ne (by omega)).trans (h.nxθ m (by omega))
  · intro m T' ls' e
    obtain ⟨b, cs', h1, h2, h3, h4, h5⟩ := hk.hp _ _ _ e
    exact ⟨b, cs', h1, h2, DenL.mono hle _ _ h3, h4, h5⟩
  · intro τ hτ
    rcases List.mem_cons.1 hτ with rfl | hτ
    · exact ⟨sz, a, n, n, upd_same _ _ _, Nat.le_refl _, .inl ⟨rfl, ha⟩⟩
    · obtain ⟨sz', a', len, cap', h1, h2, h3⟩ := hk.tk τ hτ
      exact ⟨sz', a', len, cap', hle.θ _ _ h1, h2, h3⟩

/-- Cells written in a row, the frozen ones of which lie behind it. -/
theorem run_storeCells_T (P : Program) (g o : Nat) (t : TypeId) (fz : Nat × Nat) : ∀ (vs : List Value) (i : Nat) (cur : Array Value) (w : World), w.heap[g]? = some (.cells cur t fz) → (fz = (0, 0) ∨ cur.size ≤ fz.1) → o + i + vs.length ≤ cur.size → (∀ v ∈ vs, v.oneCell' = true) →
    (storeCells ⟨g, o, none⟩ vs i).run P w = .ok () (w.setRow g (cur.toList.take (o + i) ++ vs ++ cur.toList.drop (o + i + vs.length)).toArray)
  | [], i, cur, w, hg, _, _, _ => by
    simp only [storeCells, List.append_nil, List.length_nil, Nat.add_zero, List.take_append_drop, Array.toArray_toList]
    rw [setRow_self w g cur t fz hg]
    rfl
  | v :: rest, i, cur, w, hg, hfz, hl, h1 => by
    have hi : o + i < cur.size := by simp at hl; omega
    have hadd : (⟨g, o, none⟩ : Addr).add i = ⟨g, o + i, none⟩ := by unfold Addr.add; split <;> simp_all
    have hcell : w.cell? ⟨g, o + i, none⟩ = some cur[o + i] := by simp [World.cell?, hg, hi]
    have hfro : w.frozen? ⟨g, o + i, none⟩ = false := by
      obtain ⟨lo, hi'⟩ := fz
      simp only [World.frozen?, hg, Bool.and_eq_false_iff, decide_eq_false_iff_not]
      rcases hfz with hfz | hfz
      · right
        injection hfz with h1 h2
        omega
      · left
        simp only at hfz
        omega
    have hst : (store ((⟨g, o, none⟩ : Addr).add i) v).run P w = .ok () (w.setRow g (cur.setIfInBounds (o + i) v)) := by
      rw [hadd, run_store P w _ v _ (h1 v (by simp)), hcell]
      simp [hfro, setCell_eq_setRow w g (o + i) cur t fz v hg]
    have ih := run_storeCells_T P g o t fz rest (i + 1) (cur.setIfInBounds (o + i) v) (w.setRow g (cur.setIfInBounds (o + i) v)) (setRow_heap w g cur _ t _ hg) (by simpa using hfz) (by simp at hl ⊢; omega) (fun x hx => h1 x (by simp [hx]))
    simp only [storeCells, Sem.run_bind, hst, Result.andThen_ok, ih, setRow_setRow]
    congr 3
    have e := list_seg_step cur.toList (o + i) v rest (by simp at hl ⊢; omega)
    simpa [Array.toList_setIfInBounds, Nat.add_assoc] using e

/-- A token's slice grows where it lies: its spare room is written. -/
theorem Good.grow {E : Env} {st : SS} {w : World} (h : Good E st w) {τ : Nat} (hτ : τ ∈ st.tk) {sz : Nat} {a : Option Addr} {len cap : Nat} (hθ : E.θ τ = some (sz, .slice a len cap)) (vs : List Value) (m : Nat) (hvs : vs.length = m * sz) (hroom : len + m ≤ cap) (hsz : 0 < sz)
    (P : Program) (h1 : ∀ v ∈ vs, v.oneCell' = true) :
    ∃ E' w', E.Le E' ∧ (∀ b, Mut E b ↔ Mut E' b) ∧ E'.θ st.nx = some (sz, .slice a (len + m) cap) ∧ Good E' { st with tk := st.nx :: tkDel st.tk τ, nx := st.nx + 1 } w' ∧
      (match a with | some ad => (storeCells (ad.add (len * sz)) vs).run P w = .ok () w' | none => w' = w ∧ m = 0) ∧
      (∀ j x, vs[j]? = some x → ∃ b off, a = some ⟨b, off, none⟩ ∧ E'.μ ⟨b, off + len * sz + j, none⟩ = some x) := by
  obtain ⟨κ, hk⟩ := h.own
  obtain ⟨sz', a', len', cap', e1, hle0, h3⟩ := hk.tk τ hτ
  rw [hθ] at e1
  simp only [Option.some.injEq, Prod.mk.injEq, Value.slice.injEq] at e1
  obtain ⟨rfl, rfl, rfl, rfl⟩ := e1
  by_cases hm : m = 0
  · subst hm
    have hvs0 : vs = [] := by simpa using hvs
    subst hvs0
    have hle : E.Le { E with θ := upd E.θ st.nx (some (sz, .slice a len cap)) } :=
      ⟨rfl, rfl, rfl, fun _ _ e => e, fun m v e => by
        have : m ≠ st.nx := by rintro rfl; rw [h.nxθ _ (Nat.le_refl _)] at e; cases e
        exact (upd_ne this).trans e, fun _ _ e => e, fun _ _ e => .inl e, fun _ _ => rfl, fun n hn => (upd_ne (by have := h.k; have := h.kx; omega)), rfl⟩
    have hne : τ ≠ st.nx := by rintro rfl; rw [h.nxθ _ (Nat.le_refl _)] at hθ; cases hθ
    refine ⟨_, w, hle, fun _ => Mut.le hle, upd_same _ _ _, ?_, ?_, fun j x e => by simp at e⟩
    · refine ⟨h.k, Nat.le_succ_of_le h.kx, h.os, h.tape, h.output, h.size, h.old, h.mu, fun m hm => h.nxρ m (by simp at hm; omega), fun m hm => ?_, fun b => match κ b with | some (.tok x) => if x = τ then some (.tok st.nx) else κ b | _ => κ b, ?_, ?_, ?_, ?_, ?_⟩
      · simp only at hm
        exact (upd_ne (by omega)).trans (h.nxθ m (by omega))
      · intro n T' ls' e
        obtain ⟨b, cs', k1, k2, k3, k4, k5⟩ := hk.hp _ _ _ e
        exact ⟨b, cs', k1, k2, DenL.mono hle _ _ k3, by simp [k4], k5⟩
      · intro x hx
        rcases List.mem_cons.1 hx with rfl | hx
        · refine ⟨sz, a, len, cap, upd_same _ _ _, hle0, ?_⟩
          rcases h3 with h3 | ⟨b, off, T', cs', k4, k5, k6, k7, k8, k9⟩
          · exact .inl h3
          · exact .inr ⟨b, off, T', cs', k4, by simp [k5], k6, k7, k8, k9⟩
        · obtain ⟨hx, hxne⟩ := tkDel_mem _ _ _ hx
          obtain ⟨sz', a', len', cap', k1, k2, k3⟩ := hk.tk x hx
          refine ⟨sz', a', len', cap', hle.θ _ _ k1, k2, ?_⟩
          rcases k3 with k3 | ⟨b, off, T', cs', k4, k5, k6, k7, k8, k9⟩
          · exact .inl k3
          · exact .inr ⟨b, off, T', cs', k4, by simp [k5, hxne], k6, k7, k8, k9⟩
      · intro r R hr
        obtain ⟨F, k1, k2⟩ := hk.rs r R hr
        exact ⟨F, k1, fun b hb => ⟨(k2 b hb).1, by simp [(k2 b hb).2.1], (k2 b hb).2.2⟩⟩
      · intro ad v e
        have k1 := hk.mu ad v e
        intro n e'; split at e'
        · split at e'
          · cases e'
          · exact k1 n e'
        · exact k1 n e'
      · intro b k e
        split at e
        · rename_i x hx; exact hk.dom b _ hx
        · exact hk.dom b _ e
    · cases a with
      | none => exact ⟨rfl, rfl⟩
      | some ad => rfl
  · rcases h3 with h3 | ⟨b, off, T, cs, rfl, k5, k6, k7, k8, k9⟩
    · have := h3.1; omega
    · have hb : b < w.heap.size := (hk.dom _ _ k5).1
      have hlen : vs.length = m * sz := hvs
      have hmul : (len + m) * sz = len * sz + m * sz := Nat.add_mul _ _ _
      have hcap : (len + m) * sz ≤ cap * sz := Nat.mul_le_mul_right _ hroom
      obtain ⟨fz, k7, hfz⟩ := k7
      have hrun := run_storeCells_T P b (off + len * sz) T fz vs 0 cs w k7 hfz (by omega) h1
      rw [Nat.add_zero] at hrun
      generalize hcs2 : (cs.toList.take (off + len * sz) ++ vs ++ cs.toList.drop (off + len * sz + vs.length)).toArray = cs2 at hrun
      have hsz2 : cs2.size = cs.size := by rw [← hcs2]; simp; omega
      have hlow : ∀ j, j < off + len * sz → cs2[j]? = cs[j]? := fun j hj => by
        rw [← hcs2]
        simp only [List.getElem?_toArray, List.append_assoc]
        rw [List.getElem?_append_left (by simp; omega), List.getElem?_take, if_pos hj]
        simp
      have hmid : ∀ j, j < vs.length → cs2[off + len * sz + j]? = vs[j]? := fun j hj => by
        rw [← hcs2]
        simp only [List.getElem?_toArray, List.append_assoc]
        rw [List.getElem?_append_right (by simp; omega), List.getElem?_append_left (by simp; omega)]
        congr 1
        simp; omega
      have hle : E.Le (E.withTok st.nx (some (sz, .slice (some ⟨b, off, none⟩) (len + m) cap))
          (fun ad => if ad.block = b ∧ ad.spot.isSome = false ∧ off + len * sz ≤ ad.off ∧ ad.off < off + (len + m) * sz then vs[ad.off - (off + len * sz)]? else E.μ ad)) :=
        ⟨rfl, rfl, rfl, fun _ _ e => e, fun m v e => by
          have : m ≠ st.nx := by rintro rfl; rw [h.nxθ _ (Nat.le_refl _)] at e; cases e
          exact (upd_ne this).trans e, fun ad v e => by
          simp only [Env.withTok]
          rw [if_neg]
          · exact e
          · rintro ⟨h1, h2, h3, h4⟩
            have := k9 ad v e h1
            omega, fun ad v e => by
          simp only [Env.withTok] at e
          split at e
          · rename_i hc; exact .inr (by rw [hc.1]; exact k6)
          · exact .inl e, fun _ _ => rfl, fun n hn => (upd_ne (by have := h.k; have := h.kx; omega)), rfl⟩
      have hcell : ∀ ad v, E.μ ad = some v → (w.setRow b cs2).cell? ad = some v := fun ad v e => by
        by_cases hab : ad.block = b
        · have hlt := k9 ad v e hab
          have hc := h.mu ad v e
          rw [← hc]
          simp only [World.cell?, hab, setRow_heap w b cs cs2 T fz k7, k7, hlow _ hlt]
        · rw [cell_setRow_other w b cs2 ad hab]; exact h.mu ad v e
      refine ⟨_, w.setRow b cs2, hle, fun _ => Mut.le hle, upd_same _ _ _, ?_, ?_, ?_⟩
      · refine ⟨h.k, Nat.le_succ_of_le h.kx, h.os, h.tape, h.output, by rw [setRow_size]; exact h.size, fun b' hb' hs => ?_, fun ad v e => ?_, fun m hm => h.nxρ m (by simp at hm; omega), fun m hm => ?_, upd κ b (some (.tok st.nx)), ?_, ?_, ?_, ?_, ?_⟩
        · have : b' ≠ b := by
            rintro rfl
            have hb'' : b' < E.w0.heap.size := hb'
            rcases k6 with k | k
            · omega
            · exact hs k
          rw [setRow_other w b b' cs2 this]; exact h.old b' hb' hs
        · simp only [Env.withTok] at e
          split at e
          · rename_i hc
            obtain ⟨h1, h2, h3, h4⟩ := hc
            simp only [World.cell?, h1, setRow_heap w b cs cs2 T fz k7, h2]
            have := hmid (ad.off - (off + len * sz)) (by omega)
            rw [show off + len * sz + (ad.off - (off + len * sz)) = ad.off by omega] at this
            simpa [this] using e
          · exact hcell ad v e
        · simp only at hm
          exact (upd_ne (by omega)).trans (h.nxθ m (by omega))
        · intro n T' ls' e
          obtain ⟨b1, cs', q1, q2, q3, q4, q5⟩ := hk.hp _ _ _ e
          have hne : b1 ≠ b := by rintro rfl; rw [k5] at q4; cases q4
          exact ⟨b1, cs', q1, by rw [setRow_other w b b1 cs2 hne]; exact q2, DenL.mono hle _ _ q3, (upd_ne hne).trans q4, q5⟩
        · intro x hx
          rcases List.mem_cons.1 hx with rfl | hx
          · refine ⟨sz, _, len + m, cap, upd_same _ _ _, hroom, .inr ⟨b, off, T, cs2, rfl, upd_same _ _ _, k6, ⟨fz, setRow_heap w b cs cs2 T fz k7, by rw [hsz2]; exact hfz⟩, by rw [hsz2]; exact k8, fun ad v e hab => ?_⟩⟩
            simp only [Env.withTok] at e
            split at e
            · rename_i hc; exact hc.2.2.2
            · have := k9 ad v e hab; omega
          · obtain ⟨hx, hxne⟩ := tkDel_mem _ _ _ hx
            obtain ⟨sz', a', len', cap', q1, q2, q3⟩ := hk.tk x hx
            refine ⟨sz', a', len', cap', hle.θ _ _ q1, q2, ?_⟩
            rcases q3 with q3 | ⟨b1, off1, T', cs', q4, q5, q6, q7, q8, q9⟩
            · exact .inl q3
            · have hne : b1 ≠ b := by rintro rfl; rw [k5] at q5; injection q5 with q5; injection q5 with q5; exact hxne q5.symm
              refine .inr ⟨b1, off1, T', cs', q4, (upd_ne hne).trans q5, q6, q7.congr (setRow_other w b b1 cs2 hne), q8, fun ad v e hab => ?_⟩
              simp only [Env.withTok] at e
              rw [if_neg (by rintro ⟨e1, -⟩; exact hne (hab.symm.trans e1))] at e
              exact q9 ad v e hab
        · intro r R hr
          obtain ⟨F, q1, q2⟩ := hk.rs r R hr
          have hne : ∀ b1, F b1 → b1 ≠ b := by rintro b1 hF rfl; have := (q2 _ hF).2.1; rw [k5] at this; cases this
          exact ⟨F, R.next _ _ F _ _ q1 (fun b1 hF => .inl (setRow_other w b b1 cs2 (hne b1 hF))) hle.μ (fun ad v e => by
            simp only [Env.withTok] at e
            split at e
            · rename_i hc; exact .inr (fun hF => hne _ hF hc.1)
            · exact .inl e), fun b1 hF => ⟨by rw [setRow_size]; exact (q2 b1 hF).1, (upd_ne (hne b1 hF)).trans (q2 b1 hF).2.1, (q2 b1 hF).2.2⟩⟩
        · intro ad v e
          by_cases hab : ad.block = b
          · rw [hab, upd_same]; exact fun n => by simp
          · rw [upd_ne hab]
            simp only [Env.withTok] at e
            rw [if_neg (by rintro ⟨e1, -⟩; exact hab e1)] at e
            exact hk.mu ad v e
        · intro b1 k e
          rw [setRow_size]
          by_cases hb1 : b1 = b
          · rw [hb1]; exact ⟨hb, k6⟩
          · rw [upd_ne hb1] at e; exact hk.dom b1 k e
      · show (storeCells ((⟨b, off, none⟩ : Addr).add (len * sz)) vs).run P w = _
        rw [addr_add]; exact hrun
      · intro j x e
        have hj : j < vs.length := by
          rcases Nat.lt_or_ge j vs.length with h' | h'
          · exact h'
          · rw [List.getElem?_eq_none h'] at e; cases e
        refine ⟨b, off, rfl, ?_⟩
        simp only [Env.withTok]
        rw [if_pos ⟨trivial, rfl, by omega, by omega⟩]
        rw [show off + len * sz + j - (off + len * sz) = j by omega]
        exact e

theorem hfind_hset_same (hp : List (Nat × TypeId × List SV)) (m : Nat) (T : TypeId) (l l' : List SV) (hn : hfind hp m = some (T, l)) : hfind (hset hp m l') m = some (T, l') := by
  induction hp with
  | nil => simp [hfind] at hn
  | cons x r ih =>
    obtain ⟨m', T', l1⟩ := x
    simp only [hfind] at hn
    by_cases e : m' = m
    · rw [if_pos e] at hn
      simp only [Option.some.injEq, Prod.mk.injEq] at hn
      simp [hset, e, hfind, hn.1]
    · rw [if_neg e] at hn
      simp [hset, e, hfind, ih hn]
theorem hfind_hset_ne (hp : List (Nat × TypeId × List SV)) (n m : Nat) (l' : List SV) (hm : ¬ m = n) : hfind (hset hp n l') m = hfind hp m := by
  induction hp with
  | nil => rfl
  | cons x r ih =>
    obtain ⟨m', T', l1⟩ := x
    by_cases e : m' = n
    · have : ¬ n = m := fun h => hm h.symm
      simp [hset, e, hfind, this]
    · by_cases e2 : m' = m <;> simp [hset, e, hm, hfind, e2, ih]

/-- A cell of a named block is written. -/
theorem Good.store {E : Env} {st : SS} {w : World} (h : Good E st w) {n : Nat} {T : TypeId} {l : List SV} (hn : hfind st.hp n = some (T, l)) (off : Nat) {ls : List SV} {vs : List Value} (hd : DenL E ls vs) (hlen : off + ls.length ≤ l.length)
    (P : Program) (h1 : ∀ v ∈ vs, v.oneCell' = true) :
    ∃ b w', E.ρ n = some b ∧ (storeCells ⟨b, off, none⟩ vs).run P w = .ok () w' ∧ Good E { st with hp := hset st.hp n (spl l off ls) } w' := by
  obtain ⟨κ, hk⟩ := h.own
  obtain ⟨b, cs, hb, hblk, hden, hκ, hmut⟩ := hk.hp _ _ _ hn
  have hl1 := denL_length _ _ hden
  have hl2 := denL_length _ _ hd
  have hsz : cs.size = l.length := by rw [← hl1]; simp
  have hrun := run_storeCells_at P b off T vs 0 cs w hblk (by omega) h1
  rw [Nat.add_zero] at hrun
  have hspl : (cs.toList.take off ++ vs ++ cs.toList.drop (off + vs.length)) = splV cs.toList off vs := by
    apply List.ext_getElem?
    intro j
    rw [splV_getElem]
    by_cases h2 : j < off
    · rw [if_neg (by omega), List.append_assoc, List.getElem?_append_left (by simp; omega), List.getElem?_take, if_pos h2]
    · by_cases h3 : j < off + vs.length
      · rw [if_pos ⟨by omega, h3, by simp; omega⟩, List.append_assoc, List.getElem?_append_right (by simp; omega), List.getElem?_append_left (by simp; omega)]
        congr 1; simp; omega
      · rw [if_neg (by omega), List.getElem?_append_right (by simp; omega), List.getElem?_drop]
        congr 1; simp; omega
  rw [hspl] at hrun
  have hother : ∀ b', b' ≠ b → (w.setRow b (splV cs.toList off vs).toArray).heap[b']? = w.heap[b']? := fun b' hb' => setRow_other w b b' _ hb'
  refine ⟨b, _, hb, hrun, ?_⟩
  refine ⟨h.k, h.kx, h.os, h.tape, h.output, by rw [setRow_size]; exact h.size, fun b' hb' hs => ?_, fun ad v e => ?_, h.nxρ, h.nxθ, κ, ?_, ?_, ?_, hk.mu, ?_⟩
  · rw [hother b']
    · exact h.old b' hb' hs
    · rintro rfl
      rcases hmut with hm | hm
      · omega
      · exact hs hm
  · have : ad.block ≠ b := by
      intro e'
      exact hk.mu ad v e n (by rw [e']; exact hκ)
    rw [cell_setRow_other w b _ ad this]; exact h.mu ad v e
  · intro m T' ls' e
    by_cases hm : m = n
    · subst hm
      have := hfind_hset_same st.hp m T l (spl l off ls) hn
      rw [this] at e
      simp only [Option.some.injEq, Prod.mk.injEq] at e
      obtain ⟨rfl, rfl⟩ := e
      exact ⟨b, _, hb, setRow_heap w b cs _ T (0, 0) hblk, by simpa using denL_spl _ _ off _ _ hden hd, hκ, hmut⟩
    · have := hfind_hset_ne st.hp n m (spl l off ls) hm
      rw [this] at e
      obtain ⟨b1, cs', q1, q2, q3, q4, q5⟩ := hk.hp _ _ _ e
      have hne : b1 ≠ b := by rintro rfl; rw [hκ] at q4; injection q4 with q4; injection q4 with q4; exact hm q4.symm
      exact ⟨b1, cs', q1, by rw [hother b1 hne]; exact q2, q3, q4, q5⟩
  · intro x hx
    obtain ⟨sz', a', len', cap', q1, q2, q3⟩ := hk.tk x hx
    refine ⟨sz', a', len', cap', q1, q2, ?_⟩
    rcases q3 with q3 | ⟨b1, off1, T', cs', q4, q5, q6, q7, q8, q9⟩
    · exact .inl q3
    · have hne : b1 ≠ b := by rintro rfl; rw [hκ] at q5; cases q5
      exact .inr ⟨b1, off1, T', cs', q4, q5, q6, q7.congr (hother b1 hne), q8, q9⟩
  · intro r R hr
    obtain ⟨F, q1, q2⟩ := hk.rs r R hr
    have hne : ∀ b1, F b1 → b1 ≠ b := by rintro b1 hF rfl; have := (q2 _ hF).2.1; rw [hκ] at this; cases this
    exact ⟨F, R.loc q1 (fun b1 hF => hother b1 (hne b1 hF)), fun b1 hF => ⟨by rw [setRow_size]; exact (q2 b1 hF).1, (q2 b1 hF).2⟩⟩
  · intro b1 k e
    rw [setRow_size]; exact hk.dom b1 k e

theorem Good.alloc_res {E : Env} {st : SS} {w : World} (h : Good E st w) (o : Obj) : Good E { st with rs := (st.nx, RObj w.heap.size o) :: st.rs, nx := st.nx + 1 } (w.alloc o) := by
  obtain ⟨κ, hk⟩ := h.own
  refine ⟨h.k, Nat.le_succ_of_le h.kx, h.os, h.tape, h.output, by rw [size_alloc']; exact Nat.le_succ_of_le h.size, fun b hb hs => ?_, fun a v e => cell_alloc_some (h.mu a v e), fun n hn => h.nxρ n (by simp at hn; omega), fun n hn => h.nxθ n (by simp at hn; omega), ?_⟩
  · rw [heap_alloc_old _ _ (Nat.lt_of_lt_of_le hb h.size)]; exact h.old b hb hs
  · refine ⟨upd κ w.heap.size (some (.res st.nx)), ?_, ?_, ?_, ?_, ?_⟩
    · intro n T' ls' e
      obtain ⟨b, cs', h1, h2, h3, h4, h5⟩ := hk.hp _ _ _ e
      have hb : b < w.heap.size := (hk.dom _ _ h4).1
      exact ⟨b, cs', h1, by rw [heap_alloc_old _ _ hb]; exact h2, h3, (upd_ne (by omega)).trans h4, h5⟩
    · intro τ hτ
      obtain ⟨sz, a, len, cap, h1, h2, h3⟩ := hk.tk τ hτ
      refine ⟨sz, a, len, cap, h1, h2, ?_⟩
      rcases h3 with h3 | ⟨b, off, T', cs', h4, h5, h6, h7, h8, h9⟩
      · exact .inl h3
      · have hb : b < w.heap.size := (hk.dom _ _ h5).1
        exact .inr ⟨b, off, T', cs', h4, (upd_ne (by omega)).trans h5, h6, h7.congr (heap_alloc_old _ _ hb), h8, h9⟩
    · intro r R hr
      rcases List.mem_cons.1 hr with hr | hr
      · injection hr with h1 h2
        subst h1; subst h2
        exact ⟨fun c => c = w.heap.size, ⟨rfl, heap_alloc_new' w o, fun a v e => by have := World.block_lt_of_cell? w a (h.mu a v e); omega⟩, fun c hc => by subst hc; exact ⟨by rw [size_alloc']; omega, upd_same _ _ _, .inl h.size⟩⟩
      · obtain ⟨F, h1, h2⟩ := hk.rs r R hr
        exact ⟨F, R.loc h1 (fun b hb => heap_alloc_old _ _ (h2 b hb).1), fun b hb => ⟨by rw [size_alloc']; exact Nat.lt_succ_of_lt (h2 b hb).1, (upd_ne (by have := (h2 b hb).1; omega)).trans (h2 b hb).2.1, (h2 b hb).2.2⟩⟩
    · intro a v e
      have hb : a.block < w.heap.size := World.block_lt_of_cell? w a (h.mu a v e)
      rw [upd_ne (by omega)]
      exact hk.mu a v e
    · intro b k e
      rw [size_alloc']
      by_cases hb : b = w.heap.size
      · exact ⟨by omega, .inl (by rw [hb]; exact h.size)⟩
      · rw [upd_ne hb] at e; exact ⟨Nat.lt_succ_of_lt (hk.dom b k e).1, (hk.dom b k e).2⟩

end Go.Eng
