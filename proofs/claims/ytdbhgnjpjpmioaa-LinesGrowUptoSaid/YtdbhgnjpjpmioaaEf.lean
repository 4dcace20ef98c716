/- The engine, part F: loads, conversions, slices, aggregates; all operations that leave the world alone. -/
import Derived.Test.YtdbhgnjpjpmioaaEe
import Derived.Laws.BytesString
namespace Go.Eng
open Go
set_option linter.unusedVariables false
set_option linter.unusedSimpArgs false

def evLoad (Γ : Tab) (st : SS) (g : Bool) (t : TypeId) (x : Operand) : Option (SV × Prop) :=
  match opd st x with
  | .ptr n o =>
    match hfind st.hp n with
    | some (_, l) =>
      match (Γ t).d.agg with
      | true => some (.agg ((l.drop o).take (Γ t).size), ovc st g x ∧ (Γ t).d ≠ .none ∧ o + (Γ t).size ≤ l.length)
      | false => match nth l o with
        | some v => some (v, ovc st g x ∧ (Γ t).d ≠ .none)
        | none => none
    | none => none
  | .ep n get =>
    match (Γ t).d.agg with
    | true => some (.agg ((List.range (Γ t).size).map get), ovc st g x ∧ (Γ t).d ≠ .none ∧ (Γ t).size ≤ n)
    | false => some (get 0, ovc st g x ∧ (Γ t).d ≠ .none ∧ 0 < n)
  | _ => none

theorem denL_get_of {E : Env} : ∀ (l : List SV) (f : Nat → Option Value), (∀ j x, l[j]? = some x → ∃ v, f j = some v ∧ Den E x v) → ∃ cs : List Value, DenL E l cs ∧ ∀ j v, cs[j]? = some v → f j = some v
  | [], f, _ => ⟨[], by simp only [DenL], fun j v h => by simp at h⟩
  | x :: xs, f, h => by
    obtain ⟨v, h1, h2⟩ := h 0 x (by simp)
    obtain ⟨cs, h3, h4⟩ := denL_get_of xs (fun j => f (j + 1)) (fun j y hy => h (j + 1) y (by simpa using hy))
    refine ⟨v :: cs, by simp only [DenL]; exact ⟨h2, h3⟩, fun j u hu => ?_⟩
    cases j with
    | zero => simp at hu; subst hu; exact h1
    | succ j => exact h4 j u (by simpa using hu)

theorem evLoad_sound {P : Program} {Γ : Tab} (hΓ : Γ.ok P) {E : Env} {st : SS} {a : Act} {w : World} {g : Bool} (hf : Fr E st a) (hw : Good E st w) (hg : g = true) {t : TypeId} {x : Operand} {r : SV} {vc : Prop}
    (h : evLoad Γ st g t x = some (r, vc)) (hv : vc) : ∃ v, (Instr.loadAt t (a.eval x)).run P w = .ok v w ∧ Den E r v := by
  unfold evLoad at h
  split at h
  · rename_i n o e1
    split at h
    · rename_i T l e2
      obtain ⟨κ, hk⟩ := hw.own
      obtain ⟨b, cs, hb, hblk, hden, -, -⟩ := hk.hp _ _ _ e2
      have hcell : ∀ j v, cs[j]? = some v → w.cell? ⟨b, j, none⟩ = some v := fun j v e => by simp [World.cell?, hblk, e]
      split at h
      · rename_i hagg
        simp only [Option.some.injEq, Prod.mk.injEq] at h
        obtain ⟨rfl, rfl⟩ := h
        have hx := opd_den hf hg hv.1
        rw [e1] at hx
        simp only [Den] at hx
        obtain ⟨b', hb', e⟩ := hx
        obtain rfl : b' = b := by rw [hb] at hb'; injection hb' with e; exact e.symm
        have hlen := denL_length _ _ hden
        have hcs : ∀ j v, ((cs.toList.drop o).take (Γ t).size)[j]? = some v → w.cell? ((⟨b', o, none⟩ : Addr).add j) = some v := fun j v e => by
          rw [addr_add]
          refine hcell _ _ ?_
          rw [List.getElem?_take, List.getElem?_drop] at e
          split at e
          · simpa using e
          · cases e
        have hrun := run_loadVar_of hΓ hv.2.1 (w := w) (a := ⟨b', o, none⟩) _ hcs (by
          rw [hagg]; simp only [if_true, List.length_take, List.length_drop, hlen]; omega)
        refine ⟨.agg ((cs.toList.drop o).take (Γ t).size).toArray, ?_, ?_⟩
        · rw [e]
          simp only [Instr.loadAt, Instr.sureAddr, Sem.run_bind, Sem.run_pure, Result.andThen_ok, hrun, hagg, if_true]
        · simp only [Den]
          exact ⟨_, rfl, denL_take _ _ _ (denL_drop _ _ _ hden)⟩
      · rename_i hagg
        split at h
        · rename_i v e3
          simp only [Option.some.injEq, Prod.mk.injEq] at h
          obtain ⟨rfl, rfl⟩ := h
          have hx := opd_den hf hg hv.1
          rw [e1] at hx
          simp only [Den] at hx
          obtain ⟨b', hb', e⟩ := hx
          obtain rfl : b' = b := by rw [hb] at hb'; injection hb' with e; exact e.symm
          rw [nth_eq] at e3
          obtain ⟨u, hu, hdu⟩ := denL_getElem _ _ _ _ hden e3
          have hrun := run_loadVar_of hΓ hv.2 (w := w) (a := ⟨b', o, none⟩) [u] (fun j y hy => by
            cases j with
            | zero => simp at hy; subst hy; rw [addr_add]; exact hcell _ _ (by simpa using hu)
            | succ j => simp at hy) (by rw [hagg]; simp)
          refine ⟨u, ?_, hdu⟩
          rw [e]
          simp [Instr.loadAt, Instr.sureAddr, hrun, hagg]
        · cases h
    · cases h
  · rename_i n get e1
    split at h
    · rename_i hagg
      simp only [Option.some.injEq, Prod.mk.injEq] at h
      obtain ⟨rfl, rfl⟩ := h
      have hx := opd_den hf hg hv.1
      rw [e1] at hx
      simp only [Den] at hx
      obtain ⟨b, off, e, q⟩ := hx
      obtain ⟨cs, h1, h2⟩ := denL_get_of ((List.range (Γ t).size).map get) (fun j => E.μ ⟨b, off + j, none⟩) (fun j y hy => by
        simp only [List.getElem?_map, Option.map_eq_some_iff] at hy
        obtain ⟨j', hj, rfl⟩ := hy
        have hj' : j < (Γ t).size := by
          rcases Nat.lt_or_ge j (Γ t).size with h' | h'
          · exact h'
          · rw [List.getElem?_eq_none (by simpa using h')] at hj; cases hj
        rw [List.getElem?_range hj'] at hj
        injection hj with hj
        subst hj
        have := hv.2.2
        exact q _ (by omega))
      have hrun := run_loadVar_of hΓ hv.2.1 (w := w) (a := ⟨b, off, none⟩) cs (fun j v e => by rw [addr_add]; exact hw.mu _ _ (h2 j v e)) (by
        rw [hagg, denL_length _ _ h1]; simp)
      refine ⟨.agg cs.toArray, ?_, by simp only [Den]; exact ⟨cs, rfl, h1⟩⟩
      rw [e]
      simp [Instr.loadAt, Instr.sureAddr, hrun, hagg]
    · rename_i hagg
      simp only [Option.some.injEq, Prod.mk.injEq] at h
      obtain ⟨rfl, rfl⟩ := h
      have hx := opd_den hf hg hv.1
      rw [e1] at hx
      simp only [Den] at hx
      obtain ⟨b, off, e, q⟩ := hx
      obtain ⟨u, hu, hdu⟩ := q 0 hv.2.2
      have hrun := run_loadVar_of hΓ hv.2.1 (w := w) (a := ⟨b, off, none⟩) [u] (fun j y hy => by
        cases j with
        | zero => simp at hy; subst hy; rw [addr_add]; exact hw.mu _ _ hu
        | succ j => simp at hy) (by rw [hagg]; simp)
      refine ⟨u, ?_, hdu⟩
      rw [e]
      simp [Instr.loadAt, Instr.sureAddr, hrun, hagg]
  · cases h

def evUn (op : UnOp) (x : SV) : Option SV :=
  match op, x with
  | .not, .b c => some (.b (!c))
  | .neg, .i k n => some (.i k (k.wrap (0 - n)))
  | .xor, .i k n => some (.i k (xorI k (if k.signed then -1 else k.max) n))
  | _, _ => none

theorem evUn_sound {P : Program} {E : Env} {w : World} {op : UnOp} {x r : SV} {v : Value} (h : evUn op x = some r) (hx : Den E x v) : ∃ v', (Op.unary op v).run P w = .ok v' w ∧ Den E r v' := by
  unfold evUn at h
  split at h <;> simp only [Option.some.injEq, reduceCtorEq] at h <;> subst h <;> simp only [Den] at hx <;> subst hx <;> simp only [Den]
  · exact ⟨_, by simp [Op.unary], rfl⟩
  · exact ⟨_, by simp [Op.unary, Op.intArith], rfl⟩
  · exact ⟨_, by simp [Op.unary, Op.intBits]; rfl, rfl⟩

def evConv (Γ : Tab) (s d : TypeId) (x : SV) : Option (SV × Prop) :=
  match x, (Γ s).d, (Γ d).d with
  | .i _ n, .int _, .int k => some (.i k (k.wrap n), True)
  | .i _ n, .int _, .str => some (.s (Utf8.encode n), True)
  | .s y, .str, .str => some (.s y, True)
  | .ints .u8 _ l, .slice e, .str => some (.s (strOf l), (Γ e).d = .int .u8)
  | _, _, _ => none

theorem foldl_push (l : List Int) : ∀ (acc : ByteArray), l.foldl (fun r n => r.push (UInt8.ofNat n.toNat)) acc = acc ++ strOf l := by
  induction l with
  | nil => intro acc; apply ByteArray.ext; simp [strOf]
  | cons x xs ih =>
    intro acc
    rw [List.foldl_cons, ih]
    apply ByteArray.ext
    simp [strOf, ByteArray.push, ByteArray.append_eq, ByteArray.data_append]

theorem evConv_sound {P : Program} {Γ : Tab} (hΓ : Γ.ok P) {E : Env} {st : SS} {w : World} (hw : Good E st w) {s d : TypeId} {x r : SV} {vc : Prop} {v : Value} (h : evConv Γ s d x = some (r, vc)) (hv : vc)
    (hx : Den E x v) : ∃ v', (convert s d v).run P w = .ok v' w ∧ Den E r v' := by
  unfold evConv at h
  have hs := (hΓ s).und
  have hd := (hΓ d).und
  split at h <;> simp only [Option.some.injEq, Prod.mk.injEq, reduceCtorEq] at h <;> obtain ⟨rfl, rfl⟩ := h <;> rename_i e2 e3 <;> rw [e2] at hs <;> rw [e3] at hd <;> simp only [TD.ok] at hs hd <;> simp only [Den] at hx ⊢
  · subst hx
    exact ⟨_, by simp [convert, run_underlying hs, run_underlying hd, Conv.intToInt], rfl⟩
  · subst hx
    exact ⟨_, by simp [convert, run_underlying hs, run_underlying hd, Conv.intToString], rfl⟩
  · subst hx
    exact ⟨_, by simp [convert, run_underlying hs, run_underlying hd], rfl⟩
  · rename_i tg l e
    obtain ⟨p, cap, rfl, hc, _, q, _⟩ := hx
    have hu := (hΓ e).und
    rw [hv] at hu
    simp only [TD.ok] at hu
    refine ⟨.string (strOf l), ?_, rfl⟩
    cases p with
    | none =>
      have : l = [] := by
        cases l with
        | nil => rfl
        | cons y ys => obtain ⟨b, off, e, _⟩ := q 0 y (by simp); cases e
      subst this
      simp [convert, run_underlying hs, run_underlying hd, run_underlying hu, Conv.bytesToString, strOf]
      rfl
    | some ad =>
      have hl := run_loadCells_list (P := P) w ad (l.map (Value.int .u8)) (fun j v hj => by
        simp only [List.getElem?_map, Option.map_eq_some_iff] at hj
        obtain ⟨n, hj, rfl⟩ := hj
        obtain ⟨b, off, e, hm⟩ := q j n hj
        injection e with e
        rw [e, addr_add]
        exact hw.mu _ _ hm)
      rw [List.length_map] at hl
      have := run_bytesToString (P := P) w ad l.length cap l hl
      simp [convert, run_underlying hs, run_underlying hd, run_underlying hu, this, foldl_push]
end Go.Eng
