/- The engine, part G: the rest of the operations that leave the world alone, and all of them in one. -/
import Derived.Test.YtdbhgnjpjpmioaaEf
namespace Go.Eng
open Go
set_option linter.unusedVariables false
set_option linter.unusedSimpArgs false

theorem denL_ops {E : Env} {st : SS} {a : Act} {g : Bool} (hf : Fr E st a) (hg : g = true) : ∀ (l : List Operand), ovcL st g l → DenL E (l.map (opd st)) (l.map a.eval)
  | [], _ => by simp only [List.map_nil, DenL]
  | x :: r, h => by
    simp only [ovcL] at h
    simp only [List.map_cons, DenL]
    exact ⟨opd_den hf hg h.1, denL_ops hf hg r h.2⟩

def evFieldV (Γ : Tab) (t : TypeId) (x : SV) (f : Nat) : Option (SV × Prop) :=
  match x, fieldOf (Γ t).d f with
  | .agg l, some (off, ft) =>
    match (Γ ft).d.agg with
    | true => some (.agg ((l.drop off).take (Γ ft).size), (Γ ft).d ≠ .none)
    | false => match nth l off with
      | some v => some (v, (Γ ft).d ≠ .none)
      | none => none
  | _, _ => none

theorem evFieldV_sound {P : Program} {Γ : Tab} (hΓ : Γ.ok P) {E : Env} {w : World} {t : TypeId} {x : SV} {f : Nat} {r : SV} {vc : Prop} {v : Value}
    (h : evFieldV Γ t x f = some (r, vc)) (hv : vc) (hx : Den E x v) : ∃ v', (Instr.field t v f).run P w = .ok v' w ∧ Den E r v' := by
  unfold evFieldV at h
  split at h
  · rename_i l off ft e2
    obtain ⟨fields, fd, h1, h2, rfl, rfl⟩ := fieldOf_run hΓ e2
    simp only [Den] at hx
    obtain ⟨cs, rfl, hden⟩ := hx
    split at h
    · rename_i hagg
      simp only [Option.some.injEq, Prod.mk.injEq] at h
      obtain ⟨rfl, rfl⟩ := h
      obtain ⟨i, z, hi, hs, -⟩ := Tab.info hΓ _ hv
      refine ⟨.agg ((cs.drop fd.offset).take (Γ fd.type).size).toArray, ?_, by simp only [Den]; exact ⟨_, rfl, denL_take _ _ _ (denL_drop _ _ _ hden)⟩⟩
      simp [Instr.field, run_underlying h1, h2, part, run_isAgg (hΓ _).und hv, hagg, run_sizeOf' hi, hs, asAgg, List.drop_take, Nat.add_sub_cancel_left]
    · rename_i hagg
      split at h
      · rename_i y e3
        simp only [Option.some.injEq, Prod.mk.injEq] at h
        obtain ⟨rfl, rfl⟩ := h
        rw [nth_eq] at e3
        obtain ⟨u, hu, hdu⟩ := denL_getElem _ _ _ _ hden e3
        refine ⟨u, ?_, hdu⟩
        simp [Instr.field, run_underlying h1, h2, part, run_isAgg (hΓ _).und hv, hagg, hu, asAgg]
      · cases h
  · cases h

def evIndex (Γ : Tab) (t : TypeId) (x ix : SV) : Option (SV × Prop) :=
  match x, ix, (Γ t).d with
  | .s y, .i _ i, .str => some (.i .u8 (byteAt y i), 0 ≤ i ∧ i < y.size)
  | _, _, _ => none

theorem evIndex_sound {P : Program} {Γ : Tab} (hΓ : Γ.ok P) {E : Env} {w : World} {t : TypeId} {x ix : SV} {r : SV} {vc : Prop} {v vi : Value}
    (h : evIndex Γ t x ix = some (r, vc)) (hv : vc) (hx : Den E x v) (hi : Den E ix vi) : ∃ v', (Instr.index t v vi).run P w = .ok v' w ∧ Den E r v' := by
  unfold evIndex at h
  have hd := (hΓ t).und
  split at h <;> simp only [Option.some.injEq, Prod.mk.injEq, reduceCtorEq] at h
  rename_i y k i e
  obtain ⟨rfl, rfl⟩ := h
  rw [e] at hd
  simp only [TD.ok] at hd
  simp only [Den] at hx hi ⊢
  subst hx hi
  obtain ⟨h0, h1⟩ := hv
  have hlt : i.toNat < y.size := by omega
  refine ⟨_, ?_, rfl⟩
  simp [Instr.index, asIntOf, run_underlying hd, h0, byteAt, getElem?_pos y i.toNat hlt]

def evSlice (Γ : Tab) (t : TypeId) (x : SV) (lo hi : Option SV) : Option (SV × Prop) :=
  match x, (Γ t).d with
  | .ints k tg l, .slice e =>
    match cut hi lo l.length with
    | some (a, b, vc) => some (.ints k (cutTag hi.isSome tg) (cutL lo.isSome hi.isSome a b l), vc ∧ (Γ e).d ≠ .none ∧ (Γ e).size = 1)
    | none => none
  | .s y, .str =>
    match cut hi lo y.size with
    | some (a, b, vc) => some (.s (y.extract a b), vc)
    | none => none
  | _, _ => none

theorem cutL_eq {lo hi : Option SV} {a b : Nat} {l : List Int} {vc : Prop} (h : cut hi lo l.length = some (a, b, vc)) : cutL lo.isSome hi.isSome a b l = (l.take b).drop a := by
  unfold cut at h
  split at h <;> simp only [Option.some.injEq, Prod.mk.injEq, reduceCtorEq] at h <;> obtain ⟨rfl, rfl, rfl⟩ := h <;> simp [cutL]

theorem cut_end {lo hi : Option SV} {n a b : Nat} {vc : Prop} (h : cut hi lo n = some (a, b, vc)) (hh : hi.isSome = false) (hv : vc) : b = n := by
  unfold cut at h
  split at h <;> simp only [Option.some.injEq, Prod.mk.injEq, reduceCtorEq] at h <;> obtain ⟨rfl, rfl, rfl⟩ := h <;> simp at hh ⊢

theorem evSlice_sound {P : Program} {Γ : Tab} (hΓ : Γ.ok P) {E : Env} {w : World} {t : TypeId} {x : SV} {lo hi : Option SV} {r : SV} {vc : Prop} {v : Value} {vlo vhi : Option Value}
    (h : evSlice Γ t x lo hi = some (r, vc)) (hv : vc) (hx : Den E x v)
    (hlo : ∀ x, lo = some x → ∃ v, vlo = some v ∧ Den E x v) (hlo' : lo = none → vlo = none) (hhi : ∀ x, hi = some x → ∃ v, vhi = some v ∧ Den E x v) (hhi' : hi = none → vhi = none) :
    ∃ v', (Instr.sliceAt t v vlo vhi none).run P w = .ok v' w ∧ Den E r v' := by
  unfold evSlice at h
  have hd := (hΓ t).und
  split at h
  · rename_i k tg l e e2
    rw [e2] at hd
    simp only [TD.ok] at hd
    split at h
    · rename_i a b vc' e3
      simp only [Option.some.injEq, Prod.mk.injEq] at h
      obtain ⟨rfl, rfl⟩ := h
      simp only [Den] at hx ⊢
      have hx' := hx
      obtain ⟨p, cap, rfl, hc, _, q, _⟩ := hx
      obtain ⟨hrun, hab, hbn⟩ := cut_run P w lo hi vlo vhi l.length cap E a b vc' true hlo hlo' hhi hhi' hc e3 hv.1
      obtain ⟨i, z, hi', hs, -⟩ := Tab.info hΓ _ hv.2.1
      refine ⟨_, ?_, by rw [cutL_eq e3]; exact ints_cutT _ hx' hab hbn (fun hh => cut_end e3 hh hv.1)⟩
      simp [Instr.sliceAt, Instr.slice, run_underlying hd, hrun, run_sizeOf' hi', hs, hv.2.2]
    · cases h
  · rename_i y e2
    rw [e2] at hd
    simp only [TD.ok] at hd
    split at h
    · rename_i a b vc' e3
      simp only [Option.some.injEq, Prod.mk.injEq] at h
      obtain ⟨rfl, rfl⟩ := h
      simp only [Den] at hx ⊢
      subst hx
      obtain ⟨hrun, hab, hbn⟩ := cut_run P w lo hi vlo vhi y.size y.size E a b vc' false hlo hlo' hhi hhi' (Nat.le_refl _) e3 hv
      refine ⟨_, ?_, rfl⟩
      simp [Instr.sliceAt, Instr.slice, run_underlying hd, hrun]
    · cases h
  · cases h

def evBuiltin (Γ : Tab) (b : Builtin) (ts : List TypeId) (xs : List SV) : Option (SV × Prop) :=
  match b, ts, xs with
  | .len, t :: _, [x] =>
    match x, (Γ t).d with
    | .s y, .str => some (.i .i64 y.size, True)
    | .ints _ _ l, .slice _ => some (.i .i64 l.length, True)
    | .sl _ _ n _, .slice _ => some (.i .i64 n, True)
    | _, _ => none
  | .min, _, [.i k a, .i _ b] => some (.i k (minI a b), True)
  | .max, _, [.i k a, .i _ b] => some (.i k (maxI a b), True)
  | _, _, _ => none

theorem denL_one {E : Env} {x : SV} {vs : List Value} (h : DenL E [x] vs) : ∃ v, vs = [v] ∧ Den E x v := by
  match vs, h with
  | [v], h => simp only [DenL] at h; exact ⟨v, rfl, h.1⟩
  | [], h => simp only [DenL] at h
  | _ :: _ :: _, h => simp only [DenL] at h; exact h.2.elim
theorem denL_two {E : Env} {x y : SV} {vs : List Value} (h : DenL E [x, y] vs) : ∃ v u, vs = [v, u] ∧ Den E x v ∧ Den E y u := by
  match vs, h with
  | v :: us, h =>
    simp only [DenL] at h
    obtain ⟨h1, h2⟩ := h
    obtain ⟨u, rfl, h3⟩ := denL_one (by simpa only [DenL] using h2)
    exact ⟨v, u, rfl, h1, h3⟩
  | [], h => simp only [DenL] at h

theorem evBuiltin_sound {P : Program} {Γ : Tab} (hΓ : Γ.ok P) {E : Env} {w : World} {b : Builtin} {ts : List TypeId} {xs : List SV} {r : SV} {vc : Prop} {vs : List Value} {ty : TypeId} {cs : Array Bool}
    (h : evBuiltin Γ b ts xs = some (r, vc)) (hv : vc) (hx : DenL E xs vs) : ∃ v', (builtin b ts.toArray ty cs vs.toArray).run P w = .ok (.value v') w ∧ Den E r v' := by
  unfold evBuiltin at h
  split at h
  · rename_i t tr x
    have hd := (hΓ t).und
    obtain ⟨v, rfl, hx1⟩ := denL_one hx
    clear hx
    split at h <;> simp only [Option.some.injEq, Prod.mk.injEq, reduceCtorEq] at h <;> obtain ⟨rfl, rfl⟩ := h <;> rename_i e2 <;> rw [e2] at hd <;> simp only [TD.ok] at hd <;> simp only [Den] at hx1 ⊢
    · subst hx1
      exact ⟨_, by simp [builtin, Builtin.len_, run_underlying hd, goInt], rfl⟩
    · obtain ⟨p, cap, rfl, _⟩ := hx1
      exact ⟨_, by simp [builtin, Builtin.len_, run_underlying hd, goInt], rfl⟩
    · obtain ⟨p, cap, rfl, _⟩ := hx1
      exact ⟨_, by simp [builtin, Builtin.len_, run_underlying hd, goInt], rfl⟩
  · simp only [Option.some.injEq, Prod.mk.injEq, reduceCtorEq] at h
    obtain ⟨rfl, rfl⟩ := h
    obtain ⟨v, u, rfl, h1, h2⟩ := denL_two hx
    simp only [Den] at h1 h2 ⊢
    subst h1 h2
    exact ⟨_, by simp [builtin, Builtin.min_, Builtin.min2, minI], rfl⟩
  · simp only [Option.some.injEq, Prod.mk.injEq, reduceCtorEq] at h
    obtain ⟨rfl, rfl⟩ := h
    obtain ⟨v, u, rfl, h1, h2⟩ := denL_two hx
    simp only [Den] at h1 h2 ⊢
    subst h1 h2
    exact ⟨_, by simp [builtin, Builtin.max_, Builtin.max2, maxI], rfl⟩
  · cases h

def leaves : SV → Option (List SV)
  | .agg l => some l
  | .raw _ => none
  | .any => none
  | .cnd _ _ => none
  | .tup _ => none
  | v => some [v]

theorem denL_leaves {E : Env} {x : SV} {l : List SV} {v : Value} (h : Den E x v) (hl : leaves x = some l) : DenL E l v.cells.toList := by
  cases x <;> simp only [leaves, Option.some.injEq, reduceCtorEq] at hl <;> subst hl
  case agg l => simp only [Den] at h; obtain ⟨cs, rfl, h⟩ := h; simpa [Value.cells] using h
  all_goals (have h' := h; simp only [Den] at h)
  case i => subst h; simp only [Value.cells, DenL]; exact ⟨h', trivial⟩
  case b => subst h; simp only [Value.cells, DenL]; exact ⟨h', trivial⟩
  case s => subst h; simp only [Value.cells, DenL]; exact ⟨h', trivial⟩
  case ptr => obtain ⟨b, hb, rfl⟩ := h; simp only [Value.cells, DenL]; exact ⟨h', trivial⟩
  case nilp => subst h; simp only [Value.cells, DenL]; exact ⟨h', trivial⟩
  case ints => obtain ⟨p, c, rfl, _⟩ := h; simp only [Value.cells, DenL]; exact ⟨h', trivial⟩
  case sl => obtain ⟨p, c, rfl, _⟩ := h; simp only [Value.cells, DenL]; exact ⟨h', trivial⟩
  case ep => obtain ⟨p, c, rfl, _⟩ := h; simp only [Value.cells, DenL]; exact ⟨h', trivial⟩
  case nili => subst h; simp only [Value.cells, DenL]; exact ⟨h', trivial⟩
  case ifc => obtain ⟨y, rfl, _⟩ := h; simp only [Value.cells, DenL]; exact ⟨h', trivial⟩
  case fn => obtain ⟨fs, cs, rfl, _⟩ := h; simp only [Value.cells, DenL]; exact ⟨h', trivial⟩
  case nilf => subst h; simp only [Value.cells, DenL]; exact ⟨h', trivial⟩

theorem leaves_one {E : Env} {x : SV} {l : List SV} {v : Value} (h : Den E x v) (hl : leaves x = some l) : v.cells.toList.length = l.length := denL_length _ _ (denL_leaves h hl)

/-- Parts laid into an aggregate. -/
def placeOf (Γ : Tab) (d : TD) (i : Nat) : Option (Nat × TypeId) :=
  match d with
  | .struct fs => nth fs i
  | .arr _ e => some (i * (Γ e).size, e)
  | _ => none

def evParts (Γ : Tab) (d : TD) : List (Nat × SV) → List SV → Option (List SV × Prop)
  | [], l => some (l, True)
  | (i, x) :: r, l =>
    match placeOf Γ d i with
    | some (off, ft) =>
      match leaves x with
      | some ls =>
        match evParts Γ d r (spl l off ls) with
        | some (m, vc) => some (m, vc ∧ ls.length = (Γ ft).size ∧ off + ls.length ≤ l.length ∧ (Γ ft).d ≠ .none)
        | none => none
      | none => none
    | none => none

theorem spl_length : ∀ (l : List SV) (n : Nat) (ls : List SV), (spl l n ls).length = l.length
  | [], n, ls => by simp [spl]
  | x :: r, n + 1, ls => by simp [spl, spl_length r n ls]
  | x :: r, 0, [] => by simp [spl]
  | x :: r, 0, y :: ys => by simp [spl, spl_length r 0 ys]

/-- Cells laid into cells. -/
def splV : List Value → Nat → List Value → List Value
  | [], _, _ => []
  | x :: r, n + 1, ls => x :: splV r n ls
  | x :: r, 0, [] => x :: r
  | _ :: r, 0, y :: ys => y :: splV r 0 ys

theorem denL_spl {E : Env} : ∀ (l : List SV) (cs : List Value) (n : Nat) (ls : List SV) (vs : List Value), DenL E l cs → DenL E ls vs → DenL E (spl l n ls) (splV cs n vs)
  | [], [], n, ls, vs, _, _ => by simp only [spl, splV, DenL]
  | x :: r, v :: cs, n + 1, ls, vs, h, k => by simp only [spl, splV, DenL] at h ⊢; exact ⟨h.1, denL_spl r cs n ls vs h.2 k⟩
  | x :: r, v :: cs, 0, [], [], h, k => by simpa only [spl, splV] using h
  | x :: r, v :: cs, 0, y :: ys, u :: us, h, k => by simp only [spl, splV, DenL] at h k ⊢; exact ⟨k.1, denL_spl r cs 0 ys us h.2 k.2⟩
  | _, _, _, [], _ :: _, _, k => by simp only [DenL] at k
  | _, _, _, _ :: _, [], _, k => by simp only [DenL] at k
  | [], _ :: _, _, _, _, h, _ => by simp only [DenL] at h
  | _ :: _, [], _, _, _, h, _ => by simp only [DenL] at h

theorem splV_getElem : ∀ (cs : List Value) (n : Nat) (vs : List Value) (j : Nat), (splV cs n vs)[j]? = if n ≤ j ∧ j < n + vs.length ∧ j < cs.length then vs[j - n]? else cs[j]?
  | [], n, vs, j => by simp [splV]
  | x :: r, n + 1, vs, 0 => by simp [splV]
  | x :: r, n + 1, vs, j + 1 => by
    simp only [splV, List.getElem?_cons_succ, splV_getElem r n vs j, List.length_cons]
    have e1 : (n + 1 ≤ j + 1 ∧ j + 1 < n + 1 + vs.length ∧ j + 1 < r.length + 1) ↔ (n ≤ j ∧ j < n + vs.length ∧ j < r.length) := by omega
    simp only [e1, Nat.add_sub_add_right]
  | x :: r, 0, [], j => by
    rw [if_neg (by simp)]
    simp [splV]
  | x :: r, 0, y :: ys, 0 => by simp [splV]
  | x :: r, 0, y :: ys, j + 1 => by
    simp only [splV, List.getElem?_cons_succ, splV_getElem r 0 ys j, List.length_cons]
    have e1 : (0 ≤ j + 1 ∧ j + 1 < 0 + (ys.length + 1) ∧ j + 1 < r.length + 1) ↔ (0 ≤ j ∧ j < 0 + ys.length ∧ j < r.length) := by omega
    simp only [e1]
    simp

theorem foldl_set (vs : List Value) : ∀ (k off : Nat) (cs : Array Value), (List.foldl (fun (cs : Array Value) (p : Value × Nat) => cs.setIfInBounds (off + p.2) p.1) cs (vs.zipIdx k)) = (splV cs.toList (off + k) vs).toArray := by
  induction vs with
  | nil =>
    intro k off cs
    apply Array.ext'
    apply List.ext_getElem?
    intro j
    simp [splV_getElem]
    intro h1 h2 h3
    omega
  | cons v vs ih =>
    intro k off cs
    rw [List.zipIdx_cons, List.foldl_cons, ih]
    apply Array.ext'
    apply List.ext_getElem?
    intro j
    simp only [splV_getElem, Array.toList_setIfInBounds, List.length_set, List.length_cons, List.getElem?_set]
    by_cases h1 : j = off + k
    · subst h1
      rw [if_neg (by omega), if_pos rfl]
      by_cases h : off + k < cs.toList.length
      · rw [if_pos h, if_pos ⟨by omega, by omega, h⟩]; simp
      · rw [if_neg h, if_neg (by omega), List.getElem?_eq_none (by omega)]
    · by_cases h2 : off + (k + 1) ≤ j ∧ j < off + (k + 1) + vs.length ∧ j < cs.toList.length
      · rw [if_pos h2, if_pos (by omega)]
        rw [show j - (off + k) = (j - (off + (k + 1))) + 1 by omega, List.getElem?_cons_succ]
      · rw [if_neg h2, if_neg (by omega), if_neg (by omega)]

theorem evParts_sound {P : Program} {Γ : Tab} (hΓ : Γ.ok P) {E : Env} {d : TD} (place : Nat → Option (Nat × Nat)) (hp : ∀ i off ft, placeOf Γ d i = some (off, ft) → (Γ ft).d ≠ .none → place i = some (off, (Γ ft).size)) :
    ∀ (ps : List (Nat × SV)) (vs : List (Nat × Value)) (l : List SV) (cs : Array Value) (m : List SV) (vc : Prop),
      vs.map (·.1) = ps.map (·.1) → DenL E (ps.map (·.2)) (vs.map (·.2)) → DenL E l cs.toList → evParts Γ d ps l = some (m, vc) → vc →
      ∃ cs' : Array Value, Instr.fill place cs vs = some cs' ∧ DenL E m cs'.toList
  | [], [], l, cs, m, vc, _, _, hl, h, hv => by
    simp only [evParts, Option.some.injEq, Prod.mk.injEq] at h
    obtain ⟨rfl, rfl⟩ := h
    exact ⟨cs, by simp [Instr.fill], hl⟩
  | (i, x) :: r, (i', v) :: vr, l, cs, m, vc, hi, hd, hl, h, hv => by
    simp only [List.map_cons, List.cons.injEq] at hi
    obtain ⟨rfl, hi⟩ := hi
    simp only [List.map_cons, DenL] at hd
    simp only [evParts] at h
    split at h
    · rename_i off ft e1
      split at h
      · rename_i ls e2
        split at h
        · rename_i m' vc' e3
          simp only [Option.some.injEq, Prod.mk.injEq] at h
          obtain ⟨rfl, rfl⟩ := h
          obtain ⟨h1, h2, h3, h4⟩ := hv
          have hlv := denL_leaves hd.1 e2
          have hlen := leaves_one hd.1 e2
          have hlen' : v.cells.size = ls.length := by rw [← hlen]; simp
          have hcs := denL_length _ _ hl
          have hsz : cs.size = l.length := by rw [← hcs]; simp
          obtain ⟨cs', k1, k2⟩ := evParts_sound hΓ place hp r vr (spl l off ls) (splV cs.toList off v.cells.toList).toArray m' vc' hi hd.2 (by
            simpa using denL_spl _ _ off _ _ hl hlv) e3 h1
          refine ⟨cs', ?_, k2⟩
          simp only [Instr.fill, hp _ _ _ e1 h4]
          rw [if_neg (by simp only [Bool.or_eq_true, decide_eq_true_eq, not_or]; exact ⟨by rw [hlen', h2]; simp, by rw [hlen', hsz]; omega⟩)]
          rw [← k1]
          congr 1
          have := foldl_set v.cells.toList 0 off cs
          rw [Nat.add_zero] at this
          rw [← this, ← Array.foldl_toList, Array.toList_zipIdx]
        · cases h
      · cases h
    · cases h
  | [], _ :: _, _, _, _, _, hi, _, _, _, _ => by simp at hi
  | _ :: _, [], _, _, _, _, hi, _, _, _, _ => by simp at hi
end Go.Eng
