/- The engine, part D: the value of an operation that leaves the world alone. -/
import Derived.Test.YtdbhgnjpjpmioaaEc
namespace Go.Eng
open Go
set_option linter.unusedVariables false
set_option linter.unusedSimpArgs false

def opd (st : SS) (x : Operand) : SV := core (st.eval x)
def ovc (st : SS) (g : Bool) (x : Operand) : Prop := vcg g (st.eval x)

theorem opd_den {E : Env} {st : SS} {a : Act} {g : Bool} (h : Fr E st a) (hg : g = true) {x : Operand} (hv : ovc st g x) : Den E (opd st x) (a.eval x) := den_core (h.eval x) hv hg

def slTag : Tag → Tag
  | .old => .old
  | .nil => .nil
  | .new => .new
  | .tok _ true => .new
  | .tok _ false => .old

/-- Where a piece lies: what goes to the end keeps the token. -/
def cutTag (hi : Bool) (t : Tag) : Tag :=
  match hi, t with
  | false, .tok τ b => .tok τ b
  | _, t => slTag t
/-- A piece of a slice. -/
def cut (hi lo : Option SV) (n : Nat) : Option (Nat × Nat × Prop) :=
  match lo, hi with
  | none, none => some (0, n, True)
  | some (.i _ a), none => some (a.toNat, n, 0 ≤ a ∧ a ≤ n)
  | none, some (.i _ b) => some (0, b.toNat, 0 ≤ b ∧ b ≤ n)
  | some (.i _ a), some (.i _ b) => some (a.toNat, b.toNat, 0 ≤ a ∧ a ≤ b ∧ b ≤ n)
  | _, _ => none

def cutL (lo hi : Bool) (a b : Nat) (l : List Int) : List Int :=
  match lo, hi with
  | false, false => l
  | true, false => l.drop a
  | false, true => l.take b
  | true, true => (l.take b).drop a

theorem cut_run (P : Program) (w : World) (lo hi : Option SV) (vlo vhi : Option Value) (n cap : Nat) (E : Env) (a b : Nat) (vc : Prop) (s : Bool)
    (hlo : ∀ x, lo = some x → ∃ v, vlo = some v ∧ Den E x v) (hlo' : lo = none → vlo = none) (hhi : ∀ x, hi = some x → ∃ v, vhi = some v ∧ Den E x v) (hhi' : hi = none → vhi = none)
    (hc : n ≤ cap) (h : cut hi lo n = some (a, b, vc)) (hv : vc) : (Instr.sliceBounds s n cap vlo vhi none).run P w = .ok (a, b, cap) w ∧ a ≤ b ∧ b ≤ n := by
  unfold cut at h
  split at h <;> simp only [Option.some.injEq, Prod.mk.injEq, reduceCtorEq] at h <;> obtain ⟨rfl, rfl, rfl⟩ := h
  · rw [hlo' rfl, hhi' rfl]; exact ⟨by simp [Instr.sliceBounds], by omega, by omega⟩
  · obtain ⟨v, rfl, hd⟩ := hlo _ rfl
    simp only [Den] at hd
    rw [hhi' rfl, hd]
    obtain ⟨h0, h1⟩ := hv
    refine ⟨?_, by omega, by omega⟩
    simp [Instr.sliceBounds]
    rw [run_sliceBound _ _ _ _ _ h0 h1]
    simp
  · rename_i k b
    obtain ⟨v, rfl, hd⟩ := hhi _ rfl
    simp only [Den] at hd
    rw [hlo' rfl, hd]
    obtain ⟨h0, h1⟩ := hv
    have e1 := fun code => run_sliceBound (P := P) w k b cap code h0 (by omega)
    exact ⟨by simp [Instr.sliceBounds, e1], by omega, by omega⟩
  · rename_i k a k' b
    obtain ⟨v, rfl, hd⟩ := hlo _ rfl
    obtain ⟨v', rfl, hd'⟩ := hhi _ rfl
    simp only [Den] at hd hd'
    rw [hd, hd']
    obtain ⟨h0, h1, h2⟩ := hv
    have e1 := fun code => run_sliceBound (P := P) w k' b cap code (by omega) (by omega)
    have e2 := fun code => run_sliceBound (P := P) w k a b.toNat code h0 (by omega)
    exact ⟨by simp [Instr.sliceBounds, e1, e2], by omega, by omega⟩

/-- A piece of a slice of numbers. -/
theorem ints_cut {E : Env} {k : IntKind} {tg : Tag} {l : List Int} {p : Option Addr} {n cap : Nat} (h : IsInts E k tg l (.slice p n cap)) {a b : Nat} (ha : a ≤ b) (hb : b ≤ n) :
    IsInts E k (slTag tg) ((l.take b).drop a) (.slice (if cap = a then p else p.map (·.add a)) (b - a) (cap - a)) := by
  obtain ⟨p', cap', e, h1, h2, h3, h4⟩ := h
  simp only [Value.slice.injEq] at e
  obtain ⟨rfl, rfl, rfl⟩ := e
  have hlen : ((l.take b).drop a).length = b - a := by simp; omega
  refine ⟨_, _, by rw [hlen], by rw [hlen]; omega, by omega, fun i x hx => ?_, ?_⟩
  · have hi : i < b - a := by
      rcases Nat.lt_or_ge i (b - a) with h' | h'
      · exact h'
      · rw [List.getElem?_eq_none (by omega)] at hx; cases hx
    have hx' : l[a + i]? = some x := by
      rw [List.getElem?_drop, List.getElem?_take] at hx
      rw [if_pos (by omega)] at hx
      exact hx
    obtain ⟨blk, off, rfl, hm⟩ := h3 _ _ hx'
    rw [if_neg (by omega)]
    refine ⟨blk, off + a, ?_, by rw [Nat.add_assoc]; exact hm⟩
    simp only [Option.map_some, Addr.add]
    split
    · rename_i h0; subst h0; rfl
    · rfl
  · cases tg with
    | old => trivial
    | new =>
      intro q m c e
      simp only [Value.slice.injEq] at e
      obtain ⟨e, -, -⟩ := e
      split at e
      · exact h4 q _ _ (by rw [e])
      · cases p with
        | none => simp at e
        | some q' =>
          simp only [Option.map_some, Option.some.injEq] at e
          have := h4 q' _ _ rfl
          rw [← e]
          simp only [Addr.add]; split <;> exact this
    | nil =>
      simp only [TagOK, Value.slice.injEq] at h4
      obtain ⟨rfl, h5, rfl⟩ := h4
      have : b = 0 := by omega
      subst this
      have : a = 0 := by omega
      subst this
      simp [slTag, TagOK]
    | tok τ b =>
      cases b with
      | false => trivial
      | true =>
      intro q m c e
      simp only [Value.slice.injEq] at e
      obtain ⟨e, -, -⟩ := e
      split at e
      · exact h4.2 rfl q _ _ (by rw [e])
      · cases p with
        | none => simp at e
        | some q' =>
          simp only [Option.map_some, Option.some.injEq] at e
          have := h4.2 rfl q' _ _ rfl
          rw [← e]
          simp only [Addr.add]; split <;> exact this

theorem cutTag_ok {E : Env} {sz : Nat} {tg : Tag} {p : Option Addr} {n cap a : Nat} (ha : a ≤ n) (h : TagOK E sz (.slice p n cap) tg) (k : TagOK E sz (.slice (if cap = a then p else p.map (·.add (a * sz))) (n - a) (cap - a)) (slTag tg)) :
    TagOK E sz (.slice (if cap = a then p else p.map (·.add (a * sz))) (n - a) (cap - a)) (cutTag false tg) := by
  cases tg with
  | old => exact k
  | new => exact k
  | nil => exact k
  | tok τ b =>
    refine ⟨h.1.cut ha, fun hb => ?_⟩
    subst hb
    exact k
theorem ints_cutT {E : Env} {k : IntKind} {tg : Tag} {l : List Int} {p : Option Addr} {n cap : Nat} (hi : Bool) (h : IsInts E k tg l (.slice p n cap)) {a b : Nat} (ha : a ≤ b) (hb : b ≤ n) (hh : hi = false → b = n) :
    IsInts E k (cutTag hi tg) ((l.take b).drop a) (.slice (if cap = a then p else p.map (·.add a)) (b - a) (cap - a)) := by
  have h0 := ints_cut h ha hb
  cases hi with
  | true =>
    have : cutTag true tg = slTag tg := by cases tg <;> rfl
    rw [this]; exact h0
  | false =>
    obtain rfl := hh rfl
    obtain ⟨p', cap', e, h1, h2, h3, h4⟩ := h
    obtain ⟨q, c, f, k1, k2, k3, k4⟩ := h0
    refine ⟨q, c, f, k1, k2, k3, ?_⟩
    have e1 : ∀ x : Option Addr, x.map (·.add a) = x.map (·.add (a * 1)) := fun x => by rw [Nat.mul_one]
    rw [e1] at k4 ⊢
    exact cutTag_ok (by omega) h4 k4

theorem run_isAgg {P : Program} {t : TypeId} {d : TD} (hd : d.ok (P.underlying t)) (hn : d ≠ .none) (w : World) : (isAgg t).run P w = .ok d.agg w := by
  unfold isAgg
  cases d <;> simp only [TD.ok] at hd
  · exact absurd rfl hn
  all_goals first
    | (simp [run_underlying hd, TD.agg]; done)
    | (obtain ⟨f, hd, _⟩ := hd; simp [run_underlying hd, TD.agg]; done)
    | (obtain ⟨f, hd⟩ := hd; simp [run_underlying hd, TD.agg]; done)
    | (obtain ⟨f, g, h, hd⟩ := hd; simp [run_underlying hd, TD.agg]; done)

theorem run_sizeOf' {P : Program} {t : TypeId} {i : TypeInfo} (h : P.info? t = some i) (w : World) : (sizeOf t).run P w = .ok i.size w := by
  simp [sizeOf, typeInfo, h]

theorem Tab.info {Γ : Tab} {P : Program} (h : Γ.ok P) (t : TypeId) (hn : (Γ t).d ≠ .none) : ∃ i z, P.info? t = some i ∧ i.size = (Γ t).size ∧ i.bytes = (Γ t).bytes ∧ i.zero = some z ∧ z.cells.toList = (Γ t).zero := by
  rcases (h t).info with h' | h'
  · exact absurd h' hn
  · exact h'

/-- A load of a row of cells that are known. -/
theorem run_loadVar_of {P : Program} {Γ : Tab} (hΓ : Γ.ok P) {t : TypeId} (hn : (Γ t).d ≠ .none) {w : World} {a : Addr} (cs : List Value)
    (hc : ∀ j v, cs[j]? = some v → w.cell? (a.add j) = some v) (hl : if (Γ t).d.agg then cs.length = (Γ t).size else cs.length = 1) :
    (loadVar t a).run P w = .ok (if (Γ t).d.agg then .agg cs.toArray else cs.getD 0 undef) w := by
  obtain ⟨i, z, hi, hs, -⟩ := Tab.info hΓ t hn
  unfold loadVar
  rw [Sem.run_bind, run_isAgg (hΓ t).und hn]
  simp only [Result.andThen_ok]
  by_cases hg : (Γ t).d.agg = true
  · rw [if_pos hg] at hl ⊢
    rw [if_pos hg]
    rw [Sem.run_bind, run_sizeOf' hi]
    simp only [Result.andThen_ok]
    rw [hs, ← hl, Sem.run_bind, run_loadCells_list w a cs hc]
    simp
  · rw [if_neg hg] at hl ⊢
    rw [if_neg hg]
    obtain ⟨v, rfl⟩ : ∃ v, cs = [v] := by
      match cs, hl with
      | [v], _ => exact ⟨v, rfl⟩
    have := hc 0 v (by simp)
    simp only [Addr.add, if_true] at this
    simp [run_load, this]
end Go.Eng
