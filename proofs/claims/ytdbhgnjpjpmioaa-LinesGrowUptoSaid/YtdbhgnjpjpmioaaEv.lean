/- The engine, part V: from a contract to what a row asks. -/
import Derived.Test.YtdbhgnjpjpmioaaEu
namespace Go.Eng
open Go Go.RowKit
set_option linter.unusedVariables false
set_option linter.unusedSimpArgs false

def env0 (W : World) : Env := { w0 := W, S0 := fun _ => False, ρ := fun _ => none, θ := fun _ => none, μ := fun a => W.cell? a, k := 0, Z := fun b => W.heap.size ≤ b, hZ := fun _ h => h }

theorem good0 (W : World) : Good (env0 W) nilSS W :=
  ⟨rfl, Nat.le_refl _, rfl, rfl, rfl, Nat.le_refl _, fun _ _ _ => rfl, fun _ _ h => h, fun _ _ => rfl, fun _ _ => rfl, fun _ => none,
    fun _ _ _ h => by simp [nilSS, hfind] at h, fun _ h => by simp [nilSS] at h, fun _ _ h => by simp [nilSS] at h, fun _ _ _ _ h => by simp at h, fun _ _ h => by simp at h⟩

/-- A row of numbers that came in. -/
theorem den_row {W : World} {k : IntKind} {a : Option Addr} {len cap : Nat} {zs : List Int}
    (h : (a = none ∧ len = 0 ∧ cap = 0 ∧ zs = []) ∨ ∃ x, a = some x ∧ len ≤ cap ∧ cap ≤ maxLen ∧ zs.length = cap ∧ (∀ i, i < zs.length → W.cell? (x.add i) = some (.int k (zs.getD i 0))) ∧ ∀ n ∈ zs, (Lit.int k n).wf = true) :
    Den (env0 W) (.ints k .old (zs.take len)) (.slice a len cap) := by
  simp only [Den]
  rcases h with ⟨rfl, rfl, rfl, rfl⟩ | ⟨x, rfl, h1, h2, h3, h4, h5⟩
  · exact ⟨none, 0, rfl, by simp, by simp, fun i x hx => by simp at hx, trivial⟩
  · have hl : (zs.take len).length = len := by simp; omega
    refine ⟨some x, cap, by rw [hl], by omega, by unfold maxLen at h2; omega, fun i y hy => ?_, trivial⟩
    rw [List.getElem?_take] at hy
    split at hy
    · have hi : i < zs.length := by omega
      have hc := h4 i hi
      obtain ⟨b, off, spot⟩ := x
      have hspot : spot = none := by
        cases spot with
        | none => rfl
        | some s =>
          have := World.cell?_spot (h4 0 (by omega))
          simp [Addr.add] at this
      subst hspot
      refine ⟨b, off, rfl, ?_⟩
      have : zs.getD i 0 = y := by simp [List.getD, hy]
      rw [this, addr_add] at hc
      exact hc
    · cases hy

/-- A law's contract is what its row asks. -/
theorem law_run {P : Program} {f : FuncId} {pargs : List SV} (hC : Contract P f nilSS pargs (fun sv post => sv = .b true ∧ post = nilSS)) {W : World} {vs : List Value} (hd : DenL (env0 W) pargs vs) :
    Calls P f vs.toArray W fun e w' => e = .returned (.bool true) ∧ Below W.heap.size W w' := by
  obtain ⟨_, h⟩ := hC (env0 W) W vs rfl (good0 W) hd
  refine h.mono ?_
  rintro e w' ⟨v, E', post, sv, rfl, h1, h2, h3, rfl, rfl⟩
  simp only [Den] at h3
  subst h3
  have e0 : E'.w0 = W := h1.w0
  have e1 : ∀ b, ¬ E'.S0 b := fun b => by rw [h1.S0]; exact fun h => h
  refine ⟨rfl, ?_⟩
  exact ⟨by rw [h2.os, e0], by rw [h2.tape, e0], by rw [h2.output, e0], by have := h2.size; rwa [e0] at this, fun k hk => by have := h2.old k (by rw [e0]; exact hk) (e1 k); rwa [e0] at this⟩
end Go.Eng
