/- The engine, part FF: objects handed back as resources; a region by itself. -/
import Derived.Test.YtdbhgnjpjpmioaaFe
namespace Go.Eng
open Go
set_option linter.unusedVariables false
set_option linter.unusedSimpArgs false

/-- A region that draws no order, by itself. -/
theorem region_run {P : Program} {Γ : Tab} (hΓ : Γ.ok P) {B : Ctx} {id : Nat} {l : List Oper} {s : SS} {K : Ex → SS → Prop} (h : evOps P Γ l (K .normal) l s) : CodeOK P B (.region id l.toArray false) s K := by
  have h1 : CodeOK P { B with stop := [] } (.region id l.toArray false) s K := evCode_sound hΓ _ K s (by
    rw [evC_region]
    simp only [memId, Bool.or_false]
    exact h)
  exact h1

/-- What is handed back is folded into a resource. -/
def FoldN (R : SV → SS → Prop) (sv : SV) (post : SS) : Prop :=
  ∃ H im T ls, FoldW H im post ∧ hfind post.hp (fmap im post.nx 0) = some (T, ls) ∧ ∀ b, R (rawV (fmap im post.nx 0) b sv) ((post.fold H im b).rawAll (fmap im post.nx 0) b)
theorem contract_new {P : Program} {f : FuncId} {pre : SS} {pargs : List SV} {R' R : SV → SS → Prop} (hC : Contract P f pre pargs R') (hR : ∀ sv post, R' sv post → FoldN R sv post) : Contract P f pre pargs R := by
  intro E w vs hw0 hw hv
  obtain ⟨k1, k2⟩ := hC E w vs hw0 hw hv
  refine ⟨k1, k2.mono ?_⟩
  rintro e w' ⟨v, E', post, sv, rfl, h2, h3, h4, h5⟩
  obtain ⟨H, im, T, ls, f1, f2, f3⟩ := hR sv post h5
  obtain ⟨κ, ho⟩ := h3.own
  obtain ⟨b, cs, q1, q2, q3, q4, q5⟩ := ho.hp _ _ _ f2
  have hg := h3.fold f1 q1
  obtain ⟨κ2, ho2⟩ := hg.own
  refine ⟨v, E', (post.fold H im b).rawAll (fmap im post.nx 0) b, _, rfl, h2, ⟨hg.k, hg.kx, hg.os, hg.tape, hg.output, hg.size, hg.old, hg.mu, hg.nxρ, hg.nxθ, κ2, fun n T' ls' e => ?_, ho2.tk, ho2.rs, ho2.mu, ho2.dom⟩, rawV_den q1 _ _ h4, f3 b⟩
  obtain ⟨ls0, e1, rfl⟩ := rawHp_find _ _ _ _ e
  obtain ⟨b', cs', q1', q2', q3', q4', q5'⟩ := ho2.hp _ _ _ e1
  exact ⟨b', cs', q1', q2', rawL_den q1 _ _ q3', q4', q5'⟩
end Go.Eng
