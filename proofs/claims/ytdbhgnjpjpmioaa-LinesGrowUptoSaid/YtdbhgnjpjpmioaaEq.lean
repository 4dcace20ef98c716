/- The engine, part Q: a contract out of a function's code. -/
import Derived.Test.YtdbhgnjpjpmioaaEt
namespace Go.Eng
open Go
set_option linter.unusedVariables false
set_option linter.unusedSimpArgs false

def idTo (im : List Nat) (nx : Nat) : Nat → Prop
  | 0 => True
  | n + 1 => fmap im nx n = n ∧ idTo im nx n
theorem idTo_all {im : List Nat} {nx : Nat} : ∀ {k : Nat}, idTo im nx k → ∀ n, n < k → fmap im nx n = n
  | 0, _, n, h => by omega
  | k + 1, hi, n, h => by
    simp only [idTo] at hi
    by_cases e : n = k
    · rw [e]; exact hi.1
    · exact idTo_all hi.2 n (by omega)

/-- The end: under names 'im' the state says what is promised. -/
def FinB (R : SV → SS → Prop) (sv : SV) (s : SS) : Prop :=
  ∃ im psv post, (distincts im ∧ allLt s.nx im ∧ im.length ≤ post.nx ∧ post.k = s.k ∧ post.k ≤ post.nx ∧ idTo im s.nx s.k) ∧ W false (fmap im s.nx) psv sv ∧
    hpSub false (fmap im s.nx) s.hp post.hp ∧ tkSub (fmap im s.nx) s.tk post.tk ∧ rsSub (fmap im s.nx) s.rs post.rs ∧ R psv post

/-- The same, where a nil slice that is handed back may have a token. -/
def Fin (R : SV → SS → Prop) (sv : SV) (s : SS) : Prop :=
  FinB R sv s ∨ ∃ k, sv = .ints k .nil [] ∧ FinB R (.ints k (.tok s.nx true) []) { s with tk := s.nx :: s.tk, nx := s.nx + 1 }

/-- The marks that ranges over functions have left, taken off. -/
def markK : List Nat → List (Nat × Res) → (List (Nat × Res) → Prop) → Prop
  | [], rs, K => K rs
  | D :: ds, rs, K => ∃ r, (r, RObj D (.deferred (some []))) ∈ rs ∧ markK ds (rsCut rs r) K

def retS (Γ : Tab) (rs : List ResultVar) (R : SV → SS → Prop) (s : SS) : Prop :=
  match evRes Γ s rs with
  | some (l, vc) => vc ∧ Fin R (single l) s
  | none => False

def retF (Γ : Tab) (rs : List ResultVar) (R : SV → SS → Prop) (s : SS) : Prop :=
  markK s.df s.rs (fun rs' => retS Γ rs R { s with rs := rs', df := [] })

def retK (Γ : Tab) (rs : List ResultVar) (R : SV → SS → Prop) : Ex → SS → Prop
  | .normal, s => retF Γ rs R s
  | .ret, s => retF Γ rs R s
  | .exit _, _ => False
  | .goto _, _ => False

def SS.enter (pre : SS) (args : List SV) (n : Nat) : SS := { pre with fr := args ++ List.replicate (n - args.length) (.raw undef), df := [] }

theorem finB_sound {E E1 : Env} {s : SS} {w : World} {R : SV → SS → Prop} {sv : SV} {v : Value} (hx : E.Ext E1) (hw : Good E1 s w) (hv : Den E1 sv v) (h : FinB R sv s) :
    ∃ E' post psv, E.Ext E' ∧ Good E' post w ∧ Den E' psv v ∧ R psv post := by
  obtain ⟨im, psv, post, ⟨h1, h2, h3, h4, h5, h6⟩, h7, h8, h9, h10, h11⟩ := h
  obtain ⟨E', q1, q2, q3, q4, q5⟩ := hw.pull (t := post) (fmap_inj im s.nx h1 h2) h4 h5 (fun n hn => by rw [fmap_ge im s.nx n (by omega)]; omega) h8 h9 h10
  have hid := idTo_all h6
  refine ⟨E', post, psv, ⟨q4.trans hx.k, fun n hn => ?_, fun n hn => ?_, q2.trans hx.w0, q3.1.trans hx.S0, fun a v e => by rw [q1.μ]; exact hx.μ a v e, fun a v e => hx.μnew a v (by rw [q1.μ] at e; exact e), q3.2.trans hx.Z⟩, q5, W_den q1 _ _ _ h7 hv, h11⟩
  · rw [q1.ρ, hid n (by rw [← hw.k, hx.k]; exact hn)]; exact hx.ρ n hn
  · rw [q1.θ, hid n (by rw [← hw.k, hx.k]; exact hn)]; exact hx.θ n hn

theorem nil_tok {E : Env} {k : IntKind} {τ : Nat} {v : Value} (hθ : E.θ τ = some (1, .slice none 0 0)) (h : Den E (.ints k .nil []) v) : Den E (.ints k (.tok τ true) []) v := by
  simp only [Den] at h ⊢
  obtain ⟨a, cap, h1, h2, h3, h4, h5⟩ := h
  simp only [TagOK] at h5
  refine ⟨a, cap, h1, h2, h3, h4, ?_, fun _ a n c e => ?_⟩
  · rw [h5, hθ]; exact TokV.self (Nat.le_refl _)
  · rw [h5] at e; cases e

theorem fin_sound {E E1 : Env} {s : SS} {w : World} {R : SV → SS → Prop} {sv : SV} {v : Value} (hx : E.Ext E1) (hw : Good E1 s w) (hv : Den E1 sv v) (h : Fin R sv s) :
    ∃ E' post psv, E.Ext E' ∧ Good E' post w ∧ Den E' psv v ∧ R psv post := by
  rcases h with h | ⟨k, rfl, h⟩
  · exact finB_sound hx hw hv h
  · obtain ⟨E', q1, q2, q3, q4, q5⟩ := hw.tok_none 1 none 0
    exact finB_sound (hx.trans q1.ext) q5 (nil_tok q2 (Den.mono q1 _ _ hv)) h

theorem markK_sound {P : Program} {E : Env} {fn : Func} {tmps : Array Value} {R : Ending → World → Prop} : ∀ (ds : List Nat) (s : SS) (w : World) (K : List (Nat × Res) → Prop), Good E s w → markK ds s.rs K →
    (∀ rs' w', Good E { s with rs := rs', df := [] } w' → K rs' → LeavesInM (wideR none) 0 P fn tmps R [] .returning w') →
    LeavesInM (wideR none) 0 P fn tmps R (ds.map mkD) .returning w
  | [], s, w, K, hw, h, hK => hK s.rs w ⟨hw.k, hw.kx, hw.os, hw.tape, hw.output, hw.size, hw.old, hw.mu, hw.nxρ, hw.nxθ, let ⟨κ, k⟩ := hw.own; ⟨κ, k.hp, k.tk, k.rs, k.mu, k.dom⟩⟩ h
  | D :: ds, s, w, K, hw, h, hK => by
    simp only [markK] at h
    obtain ⟨r, h1, h2⟩ := h
    obtain ⟨p1, p2⟩ := hw.reres h1
    obtain ⟨f1, f2, f3, f4, f5⟩ := putObj_frame w D (.deferred none)
    have g := (p2 _ f1 f2 f3 f4 f5).1
    simp only [List.map_cons, LeavesInM]
    exact ⟨by simp, .inl ⟨D, _, rfl, run_takeDeferred p1, markK_sound ds _ _ K g h2 (fun rs' w' g' k' => hK rs' w' g' k')⟩⟩

/-- A contract out of the code. -/
theorem contract_of {P : Program} {Γ : Tab} (hΓ : Γ.ok P) {f : FuncId} {fn : Func} {c : Code} (hfn : P.funcs[f]? = some fn) (hb : fn.body = some c) (hnm : (fn.name == "runtime.NumGoroutine") = false) {pre : SS} {pargs : List SV} {R : SV → SS → Prop} {stop : List Nat}
    (h : CodeOK P ⟨none, none, stop⟩ c (pre.enter pargs fn.ntmps) (retK Γ fn.results.toList R)) : Contract P f pre pargs R := by
  intro E w vs h0 hw hv
  refine ⟨run_callFunc' hfn hb hnm _ _, ?_⟩
  refine (callsIn_wide (n := 0)).1 (callsIn_of_wp_marks (F := wideR none) (n := 0) hfn hb trivial ?_)
  have hlen := denL_length _ _ hv
  have hfr : Fr E (pre.enter pargs fn.ntmps) { tmps := vs.toArray ++ Array.replicate (fn.ntmps - vs.toArray.size) undef, defers := [] } := by
    refine ⟨?_, rfl⟩
    have := denL_append _ _ _ _ hv (denL_undef' E (fn.ntmps - pargs.length))
    simpa [SS.enter, hlen] using this
  have hg : Good E (pre.enter pargs fn.ntmps) w := ⟨hw.k, hw.kx, hw.os, hw.tape, hw.output, hw.size, hw.old, hw.mu, hw.nxρ, hw.nxθ, let ⟨κ, k⟩ := hw.own; ⟨κ, k.hp, k.tk, k.rs, k.mu, k.dom⟩⟩
  refine wpIn_mono (h E _ w (fun E0 e => by cases e) hfr hg) ?_
  rintro e a' w' ⟨E1, s, x, q1, q2, q3, q4, q5⟩
  have key : retF Γ fn.results.toList R s → LeavesInM (wideR none) 0 P fn a'.tmps (fun e w' => ∃ v' E' post sv, e = .returned v' ∧ E.Ext E' ∧ Good E' post w' ∧ Den E' sv v' ∧ R sv post) a'.defers .returning w' := by
    intro hk
    unfold retF at hk
    rw [q2.defers]
    refine markK_sound s.df s w' _ q3 hk (fun rs' w2 g2 k2 => ?_)
    unfold retS at k2
    split at k2
    · rename_i l vc e1
      have f2 : Fr E1 { s with rs := rs', df := [] } { tmps := a'.tmps, defers := [] } := ⟨q2.tmps, rfl⟩
      obtain ⟨v, r1, r2⟩ := results_run (P := P) hΓ f2 g2 e1 k2.1
      obtain ⟨E', post, psv, t1, t2, t3, t4⟩ := fin_sound q1 g2 r2 k2.2
      exact ⟨v, r1, v, E', post, psv, rfl, t1, t2, t3, t4⟩
    · exact k2.elim
  cases x <;> cases e <;> simp only [ExRel] at q4 <;> simp only [retK] at q5
  · exact key q5
  · exact key q5

theorem contract_ev {P : Program} {Γ : Tab} (hΓ : Γ.ok P) {f : FuncId} {fn : Func} {c : Code} (hfn : P.funcs[f]? = some fn) (hb : fn.body = some c) (hnm : (fn.name == "runtime.NumGoroutine") = false) (stop : List Nat) {pre : SS} {pargs : List SV} {R : SV → SS → Prop}
    (h : evCode P Γ ⟨none, none, stop⟩ c (retK Γ fn.results.toList R) (pre.enter pargs fn.ntmps)) : Contract P f pre pargs R :=
  contract_of hΓ hfn hb hnm (evCode_sound hΓ c _ _ h)

def nilSS : SS := ⟨[], [], [], [], 0, 0, []⟩
end Go.Eng
