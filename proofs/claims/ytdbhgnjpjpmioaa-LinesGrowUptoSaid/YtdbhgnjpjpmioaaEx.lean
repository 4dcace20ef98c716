/- The engine, part X: loops round by round; the next of a text. -/
import Derived.Test.YtdbhgnjpjpmioaaEw
import Derived.LoopNIn
import Derived.Scope
namespace Go.Eng
open Go
set_option linter.unusedVariables false
set_option linter.unusedSimpArgs false

/-- At most so many rounds. -/
def loopN (P : Program) (B : Ctx) (c : Code) (K : Ex → SS → Prop) : Nat → SS → Prop
  | 0, _ => False
  | m + 1, s => CodeOK P B c s (thenK (loopN P B c K m) K)

theorem loop_unroll {P : Program} {B : Ctx} {c : Code} {K : Ex → SS → Prop} : ∀ (m : Nat) {s : SS}, loopN P B c K m s → CodeOK P B (.loop c) s K := by
  intro m s h E a w hb hf hw
  refine wpIn_loop_rounds m ?_
  have main : ∀ (m : Nat) (s : SS) (E1 : Env) (a : Act) (w : World), E.Ext E1 → Fr E1 s a → Good E1 s w → loopN P B c K m s → Code.roundsIn (wideR B.rd) 0 P c (QK E K) m a w := by
    intro m
    induction m with
    | zero => intro s E1 a w _ _ _ h; exact h.elim
    | succ m ih =>
      intro s E1 a w hx hf hw h
      rw [roundsIn_succ]
      refine wpIn_mono (h E1 a w (hb.ext hx) hf hw) ?_
      rintro e a' w' ⟨E2, st, x, q1, q2, q3, q4, q5⟩
      cases x <;> cases e <;> simp only [ExRel] at q4 <;> simp only [thenK] at q5
      · exact ih st E2 a' w' (hx.trans q1) q2 q3 q5
      · exact ⟨E2, st, .ret, hx.trans q1, q2, q3, trivial, q5⟩
      · subst q4; exact ⟨E2, st, .exit _, hx.trans q1, q2, q3, rfl, q5⟩
      · subst q4; exact ⟨E2, st, .goto _, hx.trans q1, q2, q3, rfl, q5⟩
  exact main m s E a w (Env.Ext.refl E) hf hw h

/-- A scope that no jump leads through. -/
def scopeK (K : Ex → SS → Prop) : Ex → SS → Prop
  | .normal, s => K .normal s
  | .ret, s => K .ret s
  | .exit i, s => K (.exit i) s
  | .goto _, _ => False
theorem scope_ok {P : Program} {B : Ctx} (hrd : B.rd = none) {c : Code} {s : SS} {K : Ex → SS → Prop} (h : CodeOK P B c s (scopeK K)) : CodeOK P B (.scope c) s K := by
  intro E a w hb hf hw
  have h1 := h E a w hb hf hw
  rw [hrd] at h1 ⊢
  refine wpIn_wide.2 (wp_scope_straight (wp_mono (wpIn_wide.1 h1) ?_))
  rintro e a' w' ⟨E2, st, x, q1, q2, q3, q4, q5⟩
  cases x <;> cases e <;> simp only [ExRel] at q4 <;> simp only [scopeK] at q5
  · exact ⟨E2, st, .normal, q1, q2, q3, trivial, q5⟩
  · exact ⟨E2, st, .ret, q1, q2, q3, trivial, q5⟩
  · subst q4; exact ⟨E2, st, .exit _, q1, q2, q3, rfl, q5⟩

/-- The next of a text that is ranged over. -/
theorem next_ok {P : Program} {Γ : Tab} (hΓ : Γ.ok P) {B : Ctx} {id : Nat} {o : Oper} {rest : List Oper} {it : Operand} {s : SS} {K : Ex → SS → Prop} (r b : Nat) (y : ByteArray) (pos : Nat)
    (ho : o.op = .next it true) (hg : o.guard = none) (hit : opd s it = .raw (.pointer (some ⟨b, 0, none⟩))) (hc : ovc s true it) (hr : (r, RObj b (.stringIter y pos)) ∈ s.rs)
    (h : (pos < y.size → evOps P Γ (o :: rest) (K .normal) rest (({ s with rs := rsSet s.rs r (RObj b (.stringIter y (pos + (Utf8.decode y pos).2))) } : SS).put o.dst (.tup [.b true, .i .i64 pos, .i .i32 (Utf8.decode y pos).1]))) ∧
      (¬ pos < y.size → evOps P Γ (o :: rest) (K .normal) rest (s.put o.dst (.tup [.b false])))) : CodeOK P B (.region id (o :: rest).toArray false) s K := by
  intro E a w hb hf hw
  refine wpIn_region_lit ?_
  have hv := opd_den hf rfl hc
  rw [hit] at hv
  simp only [Den] at hv
  obtain ⟨p1, p2⟩ := hw.reres hr
  have hnd : ∀ c, o.op ≠ .defer c := by intro c hc; rw [ho] at hc; cases hc
  simp only [wpListIn]
  rw [if_pos (by unfold Region.wanted; rw [hg])]
  refine wpIn_of hnd not_letsOut ?_
  have fin : ∀ (E' : Env) (st' : SS) (a' : Act) (w' : World), E.Ext E' → Fr E' st' a' → Good E' st' w' → evOps P Γ (o :: rest) (K .normal) rest st' → wpListIn (wideR B.rd) 0 P (o :: rest).toArray (QK E K) rest a' w' := fun E' st' a' w' h1 h2 h3 h4 =>
    evOps_soundIn (Q := QK E K) hΓ not_letsOut rest E' st' a' w' h2 h3 h4 (fun E2 st2 a2 w2 k1 k2 k3 k4 => ⟨E2, st2, .normal, h1.trans k1.ext, k2, k3, trivial, k4⟩)
  by_cases hp : pos < y.size
  · obtain ⟨f1, f2, f3, f4, f5⟩ := putObj_frame w b (.stringIter y (pos + (Utf8.decode y pos).2))
    have g2 := (p2 _ f1 f2 f3 f4 f5).2 _ (World.putObj_heap_same (Array.getElem?_eq_some_iff.1 p1).1)
    refine wp_value (v := .tuple #[.bool true, .int .i64 pos, .int .i32 (Utf8.decode y pos).1]) (w' := w.putObj b (.stringIter y (pos + (Utf8.decode y pos).2))) ?_ ?_
    · simp only [execOp, ho, hv]
      simp [Instr.next, getObj, setObj, Sem.run_bind, Sem.run, p1, hp, goInt, World.putObj]
    · have hf2 : Fr E ({ s with rs := rsSet s.rs r (RObj b (.stringIter y (pos + (Utf8.decode y pos).2))) } : SS) a := ⟨hf.tmps, hf.defers⟩
      exact fin E _ _ _ (Env.Ext.refl E) (hf2.put o.dst (by simp only [Den]; exact ⟨_, rfl, by simp only [DenL, Den]; exact ⟨trivial, trivial, trivial, trivial⟩⟩)) (g2.put _ _) (h.1 hp)
  · refine wp_value (v := .tuple #[.bool false]) (w' := w) ?_ ?_
    · simp only [execOp, ho, hv]
      simp [Instr.next, getObj, Sem.run_bind, Sem.run, p1, hp]
    · exact fin E _ _ _ (Env.Ext.refl E) (hf.put o.dst (by simp only [Den]; exact ⟨_, rfl, by simp only [DenL, Den]; exact ⟨trivial, trivial⟩⟩)) (hw.put _ _) (h.2 hp)
end Go.Eng
