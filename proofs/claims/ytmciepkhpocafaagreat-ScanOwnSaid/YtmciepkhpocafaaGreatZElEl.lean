/- Texts joined, in order: El. -/
import Derived.Test.YtmciepkhpocafaaGreatZEaEk
import Derived.TacticsIn
/- The engine, part L: regions and code. -/
namespace Go.Eng
open Go
set_option linter.unusedVariables false
set_option linter.unusedSimpArgs false

inductive Gd where
  | bad | run | when (g : Bool)

/-- An operation's guard. -/
def evGuard (st : SS) (ops : List Oper) (o : Oper) : Gd :=
  match o.guard with
  | none => .run
  | some (j, want) =>
    match nth ops j with
    | some oj =>
      match oj.dst with
      | some d =>
        match lget st.fr d with
        | .b c => .when (c == want)
        | .cnd g (.b c) => .when (g && (c == want))
        | _ => .bad
      | none => .bad
    | none => .bad

theorem evGuard_sound {E : Env} {st : SS} {a : Act} (hf : Fr E st a) {ops : List Oper} {o : Oper} :
    (evGuard st ops o = .run → Region.wanted o (yielded ops.toArray a.tmps) = true) ∧ (∀ g, evGuard st ops o = .when g → Region.wanted o (yielded ops.toArray a.tmps) = g) := by
  unfold evGuard Region.wanted
  cases o.guard with
  | none => exact ⟨fun _ => rfl, fun g h => by simp at h⟩
  | some p =>
    obtain ⟨j, want⟩ := p
    simp only
    cases hj : nth ops j with
    | none => exact ⟨fun h => by simp at h, fun g h => by simp at h⟩
    | some oj =>
      simp only
      cases hd : oj.dst with
      | none => exact ⟨fun h => by simp at h, fun g h => by simp at h⟩
      | some d =>
        simp only
        have hden := denL_get st.fr a.tmps.toList d undef hf.tmps
        rw [nth_eq] at hj
        refine ⟨fun h => by split at h <;> simp at h, fun g h => ?_⟩
        have hy : ∀ v, a.tmps.toList[d]?.getD undef = v → v ≠ undef → yielded ops.toArray a.tmps j = (match v with | .bool b => some b | _ => none) := by
          intro v hv hne
          unfold yielded
          simp only [List.getElem?_toArray, hj, Option.bind_some, hd]
          cases ht : a.tmps[d]? with
          | none => rw [Array.getElem?_toList, ht] at hv; exact absurd hv.symm hne
          | some u =>
            rw [Array.getElem?_toList, ht] at hv
            have : u = v := hv
            subst this
            cases u <;> rfl
        split at h
        · rename_i c e
          rw [e] at hden
          simp only [Den] at hden
          simp only [Gd.when.injEq] at h
          subst h
          rw [hy _ hden (by simp [undef])]
          cases c <;> cases want <;> rfl
        · rename_i g' c e
          rw [e] at hden
          simp only [Den] at hden
          simp only [Gd.when.injEq] at h
          subst h
          cases g' with
          | true =>
            rw [hy _ (hden.1 rfl) (by simp [undef])]
            cases c <;> cases want <;> rfl
          | false =>
            have hu := hden.2 rfl
            unfold yielded
            simp only [List.getElem?_toArray, hj, Option.bind_some, hd]
            cases ht : a.tmps[d]? with
            | none => simp
            | some u =>
              have : u = undef := by rw [← hu]; simp [ht]
              subst this
              simp [undef]
        · cases h

/-- What stands for a value that was skipped. -/
def skipV (Γ : Tab) (t : TypeId) : SV :=
  match (Γ t).d with
  | .int k => .i k 0
  | .bool => .b false
  | .str => .s ⟨#[]⟩
  | _ => .any
/-- Operations one by one. -/
def evOps (P : Program) (Γ : Tab) (ops : List Oper) (K : SS → Prop) : List Oper → SS → Prop
  | [], s => K s
  | o :: r, s =>
    match evGuard s ops o with
    | .bad => False
    | .run =>
      match evalP P Γ s true o.op with
      | some (v, vc) => vc ∧ evOps P Γ ops K r (s.put o.dst v)
      | none => evEff P Γ s o (evOps P Γ ops K r)
    | .when g =>
      match evalP P Γ s g o.op with
      | some (v, vc) => (g = true → vc) ∧ evOps P Γ ops K r (s.put o.dst (.cnd g v))
      | none => (g = true → evEff P Γ s o (evOps P Γ ops K r)) ∧ (g = false → evOps P Γ ops K r (s.put o.dst (.cnd false (skipV Γ o.type))))

theorem evalP_defer {P : Program} {Γ : Tab} {s : SS} {g : Bool} {o : Oper} {x : SV × Prop} (h : evalP P Γ s g o.op = some x) : ∀ c, o.op ≠ .defer c := by
  intro c hc
  rw [hc] at h
  simp [evalP] at h
theorem evEff_defer {P : Program} {Γ : Tab} {s : SS} {o : Oper} {K : SS → Prop} (h : evEff P Γ s o K) : ∀ c, o.op ≠ .defer c := by
  intro c hc
  unfold evEff at h
  rw [hc] at h
  exact h

theorem evOps_soundL {P : Program} {Γ : Tab} (hΓ : Γ.ok P) {ops : List Oper} {K : SS → Prop} {Q : Exit → Act → World → Prop} {L : List Oper → Act → World → Prop}
    (hnil : ∀ a w, Q .normal a w → L [] a w)
    (hrun : ∀ o r a w, Region.wanted o (yielded ops.toArray a.tmps) = true → (∀ c, o.op ≠ .defer c) → o.wp P a w (L r) Q → L (o :: r) a w)
    (hskip : ∀ o r a w, Region.wanted o (yielded ops.toArray a.tmps) = false → L r (a.put o.dst undef) w → L (o :: r) a w) :
    ∀ (l : List Oper) (E : Env) (st : SS) (a : Act) (w : World), Fr E st a → Good E st w → evOps P Γ ops K l st →
      (∀ E' st' a' w', E.Le E' → Fr E' st' a' → Good E' st' w' → K st' → Q .normal a' w') → L l a w
  | [], E, st, a, w, hf, hw, h, hK => hnil a w (hK E st a w (Env.Le.refl E) hf hw h)
  | o :: r, E, st, a, w, hf, hw, h, hK => by
    have hg := evGuard_sound (E := E) hf (ops := ops) (o := o)
    simp only [evOps] at h
    have rest : ∀ E' st' a' w', E.Le E' → Fr E' st' a' → Good E' st' w' → evOps P Γ ops K r st' → L r a' w' := fun E' st' a' w' h1 h2 h3 h4 =>
      evOps_soundL hΓ hnil hrun hskip r E' st' a' w' h2 h3 h4 (fun E2 st2 a2 w2 k1 k2 k3 k4 => hK E2 st2 a2 w2 (h1.trans k1) k2 k3 k4)
    split at h
    · exact h.elim
    · rename_i e1
      split at h
      · rename_i v vc e2
        refine hrun _ _ _ _ (hg.1 e1) (evalP_defer e2) ?_
        obtain ⟨h1, h2⟩ := h
        obtain ⟨x, k1, k2⟩ := evalP_sound hΓ hf hw rfl e2 h1
        exact wp_value k1 (rest E _ _ w (Env.Le.refl E) (hf.put _ k2) (hw.put _ _) h2)
      · exact hrun _ _ _ _ (hg.1 e1) (evEff_defer h) (evEff_sound hΓ hf hw h rest)
    · rename_i g e1
      have hgw := hg.2 g e1
      split at h
      · rename_i v vc e2
        obtain ⟨h1, h2⟩ := h
        cases g with
        | true =>
          refine hrun _ _ _ _ hgw (evalP_defer e2) ?_
          obtain ⟨x, k1, k2⟩ := evalP_sound hΓ hf hw rfl e2 (h1 rfl)
          exact wp_value k1 (rest E _ _ w (Env.Le.refl E) (hf.put _ (by simp only [Den]; exact ⟨fun _ => k2, fun h => by simp at h⟩)) (hw.put _ _) h2)
        | false =>
          refine hskip _ _ _ _ hgw ?_
          exact rest E _ _ w (Env.Le.refl E) (hf.put _ (by simp only [Den]; exact ⟨fun h => by simp at h, fun _ => by trivial⟩)) (hw.put _ _) h2
      · obtain ⟨h1, h2⟩ := h
        cases g with
        | true =>
          exact hrun _ _ _ _ hgw (evEff_defer (h1 rfl)) (evEff_sound hΓ hf hw (h1 rfl) rest)
        | false =>
          refine hskip _ _ _ _ hgw ?_
          exact rest E _ _ w (Env.Le.refl E) (hf.put _ (by simp only [Den]; exact ⟨fun h => by simp at h, fun _ => by trivial⟩)) (hw.put _ _) (h2 rfl)

theorem evOps_sound {P : Program} {Γ : Tab} (hΓ : Γ.ok P) {ops : List Oper} {K : SS → Prop} {Q : Exit → Act → World → Prop} (l : List Oper) (E : Env) (st : SS) (a : Act) (w : World) (hf : Fr E st a) (hw : Good E st w) (h : evOps P Γ ops K l st)
    (hK : ∀ E' st' a' w', E.Le E' → Fr E' st' a' → Good E' st' w' → K st' → Q .normal a' w') : wpList P ops.toArray Q l a w :=
  evOps_soundL (L := wpList P ops.toArray Q) hΓ (fun a w h => h) (fun o r a w h1 _ h2 => by simp only [wpList]; rw [if_pos h1]; exact .inl h2) (fun o r a w h1 h2 => by simp only [wpList]; rw [if_neg (by rw [h1]; simp)]; exact h2) l E st a w hf hw h hK

/-- The fence that shuts nothing out, in a round's frame or not. -/
def wideR (rd : Option Nat) : Fence := { Fence.wide with round := rd }
theorem wideR_fn (rd : Option Nat) (f : FuncId) : (wideR rd).fn f := trivial
theorem wideR_none : wideR none = Fence.wide := rfl
theorem rowsIn_of {rd : Option Nat} {P : Program} {row : String} {args : Array Value} {w : World} {R : Value → World → Prop} {n : Nat} (h : Rows P row args w R) : RowsIn (wideR rd) n P row args w R := by
  intro c cs _
  obtain ⟨v, w', r, s⟩ := h c cs
  exact ⟨v, w', r, stepsIn_wide.2 s⟩
theorem wpIn_of {rd : Option Nat} {P : Program} {o : Oper} {a : Act} {w : World} {next : Act → World → Prop} {Q : Exit → Act → World → Prop} (hd : ∀ c, o.op ≠ .defer c) (hQ : ¬ LetsOut Q) (h : o.wp P a w next Q) : o.wpIn (wideR rd) 0 P a w next Q := by
  refine ⟨fun _ _ => trivial, ?_⟩
  rw [Oper.semAt_eq _ _ _ hd]
  unfold Oper.wp at h
  revert h
  cases (execOp a.eval o).run P w with
  | ok x w' =>
    cases x <;> intro h <;> first
      | exact h
      | exact ⟨fun h => by simp [wideR, Fence.wide] at h, callsIn_wide.2 h⟩
      | exact ⟨fun h => by simp [wideR, Fence.wide] at h, rowsIn_of h⟩
      | exact h.elim
  | halt x w' => cases x <;> intro h <;> first | exact h | exact h.elim
theorem evOps_soundIn {P : Program} {Γ : Tab} (hΓ : Γ.ok P) {rd : Option Nat} {ops : List Oper} {K : SS → Prop} {Q : Exit → Act → World → Prop} (hQ : ¬ LetsOut Q) (l : List Oper) (E : Env) (st : SS) (a : Act) (w : World) (hf : Fr E st a) (hw : Good E st w) (h : evOps P Γ ops K l st)
    (hK : ∀ E' st' a' w', E.Le E' → Fr E' st' a' → Good E' st' w' → K st' → Q .normal a' w') : wpListIn (wideR rd) 0 P ops.toArray Q l a w :=
  evOps_soundL (L := wpListIn (wideR rd) 0 P ops.toArray Q) hΓ (fun a w h => h) (fun o r a w h1 hd h2 => by simp only [wpListIn]; rw [if_pos h1]; exact wpIn_of hd hQ h2)
    (fun o r a w h1 h2 => by simp only [wpListIn]; rw [if_neg (by rw [h1]; simp)]; exact ⟨fun _ _ => trivial, h2⟩) l E st a w hf hw h hK

/-- Operations that leave the world alone. -/
def evStill (P : Program) (Γ : Tab) (ops : List Oper) (K : SS → Prop) : List Oper → SS → Prop
  | [], s => K s
  | o :: r, s =>
    match evGuard s ops o with
    | .bad => False
    | .run =>
      match evalP P Γ s true o.op with
      | some (v, vc) => vc ∧ evStill P Γ ops K r (s.put o.dst v)
      | none => False
    | .when g =>
      match evalP P Γ s g o.op with
      | some (v, vc) => (g = true → vc) ∧ evStill P Γ ops K r (s.put o.dst (.cnd g v))
      | none => False

theorem evStill_sound {P : Program} {Γ : Tab} (hΓ : Γ.ok P) {ops : List Oper} {K : SS → Prop} {Q : Act → Prop} {E : Env} {w : World} :
    ∀ (l : List Oper) (st : SS) (a : Act), Fr E st a → Good E st w → evStill P Γ ops K l st →
      (∀ st' a', Fr E st' a' → Good E st' w → K st' → Q a') → wpStill P ops.toArray w Q l a
  | [], st, a, hf, hw, h, hK => hK st a hf hw h
  | o :: r, st, a, hf, hw, h, hK => by
    have hg := evGuard_sound (E := E) hf (ops := ops) (o := o)
    simp only [evStill] at h
    simp only [wpStill]
    split at h
    · exact h.elim
    · rename_i e1
      rw [if_pos (hg.1 e1)]
      split at h
      · rename_i v vc e2
        obtain ⟨h1, h2⟩ := h
        obtain ⟨x, k1, k2⟩ := evalP_sound hΓ hf hw rfl e2 h1
        unfold Oper.still
        rw [k1]
        exact ⟨rfl, evStill_sound hΓ r _ _ (hf.put _ k2) (hw.put _ _) h2 hK⟩
      · exact h.elim
    · rename_i g e1
      have hgw := hg.2 g e1
      split at h
      · rename_i v vc e2
        obtain ⟨h1, h2⟩ := h
        cases g with
        | true =>
          rw [if_pos hgw]
          obtain ⟨x, k1, k2⟩ := evalP_sound hΓ hf hw rfl e2 (h1 rfl)
          unfold Oper.still
          rw [k1]
          exact ⟨rfl, evStill_sound hΓ r _ _ (hf.put _ (by simp only [Den]; exact ⟨fun _ => k2, fun h => by simp at h⟩)) (hw.put _ _) h2 hK⟩
        | false =>
          rw [if_neg (by rw [hgw]; simp)]
          exact evStill_sound hΓ r _ _ (hf.put _ (by simp only [Den]; exact ⟨fun h => by simp at h, fun _ => by trivial⟩)) (hw.put _ _) h2 hK
      · exact h.elim
end Go.Eng
