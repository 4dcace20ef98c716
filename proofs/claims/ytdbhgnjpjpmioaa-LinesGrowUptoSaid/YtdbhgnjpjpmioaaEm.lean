/- The engine, part M: code, loops, what a function hands back. -/
import Derived.Test.YtdbhgnjpjpmioaaEl
import Derived.Sort.LoopGhostIn
namespace Go.Eng
open Go
set_option linter.unusedVariables false
set_option linter.unusedSimpArgs false

inductive Ex where
  | normal | ret | exit (id : Nat) | goto (l : Nat)

def ExRel : Ex → Exit → Prop
  | .normal, .normal => True
  | .ret, .ret => True
  | .exit i, .exit j => i = j
  | .goto i, .goto j => i = j
  | _, _ => False

/-- What follows a piece of code. -/
def QK (E : Env) (K : Ex → SS → Prop) (e : Exit) (a : Act) (w : World) : Prop :=
  ∃ E' st x, E.Ext E' ∧ Fr E' st a ∧ Good E' st w ∧ ExRel x e ∧ K x st

/-- What a walk stands in: what was known when it began; the round's record whose frame it is; the regions at which it stops. -/
structure Ctx where
  env : Option Env
  rd : Option Nat
  stop : List Nat
def Ctx.top : Ctx := ⟨none, none, []⟩
def Ctx.ok (B : Ctx) (E : Env) : Prop := ∀ E0, B.env = some E0 → E0.Ext E
theorem Ctx.ok.ext {B : Ctx} {E E' : Env} (h : B.ok E) (k : E.Ext E') : B.ok E' := fun E0 e => (h E0 e).trans k

/-- The code, from every good world of that state. -/
def CodeOK (P : Program) (B : Ctx) (c : Code) (s : SS) (K : Ex → SS → Prop) : Prop :=
  ∀ E a w, B.ok E → Fr E s a → Good E s w → c.wpIn (wideR B.rd) 0 P (QK E K) a w

theorem not_letsOut {E : Env} {K : Ex → SS → Prop} : ¬ LetsOut (QK E K) := by
  rintro ⟨a, w, E', st, x, _, _, _, h, _⟩
  cases x <;> exact h

def memId : Nat → List Nat → Bool
  | _, [] => false
  | n, m :: r => if n = m then true else memId n r

theorem QK.mono {E E' : Env} (h : E.Ext E') {K K' : Ex → SS → Prop} (hk : ∀ x s, K x s → K' x s) {e : Exit} {a : Act} {w : World} : QK E' K e a w → QK E K' e a w
  | ⟨E2, st, x, h1, h2, h3, h4, h5⟩ => ⟨E2, st, x, h.trans h1, h2, h3, h4, hk _ _ h5⟩

theorem CodeOK.mono {P : Program} {B : Ctx} {c : Code} {s : SS} {K K' : Ex → SS → Prop} (h : CodeOK P B c s K) (hk : ∀ x s, K x s → K' x s) : CodeOK P B c s K' :=
  fun E a w hb hf hw => wpIn_mono (h E a w hb hf hw) fun e a w q => QK.mono (Env.Ext.refl E) hk q

def thenK (n : SS → Prop) (K : Ex → SS → Prop) : Ex → SS → Prop
  | .normal, s => n s
  | .ret, s => K .ret s
  | .exit i, s => K (.exit i) s
  | .goto i, s => K (.goto i) s
def blockK (id : Nat) (K : Ex → SS → Prop) : Ex → SS → Prop
  | .normal, s => K .normal s
  | .ret, s => K .ret s
  | .exit i, s => if i = id then K .normal s else K (.exit i) s
  | .goto i, s => K (.goto i) s

def evCode (P : Program) (Γ : Tab) (B : Ctx) : Code → (Ex → SS → Prop) → SS → Prop
  | .skip, K, s => K .normal s
  | .region id ops draw, K, s =>
    match draw || memId id B.stop with
    | false => evOps P Γ ops.toList (K .normal) ops.toList s
    | true => CodeOK P B (.region id ops draw) s K
  | .seq a b, K, s => evCode P Γ B a (thenK (fun s' => evCode P Γ B b K s') K) s
  | .cond c a b, K, s =>
    match s.eval c with
    | .b t => (t = true → evCode P Γ B a K s) ∧ (t = false → evCode P Γ B b K s)
    | _ => False
  | .block id c, K, s => evCode P Γ B c (blockK id K) s
  | .ret, K, s => K .ret s
  | .exit id, K, s => K (.exit id) s
  | .label _, K, s => K .normal s
  | .goto l, K, s => K (.goto l) s
  | .loop c, K, s => CodeOK P B (.loop c) s K
  | .scope c, K, s => CodeOK P B (.scope c) s K
  | .rangeFunc f ps a b, K, s => CodeOK P B (.rangeFunc f ps a b) s K
  | .refuse _, _, _ => False

theorem evCode_sound {P : Program} {Γ : Tab} (hΓ : Γ.ok P) {B : Ctx} : ∀ (c : Code) (K : Ex → SS → Prop) (s : SS), evCode P Γ B c K s → CodeOK P B c s K
  | .skip, K, s, h => fun E a w hb hf hw => wpIn_skip ⟨E, s, .normal, Env.Ext.refl E, hf, hw, trivial, h⟩
  | .label _, K, s, h => fun E a w hb hf hw => wpIn_label ⟨E, s, .normal, Env.Ext.refl E, hf, hw, trivial, h⟩
  | .ret, K, s, h => fun E a w hb hf hw => wpIn_ret ⟨E, s, .ret, Env.Ext.refl E, hf, hw, trivial, h⟩
  | .exit i, K, s, h => fun E a w hb hf hw => wpIn_exit ⟨E, s, .exit i, Env.Ext.refl E, hf, hw, rfl, h⟩
  | .goto i, K, s, h => fun E a w hb hf hw => wpIn_goto ⟨E, s, .goto i, Env.Ext.refl E, hf, hw, rfl, h⟩
  | .region id ops draw, K, s, h => by
    simp only [evCode] at h
    cases draw with
    | true => simpa using h
    | false =>
      simp only [Bool.false_or] at h
      split at h
      · intro E a w hb hf hw
        refine wpIn_region_list ?_
        have := evOps_soundIn (rd := B.rd) (Q := QK E K) hΓ not_letsOut ops.toList E s a w hf hw h (fun E' st' a' w' h1 h2 h3 h4 => ⟨E', st', .normal, h1.ext, h2, h3, trivial, h4⟩)
        simpa using this
      · exact h
  | .seq x y, K, s, h => by
    intro E a w hb hf hw
    simp only [evCode] at h
    refine wpIn_seq (wpIn_mono (evCode_sound hΓ x _ s h E a w hb hf hw) ?_)
    rintro e a' w' ⟨E', st, x', h1, h2, h3, h4, h5⟩
    cases x' <;> cases e <;> simp only [ExRel] at h4 <;> simp only [thenK] at h5
    · exact wpIn_mono (evCode_sound hΓ y K st h5 E' a' w' (hb.ext h1) h2 h3) fun e a w q => QK.mono h1 (fun _ _ h => h) q
    · exact ⟨E', st, .ret, h1, h2, h3, trivial, h5⟩
    · subst h4; exact ⟨E', st, .exit _, h1, h2, h3, rfl, h5⟩
    · subst h4; exact ⟨E', st, .goto _, h1, h2, h3, rfl, h5⟩
  | .cond c x y, K, s, h => by
    intro E a w hb hf hw
    simp only [evCode] at h
    split at h
    · rename_i t e
      have hd := hf.eval c
      rw [e] at hd
      simp only [Den] at hd
      refine wpIn_cond hd ?_
      cases t with
      | true => exact evCode_sound hΓ x K s (h.1 rfl) E a w hb hf hw
      | false => exact evCode_sound hΓ y K s (h.2 rfl) E a w hb hf hw
    · exact h.elim
  | .block id c, K, s, h => by
    intro E a w hb hf hw
    simp only [evCode] at h
    refine wpIn_block (wpIn_mono (evCode_sound hΓ c _ s h E a w hb hf hw) ?_)
    rintro e a' w' ⟨E', st, x', h1, h2, h3, h4, h5⟩
    cases x' <;> cases e <;> simp only [ExRel] at h4 <;> simp only [blockK] at h5
    · exact ⟨E', st, .normal, h1, h2, h3, trivial, h5⟩
    · exact ⟨E', st, .ret, h1, h2, h3, trivial, h5⟩
    · subst h4
      simp only [Exit.inBlock]
      split at h5
      · rename_i e; rw [if_pos e]; exact ⟨E', st, .normal, h1, h2, h3, trivial, h5⟩
      · rename_i e; rw [if_neg e]; exact ⟨E', st, .exit _, h1, h2, h3, rfl, h5⟩
    · subst h4; exact ⟨E', st, .goto _, h1, h2, h3, rfl, h5⟩
  | .loop c, K, s, h => h
  | .scope c, K, s, h => h
  | .rangeFunc f ps x y, K, s, h => h
  | .refuse _, K, s, h => h.elim

/-- What follows the first of two. -/
def seqK (P : Program) (Γ : Tab) (B : Ctx) (b : Code) (K : Ex → SS → Prop) : Ex → SS → Prop
  | .normal, s => evCode P Γ B b K s
  | .ret, s => K .ret s
  | .exit i, s => K (.exit i) s
  | .goto i, s => K (.goto i) s
section
variable {P : Program} {Γ : Tab} {B : Ctx} {K : Ex → SS → Prop} {s : SS}
theorem evC_skip : evCode P Γ B .skip K s = K .normal s := rfl
theorem evC_label {l : Nat} : evCode P Γ B (.label l) K s = K .normal s := rfl
theorem evC_ret : evCode P Γ B .ret K s = K .ret s := rfl
theorem evC_exit {i : Nat} : evCode P Γ B (.exit i) K s = K (.exit i) s := rfl
theorem evC_goto {i : Nat} : evCode P Γ B (.goto i) K s = K (.goto i) s := rfl
theorem evC_region {id : Nat} {l : List Oper} {dr : Bool} : evCode P Γ B (.region id l.toArray dr) K s = match dr || memId id B.stop with
    | false => evOps P Γ l (K .normal) l s
    | true => CodeOK P B (.region id l.toArray dr) s K := by simp only [evCode]
theorem evC_seq {a b : Code} : evCode P Γ B (.seq a b) K s = evCode P Γ B a (seqK P Γ B b K) s := by
  have : thenK (fun s' => evCode P Γ B b K s') K = seqK P Γ B b K := by
    funext x s
    cases x <;> rfl
  simp only [evCode, this]
theorem evC_cond {c : Operand} {a b : Code} : evCode P Γ B (.cond c a b) K s = match s.eval c with
    | .b t => (t = true → evCode P Γ B a K s) ∧ (t = false → evCode P Γ B b K s)
    | _ => False := rfl
theorem evC_block {id : Nat} {c : Code} : evCode P Γ B (.block id c) K s = evCode P Γ B c (blockK id K) s := rfl
theorem evC_loop {c : Code} : evCode P Γ B (.loop c) K s = CodeOK P B (.loop c) s K := rfl
theorem evC_scope {c : Code} : evCode P Γ B (.scope c) K s = CodeOK P B (.scope c) s K := rfl
theorem evC_rangeFunc {f : Operand} {ps : Array Tmp} {a b : Code} : evCode P Γ B (.rangeFunc f ps a b) K s = CodeOK P B (.rangeFunc f ps a b) s K := rfl
end

/-- A region that draws its order and leaves the world alone. -/
theorem region_still {P : Program} {Γ : Tab} {B : Ctx} (hrd : B.rd = none) (hΓ : Γ.ok P) (hm : P.follows .mixedOrders = true) {id : Nat} {l : List Oper} {s : SS} {K : Ex → SS → Prop} (hB : Region.lexB .any l.toArray = true)
    (h : evStill P Γ l (K .normal) l s) : CodeOK P B (.region id l.toArray true) s K := by
  intro E a w hb hf hw
  rw [hrd]
  refine wpIn_wide.2 (wp_region_still_lit hm hB ?_)
  have hw' : Good E s { w with drawn := w.drawn + 1 } := hw.congr rfl rfl rfl rfl
  exact evStill_sound hΓ l s a hf hw' h (fun st' a' h1 h2 h3 => ⟨E, st', .normal, Env.Ext.refl E, h1, h2, trivial, h3⟩)

/-- A region that draws its order: what leaves the world alone first, then the rest in the text's order. -/
theorem region_tail {P : Program} {Γ : Tab} {B : Ctx} (hrd : B.rd = none) (hΓ : Γ.ok P) (hm : P.follows .mixedOrders = true) (n : Nat) {id : Nat} {l : List Oper} {s : SS} {K : Ex → SS → Prop} (hB : Region.lexTailB .any l.toArray n = true)
    (h : evStill P Γ l (evOps P Γ l (K .normal) (l.drop n)) (l.take n) s) : CodeOK P B (.region id l.toArray true) s K := by
  intro E a w hb hf hw
  rw [hrd]
  refine wpIn_wide.2 (wp_region_still_tail n hm hB ?_)
  have hw' : Good E s { w with drawn := w.drawn + 1 } := hw.congr rfl rfl rfl rfl
  refine evStill_sound hΓ (l.take n) s a hf hw' h (fun st' a' h1 h2 h3 => ?_)
  exact evOps_sound (Q := QK E K) hΓ (l.drop n) E st' a' _ h1 h2 h3 (fun E' st2 a2 w2 k1 k2 k3 k4 => ⟨E', st2, .normal, k1.ext, k2, k3, trivial, k4⟩)

/-- Less is said of the same. -/
def Sub (s s' : SS) : Prop := ∀ E a w, Fr E s a → Good E s w → ∃ E', E.Ext E' ∧ Fr E' s' a ∧ Good E' s' w

theorem Sub.refl (s : SS) : Sub s s := fun E a w hf hw => ⟨E, Env.Ext.refl E, hf, hw⟩

theorem CodeOK.sub {P : Program} {B : Ctx} {c : Code} {s s' : SS} {K : Ex → SS → Prop} (hs : Sub s s') (h : CodeOK P B c s' K) : CodeOK P B c s K := by
  intro E a w hb hf hw
  obtain ⟨E', h1, h2, h3⟩ := hs E a w hf hw
  exact wpIn_mono (h E' a w (hb.ext h1) h2 h3) fun e a w q => QK.mono h1 (fun _ _ h => h) q

/-- A loop: a family of states, each round leads to one of a smaller measure. -/
theorem loop_ok {P : Program} {B : Ctx} {c : Code} {K : Ex → SS → Prop} {ι : Type} (inv : ι → SS) (m : ι → Nat) (i0 : ι) {s : SS} (h0 : Sub s (inv i0))
    (round : ∀ i, CodeOK P B c (inv i) (thenK (fun s' => ∃ j, m j < m i ∧ Sub s' (inv j)) K)) : CodeOK P B (.loop c) s K := by
  intro E a w hb hf hw
  obtain ⟨E0, h1, h2, h3⟩ := h0 E a w hf hw
  refine wpIn_mono (wpIn_loop_ghost (Q := QK E0 K) (fun n a w => ∃ i E', m i = n ∧ E0.Ext E' ∧ Fr E' (inv i) a ∧ Good E' (inv i) w) (m i0) ⟨i0, E0, rfl, Env.Ext.refl E0, h2, h3⟩ ?_) fun e a w q => QK.mono h1 (fun _ _ h => h) q
  rintro n a w ⟨i, E', rfl, k1, k2, k3⟩
  refine wpIn_mono (round i E' a w (hb.ext (h1.trans k1)) k2 k3) ?_
  rintro e a' w' ⟨E2, st, x, q1, q2, q3, q4, q5⟩
  cases x <;> cases e <;> simp only [ExRel] at q4 <;> simp only [thenK] at q5
  · obtain ⟨j, hj, hsub⟩ := q5
    obtain ⟨E3, r1, r2, r3⟩ := hsub E2 a' w' q2 q3
    exact ⟨m j, hj, j, E3, rfl, (k1.trans q1).trans r1, r2, r3⟩
  · exact ⟨E2, st, .ret, k1.trans q1, q2, q3, trivial, q5⟩
  · subst q4; exact ⟨E2, st, .exit _, k1.trans q1, q2, q3, rfl, q5⟩
  · subst q4; exact ⟨E2, st, .goto _, k1.trans q1, q2, q3, rfl, q5⟩

/-- What a function hands back. -/
def evRes (Γ : Tab) (s : SS) : List ResultVar → Option (List SV × Prop)
  | [] => some ([], True)
  | .tmp t :: r =>
    match evRes Γ s r with
    | some (l, vc) => some (opd s (.tmp t) :: l, vc ∧ ovc s true (.tmp t))
    | none => none
  | .cell p ty :: r =>
    match evLoad Γ s true ty (.tmp p), evRes Γ s r with
    | some (v, vc1), some (l, vc) => some (v :: l, vc ∧ vc1)
    | _, _ => none

def single : List SV → SV
  | [x] => x
  | l => .tup l

theorem evRes_sound {P : Program} {Γ : Tab} (hΓ : Γ.ok P) {E : Env} {s : SS} {a : Act} {w : World} (hf : Fr E s a) (hw : Good E s w) (g : ResultVar → Sem Value) (g1 : ∀ t, g (.tmp t) = pure (a.tmps.getD t undef)) (g2 : ∀ p t, g (.cell p t) = (do loadVar t (← asAddr (a.tmps.getD p undef)))) : ∀ (rs : List ResultVar) (l : List SV) (vc : Prop), evRes Γ s rs = some (l, vc) → vc →
    ∃ vs : List Value, (rs.mapM g).run P w = .ok vs w ∧ DenL E l vs
  | [], l, vc, h, hv => by
    simp only [evRes, Option.some.injEq, Prod.mk.injEq] at h
    obtain ⟨rfl, rfl⟩ := h
    exact ⟨[], by simp, by simp only [DenL]⟩
  | .tmp t :: r, l, vc, h, hv => by
    simp only [evRes] at h
    split at h
    · rename_i l' vc' e
      simp only [Option.some.injEq, Prod.mk.injEq] at h
      obtain ⟨rfl, rfl⟩ := h
      obtain ⟨vs, k1, k2⟩ := evRes_sound hΓ hf hw g g1 g2 r l' vc' e hv.1
      have hd := opd_den hf rfl hv.2
      refine ⟨a.tmps.getD t undef :: vs, ?_, by simp only [DenL]; exact ⟨hd, k2⟩⟩
      rw [List.mapM_cons, Sem.run_bind, g1]
      simp only [Sem.run_pure, Result.andThen_ok]
      rw [Sem.run_bind, k1]
      rfl
    · cases h
  | .cell p ty :: r, l, vc, h, hv => by
    simp only [evRes] at h
    split at h
    · rename_i v vc1 l' vc' e1 e2
      simp only [Option.some.injEq, Prod.mk.injEq] at h
      obtain ⟨rfl, rfl⟩ := h
      obtain ⟨vs, k1, k2⟩ := evRes_sound hΓ hf hw g g1 g2 r l' vc' e2 hv.1
      obtain ⟨u, q1, q2⟩ := evLoad_sound (w := w) hΓ hf hw rfl e1 hv.2
      refine ⟨u :: vs, ?_, by simp only [DenL]; exact ⟨q2, k2⟩⟩
      have hp : ∃ ad, a.tmps.getD p undef = .pointer (some ad) := by
        have q1' := q1
        unfold Instr.loadAt at q1'
        have : a.eval (.tmp p) = a.tmps.getD p undef := rfl
        rw [this] at q1'
        cases hx : a.tmps.getD p undef <;> rw [hx] at q1' <;> simp [Instr.sureAddr] at q1'
        rename_i ad
        cases ad with
        | none => simp [Instr.sureAddr] at q1'
        | some ad => exact ⟨ad, rfl⟩
      obtain ⟨ad, hp⟩ := hp
      rw [List.mapM_cons, Sem.run_bind, g2]
      have : (do loadVar ty (← asAddr (a.tmps.getD p undef)) : Sem Value).run P w = .ok u w := by
        have q1' := q1
        unfold Instr.loadAt at q1'
        rw [show a.eval (.tmp p) = a.tmps.getD p undef from rfl, hp] at q1'
        rw [hp]
        simpa [Instr.sureAddr, asAddr] using q1'
      rw [this]
      simp only [Result.andThen_ok]
      rw [Sem.run_bind, k1]
      rfl
    · cases h

theorem results_run {P : Program} {Γ : Tab} (hΓ : Γ.ok P) {E : Env} {s : SS} {a : Act} {w : World} (hf : Fr E s a) (hw : Good E s w) {fn : Func} {l : List SV} {vc : Prop} (h : evRes Γ s fn.results.toList = some (l, vc)) (hv : vc) :
    ∃ v, (results fn a.tmps).run P w = .ok v w ∧ Den E (single l) v := by
  obtain ⟨vs, k1, k2⟩ := evRes_sound hΓ hf hw (fun
    | .tmp t => pure (a.tmps.getD t undef)
    | .cell p t => do loadVar t (← asAddr (a.tmps.getD p undef))) (fun _ => rfl) (fun _ _ => rfl) _ l vc h hv
  unfold results
  rw [Array.mapM_eq_mapM_toList]
  refine ⟨if h : vs.length = 1 then vs[0] else .tuple vs.toArray, ?_, ?_⟩
  · rw [Sem.run_bind, Sem.run_map]
    have k1' := k1
    erw [k1']
    simp
  · match l, vs, k2 with
    | [], [], _ => simp only [single, Den]; exact ⟨[], by simp, by simp only [DenL]⟩
    | [x], [v], k2 => simp only [DenL] at k2; simp only [single]; simpa using k2.1
    | x :: y :: l, v :: u :: vs, k2 => simp only [single, Den]; exact ⟨v :: u :: vs, by simp, k2⟩
    | [], _ :: _, k2 => simp only [DenL] at k2
    | _ :: _, [], k2 => simp only [DenL] at k2
    | [_], _ :: _ :: _, k2 => simp only [DenL] at k2; exact k2.2.elim
    | _ :: _ :: _, [_], k2 => simp only [DenL] at k2; exact k2.2.elim
end Go.Eng
