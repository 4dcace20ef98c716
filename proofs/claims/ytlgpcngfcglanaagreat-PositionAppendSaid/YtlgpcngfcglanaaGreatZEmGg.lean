/- Texts joined, in order: Em, En, Eo, Ep, Es, Et, Eq, Er, Eu, Ev, Gd, Ew, Ex, Ey, Ez, Fa, Fc, Fd, Fe, Ff, Gb, Gg. -/
import Derived.Test.YtlgpcngfcglanaaGreatZEkEl
import Derived.Sort.LoopGhostIn
import Derived.RangeFuncIn
import Derived.RangeFuncRecord
import Derived.RangeFuncLeaves
import Derived.ChangeArms
import Derived.LoopNIn
import Derived.Scope
/- The engine, part M: code, loops, what a function hands back. -/
namespace Go.Eng
open Go
set_option linter.unusedVariables false
set_option linter.unusedSimpArgs false

inductive Ex where
  | normal | ret | exit (id : Nat) | goto (l : Nat)

def ExRel : Ex → Exit → Prop
  | .normal, .normal => True
  | .ret, .ret => True
  | .exit i, .exit j => i = j
  | .goto i, .goto j => i = j
  | _, _ => False

/-- What follows a piece of code. -/
def QK (E : Env) (K : Ex → SS → Prop) (e : Exit) (a : Act) (w : World) : Prop :=
  ∃ E' st x, E.Ext E' ∧ Fr E' st a ∧ Good E' st w ∧ ExRel x e ∧ K x st

/-- What a walk stands in: what was known when it began; the round's record whose frame it is; the regions at which it stops. -/
structure Ctx where
  env : Option Env
  rd : Option Nat
  stop : List Nat
def Ctx.top : Ctx := ⟨none, none, []⟩
def Ctx.ok (B : Ctx) (E : Env) : Prop := ∀ E0, B.env = some E0 → E0.Ext E
theorem Ctx.ok.ext {B : Ctx} {E E' : Env} (h : B.ok E) (k : E.Ext E') : B.ok E' := fun E0 e => (h E0 e).trans k
/-- What must be known still when the walk ends: what was known when it began, where that is named. -/
def Ctx.base (B : Ctx) (E : Env) : Env := match B.env with
  | some E0 => E0
  | none => E
theorem Ctx.ok.base {B : Ctx} {E : Env} (h : B.ok E) : (B.base E).Ext E := by
  unfold Ctx.base
  split
  · rename_i E0 e; exact h E0 e
  · exact Env.Ext.refl E
theorem Ctx.base_ok {B : Ctx} {E E' : Env} (h : (B.base E).Ext E') : B.ok E' := by
  intro E0 e
  unfold Ctx.base at h
  rw [e] at h
  exact h
theorem Ctx.base_trans {B : Ctx} {E E' E2 : Env} (h : (B.base E).Ext E') (k : (B.base E').Ext E2) : (B.base E).Ext E2 := by
  unfold Ctx.base at h k ⊢
  split at k <;> rename_i e <;> rw [e] at h
  · exact k
  · exact h.trans k

/-- The code, from every good world of that state. -/
def CodeOK (P : Program) (B : Ctx) (c : Code) (s : SS) (K : Ex → SS → Prop) : Prop :=
  ∀ E a w, B.ok E → Fr E s a → Good E s w → c.wpIn (wideR B.rd) 0 P (QK (B.base E) K) a w

theorem not_letsOut {E : Env} {K : Ex → SS → Prop} : ¬ LetsOut (QK E K) := by
  rintro ⟨a, w, E', st, x, _, _, _, h, _⟩
  cases x <;> exact h

def memId : Nat → List Nat → Bool
  | _, [] => false
  | n, m :: r => if n = m then true else memId n r

theorem QK.mono {E E' : Env} (h : E.Ext E') {K K' : Ex → SS → Prop} (hk : ∀ x s, K x s → K' x s) {e : Exit} {a : Act} {w : World} : QK E' K e a w → QK E K' e a w
  | ⟨E2, st, x, h1, h2, h3, h4, h5⟩ => ⟨E2, st, x, h.trans h1, h2, h3, h4, hk _ _ h5⟩

theorem QK.base {B : Ctx} {E E' : Env} (h : (B.base E).Ext E') {K : Ex → SS → Prop} {e : Exit} {a : Act} {w : World} : QK (B.base E') K e a w → QK (B.base E) K e a w
  | ⟨E2, st, x, h1, h2, h3, h4, h5⟩ => ⟨E2, st, x, Ctx.base_trans h h1, h2, h3, h4, h5⟩

theorem CodeOK.mono {P : Program} {B : Ctx} {c : Code} {s : SS} {K K' : Ex → SS → Prop} (h : CodeOK P B c s K) (hk : ∀ x s, K x s → K' x s) : CodeOK P B c s K' :=
  fun E a w hb hf hw => wpIn_mono (h E a w hb hf hw) fun e a w q => QK.mono (Env.Ext.refl _) hk q

def thenK (n : SS → Prop) (K : Ex → SS → Prop) : Ex → SS → Prop
  | .normal, s => n s
  | .ret, s => K .ret s
  | .exit i, s => K (.exit i) s
  | .goto i, s => K (.goto i) s
def blockK (id : Nat) (K : Ex → SS → Prop) : Ex → SS → Prop
  | .normal, s => K .normal s
  | .ret, s => K .ret s
  | .exit i, s => if i = id then K .normal s else K (.exit i) s
  | .goto i, s => K (.goto i) s

def evCode (P : Program) (Γ : Tab) (B : Ctx) : Code → (Ex → SS → Prop) → SS → Prop
  | .skip, K, s => K .normal s
  | .region id ops draw, K, s =>
    match draw || memId id B.stop with
    | false => evOps P Γ ops.toList (K .normal) ops.toList s
    | true => CodeOK P B (.region id ops draw) s K
  | .seq a b, K, s => evCode P Γ B a (thenK (fun s' => evCode P Γ B b K s') K) s
  | .cond c a b, K, s =>
    match s.eval c with
    | .b t => (t = true → evCode P Γ B a K s) ∧ (t = false → evCode P Γ B b K s)
    | _ => False
  | .block id c, K, s => evCode P Γ B c (blockK id K) s
  | .ret, K, s => K .ret s
  | .exit id, K, s => K (.exit id) s
  | .label _, K, s => K .normal s
  | .goto l, K, s => K (.goto l) s
  | .loop c, K, s => CodeOK P B (.loop c) s K
  | .scope c, K, s => CodeOK P B (.scope c) s K
  | .rangeFunc f ps a b, K, s => CodeOK P B (.rangeFunc f ps a b) s K
  | .refuse _, _, _ => False

theorem evCode_sound {P : Program} {Γ : Tab} (hΓ : Γ.ok P) {B : Ctx} : ∀ (c : Code) (K : Ex → SS → Prop) (s : SS), evCode P Γ B c K s → CodeOK P B c s K
  | .skip, K, s, h => fun E a w hb hf hw => wpIn_skip ⟨E, s, .normal, hb.base, hf, hw, trivial, h⟩
  | .label _, K, s, h => fun E a w hb hf hw => wpIn_label ⟨E, s, .normal, hb.base, hf, hw, trivial, h⟩
  | .ret, K, s, h => fun E a w hb hf hw => wpIn_ret ⟨E, s, .ret, hb.base, hf, hw, trivial, h⟩
  | .exit i, K, s, h => fun E a w hb hf hw => wpIn_exit ⟨E, s, .exit i, hb.base, hf, hw, rfl, h⟩
  | .goto i, K, s, h => fun E a w hb hf hw => wpIn_goto ⟨E, s, .goto i, hb.base, hf, hw, rfl, h⟩
  | .region id ops draw, K, s, h => by
    simp only [evCode] at h
    cases draw with
    | true => simpa using h
    | false =>
      simp only [Bool.false_or] at h
      split at h
      · intro E a w hb hf hw
        refine wpIn_region_list ?_
        have := evOps_soundIn (rd := B.rd) (Q := QK (B.base E) K) hΓ not_letsOut ops.toList E s a w hf hw h (fun E' st' a' w' h1 h2 h3 h4 => ⟨E', st', .normal, hb.base.trans h1.ext, h2, h3, trivial, h4⟩)
        simpa using this
      · exact h
  | .seq x y, K, s, h => by
    intro E a w hb hf hw
    simp only [evCode] at h
    refine wpIn_seq (wpIn_mono (evCode_sound hΓ x _ s h E a w hb hf hw) ?_)
    rintro e a' w' ⟨E', st, x', h1, h2, h3, h4, h5⟩
    cases x' <;> cases e <;> simp only [ExRel] at h4 <;> simp only [thenK] at h5
    · exact wpIn_mono (evCode_sound hΓ y K st h5 E' a' w' (Ctx.base_ok h1) h2 h3) fun e a w q => QK.base h1 q
    · exact ⟨E', st, .ret, h1, h2, h3, trivial, h5⟩
    · subst h4; exact ⟨E', st, .exit _, h1, h2, h3, rfl, h5⟩
    · subst h4; exact ⟨E', st, .goto _, h1, h2, h3, rfl, h5⟩
  | .cond c x y, K, s, h => by
    intro E a w hb hf hw
    simp only [evCode] at h
    split at h
    · rename_i t e
      have hd := hf.eval c
      rw [e] at hd
      simp only [Den] at hd
      refine wpIn_cond hd ?_
      cases t with
      | true => exact evCode_sound hΓ x K s (h.1 rfl) E a w hb hf hw
      | false => exact evCode_sound hΓ y K s (h.2 rfl) E a w hb hf hw
    · exact h.elim
  | .block id c, K, s, h => by
    intro E a w hb hf hw
    simp only [evCode] at h
    refine wpIn_block (wpIn_mono (evCode_sound hΓ c _ s h E a w hb hf hw) ?_)
    rintro e a' w' ⟨E', st, x', h1, h2, h3, h4, h5⟩
    cases x' <;> cases e <;> simp only [ExRel] at h4 <;> simp only [blockK] at h5
    · exact ⟨E', st, .normal, h1, h2, h3, trivial, h5⟩
    · exact ⟨E', st, .ret, h1, h2, h3, trivial, h5⟩
    · subst h4
      simp only [Exit.inBlock]
      split at h5
      · rename_i e; rw [if_pos e]; exact ⟨E', st, .normal, h1, h2, h3, trivial, h5⟩
      · rename_i e; rw [if_neg e]; exact ⟨E', st, .exit _, h1, h2, h3, rfl, h5⟩
    · subst h4; exact ⟨E', st, .goto _, h1, h2, h3, rfl, h5⟩
  | .loop c, K, s, h => h
  | .scope c, K, s, h => h
  | .rangeFunc f ps x y, K, s, h => h
  | .refuse _, K, s, h => h.elim

/-- What follows the first of two. -/
def seqK (P : Program) (Γ : Tab) (B : Ctx) (b : Code) (K : Ex → SS → Prop) : Ex → SS → Prop
  | .normal, s => evCode P Γ B b K s
  | .ret, s => K .ret s
  | .exit i, s => K (.exit i) s
  | .goto i, s => K (.goto i) s
section
variable {P : Program} {Γ : Tab} {B : Ctx} {K : Ex → SS → Prop} {s : SS}
theorem evC_skip : evCode P Γ B .skip K s = K .normal s := rfl
theorem evC_label {l : Nat} : evCode P Γ B (.label l) K s = K .normal s := rfl
theorem evC_ret : evCode P Γ B .ret K s = K .ret s := rfl
theorem evC_exit {i : Nat} : evCode P Γ B (.exit i) K s = K (.exit i) s := rfl
theorem evC_goto {i : Nat} : evCode P Γ B (.goto i) K s = K (.goto i) s := rfl
theorem evC_region {id : Nat} {l : List Oper} {dr : Bool} : evCode P Γ B (.region id l.toArray dr) K s = match dr || memId id B.stop with
    | false => evOps P Γ l (K .normal) l s
    | true => CodeOK P B (.region id l.toArray dr) s K := by simp only [evCode]
theorem evC_seq {a b : Code} : evCode P Γ B (.seq a b) K s = evCode P Γ B a (seqK P Γ B b K) s := by
  have : thenK (fun s' => evCode P Γ B b K s') K = seqK P Γ B b K := by
    funext x s
    cases x <;> rfl
  simp only [evCode, this]
theorem evC_cond {c : Operand} {a b : Code} : evCode P Γ B (.cond c a b) K s = match s.eval c with
    | .b t => (t = true → evCode P Γ B a K s) ∧ (t = false → evCode P Γ B b K s)
    | _ => False := rfl
theorem evC_block {id : Nat} {c : Code} : evCode P Γ B (.block id c) K s = evCode P Γ B c (blockK id K) s := rfl
theorem evC_loop {c : Code} : evCode P Γ B (.loop c) K s = CodeOK P B (.loop c) s K := rfl
theorem evC_scope {c : Code} : evCode P Γ B (.scope c) K s = CodeOK P B (.scope c) s K := rfl
theorem evC_rangeFunc {f : Operand} {ps : Array Tmp} {a b : Code} : evCode P Γ B (.rangeFunc f ps a b) K s = CodeOK P B (.rangeFunc f ps a b) s K := rfl
end

/-- A region that draws its order and leaves the world alone. -/
theorem region_still {P : Program} {Γ : Tab} {B : Ctx} (hrd : B.rd = none) (hΓ : Γ.ok P) (hm : P.follows .mixedOrders = true) {id : Nat} {l : List Oper} {s : SS} {K : Ex → SS → Prop} (hB : Region.lexB .any l.toArray = true)
    (h : evStill P Γ l (K .normal) l s) : CodeOK P B (.region id l.toArray true) s K := by
  intro E a w hb hf hw
  rw [hrd]
  refine wpIn_wide.2 (wp_region_still_lit hm hB ?_)
  have hw' : Good E s { w with drawn := w.drawn + 1 } := hw.congr rfl rfl rfl rfl
  exact evStill_sound hΓ l s a hf hw' h (fun st' a' h1 h2 h3 => ⟨E, st', .normal, hb.base, h1, h2, trivial, h3⟩)

/-- A region that draws its order: what leaves the world alone first, then the rest in the text's order. -/
theorem region_tail {P : Program} {Γ : Tab} {B : Ctx} (hrd : B.rd = none) (hΓ : Γ.ok P) (hm : P.follows .mixedOrders = true) (n : Nat) {id : Nat} {l : List Oper} {s : SS} {K : Ex → SS → Prop} (hB : Region.lexTailB .any l.toArray n = true)
    (h : evStill P Γ l (evOps P Γ l (K .normal) (l.drop n)) (l.take n) s) : CodeOK P B (.region id l.toArray true) s K := by
  intro E a w hb hf hw
  rw [hrd]
  refine wpIn_wide.2 (wp_region_still_tail n hm hB ?_)
  have hw' : Good E s { w with drawn := w.drawn + 1 } := hw.congr rfl rfl rfl rfl
  refine evStill_sound hΓ (l.take n) s a hf hw' h (fun st' a' h1 h2 h3 => ?_)
  exact evOps_sound (Q := QK (B.base E) K) hΓ (l.drop n) E st' a' _ h1 h2 h3 (fun E' st2 a2 w2 k1 k2 k3 k4 => ⟨E', st2, .normal, hb.base.trans k1.ext, k2, k3, trivial, k4⟩)

/-- Less is said of the same. -/
def Sub (s s' : SS) : Prop := ∀ E a w, Fr E s a → Good E s w → ∃ E', E.Ext E' ∧ Fr E' s' a ∧ Good E' s' w

theorem Sub.refl (s : SS) : Sub s s := fun E a w hf hw => ⟨E, Env.Ext.refl E, hf, hw⟩

theorem CodeOK.sub {P : Program} {B : Ctx} {c : Code} {s s' : SS} {K : Ex → SS → Prop} (hs : Sub s s') (h : CodeOK P B c s' K) : CodeOK P B c s K := by
  intro E a w hb hf hw
  obtain ⟨E', h1, h2, h3⟩ := hs E a w hf hw
  exact wpIn_mono (h E' a w (hb.ext h1) h2 h3) fun e a w q => QK.base (hb.base.trans h1) q

/-- A loop: a family of states, each round leads to one of a smaller measure. -/
theorem loop_ok {P : Program} {B : Ctx} {c : Code} {K : Ex → SS → Prop} {ι : Type} (inv : ι → SS) (m : ι → Nat) (i0 : ι) {s : SS} (h0 : Sub s (inv i0))
    (round : ∀ i, CodeOK P B c (inv i) (thenK (fun s' => ∃ j, m j < m i ∧ Sub s' (inv j)) K)) : CodeOK P B (.loop c) s K := by
  intro E a w hb hf hw
  obtain ⟨E0, h1, h2, h3⟩ := h0 E a w hf hw
  refine wpIn_loop_ghost (Q := QK (B.base E) K) (fun n a w => ∃ i E', m i = n ∧ (B.base E).Ext E' ∧ Fr E' (inv i) a ∧ Good E' (inv i) w) (m i0) ⟨i0, E0, rfl, hb.base.trans h1, h2, h3⟩ ?_
  rintro n a w ⟨i, E', rfl, k1, k2, k3⟩
  refine wpIn_mono (round i E' a w (Ctx.base_ok k1) k2 k3) ?_
  rintro e a' w' ⟨E2, st, x, q1, q2, q3, q4, q5⟩
  have q1' := Ctx.base_trans k1 q1
  cases x <;> cases e <;> simp only [ExRel] at q4 <;> simp only [thenK] at q5
  · obtain ⟨j, hj, hsub⟩ := q5
    obtain ⟨E3, r1, r2, r3⟩ := hsub E2 a' w' q2 q3
    exact ⟨m j, hj, j, E3, rfl, q1'.trans r1, r2, r3⟩
  · exact ⟨E2, st, .ret, q1', q2, q3, trivial, q5⟩
  · subst q4; exact ⟨E2, st, .exit _, q1', q2, q3, rfl, q5⟩
  · subst q4; exact ⟨E2, st, .goto _, q1', q2, q3, rfl, q5⟩

/-- What a function hands back. -/
def evRes (Γ : Tab) (s : SS) : List ResultVar → Option (List SV × Prop)
  | [] => some ([], True)
  | .tmp t :: r =>
    match evRes Γ s r with
    | some (l, vc) => some (opd s (.tmp t) :: l, vc ∧ ovc s true (.tmp t))
    | none => none
  | .cell p ty :: r =>
    match evLoad Γ s true ty (.tmp p), evRes Γ s r with
    | some (v, vc1), some (l, vc) => some (v :: l, vc ∧ vc1)
    | _, _ => none

def single : List SV → SV
  | [x] => x
  | l => .tup l

theorem evRes_sound {P : Program} {Γ : Tab} (hΓ : Γ.ok P) {E : Env} {s : SS} {a : Act} {w : World} (hf : Fr E s a) (hw : Good E s w) (g : ResultVar → Sem Value) (g1 : ∀ t, g (.tmp t) = pure (a.tmps.getD t undef)) (g2 : ∀ p t, g (.cell p t) = (do loadVar t (← asAddr (a.tmps.getD p undef)))) : ∀ (rs : List ResultVar) (l : List SV) (vc : Prop), evRes Γ s rs = some (l, vc) → vc →
    ∃ vs : List Value, (rs.mapM g).run P w = .ok vs w ∧ DenL E l vs
  | [], l, vc, h, hv => by
    simp only [evRes, Option.some.injEq, Prod.mk.injEq] at h
    obtain ⟨rfl, rfl⟩ := h
    exact ⟨[], by simp, by simp only [DenL]⟩
  | .tmp t :: r, l, vc, h, hv => by
    simp only [evRes] at h
    split at h
    · rename_i l' vc' e
      simp only [Option.some.injEq, Prod.mk.injEq] at h
      obtain ⟨rfl, rfl⟩ := h
      obtain ⟨vs, k1, k2⟩ := evRes_sound hΓ hf hw g g1 g2 r l' vc' e hv.1
      have hd := opd_den hf rfl hv.2
      refine ⟨a.tmps.getD t undef :: vs, ?_, by simp only [DenL]; exact ⟨hd, k2⟩⟩
      rw [List.mapM_cons, Sem.run_bind, g1]
      simp only [Sem.run_pure, Result.andThen_ok]
      rw [Sem.run_bind, k1]
      rfl
    · cases h
  | .cell p ty :: r, l, vc, h, hv => by
    simp only [evRes] at h
    split at h
    · rename_i v vc1 l' vc' e1 e2
      simp only [Option.some.injEq, Prod.mk.injEq] at h
      obtain ⟨rfl, rfl⟩ := h
      obtain ⟨vs, k1, k2⟩ := evRes_sound hΓ hf hw g g1 g2 r l' vc' e2 hv.1
      obtain ⟨u, q1, q2⟩ := evLoad_sound (w := w) hΓ hf hw rfl e1 hv.2
      refine ⟨u :: vs, ?_, by simp only [DenL]; exact ⟨q2, k2⟩⟩
      have hp : ∃ ad, a.tmps.getD p undef = .pointer (some ad) := by
        have q1' := q1
        unfold Instr.loadAt at q1'
        have : a.eval (.tmp p) = a.tmps.getD p undef := rfl
        rw [this] at q1'
        cases hx : a.tmps.getD p undef <;> rw [hx] at q1' <;> simp [Instr.sureAddr] at q1'
        rename_i ad
        cases ad with
        | none => simp [Instr.sureAddr] at q1'
        | some ad => exact ⟨ad, rfl⟩
      obtain ⟨ad, hp⟩ := hp
      rw [List.mapM_cons, Sem.run_bind, g2]
      have : (do loadVar ty (← asAddr (a.tmps.getD p undef)) : Sem Value).run P w = .ok u w := by
        have q1' := q1
        unfold Instr.loadAt at q1'
        rw [show a.eval (.tmp p) = a.tmps.getD p undef from rfl, hp] at q1'
        rw [hp]
        simpa [Instr.sureAddr, asAddr] using q1'
      rw [this]
      simp only [Result.andThen_ok]
      rw [Sem.run_bind, k1]
      rfl
    · cases h

theorem results_run {P : Program} {Γ : Tab} (hΓ : Γ.ok P) {E : Env} {s : SS} {a : Act} {w : World} (hf : Fr E s a) (hw : Good E s w) {fn : Func} {l : List SV} {vc : Prop} (h : evRes Γ s fn.results.toList = some (l, vc)) (hv : vc) :
    ∃ v, (results fn a.tmps).run P w = .ok v w ∧ Den E (single l) v := by
  obtain ⟨vs, k1, k2⟩ := evRes_sound hΓ hf hw (fun
    | .tmp t => pure (a.tmps.getD t undef)
    | .cell p t => do loadVar t (← asAddr (a.tmps.getD p undef))) (fun _ => rfl) (fun _ _ => rfl) _ l vc h hv
  unfold results
  rw [Array.mapM_eq_mapM_toList]
  refine ⟨if h : vs.length = 1 then vs[0] else .tuple vs.toArray, ?_, ?_⟩
  · rw [Sem.run_bind, Sem.run_map]
    have k1' := k1
    erw [k1']
    simp
  · match l, vs, k2 with
    | [], [], _ => simp only [single, Den]; exact ⟨[], by simp, by simp only [DenL]⟩
    | [x], [v], k2 => simp only [DenL] at k2; simp only [single]; simpa using k2.1
    | x :: y :: l, v :: u :: vs, k2 => simp only [single, Den]; exact ⟨v :: u :: vs, by simp, k2⟩
    | [], _ :: _, k2 => simp only [DenL] at k2
    | _ :: _, [], k2 => simp only [DenL] at k2
    | [_], _ :: _ :: _, k2 => simp only [DenL] at k2; exact k2.2.elim
    | _ :: _ :: _, [_], k2 => simp only [DenL] at k2; exact k2.2.elim
end Go.Eng
/- The engine, part N: states under other names; less said of the same. -/
namespace Go.Eng
open Go
set_option linter.unusedVariables false
set_option linter.unusedSimpArgs false

def TW (imp : Bool) (f : Nat → Nat) : Tag → Tag → Prop
  | .old, _ => True
  | .nil, .nil => True
  | .new, .new => imp = false
  | .new, .nil => True
  | .new, .tok _ b => b = true ∧ imp = false
  | .tok τ b, .tok τ' b' => τ' = f τ ∧ (b = true → b' = true ∧ imp = false)
  | _, _ => False

mutual
/-- The first says no more than the second, under the names f (imp: of a state that is handed in). -/
def W (imp : Bool) (f : Nat → Nat) : SV → SV → Prop
  | .any, _ => True
  | .i k n, y => match y with | .i k' n' => k = k' ∧ n = n' | _ => False
  | .b c, y => match y with | .b c' => c = c' | _ => False
  | .s x, y => match y with | .s x' => x = x' | _ => False
  | .ptr n o, y => match y with | .ptr n' o' => n' = f n ∧ o = o' | _ => False
  | .nilp, y => match y with | .nilp => True | _ => False
  | .ints k t l, y => match y with | .ints k' t' l' => (k = k' ∨ l = []) ∧ l = l' ∧ TW imp f t t' | _ => False
  | .sl sz t n el, y => match y with
    | .sl sz' t' n' el' => sz = sz' ∧ n = n' ∧ TW imp f t t' ∧ ∀ i, i < n → ∀ j, j < sz → W imp f (el i j) (el' i j)
    | .ints _ .nil _ => n = 0 ∧ (t = .nil ∨ t = .old ∨ t = .new)
    | _ => False
  | .ep n g, y => match y with | .ep n' g' => n ≤ n' ∧ ∀ d, d < n → W imp f (g d) (g' d) | _ => False
  | .agg l, y => match y with | .agg l' => WL imp f l l' | _ => False
  | .tup l, y => match y with | .tup l' => WL imp f l l' | _ => False
  | .nili, y => match y with | .nili => True | _ => False
  | .ifc t x, y => match y with | .ifc t' x' => t = t' ∧ W imp f x x' | _ => False
  | .fn g a c, y => match y with | .fn g' a' c' => g = g' ∧ WL imp f a a' ∧ WL imp f c c' | _ => False
  | .nilf, y => match y with | .nilf => True | _ => False
  | .raw x, y => match y with | .raw x' => x = x' | _ => False
  | .cnd g x, y => match y with | .cnd g' x' => g = g' ∧ W imp f x x' | _ => False
  | .mp n, y => match y with | .mp n' => n' = f n | _ => False
def WL (imp : Bool) (f : Nat → Nat) : List SV → List SV → Prop
  | [], [] => True
  | x :: xs, y :: ys => W imp f x y ∧ WL imp f xs ys
  | [], _ :: _ => False
  | _ :: _, [] => False
end

structure Pull (imp : Bool) (f : Nat → Nat) (E E' : Env) : Prop where
  ρ : ∀ n, E'.ρ n = E.ρ (f n)
  θ : ∀ n, E'.θ n = E.θ (f n)
  μ : E'.μ = E.μ
  mt : imp = false → ∀ b, E.Z b → E'.Z b

theorem TW_ok {imp : Bool} {f : Nat → Nat} {E E' : Env} (h : Pull imp f E E') {sz : Nat} {v : Value} : ∀ {t t' : Tag}, TW imp f t t' → TagOK E sz v t' → TagOK E' sz v t
  | .old, _, _, _ => trivial
  | .nil, .nil, _, k => k
  | .new, .new, i, k => fun a n c e => h.mt i _ (k a n c e)
  | .new, .nil, _, k => fun a n c e => by simp only [TagOK] at k; rw [k] at e; simp at e
  | .new, .tok τ b, i, k => fun a n c e => by
    simp only [TW] at i
    exact h.mt i.2 _ (k.2 i.1 a n c e)
  | .tok τ b, .tok τ' b', i, k => by
    simp only [TW] at i
    refine ⟨by have := k.1; rw [i.1, ← h.θ] at this; exact this, fun hb a n c e => ?_⟩
    obtain ⟨i1, i2⟩ := i.2 hb
    exact h.mt i2 _ (k.2 i1 a n c e)
  | .new, .old, i, _ => by simp only [TW] at i
  | .nil, .old, i, _ => by simp only [TW] at i
  | .nil, .new, i, _ => by simp only [TW] at i
  | .nil, .tok _ _, i, _ => by simp only [TW] at i
  | .tok _ _, .old, i, _ => by simp only [TW] at i
  | .tok _ _, .new, i, _ => by simp only [TW] at i
  | .tok _ _, .nil, i, _ => by simp only [TW] at i

mutual
theorem W_den {imp : Bool} {f : Nat → Nat} {E E' : Env} (h : Pull imp f E E') : ∀ (x y : SV) (v : Value), W imp f x y → Den E y v → Den E' x v
  | .any, y, v, _, _ => by simp only [Den]
  | .i k n, y, v, hw, hd => by
    simp only [W] at hw; split at hw
    · obtain ⟨rfl, rfl⟩ := hw; simpa only [Den] using hd
    · exact hw.elim
  | .b c, y, v, hw, hd => by
    simp only [W] at hw; split at hw
    · subst hw; simpa only [Den] using hd
    · exact hw.elim
  | .s c, y, v, hw, hd => by
    simp only [W] at hw; split at hw
    · subst hw; simpa only [Den] using hd
    · exact hw.elim
  | .ptr n o, y, v, hw, hd => by
    simp only [W] at hw; split at hw
    · obtain ⟨rfl, rfl⟩ := hw
      simp only [Den] at hd ⊢
      obtain ⟨b, h1, h2⟩ := hd
      exact ⟨b, by rw [h.ρ]; exact h1, h2⟩
    · exact hw.elim
  | .mp n, y, v, hw, hd => by
    simp only [W] at hw; split at hw
    · subst hw
      simp only [Den] at hd ⊢
      obtain ⟨b, h1, h2⟩ := hd
      exact ⟨b, by rw [h.ρ]; exact h1, h2⟩
    · exact hw.elim
  | .nilp, y, v, hw, hd => by
    simp only [W] at hw; split at hw
    · simpa only [Den] using hd
    · exact hw.elim
  | .ints k t l, y, v, hw, hd => by
    simp only [W] at hw; split at hw
    · obtain ⟨hk, rfl, ht⟩ := hw
      simp only [Den] at hd ⊢
      obtain ⟨a, c, h1, h2, h3, h4, h5⟩ := hd
      refine ⟨a, c, h1, h2, h3, fun i x hx => ?_, TW_ok h ht h5⟩
      rcases hk with rfl | rfl
      · obtain ⟨b, off, e1, e2⟩ := h4 i x hx
        exact ⟨b, off, e1, by rw [h.μ]; exact e2⟩
      · simp at hx
    · exact hw.elim
  | .sl sz t n el, y, v, hw, hd => by
    unfold W at hw; split at hw
    · obtain ⟨rfl, rfl, ht, hel⟩ := hw
      simp only [Den] at hd ⊢
      obtain ⟨a, c, h1, h2, h3, h4, h5⟩ := hd
      refine ⟨a, c, h1, h2, h3, fun i hi => ?_, TW_ok h ht h5⟩
      obtain ⟨b, off, e1, e2⟩ := h4 i hi
      refine ⟨b, off, e1, fun j hj => ?_⟩
      obtain ⟨x, q1, q2⟩ := e2 j hj
      exact ⟨x, by rw [h.μ]; exact q1, W_den h (el i j) _ x (hel i hi j hj) q2⟩
    · obtain ⟨rfl, ht⟩ := hw
      simp only [Den] at hd ⊢
      obtain ⟨a, c, h1, h2, h3, h4, h5⟩ := hd
      simp only [TagOK] at h5
      subst h5
      refine ⟨none, 0, rfl, by omega, by omega, fun i hi => by omega, ?_⟩
      rcases ht with rfl | rfl | rfl
      · rfl
      · trivial
      · intro a n c e; simp at e
    · exact hw.elim
  | .ep n g, y, v, hw, hd => by
    unfold W at hw; split at hw
    · obtain ⟨hn, hg⟩ := hw
      simp only [Den] at hd ⊢
      obtain ⟨b, off, h1, h2⟩ := hd
      refine ⟨b, off, h1, fun d hd => ?_⟩
      obtain ⟨x, q1, q2⟩ := h2 d (by omega)
      exact ⟨x, by rw [h.μ]; exact q1, W_den h (g d) _ x (hg d hd) q2⟩
    · exact hw.elim
  | .agg l, y, v, hw, hd => by
    simp only [W] at hw; split at hw
    · simp only [Den] at hd ⊢
      obtain ⟨cs, h1, h2⟩ := hd
      exact ⟨cs, h1, WL_den h l _ cs hw h2⟩
    · exact hw.elim
  | .tup l, y, v, hw, hd => by
    simp only [W] at hw; split at hw
    · simp only [Den] at hd ⊢
      obtain ⟨cs, h1, h2⟩ := hd
      exact ⟨cs, h1, WL_den h l _ cs hw h2⟩
    · exact hw.elim
  | .nili, y, v, hw, hd => by
    simp only [W] at hw; split at hw
    · simpa only [Den] using hd
    · exact hw.elim
  | .ifc t x, y, v, hw, hd => by
    simp only [W] at hw; split at hw
    · obtain ⟨rfl, hw⟩ := hw
      simp only [Den] at hd ⊢
      obtain ⟨u, h1, h2⟩ := hd
      exact ⟨u, h1, W_den h x _ u hw h2⟩
    · exact hw.elim
  | .fn g a c, y, v, hw, hd => by
    simp only [W] at hw; split at hw
    · obtain ⟨rfl, h1, h2⟩ := hw
      simp only [Den] at hd ⊢
      obtain ⟨fs, cs, q1, q2, q3⟩ := hd
      exact ⟨fs, cs, q1, WL_den h a _ fs h1 q2, WL_den h c _ cs h2 q3⟩
    · exact hw.elim
  | .nilf, y, v, hw, hd => by
    simp only [W] at hw; split at hw
    · simpa only [Den] using hd
    · exact hw.elim
  | .raw x, y, v, hw, hd => by
    simp only [W] at hw; split at hw
    · subst hw; simpa only [Den] using hd
    · exact hw.elim
  | .cnd g x, y, v, hw, hd => by
    simp only [W] at hw; split at hw
    · obtain ⟨rfl, hw⟩ := hw
      simp only [Den] at hd ⊢
      exact ⟨fun e => W_den h x _ v hw (hd.1 e), hd.2⟩
    · exact hw.elim
theorem WL_den {imp : Bool} {f : Nat → Nat} {E E' : Env} (h : Pull imp f E E') : ∀ (l m : List SV) (cs : List Value), WL imp f l m → DenL E m cs → DenL E' l cs
  | [], [], [], _, _ => by simp only [DenL]
  | x :: xs, y :: ys, v :: vs, hw, hd => by
    simp only [WL] at hw
    simp only [DenL] at hd ⊢
    exact ⟨W_den h x y v hw.1 hd.1, WL_den h xs ys vs hw.2 hd.2⟩
  | [], _ :: _, _, hw, _ => by simp only [WL] at hw
  | _ :: _, [], _, hw, _ => by simp only [WL] at hw
  | [], [], _ :: _, _, hd => by simp only [DenL] at hd
  | _ :: _, _ :: _, [], _, hd => by simp only [DenL] at hd
end

/-- Names: the first ones by a list, the others behind all that there are. -/
def fmap : List Nat → Nat → Nat → Nat
  | [], nx, n => nx + n
  | m :: _, _, 0 => m
  | _ :: r, nx, n + 1 => fmap r nx n

def distincts : List Nat → Prop
  | [] => True
  | m :: r => (∀ x, x ∈ r → m ≠ x) ∧ distincts r
def allLt (nx : Nat) : List Nat → Prop
  | [] => True
  | m :: r => m < nx ∧ allLt nx r

theorem fmap_lt : ∀ (l : List Nat) (nx n : Nat), allLt nx l → n < l.length → fmap l nx n ∈ l ∧ fmap l nx n < nx
  | [], nx, n, _, h => by simp at h
  | m :: r, nx, 0, hl, h => by simp only [allLt] at hl; simp [fmap, hl.1]
  | m :: r, nx, n + 1, hl, h => by
    simp only [allLt] at hl
    have := fmap_lt r nx n hl.2 (by simpa using h)
    simp only [fmap]
    exact ⟨List.mem_cons_of_mem _ this.1, this.2⟩
theorem fmap_ge : ∀ (l : List Nat) (nx n : Nat), l.length ≤ n → fmap l nx n = nx + (n - l.length)
  | [], nx, n, _ => by simp [fmap]
  | m :: r, nx, 0, h => by simp at h
  | m :: r, nx, n + 1, h => by
    simp only [fmap]
    rw [fmap_ge r nx n (by simpa using h)]
    simp
theorem fmap_inj : ∀ (l : List Nat) (nx : Nat), distincts l → allLt nx l → ∀ n m, fmap l nx n = fmap l nx m → n = m
  | [], nx, _, _, n, m, h => by simp only [fmap] at h; omega
  | x :: r, nx, hd, hl, 0, 0, h => rfl
  | x :: r, nx, hd, hl, n + 1, m + 1, h => by
    simp only [distincts] at hd
    simp only [allLt] at hl
    simp only [fmap] at h
    rw [fmap_inj r nx hd.2 hl.2 n m h]
  | x :: r, nx, hd, hl, 0, m + 1, h => by
    simp only [distincts] at hd
    simp only [allLt] at hl
    simp only [fmap] at h
    exfalso
    rcases Nat.lt_or_ge m r.length with h' | h'
    · exact hd.1 _ (fmap_lt r nx m hl.2 h').1 h
    · have := fmap_ge r nx m h'; omega
  | x :: r, nx, hd, hl, n + 1, 0, h => by
    simp only [distincts] at hd
    simp only [allLt] at hl
    simp only [fmap] at h
    exfalso
    rcases Nat.lt_or_ge n r.length with h' | h'
    · exact hd.1 _ (fmap_lt r nx n hl.2 h').1 h.symm
    · have := fmap_ge r nx n h'; omega

noncomputable def finv (f : Nat → Nat) (N : Nat → Prop) (m : Nat) : Option Nat := open Classical in if h : ∃ n, N n ∧ f n = m then some (Classical.choose h) else none
theorem finv_of {f : Nat → Nat} {N : Nat → Prop} (hf : ∀ n m, f n = f m → n = m) {n : Nat} (hn : N n) : finv f N (f n) = some n := by
  unfold finv
  have h : ∃ m, N m ∧ f m = f n := ⟨n, hn, rfl⟩
  rw [dif_pos h]
  rw [hf _ _ (Classical.choose_spec h).2]
theorem finv_some {f : Nat → Nat} {N : Nat → Prop} {m n : Nat} (h : finv f N m = some n) : N n ∧ f n = m := by
  unfold finv at h
  split at h
  · rename_i h'
    injection h with h
    rw [← h]; exact Classical.choose_spec h'
  · cases h

def hpSub (imp : Bool) (f : Nat → Nat) (hp : List (Nat × TypeId × List SV)) : List (Nat × TypeId × List SV) → Prop
  | [] => True
  | (n, T, ls) :: r => (match hfind hp (f n) with | some (T', ls') => T = T' ∧ WL imp f ls ls' | none => False) ∧ hpSub imp f hp r
def tkSub (f : Nat → Nat) (tk : List Nat) : List Nat → Prop
  | [] => True
  | τ :: r => tkMem tk (f τ) = true ∧ tkSub f tk r
def rsFind : List (Nat × Res) → Nat → Option Res
  | [], _ => none
  | (m, R) :: r, n => if m = n then some R else rsFind r n
def rsSub (f : Nat → Nat) (rs : List (Nat × Res)) : List (Nat × Res) → Prop
  | [] => True
  | (n, R) :: r => rsFind rs (f n) = some R ∧ rsSub f rs r

theorem rsFind_mem : ∀ (l : List (Nat × Res)) (n : Nat) (R : Res), rsFind l n = some R → (n, R) ∈ l
  | [], n, R, h => by simp [rsFind] at h
  | (m, R') :: r, n, R, h => by
    simp only [rsFind] at h
    split at h
    · rename_i e; subst e; injection h with h; subst h; simp
    · exact List.mem_cons_of_mem _ (rsFind_mem r n R h)

theorem hpSub_find {imp : Bool} {f : Nat → Nat} {hp : List (Nat × TypeId × List SV)} : ∀ {l : List (Nat × TypeId × List SV)}, hpSub imp f hp l → ∀ n T ls, hfind l n = some (T, ls) → ∃ ls', hfind hp (f n) = some (T, ls') ∧ WL imp f ls ls'
  | [], _, n, T, ls, e => by simp [hfind] at e
  | (m, T', ls') :: r, h, n, T, ls, e => by
    simp only [hpSub] at h
    simp only [hfind] at e
    split at e
    · rename_i hm
      subst hm
      simp only [Option.some.injEq, Prod.mk.injEq] at e
      obtain ⟨rfl, rfl⟩ := e
      obtain ⟨h1, -⟩ := h
      split at h1
      · rename_i T2 l2 e2
        obtain ⟨rfl, h1⟩ := h1
        exact ⟨l2, e2, h1⟩
      · exact h1.elim
    · exact hpSub_find h.2 n T ls e
theorem tkSub_mem {f : Nat → Nat} {tk : List Nat} : ∀ {l : List Nat}, tkSub f tk l → ∀ τ, τ ∈ l → f τ ∈ tk
  | [], _, τ, h => by simp at h
  | x :: r, h, τ, hτ => by
    simp only [tkSub] at h
    rcases List.mem_cons.1 hτ with rfl | hτ
    · exact tkMem_sound _ _ h.1
    · exact tkSub_mem h.2 τ hτ
theorem rsSub_mem {f : Nat → Nat} {rs : List (Nat × Res)} : ∀ {l : List (Nat × Res)}, rsSub f rs l → ∀ r R, (r, R) ∈ l → (f r, R) ∈ rs
  | [], _, r, R, h => by simp at h
  | (m, R') :: l, h, r, R, hr => by
    simp only [rsSub] at h
    rcases List.mem_cons.1 hr with e | hr
    · simp only [Prod.mk.injEq] at e
      obtain ⟨rfl, rfl⟩ := e
      exact rsFind_mem _ _ _ h.1
    · exact rsSub_mem h.2 r R hr

def Key.name : Key → Nat
  | .blk n => n
  | .tok n => n
  | .res n => n
def Key.ren (g : Nat → Option Nat) : Key → Option Key
  | .blk n => (g n).map .blk
  | .tok n => (g n).map .tok
  | .res n => (g n).map .res

theorem Owns.pull {imp : Bool} {f : Nat → Nat} (hf : ∀ n m, f n = f m → n = m) {E E' : Env} (hp : Pull imp f E E') {s t : SS} {w : World} {κ : Nat → Option Key} (h : Owns E s w κ)
    (h1 : hpSub imp f s.hp t.hp) (h2 : tkSub f s.tk t.tk) (h3 : rsSub f s.rs t.rs) (N : Nat → Prop) (hN1 : ∀ n T ls, hfind t.hp n = some (T, ls) → N n) (hN2 : ∀ τ, τ ∈ t.tk → N τ) (hN3 : ∀ r R, (r, R) ∈ t.rs → N r)
    (hm : ∀ b key n, κ b = some key → key.name = f n → N n → Mut E b → Mut E' b) :
    Owns E' t w (fun b => (κ b).bind (Key.ren (finv f N))) := by
  refine ⟨?_, ?_, ?_, ?_, ?_⟩
  · intro n T ls e
    obtain ⟨ls', q1, q2⟩ := hpSub_find h1 n T ls e
    obtain ⟨b, cs, k1, k2, k3, k4, k5⟩ := h.hp _ _ _ q1
    exact ⟨b, cs, by rw [hp.ρ]; exact k1, k2, WL_den hp _ _ _ q2 k3, by simp [k4, Key.ren, finv_of hf (hN1 n T ls e)], hm b _ n k4 rfl (hN1 n T ls e) k5⟩
  · intro τ hτ
    obtain ⟨sz, a, len, cap, k1, k2, k3⟩ := h.tk _ (tkSub_mem h2 τ hτ)
    refine ⟨sz, a, len, cap, by rw [hp.θ]; exact k1, k2, ?_⟩
    rcases k3 with k3 | ⟨b, off, T, cs, k4, k5, k6, k7, k8, k9⟩
    · exact .inl k3
    · exact .inr ⟨b, off, T, cs, k4, by simp [k5, Key.ren, finv_of hf (hN2 τ hτ)], hm b _ τ k5 rfl (hN2 τ hτ) k6, k7, k8, by rw [hp.μ]; exact k9⟩
  · intro r R hr
    obtain ⟨F, k1, k2⟩ := h.rs _ _ (rsSub_mem h3 r R hr)
    exact ⟨F, by rw [hp.μ]; exact k1, fun b hb => ⟨(k2 b hb).1, by simp [(k2 b hb).2.1, Key.ren, finv_of hf (hN3 r R hr)], hm b _ r (k2 b hb).2.1 rfl (hN3 r R hr) (k2 b hb).2.2⟩⟩
  · intro a v e
    rw [hp.μ] at e
    have k1 := h.mu a v e
    intro n e'
    cases hk : κ a.block with
    | none => simp [hk] at e'
    | some key =>
      cases key with
      | blk m => exact k1 m hk
      | tok m => simp [hk, Key.ren] at e'
      | res m => simp [hk, Key.ren] at e'
  · intro b k e
    cases hk : κ b with
    | none => simp [hk] at e
    | some key =>
      refine ⟨(h.dom b key hk).1, ?_⟩
      rw [hk] at e
      simp only [Option.bind_some] at e
      have : ∃ n, N n ∧ key.name = f n := by
        cases key <;> simp only [Key.ren, Option.map_eq_some_iff] at e <;> obtain ⟨n, h1, _⟩ := e <;> exact ⟨n, (finv_some h1).1, (finv_some h1).2.symm⟩
      obtain ⟨n, h1, h2⟩ := this
      exact hm b key n hk h2 h1 (h.dom b key hk).2

/-- The same world, under other names; less is said. -/
theorem Good.pull {f : Nat → Nat} (hf : ∀ n m, f n = f m → n = m) {E : Env} {s t : SS} {w : World} (h : Good E s w) (hk : t.k = s.k) (hkx : t.k ≤ t.nx) (hn : ∀ n, t.nx ≤ n → s.nx ≤ f n)
    (h1 : hpSub false f s.hp t.hp) (h2 : tkSub f s.tk t.tk) (h3 : rsSub f s.rs t.rs) :
    ∃ E', Pull false f E E' ∧ E'.w0 = E.w0 ∧ (E'.S0 = E.S0 ∧ E'.Z = E.Z) ∧ E'.k = E.k ∧ Good E' t w := by
  have hp : Pull false f E { E with ρ := fun n => E.ρ (f n), θ := fun n => E.θ (f n) } := ⟨fun _ => rfl, fun _ => rfl, rfl, fun _ _ h => h⟩
  refine ⟨_, hp, rfl, ⟨rfl, rfl⟩, rfl, ?_⟩
  obtain ⟨κ, ho⟩ := h.own
  exact ⟨h.k.trans hk.symm, hkx, h.os, h.tape, h.output, h.size, h.old, h.mu, fun n hn' => h.nxρ _ (hn n hn'), fun n hn' => h.nxθ _ (hn n hn'), _, ho.pull hf hp h1 h2 h3 (fun _ => True) (fun _ _ _ _ => trivial) (fun _ _ => trivial) (fun _ _ _ => trivial) (fun _ _ _ _ _ _ h => h)⟩

/-- Less is said of the same, names by a list: the names that came in stay. -/
theorem Sub.of {s t : SS} (im : List Nat) (hd : distincts im) (hl : allLt s.nx im) (hlen : im.length ≤ t.nx) (hk : t.k = s.k) (hkx : t.k ≤ t.nx) (hid : ∀ n, n < s.k → fmap im s.nx n = n) (hdf : t.df = s.df)
    (hfr : WL false (fmap im s.nx) t.fr s.fr) (h1 : hpSub false (fmap im s.nx) s.hp t.hp) (h2 : tkSub (fmap im s.nx) s.tk t.tk) (h3 : rsSub (fmap im s.nx) s.rs t.rs) : Sub s t := by
  intro E a w hf hw
  obtain ⟨E', q1, q2, q3, q4, q5⟩ := hw.pull (t := t) (fmap_inj im s.nx hd hl) hk hkx (fun n hn => by rw [fmap_ge im s.nx n (by omega)]; omega) h1 h2 h3
  refine ⟨E', ⟨q4, fun n hn => ?_, fun n hn => ?_, q2, q3.1, fun a v e => by rw [q1.μ]; exact e, fun a v e => .inl (by rw [q1.μ] at e; exact e), q3.2⟩, ⟨WL_den q1 _ _ _ hfr hf.tmps, by rw [hdf]; exact hf.defers⟩, q5⟩
  · rw [q1.ρ, hid n (by rw [← hw.k]; exact hn)]
  · rw [q1.θ, hid n (by rw [← hw.k]; exact hn)]
end Go.Eng
/- The engine, part O: a callee's contract in a caller's state. -/
namespace Go.Eng
open Go
set_option linter.unusedVariables false
set_option linter.unusedSimpArgs false

def renT (f : Nat → Nat) : Tag → Tag
  | .old => .old
  | .new => .new
  | .nil => .nil
  | .tok τ b => .tok (f τ) b
mutual
def ren (f : Nat → Nat) : SV → SV
  | .i k n => .i k n
  | .b c => .b c
  | .s x => .s x
  | .ptr n o => .ptr (f n) o
  | .nilp => .nilp
  | .ints k t l => .ints k (renT f t) l
  | .sl sz t n el => .sl sz (renT f t) n (fun i j => ren f (el i j))
  | .ep n g => .ep n (fun d => ren f (g d))
  | .agg l => .agg (renL f l)
  | .tup l => .tup (renL f l)
  | .nili => .nili
  | .ifc t x => .ifc t (ren f x)
  | .fn g a c => .fn g (renL f a) (renL f c)
  | .nilf => .nilf
  | .raw x => .raw x
  | .cnd g x => .cnd g (ren f x)
  | .mp n => .mp (f n)
  | .any => .any
def renL (f : Nat → Nat) : List SV → List SV
  | [] => []
  | x :: r => ren f x :: renL f r
end

structure Later (f : Nat → Nat) (E E' : Env) : Prop where
  ρ : ∀ n b, E.ρ n = some b → E'.ρ (f n) = some b
  θ : ∀ n b, E.θ n = some b → E'.θ (f n) = some b
  μ : ∀ a v, E.μ a = some v → E'.μ a = some v
  mt : ∀ b, E.Z b → E'.Z b

theorem TagOK.ren {f : Nat → Nat} {E E' : Env} (h : Later f E E') {sz : Nat} {v : Value} : ∀ {t : Tag}, TagOK E sz v t → TagOK E' sz v (renT f t)
  | .old, _ => trivial
  | .new, k => fun a n c e => h.mt _ (k a n c e)
  | .nil, k => k
  | .tok τ b, k => ⟨TokV.to (fun v => h.θ _ v) k.1, fun hb a n c e => h.mt _ (k.2 hb a n c e)⟩

mutual
theorem Den.ren {f : Nat → Nat} {E E' : Env} (h : Later f E E') : ∀ (x : SV) (v : Value), Den E x v → Den E' (ren f x) v
  | .i k n, v, hd => by simpa only [Go.Eng.ren, Den] using hd
  | .b c, v, hd => by simpa only [Go.Eng.ren, Den] using hd
  | .s x, v, hd => by simpa only [Go.Eng.ren, Den] using hd
  | .ptr n off, v, hd => by
      simp only [Go.Eng.ren, Den] at hd ⊢
      obtain ⟨b, h1, h2⟩ := hd
      exact ⟨b, h.ρ _ _ h1, h2⟩
  | .mp n, v, hd => by
      simp only [Go.Eng.ren, Den] at hd ⊢
      obtain ⟨b, h1, h2⟩ := hd
      exact ⟨b, h.ρ _ _ h1, h2⟩
  | .nilp, v, hd => by simpa only [Go.Eng.ren, Den] using hd
  | .ints k tg l, v, hd => by
      simp only [Go.Eng.ren, Den] at hd ⊢
      obtain ⟨a, c, h1, h2, h3, h4, h5⟩ := hd
      exact ⟨a, c, h1, h2, h3, fun i x hx => let ⟨b, off, e1, e2⟩ := h4 i x hx; ⟨b, off, e1, h.μ _ _ e2⟩, h5.ren h⟩
  | .sl sz tg n el, v, hd => by
      simp only [Go.Eng.ren, Den] at hd ⊢
      obtain ⟨a, cap, h1, h2, h3, h4, h5⟩ := hd
      refine ⟨a, cap, h1, h2, h3, fun i hi => ?_, h5.ren h⟩
      obtain ⟨b, off, p, q⟩ := h4 i hi
      refine ⟨b, off, p, fun j hj => ?_⟩
      obtain ⟨x, r, s⟩ := q j hj
      exact ⟨x, h.μ _ _ r, Den.ren h (el i j) x s⟩
  | .ep n get, v, hd => by
      simp only [Go.Eng.ren, Den] at hd ⊢
      obtain ⟨b, off, p, q⟩ := hd
      refine ⟨b, off, p, fun d hd => ?_⟩
      obtain ⟨x, r, s⟩ := q d hd
      exact ⟨x, h.μ _ _ r, Den.ren h (get d) x s⟩
  | .agg l, v, hd => by
      simp only [Go.Eng.ren, Den] at hd ⊢
      obtain ⟨cs, p, q⟩ := hd
      exact ⟨cs, p, DenL.ren h l cs q⟩
  | .tup l, v, hd => by
      simp only [Go.Eng.ren, Den] at hd ⊢
      obtain ⟨cs, p, q⟩ := hd
      exact ⟨cs, p, DenL.ren h l cs q⟩
  | .nili, v, hd => by simpa only [Go.Eng.ren, Den] using hd
  | .ifc t x, v, hd => by
      simp only [Go.Eng.ren, Den] at hd ⊢
      obtain ⟨y, p, q⟩ := hd
      exact ⟨y, p, Den.ren h x y q⟩
  | .fn g first cap, v, hd => by
      simp only [Go.Eng.ren, Den] at hd ⊢
      obtain ⟨fs, cs, p, q, r⟩ := hd
      exact ⟨fs, cs, p, DenL.ren h first fs q, DenL.ren h cap cs r⟩
  | .nilf, v, hd => by simpa only [Go.Eng.ren, Den] using hd
  | .raw x, v, hd => by simpa only [Go.Eng.ren, Den] using hd
  | .cnd g x, v, hd => by
      simp only [Go.Eng.ren, Den] at hd ⊢
      exact ⟨fun e => Den.ren h x v (hd.1 e), hd.2⟩
  | .any, v, hd => by simp only [Go.Eng.ren, Den]
theorem DenL.ren {f : Nat → Nat} {E E' : Env} (h : Later f E E') : ∀ (l : List SV) (cs : List Value), DenL E l cs → DenL E' (renL f l) cs
  | [], [], _ => by simp only [renL, DenL]
  | x :: xs, v :: vs, hd => by
      simp only [renL, DenL] at hd ⊢
      exact ⟨Den.ren h x v hd.1, DenL.ren h xs vs hd.2⟩
  | [], _ :: _, hd => by simp only [DenL] at hd
  | _ :: _, [], hd => by simp only [DenL] at hd
end

/-- What a function promises: of every good world of the state 'pre', whose names all came in. -/
def Contract (P : Program) (f : FuncId) (pre : SS) (pargs : List SV) (R : SV → SS → Prop) : Prop :=
  ∀ E w vs, E.w0 = w → Good E pre w → DenL E pargs vs → (callFunc f vs.toArray).run P w = .ok (.enter f vs.toArray) w ∧
    Calls P f vs.toArray w (fun e w' => ∃ v E' post sv, e = .returned v ∧ E.Ext E' ∧ Good E' post w' ∧ Den E' sv v ∧ R sv post)

def hpRen (f : Nat → Nat) : List (Nat × TypeId × List SV) → List (Nat × TypeId × List SV) → List (Nat × TypeId × List SV)
  | [], m => m
  | (n, T, ls) :: r, m => (f n, T, renL f ls) :: hpRen f r m
def memB : List Nat → Nat → Bool
  | [], _ => false
  | m :: r, n => if m = n then true else memB r n
theorem memB_iff : ∀ (l : List Nat) (n : Nat), memB l n = true ↔ n ∈ l
  | [], n => by simp [memB]
  | m :: r, n => by
    simp only [memB, List.mem_cons]
    split
    · rename_i e; simp [e]
    · rename_i e; rw [memB_iff r n]; constructor
      · exact .inr
      · rintro (h | h)
        · exact absurd h.symm e
        · exact h
def hpDel (im : List Nat) : List (Nat × TypeId × List SV) → List (Nat × TypeId × List SV)
  | [] => []
  | (n, T, ls) :: r => match memB im n with | true => hpDel im r | false => (n, T, ls) :: hpDel im r
def tkRen (f : Nat → Nat) : List Nat → List Nat → List Nat
  | [], m => m
  | n :: r, m => f n :: tkRen f r m
def tkDelL (im : List Nat) : List Nat → List Nat
  | [] => []
  | n :: r => match memB im n with | true => tkDelL im r | false => n :: tkDelL im r
def rsRen (f : Nat → Nat) : List (Nat × Res) → List (Nat × Res) → List (Nat × Res)
  | [], m => m
  | (n, R) :: r, m => (f n, R) :: rsRen f r m
def rsDel (im : List Nat) : List (Nat × Res) → List (Nat × Res)
  | [] => []
  | (n, R) :: r => match memB im n with | true => rsDel im r | false => (n, R) :: rsDel im r

/-- The caller's state behind a call: what was lent out (im) has come back; the names ik are what they were. -/
def SS.back (st : SS) (im ik : List Nat) (post : SS) : SS :=
  { st with hp := hpRen (fmap ik st.nx) post.hp (hpDel im st.hp), tk := tkRen (fmap ik st.nx) post.tk (tkDelL im st.tk), rs := rsRen (fmap ik st.nx) post.rs (rsDel im st.rs), nx := st.nx + (post.nx - ik.length) }

theorem hpRen_find {f : Nat → Nat} (hf : ∀ n m, f n = f m → n = m) : ∀ (l m : List (Nat × TypeId × List SV)) (k : Nat) (T : TypeId) (ls : List SV), hfind (hpRen f l m) k = some (T, ls) →
    (∃ n ls', k = f n ∧ hfind l n = some (T, ls') ∧ ls = renL f ls') ∨ hfind m k = some (T, ls)
  | [], m, k, T, ls, h => .inr h
  | (n, T', l') :: r, m, k, T, ls, h => by
    simp only [hpRen, hfind] at h
    split at h
    · rename_i e
      simp only [Option.some.injEq, Prod.mk.injEq] at h
      obtain ⟨rfl, rfl⟩ := h
      exact .inl ⟨n, l', e.symm, by simp [hfind], rfl⟩
    · rename_i e
      rcases hpRen_find hf r m k T ls h with ⟨n', ls', rfl, h2, h3⟩ | h
      · refine .inl ⟨n', ls', rfl, ?_, h3⟩
        have : ¬ n = n' := fun h => e (by rw [h])
        simp [hfind, this, h2]
      · exact .inr h
theorem hpDel_find (im : List Nat) : ∀ (l : List (Nat × TypeId × List SV)) (k : Nat) (T : TypeId) (ls : List SV), hfind (hpDel im l) k = some (T, ls) → hfind l k = some (T, ls) ∧ k ∉ im
  | [], k, T, ls, h => by simp [hpDel, hfind] at h
  | (n, T', l') :: r, k, T, ls, h => by
    simp only [hpDel] at h
    split at h
    · rename_i e
      obtain ⟨h1, h2⟩ := hpDel_find im r k T ls h
      have hn := (memB_iff im n).1 e
      have : ¬ n = k := by rintro rfl; exact h2 hn
      exact ⟨by simp [hfind, this, h1], h2⟩
    · rename_i e
      have hn : n ∉ im := fun h => by rw [(memB_iff im n).2 h] at e; cases e
      simp only [hfind] at h ⊢
      split at h
      · rename_i e2; rw [if_pos e2]; exact ⟨h, by rw [← e2]; exact hn⟩
      · rename_i e2; rw [if_neg e2]; exact hpDel_find im r k T ls h
theorem tkRen_mem {f : Nat → Nat} : ∀ (l m : List Nat) (k : Nat), k ∈ tkRen f l m → (∃ n, n ∈ l ∧ k = f n) ∨ k ∈ m
  | [], m, k, h => .inr h
  | n :: r, m, k, h => by
    simp only [tkRen] at h
    rcases List.mem_cons.1 h with rfl | h
    · exact .inl ⟨n, by simp, rfl⟩
    · rcases tkRen_mem r m k h with ⟨n', h1, h2⟩ | h
      · exact .inl ⟨n', by simp [h1], h2⟩
      · exact .inr h
theorem tkDelL_mem (im : List Nat) : ∀ (l : List Nat) (k : Nat), k ∈ tkDelL im l → k ∈ l ∧ k ∉ im
  | [], k, h => by simp [tkDelL] at h
  | n :: r, k, h => by
    simp only [tkDelL] at h
    split at h
    · obtain ⟨h1, h2⟩ := tkDelL_mem im r k h; exact ⟨by simp [h1], h2⟩
    · rename_i e
      rcases List.mem_cons.1 h with rfl | h
      · exact ⟨by simp, fun h => by rw [(memB_iff im k).2 h] at e; cases e⟩
      · obtain ⟨h1, h2⟩ := tkDelL_mem im r k h; exact ⟨by simp [h1], h2⟩
theorem rsRen_mem {f : Nat → Nat} : ∀ (l m : List (Nat × Res)) (k : Nat) (R : Res), (k, R) ∈ rsRen f l m → (∃ n, (n, R) ∈ l ∧ k = f n) ∨ (k, R) ∈ m
  | [], m, k, R, h => .inr h
  | (n, R') :: r, m, k, R, h => by
    simp only [rsRen] at h
    rcases List.mem_cons.1 h with e | h
    · simp only [Prod.mk.injEq] at e
      obtain ⟨rfl, rfl⟩ := e
      exact .inl ⟨n, by simp, rfl⟩
    · rcases rsRen_mem r m k R h with ⟨n', h1, h2⟩ | h
      · exact .inl ⟨n', by simp [h1], h2⟩
      · exact .inr h
theorem rsDel_mem (im : List Nat) : ∀ (l : List (Nat × Res)) (k : Nat) (R : Res), (k, R) ∈ rsDel im l → (k, R) ∈ l ∧ k ∉ im
  | [], k, R, h => by simp [rsDel] at h
  | (n, R') :: r, k, R, h => by
    simp only [rsDel] at h
    split at h
    · obtain ⟨h1, h2⟩ := rsDel_mem im r k R h; exact ⟨by simp [h1], h2⟩
    · rename_i e
      rcases List.mem_cons.1 h with e' | h
      · simp only [Prod.mk.injEq] at e'
        obtain ⟨rfl, rfl⟩ := e'
        exact ⟨by simp, fun h => by rw [(memB_iff im k).2 h] at e; cases e⟩
      · obtain ⟨h1, h2⟩ := rsDel_mem im r k R h; exact ⟨by simp [h1], h2⟩
end Go.Eng
/- The engine, part P: a callee's contract, used by a caller; a contract out of a function's code. -/
namespace Go.Eng
open Go
set_option linter.unusedVariables false
set_option linter.unusedSimpArgs false

def hpLt (k : Nat) : List (Nat × TypeId × List SV) → Prop
  | [] => True
  | (n, _, _) :: r => n < k ∧ hpLt k r
def rsLt (k : Nat) : List (Nat × Res) → Prop
  | [] => True
  | (n, _) :: r => n < k ∧ rsLt k r
theorem hpLt_find {k : Nat} : ∀ {l : List (Nat × TypeId × List SV)}, hpLt k l → ∀ n T ls, hfind l n = some (T, ls) → n < k
  | [], _, n, T, ls, e => by simp [hfind] at e
  | (m, T', l') :: r, h, n, T, ls, e => by
    simp only [hpLt] at h
    simp only [hfind] at e
    split at e
    · rename_i hm; rw [← hm]; exact h.1
    · exact hpLt_find h.2 n T ls e
theorem allLt_mem {k : Nat} : ∀ {l : List Nat}, allLt k l → ∀ x, x ∈ l → x < k
  | [], _, x, h => by simp at h
  | m :: r, h, x, hx => by
    simp only [allLt] at h
    rcases List.mem_cons.1 hx with rfl | hx
    · exact h.1
    · exact allLt_mem h.2 x hx
theorem rsLt_mem {k : Nat} : ∀ {l : List (Nat × Res)}, rsLt k l → ∀ r R, (r, R) ∈ l → r < k
  | [], _, r, R, h => by simp at h
  | (m, R') :: l, h, r, R, hr => by
    simp only [rsLt] at h
    rcases List.mem_cons.1 hr with e | hr
    · simp only [Prod.mk.injEq] at e
      rw [e.1]; exact h.1
    · exact rsLt_mem h.2 r R hr

/-- The names of a state are all below. -/
def SS.lt (s : SS) (k : Nat) : Prop := hpLt k s.hp ∧ allLt k s.tk ∧ rsLt k s.rs

theorem distincts_take : ∀ (l : List Nat) (k : Nat), distincts l → distincts (l.take k)
  | [], k, h => by simp [distincts]
  | m :: r, 0, h => by simp [distincts]
  | m :: r, k + 1, h => by
    simp only [distincts, List.take_succ_cons] at h ⊢
    exact ⟨fun x hx => h.1 x (List.mem_of_mem_take hx), distincts_take r k h.2⟩
theorem allLt_take {nx : Nat} : ∀ (l : List Nat) (k : Nat), allLt nx l → allLt nx (l.take k)
  | [], k, h => by simp [allLt]
  | m :: r, 0, h => by simp [allLt]
  | m :: r, k + 1, h => by
    simp only [allLt, List.take_succ_cons] at h ⊢
    exact ⟨h.1, allLt_take r k h.2⟩
theorem fmap_take : ∀ (l : List Nat) (nx k n : Nat), n < (l.take k).length → fmap (l.take k) nx n = fmap l nx n
  | [], nx, k, n, h => by simp at h
  | m :: r, nx, 0, n, h => by simp at h
  | m :: r, nx, k + 1, 0, h => by simp [fmap]
  | m :: r, nx, k + 1, n + 1, h => by
    simp only [List.take_succ_cons, fmap]
    exact fmap_take r nx k n (by simpa using h)

theorem back_good {E : Env} {st : SS} {w : World} (hw : Good E st w) {κ : Nat → Option Key} (ho : Owns E st w κ) {im ik : List Nat} (hd : distincts ik) (hl : allLt st.nx ik)
    {E' : Env} {post : SS} {w' : World} (h0 : E'.w0 = w) (hZ : E'.Z = E.Z) (hS : E'.S0 = fun b => ∃ key, κ b = some key ∧ key.name ∈ im)
    (hρ : ∀ n b, n < ik.length → E'.ρ n = some b → E.ρ (fmap ik st.nx n) = some b) (hθ : ∀ n b, n < ik.length → E'.θ n = some b → E.θ (fmap ik st.nx n) = some b)
    (hμ : ∀ a v, E.μ a = some v → E'.μ a = some v) (hμn : ∀ a v, E'.μ a = some v → E.μ a = some v ∨ Mut E' a.block) (hp : Good E' post w') :
    ∃ E2, E.Le E2 ∧ Later (fmap ik st.nx) E' E2 ∧ Good E2 (st.back im ik post) w' := by
  have hinj := fmap_inj ik st.nx hd hl
  have hmut : ∀ b, Mut E' b → Mut E b := by
    intro b hb
    rcases hb with hb | hb
    · rw [h0] at hb; exact .inl (Nat.le_trans hw.size hb)
    · rw [hS] at hb
      obtain ⟨key, hk, -⟩ := hb
      exact (ho.dom _ _ hk).2
  have hfar : ∀ b key, κ b = some key → key.name ∉ im → ¬ Mut E' b := by
    rintro b key hk hn (hb | hb)
    · rw [h0] at hb; have := (ho.dom _ _ hk).1; omega
    · rw [hS] at hb
      obtain ⟨key', hk', hn'⟩ := hb
      rw [hk] at hk'
      injection hk' with e
      subst e
      exact hn hn'
  have hold : ∀ b, b < w.heap.size → ¬ Mut E' b → w'.heap[b]? = w.heap[b]? := fun b hb hm => by
    have := hp.old b (by rw [h0]; exact hb) (fun h => hm (.inr h))
    rw [this, h0]
  let E2 : Env := { E with ρ := fun n => if n < st.nx then E.ρ n else E'.ρ (n - st.nx + ik.length), θ := fun n => if n < st.nx then E.θ n else E'.θ (n - st.nx + ik.length), μ := E'.μ }
  have hle : E.Le E2 := by
    refine ⟨rfl, rfl, rfl, fun n b e => ?_, fun n v e => ?_, hμ, fun a v e => ?_, fun n hn => if_pos (by have := hw.k; have := hw.kx; omega), fun n hn => if_pos (by have := hw.k; have := hw.kx; omega), rfl⟩
    · have : n < st.nx := by
        rcases Nat.lt_or_ge n st.nx with h | h
        · exact h
        · rw [hw.nxρ n h] at e; cases e
      show (if n < st.nx then E.ρ n else _) = _
      rw [if_pos this]; exact e
    · have : n < st.nx := by
        rcases Nat.lt_or_ge n st.nx with h | h
        · exact h
        · rw [hw.nxθ n h] at e; cases e
      show (if n < st.nx then E.θ n else _) = _
      rw [if_pos this]; exact e
    · rcases hμn a v e with h | h
      · exact .inl h
      · exact .inr (hmut _ h)
  have hlater : Later (fmap ik st.nx) E' E2 := by
    refine ⟨fun n b e => ?_, fun n b e => ?_, fun a v e => e, fun b hb => by rw [hZ] at hb; exact hb⟩
    · show (if _ < st.nx then E.ρ _ else E'.ρ _) = _
      rcases Nat.lt_or_ge n ik.length with h | h
      · rw [if_pos (fmap_lt ik st.nx n hl h).2]; exact hρ n b h e
      · rw [fmap_ge ik st.nx n h, if_neg (by omega), show st.nx + (n - ik.length) - st.nx + ik.length = n by omega]; exact e
    · show (if _ < st.nx then E.θ _ else E'.θ _) = _
      rcases Nat.lt_or_ge n ik.length with h | h
      · rw [if_pos (fmap_lt ik st.nx n hl h).2]; exact hθ n b h e
      · rw [fmap_ge ik st.nx n h, if_neg (by omega), show st.nx + (n - ik.length) - st.nx + ik.length = n by omega]; exact e
  refine ⟨E2, hle, hlater, ?_⟩
  obtain ⟨κ', ho'⟩ := hp.own
  let ren' : Key → Key := fun | .blk n => .blk (fmap ik st.nx n) | .tok n => .tok (fmap ik st.nx n) | .res n => .res (fmap ik st.nx n)
  open Classical in
  let κ2 : Nat → Option Key := fun b => if Mut E' b then (κ' b).map ren' else (match κ b with | some key => if key.name ∈ im then none else some key | none => none)
  have k2m : ∀ b, Mut E' b → κ2 b = (κ' b).map ren' := fun b h => if_pos h
  have k2o : ∀ b key, κ b = some key → key.name ∉ im → κ2 b = some key := fun b key h hn => by
    show (if Mut E' b then _ else _) = _
    rw [if_neg (hfar b key h hn), h]
    simp [hn]
  have k2n : ∀ b key, ¬ Mut E' b → κ2 b = some key → κ b = some key := fun b key hm e => by
    have e' : (if Mut E' b then (κ' b).map ren' else (match κ b with | some key => if key.name ∈ im then none else some key | none => none)) = some key := e
    rw [if_neg hm] at e'
    split at e'
    · rename_i key' hk
      split at e'
      · cases e'
      · rw [hk]; exact e'
    · cases e'
  refine ⟨hw.k, Nat.le_trans hw.kx (Nat.le_add_right _ _), ?_, ?_, ?_, ?_, ?_, hp.mu, ?_, ?_, κ2, ?_, ?_, ?_, ?_, ?_⟩
  · have := hp.os; rw [h0] at this; exact this.trans hw.os
  · have := hp.tape; rw [h0] at this; exact this.trans hw.tape
  · have := hp.output; rw [h0] at this; exact this.trans hw.output
  · have := hp.size; rw [h0] at this; exact Nat.le_trans hw.size this
  · intro b hb hs
    have hb' : b < w.heap.size := Nat.lt_of_lt_of_le hb hw.size
    have hm : ¬ Mut E' b := fun h => by
      rcases hmut b h with h | h
      · have : b < E.w0.heap.size := hb; omega
      · exact hs h
    rw [hold b hb' hm]; exact hw.old b hb hs
  · intro n hn
    have hn' : st.nx + (post.nx - ik.length) ≤ n := hn
    show (if n < st.nx then E.ρ n else E'.ρ (n - st.nx + ik.length)) = none
    rw [if_neg (by omega)]; exact hp.nxρ _ (by omega)
  · intro n hn
    have hn' : st.nx + (post.nx - ik.length) ≤ n := hn
    show (if n < st.nx then E.θ n else E'.θ (n - st.nx + ik.length)) = none
    rw [if_neg (by omega)]; exact hp.nxθ _ (by omega)
  · intro m T ls e
    have e' : hfind (hpRen (fmap ik st.nx) post.hp (hpDel im st.hp)) m = some (T, ls) := e
    rcases hpRen_find hinj _ _ m T ls e' with ⟨n, ls', rfl, q1, rfl⟩ | q
    · obtain ⟨b, cs, k1, k2, k3, k4, k5⟩ := ho'.hp _ _ _ q1
      exact ⟨b, cs, hlater.ρ _ _ k1, k2, DenL.ren hlater _ _ k3, by rw [k2m b k5, k4]; rfl, hmut b k5⟩
    · obtain ⟨q1, q2⟩ := hpDel_find im _ m T ls q
      obtain ⟨b, cs, k1, k2, k3, k4, k5⟩ := ho.hp _ _ _ q1
      have hm := hfar b _ k4 q2
      exact ⟨b, cs, hle.ρ _ _ k1, by rw [hold b (ho.dom _ _ k4).1 hm]; exact k2, DenL.mono hle _ _ k3, k2o b _ k4 q2, k5⟩
  · intro τ hτ
    have hτ' : τ ∈ tkRen (fmap ik st.nx) post.tk (tkDelL im st.tk) := hτ
    rcases tkRen_mem _ _ _ hτ' with ⟨n, q1, rfl⟩ | q
    · obtain ⟨sz, a, len, cap, k1, k2, k3⟩ := ho'.tk _ q1
      refine ⟨sz, a, len, cap, hlater.θ _ _ k1, k2, ?_⟩
      rcases k3 with k3 | ⟨b, off, T, cs, k4, k5, k6, k7, k8, k9⟩
      · exact .inl k3
      · exact .inr ⟨b, off, T, cs, k4, by rw [k2m b k6, k5]; rfl, hmut b k6, k7, k8, k9⟩
    · obtain ⟨q1, q2⟩ := tkDelL_mem im _ _ q
      obtain ⟨sz, a, len, cap, k1, k2, k3⟩ := ho.tk _ q1
      refine ⟨sz, a, len, cap, hle.θ _ _ k1, k2, ?_⟩
      rcases k3 with k3 | ⟨b, off, T, cs, k4, k5, k6, k7, k8, k9⟩
      · exact .inl k3
      · have hm := hfar b _ k5 q2
        refine .inr ⟨b, off, T, cs, k4, k2o b _ k5 q2, k6, k7.congr (hold b (ho.dom _ _ k5).1 hm), k8, fun ad v e hab => ?_⟩
        rcases hμn ad v e with h | h
        · exact k9 ad v h hab
        · rw [hab] at h; exact absurd h hm
  · intro r R hr
    have hr' : (r, R) ∈ rsRen (fmap ik st.nx) post.rs (rsDel im st.rs) := hr
    rcases rsRen_mem _ _ _ _ hr' with ⟨n, q1, rfl⟩ | q
    · obtain ⟨F, k1, k2⟩ := ho'.rs _ _ q1
      exact ⟨F, k1, fun b hb => ⟨(k2 b hb).1, by rw [k2m b (k2 b hb).2.2, (k2 b hb).2.1]; rfl, hmut b (k2 b hb).2.2⟩⟩
    · obtain ⟨q1, q2⟩ := rsDel_mem im _ _ _ q
      obtain ⟨F, k1, k2⟩ := ho.rs _ _ q1
      have hm : ∀ b, F b → ¬ Mut E' b := fun b hb => hfar b _ (k2 b hb).2.1 q2
      have hsz : w.heap.size ≤ w'.heap.size := by have := hp.size; rw [h0] at this; exact this
      exact ⟨F, R.next _ _ F _ _ k1 (fun b hb => .inl (hold b (k2 b hb).1 (hm b hb))) hμ (fun a v e => by
        rcases hμn a v e with h | h
        · exact .inl h
        · exact .inr (fun hF => hm _ hF h)), fun b hb => ⟨Nat.lt_of_lt_of_le (k2 b hb).1 hsz, k2o b _ (k2 b hb).2.1 q2, (k2 b hb).2.2⟩⟩
  · intro a v e
    by_cases hm : Mut E' a.block
    · rw [k2m _ hm]
      have q1 := ho'.mu a v e
      intro n e'
      cases hk : κ' a.block with
      | none => simp [hk] at e'
      | some key =>
        cases key with
        | blk m => exact q1 m hk
        | tok m => simp [hk, ren'] at e'
        | res m => simp [hk, ren'] at e'
    · rcases hμn a v e with h | h
      · exact fun n e' => ho.mu a v h n (k2n _ _ hm e')
      · exact absurd h hm
  · intro b key e
    have hsz : w.heap.size ≤ w'.heap.size := by have := hp.size; rw [h0] at this; exact this
    by_cases hm : Mut E' b
    · rw [k2m b hm] at e
      cases hk : κ' b with
      | none => simp [hk] at e
      | some key' => exact ⟨(ho'.dom _ _ hk).1, hmut b hm⟩
    · have := k2n b key hm e
      exact ⟨Nat.lt_of_lt_of_le (ho.dom _ _ this).1 hsz, (ho.dom _ _ this).2⟩

def lentHp (f : Nat → Nat) : List (Nat × TypeId × List SV) → List Nat
  | [] => []
  | (n, _, _) :: r => f n :: lentHp f r
def lentTk (f : Nat → Nat) : List Nat → List Nat
  | [] => []
  | n :: r => f n :: lentTk f r
def lentRs (f : Nat → Nat) : List (Nat × Res) → List Nat
  | [] => []
  | (n, _) :: r => f n :: lentRs f r
/-- The caller's names of what is lent out. -/
def lentOf (im : List Nat) (nx : Nat) (pre : SS) : List Nat := lentHp (fmap im nx) pre.hp ++ (lentTk (fmap im nx) pre.tk ++ lentRs (fmap im nx) pre.rs)
theorem lentHp_find (f : Nat → Nat) : ∀ (l : List (Nat × TypeId × List SV)) (n : Nat) (T : TypeId) (ls : List SV), hfind l n = some (T, ls) → f n ∈ lentHp f l
  | [], n, T, ls, h => by simp [hfind] at h
  | (m, _, _) :: r, n, T, ls, h => by
    simp only [hfind] at h
    simp only [lentHp]
    split at h
    · rename_i e; rw [e]; simp
    · exact List.mem_cons_of_mem _ (lentHp_find f r n T ls h)
theorem lentTk_mem (f : Nat → Nat) : ∀ (l : List Nat) (n : Nat), n ∈ l → f n ∈ lentTk f l
  | m :: r, n, h => by
    simp only [lentTk]
    rcases List.mem_cons.1 h with rfl | h
    · simp
    · exact List.mem_cons_of_mem _ (lentTk_mem f r n h)
theorem lentRs_mem (f : Nat → Nat) : ∀ (l : List (Nat × Res)) (n : Nat) (R : Res), (n, R) ∈ l → f n ∈ lentRs f l
  | (m, _) :: r, n, R, h => by
    simp only [lentRs]
    rcases List.mem_cons.1 h with h | h
    · injection h with h1 h2; rw [h1]; simp
    · exact List.mem_cons_of_mem _ (lentRs_mem f r n R h)

/-- A callee's contract, in a caller's state: 'im' lists the caller's names of what the callee knows. -/
theorem call_ent {P : Program} {f : FuncId} {pre : SS} {pargs : List SV} {R : SV → SS → Prop} (hC : Contract P f pre pargs R) (im : List Nat) {st : SS} {args : List SV} {K : SV → SS → Prop}
    (hd : distincts im) (hl : allLt st.nx im) (hlen : im.length = pre.nx) (hk : pre.k ≤ pre.nx) (hlt : pre.lt pre.nx)
    (h1 : hpSub false (fmap im st.nx) st.hp pre.hp) (h2 : tkSub (fmap im st.nx) st.tk pre.tk) (h3 : rsSub (fmap im st.nx) st.rs pre.rs) (ha : WL false (fmap im st.nx) pargs args)
    (hK : ∀ sv post, R sv post → K (ren (fmap (im.take pre.k) st.nx) sv) (st.back (lentOf im st.nx pre) (im.take pre.k) post)) : CallEnt P f args st K := by
  intro E w vs hw hv
  obtain ⟨κ, ho⟩ := hw.own
  have hinj := fmap_inj im st.nx hd hl
  let E' : Env := { w0 := w, S0 := fun b => ∃ key, κ b = some key ∧ key.name ∈ lentOf im st.nx pre, ρ := fun n => E.ρ (fmap im st.nx n), θ := fun n => E.θ (fmap im st.nx n), μ := E.μ, k := pre.k, Z := E.Z, hZ := fun b hb => E.hZ b (Nat.le_trans hw.size hb) }
  have hp : Pull false (fmap im st.nx) E E' := ⟨fun _ => rfl, fun _ => rfl, rfl, fun _ _ h => h⟩
  have hg : Good E' pre w := by
    refine ⟨rfl, hk, rfl, rfl, rfl, Nat.le_refl _, fun _ _ _ => rfl, hw.mu, fun n hn => hw.nxρ _ ?_, fun n hn => hw.nxθ _ ?_, _, ho.pull hinj hp h1 h2 h3 (fun n => fmap im st.nx n ∈ lentOf im st.nx pre) (fun n T ls e => List.mem_append_left _ (lentHp_find _ _ n T ls e)) (fun τ hτ => List.mem_append_right _ (List.mem_append_left _ (lentTk_mem _ _ τ hτ))) (fun r R hr => List.mem_append_right _ (List.mem_append_right _ (lentRs_mem _ _ r R hr))) ?_⟩
    · rw [fmap_ge im st.nx n (by omega)]; omega
    · rw [fmap_ge im st.nx n (by omega)]; omega
    · intro b key n hκ hn hN _
      exact .inr ⟨key, hκ, by rw [hn]; exact hN⟩
  obtain ⟨q1, q2⟩ := hC E' w vs rfl hg (WL_den hp _ _ _ ha hv)
  refine ⟨q1, q2.mono ?_⟩
  rintro e w' ⟨v, E1, post, sv, rfl, k1, k2, k3, k4⟩
  have hw0 : E1.w0 = w := k1.w0
  have hS0 : E1.S0 = fun b => ∃ key, κ b = some key ∧ key.name ∈ lentOf im st.nx pre := k1.S0
  have hkl : (im.take pre.k).length = pre.k := by simp; omega
  obtain ⟨E2, r1, r2, r3⟩ := back_good (ik := im.take pre.k) hw ho (distincts_take _ _ hd) (allLt_take _ _ hl) hw0 k1.Z hS0 (fun n b hn e => by rw [k1.ρ n (by show n < pre.k; omega)] at e; rw [fmap_take _ _ _ _ (by omega)]; exact e) (fun n b hn e => by rw [k1.θ n (by show n < pre.k; omega)] at e; rw [fmap_take _ _ _ _ (by omega)]; exact e) k1.μ (fun a v e => by
      rcases k1.μnew a v e with h | h
      · exact .inl h
      · exact .inr ((Mut.ext k1).1 h)) k2
  · exact ⟨v, E2, _, _, rfl, r1, r3, Den.ren r2 _ _ k3, ⟨rfl, rfl⟩, hK sv post k4⟩
theorem call_of {P : Program} {f : FuncId} {pre : SS} {pargs : List SV} {R : SV → SS → Prop} (hC : Contract P f pre pargs R) (im : List Nat) {st : SS} {args : List SV} {K : SV → SS → Prop}
    (hd : distincts im) (hl : allLt st.nx im) (hlen : im.length = pre.nx) (hk : pre.k ≤ pre.nx) (hlt : pre.lt pre.nx)
    (h1 : hpSub false (fmap im st.nx) st.hp pre.hp) (h2 : tkSub (fmap im st.nx) st.tk pre.tk) (h3 : rsSub (fmap im st.nx) st.rs pre.rs) (ha : WL false (fmap im st.nx) pargs args)
    (hK : ∀ sv post, R sv post → K (ren (fmap (im.take pre.k) st.nx) sv) (st.back (lentOf im st.nx pre) (im.take pre.k) post)) : CallOK P f args st K :=
  .inl (call_ent hC im hd hl hlen hk hlt h1 h2 h3 ha hK)
end Go.Eng
/- The engine, part S: objects of the machine's own as resources; a range over a function. -/
namespace Go.Eng
open Go
set_option linter.unusedVariables false
set_option linter.unusedSimpArgs false

/-- More is known, whatever is frozen. -/
structure Le0 (E E' : Env) : Prop where
  ρ : ∀ n b, E.ρ n = some b → E'.ρ n = some b
  θ : ∀ n v, E.θ n = some v → E'.θ n = some v
  μ : ∀ a v, E.μ a = some v → E'.μ a = some v
  mt : ∀ b, E.Z b → E'.Z b
theorem TagOK.mono0 {E E' : Env} (h : Le0 E E') {sz : Nat} {v : Value} : ∀ {t : Tag}, TagOK E sz v t → TagOK E' sz v t
  | .old, _ => trivial
  | .new, k => fun a n c e => h.mt _ (k a n c e)
  | .nil, k => k
  | .tok τ b, k => ⟨TokV.to (fun v => h.θ _ v) k.1, fun hb a n c e => h.mt _ (k.2 hb a n c e)⟩

theorem IsInts.mono0 {E E' : Env} (h : Le0 E E') {k : IntKind} {tg : Tag} {l : List Int} {v : Value} : IsInts E k tg l v → IsInts E' k tg l v
  | ⟨a, cap, h1, h2, h3, h4, h5⟩ => ⟨a, cap, h1, h2, h3, fun i x e => let ⟨b, off, p, q⟩ := h4 i x e; ⟨b, off, p, h.μ _ _ q⟩, h5.mono0 h⟩

mutual
theorem Den.mono0 {E E' : Env} (h : Le0 E E') : ∀ (x : SV) (v : Value), Den E x v → Den E' x v
  | .i k n, v, hd => by simpa only [Den] using hd
  | .b c, v, hd => by simpa only [Den] using hd
  | .s x, v, hd => by simpa only [Den] using hd
  | .ptr n off, v, hd => by
      simp only [Den] at hd ⊢
      obtain ⟨b, h1, h2⟩ := hd
      exact ⟨b, h.ρ _ _ h1, h2⟩
  | .mp n, v, hd => by
      simp only [Den] at hd ⊢
      obtain ⟨b, h1, h2⟩ := hd
      exact ⟨b, h.ρ _ _ h1, h2⟩
  | .nilp, v, hd => by simpa only [Den] using hd
  | .ints k tg l, v, hd => by
      simp only [Den] at hd ⊢
      exact hd.mono0 h
  | .sl sz tg n el, v, hd => by
      simp only [Den] at hd ⊢
      obtain ⟨a, cap, h1, h2, h3, h4, h5⟩ := hd
      refine ⟨a, cap, h1, h2, h3, fun i hi => ?_, h5.mono0 h⟩
      obtain ⟨b, off, p, q⟩ := h4 i hi
      refine ⟨b, off, p, fun j hj => ?_⟩
      obtain ⟨x, r, s⟩ := q j hj
      exact ⟨x, h.μ _ _ r, Den.mono0 h (el i j) x s⟩
  | .ep n get, v, hd => by
      simp only [Den] at hd ⊢
      obtain ⟨b, off, p, q⟩ := hd
      refine ⟨b, off, p, fun d hd => ?_⟩
      obtain ⟨x, r, s⟩ := q d hd
      exact ⟨x, h.μ _ _ r, Den.mono0 h (get d) x s⟩
  | .agg l, v, hd => by
      simp only [Den] at hd ⊢
      obtain ⟨cs, p, q⟩ := hd
      exact ⟨cs, p, DenL.mono0 h l cs q⟩
  | .tup l, v, hd => by
      simp only [Den] at hd ⊢
      obtain ⟨cs, p, q⟩ := hd
      exact ⟨cs, p, DenL.mono0 h l cs q⟩
  | .nili, v, hd => by simpa only [Den] using hd
  | .ifc t x, v, hd => by
      simp only [Den] at hd ⊢
      obtain ⟨y, p, q⟩ := hd
      exact ⟨y, p, Den.mono0 h x y q⟩
  | .fn f first cap, v, hd => by
      simp only [Den] at hd ⊢
      obtain ⟨fs, cs, p, q, r⟩ := hd
      exact ⟨fs, cs, p, DenL.mono0 h first fs q, DenL.mono0 h cap cs r⟩
  | .nilf, v, hd => by simpa only [Den] using hd
  | .raw x, v, hd => by simpa only [Den] using hd
  | .cnd g x, v, hd => by
      simp only [Den] at hd ⊢
      exact ⟨fun e => Den.mono0 h x v (hd.1 e), hd.2⟩
  | .any, v, hd => by simp only [Den]
theorem DenL.mono0 {E E' : Env} (h : Le0 E E') : ∀ (l : List SV) (cs : List Value), DenL E l cs → DenL E' l cs
  | [], [], _ => by simp only [DenL]
  | x :: xs, v :: vs, hd => by
      simp only [DenL] at hd ⊢
      exact ⟨Den.mono0 h x v hd.1, DenL.mono0 h xs vs hd.2⟩
  | [], _ :: _, hd => by simp only [DenL] at hd
  | _ :: _, [], hd => by simp only [DenL] at hd
end

def rsCut : List (Nat × Res) → Nat → List (Nat × Res)
  | [], _ => []
  | (m, Q) :: t, r => if m = r then rsCut t r else (m, Q) :: rsCut t r
theorem rsCut_mem {r : Nat} : ∀ {l : List (Nat × Res)} {m : Nat} {Q : Res}, (m, Q) ∈ rsCut l r → m ≠ r ∧ (m, Q) ∈ l
  | (n, S) :: t, m, Q, h => by
    simp only [rsCut] at h
    split at h
    · exact ⟨(rsCut_mem h).1, List.mem_cons_of_mem _ (rsCut_mem h).2⟩
    · rename_i e
      rcases List.mem_cons.1 h with h | h
      · injection h with h1 h2
        exact ⟨by rw [h1]; exact e, by rw [h1, h2]; exact List.mem_cons_self⟩
      · exact ⟨(rsCut_mem h).1, List.mem_cons_of_mem _ (rsCut_mem h).2⟩

/-- A resource's own place is written. -/
theorem Good.reres {E : Env} {st : SS} {w : World} (h : Good E st w) {r b : Nat} {o : Obj} (hr : (r, RObj b o) ∈ st.rs) :
    w.heap[b]? = some o ∧ ∀ w' : World, (∀ c, c ≠ b → w'.heap[c]? = w.heap[c]?) → w'.heap.size = w.heap.size → w'.os = w.os → w'.tape = w.tape → w'.output = w.output →
      Good E { st with rs := rsCut st.rs r } w' ∧ ∀ o', w'.heap[b]? = some o' → Good E { st with rs := rsSet st.rs r (RObj b o') } w' := by
  obtain ⟨κ, hk⟩ := h.own
  obtain ⟨F, ⟨hF, hb, hμb⟩, hF2⟩ := hk.rs _ _ hr
  obtain ⟨hlt, hκ, hmut⟩ := hF2 b hF
  refine ⟨hb, fun w' hother hsz hos htape hout => ?_⟩
  have cell : ∀ ad v, E.μ ad = some v → w'.cell? ad = some v := fun ad v e => by
    have : ad.block ≠ b := hμb ad v e
    rw [World.cell?_of_block (hother _ this)]; exact h.mu ad v e
  have old : ∀ c, c < E.w0.heap.size → ¬ E.S0 c → w'.heap[c]? = E.w0.heap[c]? := fun c hc hs => by
    rw [hother c]
    · exact h.old c hc hs
    · rintro rfl
      rcases hmut with hm | hm
      · omega
      · exact hs hm
  have own : ∀ rs', (∀ m Q, (m, Q) ∈ rs' → (m ≠ r ∧ (m, Q) ∈ st.rs) ∨ (m = r ∧ ∃ o', Q = RObj b o' ∧ w'.heap[b]? = some o')) → Owns E { st with rs := rs' } w' κ := by
    intro rs' hrs
    refine ⟨fun n T ls e => ?_, fun τ hτ => ?_, fun m Q hm => ?_, hk.mu, fun c k e => by rw [hsz]; exact hk.dom c k e⟩
    · obtain ⟨c, cs, q1, q2, q3, q4, q5⟩ := hk.hp n T ls e
      have hne : c ≠ b := by rintro rfl; rw [hκ] at q4; cases q4
      exact ⟨c, cs, q1, by rw [hother c hne]; exact q2, q3, q4, q5⟩
    · obtain ⟨sz, a, len, cap, q1, q2, q3⟩ := hk.tk τ hτ
      refine ⟨sz, a, len, cap, q1, q2, ?_⟩
      rcases q3 with q3 | ⟨c, off, T, cs, q4, q5, q6, q7, q8, q9⟩
      · exact .inl q3
      · have hne : c ≠ b := by rintro rfl; rw [hκ] at q5; cases q5
        exact .inr ⟨c, off, T, cs, q4, q5, q6, q7.congr (hother c hne), q8, q9⟩
    · rcases hrs m Q hm with ⟨q1, q2⟩ | ⟨rfl, o', rfl, q2⟩
      · obtain ⟨G, p1, p2⟩ := hk.rs m Q q2
        have hne : ∀ c, G c → c ≠ b := by rintro c hG rfl; have := (p2 _ hG).2.1; rw [hκ] at this; injection this with this; injection this with this; exact q1 this.symm
        exact ⟨G, Q.loc p1 (fun c hc => hother c (hne c hc)), fun c hc => ⟨by rw [hsz]; exact (p2 c hc).1, (p2 c hc).2⟩⟩
      · exact ⟨fun c => c = b, ⟨rfl, q2, hμb⟩, fun c hc => by subst hc; exact ⟨by rw [hsz]; exact hlt, hκ, hmut⟩⟩
  refine ⟨⟨h.k, h.kx, hos.trans h.os, htape.trans h.tape, hout.trans h.output, by rw [hsz]; exact h.size, old, cell, h.nxρ, h.nxθ, κ, own _ fun m Q hm => .inl (rsCut_mem hm)⟩, fun o' ho' =>
    ⟨h.k, h.kx, hos.trans h.os, htape.trans h.tape, hout.trans h.output, by rw [hsz]; exact h.size, old, cell, h.nxρ, h.nxθ, κ, own _ fun m Q hm => ?_⟩⟩
  rcases rsSet_mem hm with ⟨q1, q2⟩ | q
  · exact .inr ⟨q1, o', q2, ho'⟩
  · exact .inl q

/-- Another frame, other names frozen. -/
theorem Good.rek {E : Env} {st : SS} {w : World} (h : Good E st w) (k : Nat) (hk : k ≤ st.nx) (fr : List SV) (df : List Nat) : Good { E with k := k } { st with fr := fr, k := k, df := df } w := by
  obtain ⟨κ, ho⟩ := h.own
  have le : Le0 E { E with k := k } := ⟨fun _ _ h => h, fun _ _ h => h, fun _ _ h => h, fun _ h => h⟩
  exact ⟨rfl, hk, h.os, h.tape, h.output, h.size, h.old, h.mu, h.nxρ, h.nxθ, κ, fun n T ls e => let ⟨b, cs, q1, q2, q3, q4, q5⟩ := ho.hp n T ls e; ⟨b, cs, q1, q2, DenL.mono0 le _ _ q3, q4, q5⟩, ho.tk, ho.rs, ho.mu, ho.dom⟩

theorem Env.Ext.le0 {E E' : Env} (h : E.Ext E') (hρ : ∀ n b, E.ρ n = some b → n < E.k) (hθ : ∀ n b, E.θ n = some b → n < E.k) : Le0 E E' :=
  ⟨fun n b e => by rw [h.ρ n (hρ n b e)]; exact e, fun n b e => by rw [h.θ n (hθ n b e)]; exact e, h.μ, fun b hb => by rw [h.Z]; exact hb⟩

theorem denL_undef' (E : Env) : ∀ n, DenL E (List.replicate n (.raw undef)) (List.replicate n undef)
  | 0 => by simp only [List.replicate_zero, DenL]
  | n + 1 => by simp only [List.replicate_succ, DenL, Den]; exact ⟨trivial, denL_undef' E n⟩
theorem run_callFunc' {P : Program} {f : FuncId} {fn : Func} {c : Code} (hfn : P.funcs[f]? = some fn) (hb : fn.body = some c) (hnm : (fn.name == "runtime.NumGoroutine") = false) (ars : Array Value) (w : World) :
    (callFunc f ars).run P w = .ok (.enter f ars) w := by
  simp [callFunc, hfn, hb]
  intro h
  simp [h] at hnm
end Go.Eng
/- The engine, part T: a range over a function. -/
namespace Go.Eng
open Go
set_option linter.unusedVariables false
set_option linter.unusedSimpArgs false

/-- What the loop's record says, whatever its state. -/
structure RF where
  fn : FuncId
  tmps : Array Value
  ps : Array Tmp
  assign : Code
  body : Code
  D : Nat
def RF.loop (x : RF) (st : LoopState) (pe : Option Code) : Loop := { state := st, pending := pe, fn := x.fn, tmps := x.tmps, params := x.ps, assign := x.assign, body := x.body, defers := x.D }
def RF.res (x : RF) (l : Nat) (st : LoopState) (pe : Option Code) : Res := RObj l (.loop (x.loop st pe))

def pendK (K : Ex → SS → Prop) : Option Code → SS → Prop
  | none, s => K .normal s
  | some .ret, s => K .ret s
  | some (.exit i), s => K (.exit i) s
  | some (.goto i), s => K (.goto i) s
  | _, _ => False

/-- The iterator's frame, as it is entered. -/
def SS.iter (s : SS) (cap : List SV) (n : Nat) (x : RF) (l : Nat) : SS :=
  { s with fr := (.raw (.func (.yield l) #[] #[]) :: cap) ++ List.replicate (n - (cap.length + 1)) (.raw undef), rs := (s.nx + 1, x.res l .ready none) :: (s.nx, RObj x.D (.deferred (some []))) :: s.rs, nx := s.nx + 2, k := s.nx + 2, df := [] }

def iterEnd (s : SS) (x : RF) (l : Nat) (K : Ex → SS → Prop) (t : SS) : Prop :=
  t.df = [] ∧ s.nx + 2 ≤ t.nx ∧ ∃ st pe, st ≠ .busy ∧ (s.nx + 1, x.res l st pe) ∈ t.rs ∧ pendK K pe { t with fr := s.fr, rs := rsCut t.rs (s.nx + 1), k := s.k, df := x.D :: s.df }

def iterK (s : SS) (x : RF) (l : Nat) (K : Ex → SS → Prop) : Ex → SS → Prop
  | .normal, t => iterEnd s x l K t
  | .ret, t => iterEnd s x l K t
  | _, _ => False

theorem putObj_frame (w : World) (b : Nat) (o : Obj) : (∀ c, c ≠ b → (w.putObj b o).heap[c]? = w.heap[c]?) ∧ (w.putObj b o).heap.size = w.heap.size ∧ (w.putObj b o).os = w.os ∧ (w.putObj b o).tape = w.tape ∧ (w.putObj b o).output = w.output :=
  ⟨fun c hc => World.putObj_heap_other hc, World.putObj_size, rfl, rfl, rfl⟩

theorem rf_ok {P : Program} {Γ : Tab} (hΓ : Γ.ok P) {B : Ctx} (hrd : B.rd = none) {g : Operand} {ps : Array Tmp} {assign body : Code} {s : SS} {K : Ex → SS → Prop} {gf : Nat} {cap : List SV} {fnG : Func} {cG : Code} (stop : List Nat)
    (hg : opd s g = .fn (.func gf) [] cap) (hgc : ovc s true g) (hfn : P.funcs[gf]? = some fnG) (hbody : fnG.body = some cG) (hres : fnG.results = #[]) (hnm : (fnG.name == "runtime.NumGoroutine") = false)
    (h : ∀ (E1 : Env) (x : RF) (l : Nat), E1.k = s.nx + 2 → (∀ n b, E1.ρ n = some b → n < E1.k) → (∀ n b, E1.θ n = some b → n < E1.k) → DenL E1 s.fr x.tmps.toList → x.ps = ps → x.assign = assign → x.body = body →
      CodeOK P ⟨some E1, none, stop⟩ cG (s.iter cap fnG.ntmps x l) (iterK s x l K)) : CodeOK P B (.rangeFunc g ps assign body) s K := by
  intro E a w hb hf hw
  rw [hrd]
  refine wpIn_rangeFunc (fun fn _ => ?_)
  have hd := opd_den hf rfl hgc
  rw [hg] at hd
  simp only [Den] at hd
  obtain ⟨fs, cs, ev, d1, d2⟩ := hd
  obtain rfl : fs = [] := by cases fs with | nil => rfl | cons _ _ => simp only [DenL] at d1
  let x : RF := ⟨fn, a.tmps, ps, assign, body, w.heap.size⟩
  let l := w.heap.size + 1
  let W1 := (w.alloc (.deferred (some []))).alloc (.loop (x.loop .ready none))
  refine ⟨l, [mkD w.heap.size], W1, { target := .fn (.func gf) cs.toArray, args := #[.func (.yield l) #[] #[]] }, W1, gf, #[.func (.yield l) #[] #[]] ++ cs.toArray, W1, run_enterLoop_outer _ _ _ _ _, ?_, fun _ _ => trivial, ?_, fun h => by simp [wideR, Fence.wide] at h, ?_⟩
  · simp only [resolve, ev]
    simp [Deferred.ofValue, Act.eval]
  · simp only [invoke]
    exact run_callFunc' hfn hbody hnm _ _
  let E1 : Env := { E with k := s.nx + 2 }
  have hg1 : Good E1 (s.iter cap fnG.ntmps x l) W1 := by
    have h1 := (hw.alloc_res (.deferred (some []))).alloc_res (.loop (x.loop .ready none))
    have h2 := h1.rek (s.nx + 2) (Nat.le_refl _) ((.raw (.func (.yield l) #[] #[]) :: cap) ++ List.replicate (fnG.ntmps - (cap.length + 1)) (.raw undef)) []
    simp only [size_alloc'] at h2
    exact h2
  have le1 : Le0 E E1 := ⟨fun _ _ h => h, fun _ _ h => h, fun _ _ h => h, fun _ h => h⟩
  have bρ : ∀ n b, E1.ρ n = some b → n < E1.k := fun n b e => by
    show n < s.nx + 2
    by_cases hn : s.nx ≤ n
    · rw [show E1.ρ n = E.ρ n from rfl, hw.nxρ n hn] at e; cases e
    · omega
  have bθ : ∀ n b, E1.θ n = some b → n < E1.k := fun n b e => by
    show n < s.nx + 2
    by_cases hn : s.nx ≤ n
    · rw [show E1.θ n = E.θ n from rfl, hw.nxθ n hn] at e; cases e
    · omega
  have hlen := denL_length _ _ d2
  refine callsIn_of_wp_marks hfn hbody trivial ?_
  refine wpIn_mono (h E1 x l rfl bρ bθ (DenL.mono0 le1 _ _ hf.tmps) rfl rfl rfl E1 _ W1 (fun E0 e => by injection e with e; subst e; exact Env.Ext.refl _) ⟨?_, rfl⟩ hg1) ?_
  · show DenL E1 ((.raw (.func (.yield l) #[] #[]) :: cap) ++ List.replicate (fnG.ntmps - (cap.length + 1)) (.raw undef)) _
    have := denL_append (E := E1) (.raw (.func (.yield l) #[] #[]) :: cap) (List.replicate (fnG.ntmps - (cap.length + 1)) (.raw undef)) (.func (.yield l) #[] #[] :: cs) _ (by simp only [DenL, Den]; exact ⟨trivial, DenL.mono0 le1 _ _ d2⟩) (denL_undef' E1 _)
    simpa [hlen, Nat.add_comm] using this
  · rintro e a' w' ⟨E2, t, y, q1, q2, q3, q4, q5⟩
    have key : iterEnd s x l K t → LeavesInM (wideR none) (0 - 1) P fnG a'.tmps (rangePost (wideR none) 0 P l (QK (B.base E) K) { a with defers := [mkD w.heap.size] ++ a.defers }) a'.defers .returning w' := by
      rintro ⟨k1, k2, st, pe, k3, k4, k5⟩
      rw [q2.defers, k1]
      obtain ⟨p1, p2⟩ := q3.reres k4
      obtain ⟨v, r1, _⟩ := results_run (P := P) hΓ q2 q3 (fn := fnG) (l := []) (vc := True) (by rw [hres]; rfl) trivial
      have hend := run_endLoop (P := P) p1 (by exact k3)
      obtain ⟨f1, f2, f3, f4, f5⟩ := putObj_frame w' l (.loop { x.loop st pe with state := .exhausted })
      have hg2 := ((p2 _ f1 f2 f3 f4 f5).1).rek s.k (show s.k ≤ t.nx by have := hw.kx; omega) s.fr (x.D :: s.df)
      have le2 : E.Ext { E2 with k := s.k } := by
        refine ⟨hw.k.symm, fun n hn => ?_, fun n hn => ?_, q1.w0, q1.S0, q1.μ, q1.μnew, q1.Z⟩
        · exact q1.ρ n (by show n < s.nx + 2; have := hw.k; have := hw.kx; omega)
        · exact q1.θ n (by show n < s.nx + 2; have := hw.k; have := hw.kx; omega)
      have le3 : Le0 E { E2 with k := s.k } := ⟨fun n b e => by
          show E2.ρ n = some b
          rw [q1.ρ n (bρ n b e)]; exact e, fun n b e => by
          show E2.θ n = some b
          rw [q1.θ n (bθ n b e)]; exact e, q1.μ, fun b hb => by show E2.Z b; rw [q1.Z]; exact hb⟩
      have hf2 : Fr { E2 with k := s.k } { t with fr := s.fr, rs := rsCut t.rs (s.nx + 1), k := s.k, df := x.D :: s.df } { a with defers := [mkD w.heap.size] ++ a.defers } := by
        refine ⟨DenL.mono0 le3 _ _ hf.tmps, ?_⟩
        show [mkD w.heap.size] ++ a.defers = List.map mkD (x.D :: s.df)
        rw [hf.defers]; rfl
      refine ⟨v, r1, pe, _, hend, ?_⟩
      cases pe with
      | none => exact ⟨_, _, .normal, hb.base.trans le2, hf2, hg2, trivial, k5⟩
      | some c =>
        cases c <;> simp only [pendK] at k5
        · exact wpIn_exit ⟨_, _, .exit _, hb.base.trans le2, hf2, hg2, rfl, k5⟩
        · exact wpIn_goto ⟨_, _, .goto _, hb.base.trans le2, hf2, hg2, rfl, k5⟩
        · exact wpIn_ret ⟨_, _, .ret, hb.base.trans le2, hf2, hg2, trivial, k5⟩
    cases y <;> cases e <;> simp only [ExRel] at q4 <;> simp only [iterK] at q5
    · exact key q5
    · exact key q5

def setPs : List Nat → List SV → List SV → List SV
  | p :: ps, v :: vs, fr => setPs ps vs (lset fr p v)
  | _, _, fr => fr

theorem setPs_den {E : Env} : ∀ (ps : List Nat) (xs : List SV) (vs : List Value) (fr : List SV) (tmps : Array Value), DenL E fr tmps.toList → DenL E xs vs →
    DenL E (setPs ps xs fr) ((ps.zip vs).foldl (fun (t : Array Value) (p : Nat × Value) => t.setIfInBounds p.1 p.2) tmps).toList
  | [], xs, vs, fr, tmps, h, _ => by simpa [setPs] using h
  | p :: ps, [], [], fr, tmps, h, _ => by simpa [setPs] using h
  | p :: ps, [], _ :: _, fr, tmps, h, k => by simp only [DenL] at k
  | p :: ps, _ :: _, [], fr, tmps, h, k => by simp only [DenL] at k
  | p :: ps, x :: xs, v :: vs, fr, tmps, h, k => by
    simp only [DenL] at k
    simp only [setPs, List.zip_cons_cons, List.foldl_cons]
    exact setPs_den ps xs vs _ _ (by simpa using denL_set _ _ _ _ _ h k.1) k.2

def roundEnd (x : RF) (l r : Nat) (t1 : SS) (dst : Option Tmp) (K : SS → Prop) (pe : Option Code) (b : SS) : Prop :=
  t1.nx ≤ b.nx ∧ (r, x.res l .busy none) ∈ b.rs ∧ K (SS.put { b with fr := t1.fr, rs := rsSet b.rs r (x.res l (if pe.isNone then .ready else .done) pe), k := t1.k, df := t1.df } dst (.b pe.isNone))

def roundK (x : RF) (l r : Nat) (t1 : SS) (dst : Option Tmp) (K : SS → Prop) : Ex → SS → Prop
  | .normal, b => roundEnd x l r t1 dst K none b
  | .ret, b => roundEnd x l r t1 dst K (some .ret) b
  | .exit i, b => roundEnd x l r t1 dst K (some (.exit i)) b
  | .goto i, b => roundEnd x l r t1 dst K (some (.goto i)) b

def assignK (P : Program) (x : RF) (l r : Nat) (t1 : SS) (dst : Option Tmp) (stop : List Nat) (K : SS → Prop) : Ex → SS → Prop
  | .normal, b => t1.nx ≤ b.nx ∧ (r, x.res l .ready none) ∈ b.rs ∧ CodeOK P ⟨none, some l, stop⟩ x.body { b with rs := rsSet b.rs r (x.res l .busy none) } (roundK x l r t1 dst K)
  | _, _ => False

/-- What is asked where yield is called. -/
def YOK (P : Program) (x : RF) (l r : Nat) (sfr : List SV) (stop : List Nat) (o : Oper) (K : SS → Prop) (t1 : SS) : Prop :=
  match o.op with
  | .call c =>
    match c.callee with
    | .value f => o.guard = none ∧ opd t1 f = .raw (.func (.yield l) #[] #[]) ∧ ovc t1 true f ∧ ovcL t1 true c.args.toList ∧ c.args.size = x.ps.size ∧ (r, x.res l .ready none) ∈ t1.rs ∧
        CodeOK P ⟨none, some l, stop⟩ x.assign { t1 with fr := setPs x.ps.toList (c.args.toList.map (opd t1)) sfr, k := t1.nx, df := [] } (assignK P x l r t1 o.dst stop K)
    | _ => False
  | _ => False
theorem YOK_eq {P : Program} {x : RF} {l r : Nat} {sfr : List SV} {stop : List Nat} {o : Oper} {K : SS → Prop} {t1 : SS} : YOK P x l r sfr stop o K t1 =
  (match o.op with
  | .call c =>
    match c.callee with
    | .value f => o.guard = none ∧ opd t1 f = .raw (.func (.yield l) #[] #[]) ∧ ovc t1 true f ∧ ovcL t1 true c.args.toList ∧ c.args.size = x.ps.size ∧ (r, x.res l .ready none) ∈ t1.rs ∧
        CodeOK P ⟨none, some l, stop⟩ x.assign { t1 with fr := setPs x.ps.toList (c.args.toList.map (opd t1)) sfr, k := t1.nx, df := [] } (assignK P x l r t1 o.dst stop K)
    | _ => False
  | _ => False) := rfl

theorem evStill_list {P : Program} {Γ : Tab} (hΓ : Γ.ok P) {rd : Option Nat} {ops : List Oper} {K : SS → Prop} {Q : Exit → Act → World → Prop} (hQ : ¬ LetsOut Q) {E : Env} {w : World} (rest : List Oper) :
    ∀ (l : List Oper) (st : SS) (a : Act), Fr E st a → Good E st w → evStill P Γ ops K l st →
      (∀ st' a', Fr E st' a' → Good E st' w → K st' → wpListIn (wideR rd) 0 P ops.toArray Q rest a' w) → wpListIn (wideR rd) 0 P ops.toArray Q (l ++ rest) a w
  | [], st, a, hf, hw, h, hK => hK st a hf hw h
  | o :: r, st, a, hf, hw, h, hK => by
    have hg := evGuard_sound (E := E) hf (ops := ops) (o := o)
    simp only [evStill] at h
    simp only [List.cons_append, wpListIn]
    split at h
    · exact h.elim
    · rename_i e1
      rw [if_pos (hg.1 e1)]
      split at h
      · rename_i v vc e2
        obtain ⟨h1, h2⟩ := h
        obtain ⟨x, k1, k2⟩ := evalP_sound hΓ hf hw rfl e2 h1
        exact wpIn_of (evalP_defer e2) hQ (wp_value k1 (evStill_list hΓ hQ rest r _ _ (hf.put _ k2) (hw.put _ _) h2 hK))
      · exact h.elim
    · rename_i g e1
      have hgw := hg.2 g e1
      split at h
      · rename_i v vc e2
        obtain ⟨h1, h2⟩ := h
        cases g with
        | true =>
          rw [if_pos hgw]
          obtain ⟨x, k1, k2⟩ := evalP_sound hΓ hf hw rfl e2 (h1 rfl)
          exact wpIn_of (evalP_defer e2) hQ (wp_value k1 (evStill_list hΓ hQ rest r _ _ (hf.put _ (by simp only [Den]; exact ⟨fun _ => k2, fun h => by simp at h⟩)) (hw.put _ _) h2 hK))
        | false =>
          rw [if_neg (by rw [hgw]; simp)]
          exact ⟨fun _ _ => trivial, evStill_list hΓ hQ rest r _ _ (hf.put _ (by simp only [Den]; exact ⟨fun h => by simp at h, fun _ => by trivial⟩)) (hw.put _ _) h2 hK⟩
      · exact h.elim

theorem yield_ok {P : Program} {Γ : Tab} (hΓ : Γ.ok P) {E1 : Env} {x : RF} {l : Nat} {sfr : List SV} (bρ : ∀ n b, E1.ρ n = some b → n < E1.k) (bθ : ∀ n b, E1.θ n = some b → n < E1.k) (hden : DenL E1 sfr x.tmps.toList)
    {stop : List Nat} (r : Nat) (stopB : List Nat) (n : Nat) {id : Nat} {L : List Oper} {t : SS} {K : Ex → SS → Prop} {o : Oper} {rest : List Oper} (hL : L = L.take n ++ o :: rest)
    (h : evStill P Γ L (YOK P x l r sfr stopB o (evStill P Γ L (K .normal) rest)) (L.take n) t) : CodeOK P ⟨some E1, none, stop⟩ (.region id L.toArray false) t K := by
  intro E a w hb hf hw
  have hx := hb E1 rfl
  refine wpIn_region_lit ?_
  have main := evStill_list (rd := none) (Q := QK E1 K) hΓ not_letsOut (o :: rest) (L.take n) t a hf hw h (fun t1 a1 f1 g1 hY => ?_)
  · rw [← hL] at main; exact main
  unfold YOK at hY
  split at hY
  · rename_i c hop
    split at hY
    · rename_i f hcal
      obtain ⟨y0, y1, y2, y3, y4, y5, y6⟩ := hY
      simp only [wpListIn]
      rw [if_pos (by unfold Region.wanted; rw [y0])]
      refine ⟨fun _ _ => trivial, ?_⟩
      have hv := opd_den f1 rfl y2
      rw [y1] at hv
      simp only [Den] at hv
      have hargs := denL_ops f1 rfl _ y3
      obtain ⟨p1, p2⟩ := g1.reres y5
      have hrun : (o.semAt (wideR none).round a1.eval).run P w = .ok (.round l x.fn ((x.ps.zip (c.args.map a1.eval)).foldl (fun t (p : Nat × Value) => t.setIfInBounds p.1 p.2) x.tmps) x.assign x.body) w := by
        have hy := run_yield (P := P) (args := c.args.map a1.eval) p1 (by rw [Array.size_map]; exact y4)
        show (execOp a1.eval o).run P w = _
        simp only [execOp, hop, resolve, hcal, hv, Deferred.ofValue, Sem.run_bind, Sem.run_pure, Result.andThen_ok, invoke]
        simpa [RF.loop] using hy
      rw [hrun, Oper.uponIn_round]
      refine ⟨fun h => by simp [wideR, Fence.wide] at h, roundIn_of_wpIn trivial ?_⟩
      let E' : Env := { E with k := t1.nx }
      have le0 : Le0 E1 E' := let k := hx.le0 bρ bθ; ⟨k.ρ, k.θ, k.μ, k.mt⟩
      have leE : Le0 E E' := ⟨fun _ _ h => h, fun _ _ h => h, fun _ _ h => h, fun _ h => h⟩
      have hfb : Fr E' { t1 with fr := setPs x.ps.toList (c.args.toList.map (opd t1)) sfr, k := t1.nx, df := [] } { tmps := (x.ps.zip (c.args.map a1.eval)).foldl (fun t (p : Nat × Value) => t.setIfInBounds p.1 p.2) x.tmps, defers := [] } := by
        refine ⟨?_, rfl⟩
        have := setPs_den (E := E') x.ps.toList (c.args.toList.map (opd t1)) (c.args.toList.map a1.eval) sfr x.tmps (DenL.mono0 le0 _ _ hden) (DenL.mono0 leE _ _ hargs)
        rw [← Array.foldl_toList]
        simpa [Array.toList_zip] using this
      have hgb := g1.rek t1.nx (Nat.le_refl _) (setPs x.ps.toList (c.args.toList.map (opd t1)) sfr) []
      refine wpIn_mono (y6 E' _ w (fun E0 e => by cases e) hfb hgb) ?_
      rintro e a2 w2 ⟨E2, b1, y, q1, q2, q3, q4, q5⟩
      cases y <;> cases e <;> simp only [ExRel] at q4 <;> simp only [assignK] at q5
      obtain ⟨k0, k1, k2⟩ := q5
      obtain ⟨p3, p4⟩ := q3.reres k1
      obtain ⟨f1', f2', f3', f4', f5'⟩ := putObj_frame w2 l (.loop { x.loop .ready none with state := .busy })
      have g2 := (p4 _ f1' f2' f3' f4' f5').2 (.loop (x.loop .busy none)) (World.putObj_heap_same (Array.getElem?_eq_some_iff.1 p3).1)
      refine ⟨_, run_beginRound p3 rfl, ?_⟩
      refine wpIn_mono (k2 E2 a2 _ (fun E0 e => by cases e) ⟨q2.tmps, q2.defers⟩ g2) ?_
      rintro e a3 w3 ⟨E3, b2, y, r1, r2, r3, r4, r5⟩
      have hext : E'.Ext E3 := q1.trans r1
      have key : ∀ pe, roundEnd x l r t1 o.dst (evStill P Γ L (K .normal) rest) pe b2 → ∃ v w', (Instr.endRound l pe).run P w3 = .ok v w' ∧ wpListIn (wideR none) 0 P L.toArray (QK E1 K) rest (a1.put o.dst v) w' := by
        rintro pe ⟨m1, m2, m3⟩
        obtain ⟨p5, p6⟩ := r3.reres m2
        obtain ⟨h1, h2, h3, h4, h5⟩ := putObj_frame w3 l (.loop { x.loop .busy none with state := if pe.isNone then .ready else .done, pending := pe })
        have g3 := ((p6 _ h1 h2 h3 h4 h5).2 (.loop (x.loop (if pe.isNone then .ready else .done) pe)) (World.putObj_heap_same (Array.getElem?_eq_some_iff.1 p5).1)).rek t1.k (Nat.le_trans g1.kx m1) t1.fr t1.df
        have le2 : E.Ext { E3 with k := t1.k } := by
          refine ⟨g1.k.symm, fun n hn => ?_, fun n hn => ?_, hext.w0, hext.S0, hext.μ, hext.μnew, hext.Z⟩
          · exact hext.ρ n (by show n < t1.nx; have := g1.k; have := g1.kx; omega)
          · exact hext.θ n (by show n < t1.nx; have := g1.k; have := g1.kx; omega)
        have le3 : Le0 E { E3 with k := t1.k } := ⟨fun n b e => by
            show E3.ρ n = some b
            rw [hext.ρ n (by show n < t1.nx; by_cases hn : t1.nx ≤ n; · rw [g1.nxρ n hn] at e; cases e
                             · omega)]; exact e, fun n b e => by
            show E3.θ n = some b
            rw [hext.θ n (by show n < t1.nx; by_cases hn : t1.nx ≤ n; · rw [g1.nxθ n hn] at e; cases e
                             · omega)]; exact e, hext.μ, fun b hb => by show E3.Z b; rw [hext.Z]; exact hb⟩
        refine ⟨_, _, run_endRound pe p5, ?_⟩
        have f4 : Fr { E3 with k := t1.k } { b2 with fr := t1.fr, rs := rsSet b2.rs r (x.res l (if pe.isNone then .ready else .done) pe), k := t1.k, df := t1.df } a1 := ⟨DenL.mono0 le3 _ _ f1.tmps, f1.defers⟩
        have := evStill_list (rd := none) (Q := QK E1 K) hΓ not_letsOut [] rest _ _ (f4.put o.dst (x := .b pe.isNone) (v := .bool pe.isNone) (by simp only [Den])) (g3.put _ _) m3 (fun t3 a3 f3 g3 h3 => ⟨_, t3, .normal, hx.trans le2, f3, g3, trivial, h3⟩)
        simpa using this
      cases y <;> cases e <;> simp only [ExRel] at r4 <;> simp only [roundK] at r5
      · obtain ⟨v, w', z1, z2⟩ := key _ r5
        exact ⟨v, w', z1, z2⟩
      · obtain ⟨v, w', z1, z2⟩ := key _ r5
        exact ⟨v, w', z1, z2⟩
      · subst r4
        obtain ⟨v, w', z1, z2⟩ := key _ r5
        exact ⟨v, w', z1, z2⟩
      · subst r4
        obtain ⟨v, w', z1, z2⟩ := key _ r5
        exact ⟨v, w', z1, z2⟩
    · exact hY.elim
  · exact hY.elim
end Go.Eng
/- The engine, part Q: a contract out of a function's code. -/
namespace Go.Eng
open Go
set_option linter.unusedVariables false
set_option linter.unusedSimpArgs false

def idTo (im : List Nat) (nx : Nat) : Nat → Prop
  | 0 => True
  | n + 1 => fmap im nx n = n ∧ idTo im nx n
theorem idTo_all {im : List Nat} {nx : Nat} : ∀ {k : Nat}, idTo im nx k → ∀ n, n < k → fmap im nx n = n
  | 0, _, n, h => by omega
  | k + 1, hi, n, h => by
    simp only [idTo] at hi
    by_cases e : n = k
    · rw [e]; exact hi.1
    · exact idTo_all hi.2 n (by omega)

/-- The end: under names 'im' the state says what is promised. -/
def FinB (R : SV → SS → Prop) (sv : SV) (s : SS) : Prop :=
  ∃ im psv post, (distincts im ∧ allLt s.nx im ∧ im.length ≤ post.nx ∧ post.k = s.k ∧ post.k ≤ post.nx ∧ idTo im s.nx s.k) ∧ W false (fmap im s.nx) psv sv ∧
    hpSub false (fmap im s.nx) s.hp post.hp ∧ tkSub (fmap im s.nx) s.tk post.tk ∧ rsSub (fmap im s.nx) s.rs post.rs ∧ R psv post

/-- The same, where a nil slice that is handed back may have a token. -/
def Fin (R : SV → SS → Prop) (sv : SV) (s : SS) : Prop :=
  FinB R sv s ∨ ∃ k, sv = .ints k .nil [] ∧ FinB R (.ints k (.tok s.nx true) []) { s with tk := s.nx :: s.tk, nx := s.nx + 1 }

/-- The marks that ranges over functions have left, taken off. -/
def markK : List Nat → List (Nat × Res) → (List (Nat × Res) → Prop) → Prop
  | [], rs, K => K rs
  | D :: ds, rs, K => ∃ r, (r, RObj D (.deferred (some []))) ∈ rs ∧ markK ds (rsCut rs r) K

def retS (Γ : Tab) (rs : List ResultVar) (R : SV → SS → Prop) (s : SS) : Prop :=
  match evRes Γ s rs with
  | some (l, vc) => vc ∧ Fin R (single l) s
  | none => False

def retF (Γ : Tab) (rs : List ResultVar) (R : SV → SS → Prop) (s : SS) : Prop :=
  markK s.df s.rs (fun rs' => retS Γ rs R { s with rs := rs', df := [] })

def retK (Γ : Tab) (rs : List ResultVar) (R : SV → SS → Prop) : Ex → SS → Prop
  | .normal, s => retF Γ rs R s
  | .ret, s => retF Γ rs R s
  | .exit _, _ => False
  | .goto _, _ => False

def SS.enter (pre : SS) (args : List SV) (n : Nat) : SS := { pre with fr := args ++ List.replicate (n - args.length) (.raw undef), df := [] }

theorem finB_sound {E E1 : Env} {s : SS} {w : World} {R : SV → SS → Prop} {sv : SV} {v : Value} (hx : E.Ext E1) (hw : Good E1 s w) (hv : Den E1 sv v) (h : FinB R sv s) :
    ∃ E' post psv, E.Ext E' ∧ Good E' post w ∧ Den E' psv v ∧ R psv post := by
  obtain ⟨im, psv, post, ⟨h1, h2, h3, h4, h5, h6⟩, h7, h8, h9, h10, h11⟩ := h
  obtain ⟨E', q1, q2, q3, q4, q5⟩ := hw.pull (t := post) (fmap_inj im s.nx h1 h2) h4 h5 (fun n hn => by rw [fmap_ge im s.nx n (by omega)]; omega) h8 h9 h10
  have hid := idTo_all h6
  refine ⟨E', post, psv, ⟨q4.trans hx.k, fun n hn => ?_, fun n hn => ?_, q2.trans hx.w0, q3.1.trans hx.S0, fun a v e => by rw [q1.μ]; exact hx.μ a v e, fun a v e => hx.μnew a v (by rw [q1.μ] at e; exact e), q3.2.trans hx.Z⟩, q5, W_den q1 _ _ _ h7 hv, h11⟩
  · rw [q1.ρ, hid n (by rw [← hw.k, hx.k]; exact hn)]; exact hx.ρ n hn
  · rw [q1.θ, hid n (by rw [← hw.k, hx.k]; exact hn)]; exact hx.θ n hn

theorem nil_tok {E : Env} {k : IntKind} {τ : Nat} {v : Value} (hθ : E.θ τ = some (1, .slice none 0 0)) (h : Den E (.ints k .nil []) v) : Den E (.ints k (.tok τ true) []) v := by
  simp only [Den] at h ⊢
  obtain ⟨a, cap, h1, h2, h3, h4, h5⟩ := h
  simp only [TagOK] at h5
  refine ⟨a, cap, h1, h2, h3, h4, ?_, fun _ a n c e => ?_⟩
  · rw [h5, hθ]; exact TokV.self (Nat.le_refl _)
  · rw [h5] at e; cases e

theorem fin_sound {E E1 : Env} {s : SS} {w : World} {R : SV → SS → Prop} {sv : SV} {v : Value} (hx : E.Ext E1) (hw : Good E1 s w) (hv : Den E1 sv v) (h : Fin R sv s) :
    ∃ E' post psv, E.Ext E' ∧ Good E' post w ∧ Den E' psv v ∧ R psv post := by
  rcases h with h | ⟨k, rfl, h⟩
  · exact finB_sound hx hw hv h
  · obtain ⟨E', q1, q2, q3, q4, q5⟩ := hw.tok_none 1 none 0
    exact finB_sound (hx.trans q1.ext) q5 (nil_tok q2 (Den.mono q1 _ _ hv)) h

theorem markK_sound {P : Program} {E : Env} {fn : Func} {tmps : Array Value} {R : Ending → World → Prop} : ∀ (ds : List Nat) (s : SS) (w : World) (K : List (Nat × Res) → Prop), Good E s w → markK ds s.rs K →
    (∀ rs' w', Good E { s with rs := rs', df := [] } w' → K rs' → LeavesInM (wideR none) 0 P fn tmps R [] .returning w') →
    LeavesInM (wideR none) 0 P fn tmps R (ds.map mkD) .returning w
  | [], s, w, K, hw, h, hK => hK s.rs w ⟨hw.k, hw.kx, hw.os, hw.tape, hw.output, hw.size, hw.old, hw.mu, hw.nxρ, hw.nxθ, let ⟨κ, k⟩ := hw.own; ⟨κ, k.hp, k.tk, k.rs, k.mu, k.dom⟩⟩ h
  | D :: ds, s, w, K, hw, h, hK => by
    simp only [markK] at h
    obtain ⟨r, h1, h2⟩ := h
    obtain ⟨p1, p2⟩ := hw.reres h1
    obtain ⟨f1, f2, f3, f4, f5⟩ := putObj_frame w D (.deferred none)
    have g := (p2 _ f1 f2 f3 f4 f5).1
    simp only [List.map_cons, LeavesInM]
    exact ⟨by simp, .inl ⟨D, _, rfl, run_takeDeferred p1, markK_sound ds _ _ K g h2 (fun rs' w' g' k' => hK rs' w' g' k')⟩⟩

/-- A contract out of the code. -/
theorem contract_of {P : Program} {Γ : Tab} (hΓ : Γ.ok P) {f : FuncId} {fn : Func} {c : Code} (hfn : P.funcs[f]? = some fn) (hb : fn.body = some c) (hnm : (fn.name == "runtime.NumGoroutine") = false) {pre : SS} {pargs : List SV} {R : SV → SS → Prop} {stop : List Nat}
    (h : CodeOK P ⟨none, none, stop⟩ c (pre.enter pargs fn.ntmps) (retK Γ fn.results.toList R)) : Contract P f pre pargs R := by
  intro E w vs h0 hw hv
  refine ⟨run_callFunc' hfn hb hnm _ _, ?_⟩
  refine (callsIn_wide (n := 0)).1 (callsIn_of_wp_marks (F := wideR none) (n := 0) hfn hb trivial ?_)
  have hlen := denL_length _ _ hv
  have hfr : Fr E (pre.enter pargs fn.ntmps) { tmps := vs.toArray ++ Array.replicate (fn.ntmps - vs.toArray.size) undef, defers := [] } := by
    refine ⟨?_, rfl⟩
    have := denL_append _ _ _ _ hv (denL_undef' E (fn.ntmps - pargs.length))
    simpa [SS.enter, hlen] using this
  have hg : Good E (pre.enter pargs fn.ntmps) w := ⟨hw.k, hw.kx, hw.os, hw.tape, hw.output, hw.size, hw.old, hw.mu, hw.nxρ, hw.nxθ, let ⟨κ, k⟩ := hw.own; ⟨κ, k.hp, k.tk, k.rs, k.mu, k.dom⟩⟩
  refine wpIn_mono (h E _ w (fun E0 e => by cases e) hfr hg) ?_
  rintro e a' w' ⟨E1, s, x, q1, q2, q3, q4, q5⟩
  have key : retF Γ fn.results.toList R s → LeavesInM (wideR none) 0 P fn a'.tmps (fun e w' => ∃ v' E' post sv, e = .returned v' ∧ E.Ext E' ∧ Good E' post w' ∧ Den E' sv v' ∧ R sv post) a'.defers .returning w' := by
    intro hk
    unfold retF at hk
    rw [q2.defers]
    refine markK_sound s.df s w' _ q3 hk (fun rs' w2 g2 k2 => ?_)
    unfold retS at k2
    split at k2
    · rename_i l vc e1
      have f2 : Fr E1 { s with rs := rs', df := [] } { tmps := a'.tmps, defers := [] } := ⟨q2.tmps, rfl⟩
      obtain ⟨v, r1, r2⟩ := results_run (P := P) hΓ f2 g2 e1 k2.1
      obtain ⟨E', post, psv, t1, t2, t3, t4⟩ := fin_sound q1 g2 r2 k2.2
      exact ⟨v, r1, v, E', post, psv, rfl, t1, t2, t3, t4⟩
    · exact k2.elim
  cases x <;> cases e <;> simp only [ExRel] at q4 <;> simp only [retK] at q5
  · exact key q5
  · exact key q5

theorem contract_ev {P : Program} {Γ : Tab} (hΓ : Γ.ok P) {f : FuncId} {fn : Func} {c : Code} (hfn : P.funcs[f]? = some fn) (hb : fn.body = some c) (hnm : (fn.name == "runtime.NumGoroutine") = false) (stop : List Nat) {pre : SS} {pargs : List SV} {R : SV → SS → Prop}
    (h : evCode P Γ ⟨none, none, stop⟩ c (retK Γ fn.results.toList R) (pre.enter pargs fn.ntmps)) : Contract P f pre pargs R :=
  contract_of hΓ hfn hb hnm (evCode_sound hΓ c _ _ h)

def nilSS : SS := ⟨[], [], [], [], 0, 0, []⟩
end Go.Eng
/- The engine, part R: a table of types, held against a program. -/
namespace Go.Eng
open Go
set_option linter.unusedVariables false
set_option linter.unusedSimpArgs false

def leafB : Value → Value → Bool
  | .int k n, .int k' n' => decide (k = k') && decide (n = n')
  | .bool b, .bool c => b == c
  | .string x, .string y => x.data.toList.isEmpty && y.data.toList.isEmpty
  | .slice none 0 0, .slice none 0 0 => true
  | .pointer none, .pointer none => true
  | .nilIface, .nilIface => true
  | .nilFunc, .nilFunc => true
  | .map none, .map none => true
  | _, _ => false
theorem leafB_sound {x y : Value} (h : leafB x y = true) : x = y := by
  unfold leafB at h
  split at h
  · simp only [Bool.and_eq_true, decide_eq_true_eq] at h; rw [h.1, h.2]
  · simp only [beq_iff_eq] at h; rw [h]
  · simp only [Bool.and_eq_true, List.isEmpty_iff] at h
    rename_i x y
    have e1 : x = ⟨#[]⟩ := by apply ByteArray.ext; apply Array.ext'; exact h.1
    have e2 : y = ⟨#[]⟩ := by apply ByteArray.ext; apply Array.ext'; exact h.2
    rw [e1, e2]
  all_goals first | rfl | (cases h)
def leavesB : List Value → List Value → Bool
  | [], [] => true
  | x :: xs, y :: ys => leafB x y && leavesB xs ys
  | _, _ => false
theorem leavesB_sound : ∀ {l m : List Value}, leavesB l m = true → l = m
  | [], [], _ => rfl
  | x :: xs, y :: ys, h => by
    simp only [leavesB, Bool.and_eq_true] at h
    rw [leafB_sound h.1, leavesB_sound h.2]
  | [], _ :: _, h => by simp [leavesB] at h
  | _ :: _, [], h => by simp [leavesB] at h

def tdB : TD → Option TypeDesc → Bool
  | .none, _ => true
  | .int k, some (.int k') => decide (k = k')
  | .bool, some .bool => true
  | .str, some .string => true
  | .struct fs, some (.struct fields) => decide (fields.toList.map (fun f => (f.offset, f.type)) = fs)
  | .slice e, some (.slice e') => decide (e = e')
  | .arr n e, some (.array n' e') => decide (n = n') && decide (e = e')
  | .ptr e, some (.pointer e') => decide (e = e')
  | .iface, some (.interface _) => true
  | .func, some (.func _ _ _) => true
  | .map k e, some (.map k' e') => decide (k = k') && decide (e = e')
  | _, _ => false
theorem tdB_sound {d : TD} {x : Option TypeDesc} (h : tdB d x = true) : d.ok x := by
  unfold tdB at h
  split at h <;> simp only [TD.ok]
  · simp only [decide_eq_true_eq] at h; rw [h]
  · simp only [decide_eq_true_eq] at h; exact ⟨_, rfl, h⟩
  · simp only [decide_eq_true_eq] at h; rw [h]
  · simp only [Bool.and_eq_true, decide_eq_true_eq] at h; rw [h.1, h.2]
  · simp only [decide_eq_true_eq] at h; rw [h]
  · exact ⟨_, rfl⟩
  · exact ⟨_, _, _, rfl⟩
  · simp only [Bool.and_eq_true, decide_eq_true_eq] at h; rw [h.1, h.2]
  · cases h

def noneB : TD → Bool
  | .none => true
  | _ => false
def zB : Option TypeInfo → Bool
  | some i => match i.zero with
    | some (.agg _) => false
    | _ => true
  | none => true
def zA : Option TypeInfo → Bool
  | some i => match i.zero with
    | some (.agg _) => true
    | some _ => false
    | none => true
  | none => true
def tiB (P : Program) (t : TypeId) (ti : TI) : Bool :=
  ((!ti.d.plain || zB (P.info? t)) && (!ti.d.lay || zA (P.info? t))) && (tdB ti.d (P.underlying t) && (noneB ti.d || (match P.info? t with
    | some i => decide (i.size = ti.size) && decide (i.bytes = ti.bytes) && (match i.zero with | some z => leavesB z.cells.toList ti.zero | none => false)
    | none => false)))
theorem tiB_sound {P : Program} {t : TypeId} {ti : TI} (h : tiB P t ti = true) : TIok P t ti := by
  unfold tiB at h
  simp only [Bool.and_eq_true, Bool.or_eq_true] at h
  obtain ⟨⟨h0, h0'⟩, h1, h2⟩ := h
  refine ⟨tdB_sound h1, fun hp i z hi hz cs e => ?_, fun hp i z hi hz => ?_, ?_⟩
  · subst e
    rw [hp, hi] at h0
    simp [zB, hz] at h0
  · rw [hp, hi] at h0'
    simp only [zA, hz] at h0'
    cases z <;> simp at h0'
    exact ⟨_, rfl⟩
  rcases h2 with h2 | h2
  · left
    unfold noneB at h2
    split at h2
    · assumption
    · cases h2
  · right
    split at h2
    · rename_i i hi
      simp only [Bool.and_eq_true, decide_eq_true_eq] at h2
      obtain ⟨⟨h3, h4⟩, h5⟩ := h2
      split at h5
      · rename_i z hz
        exact ⟨i, z, hi, h3, h4, hz, leavesB_sound h5⟩
      · cases h5
    · cases h2

def tabB (P : Program) : Nat → List TI → Bool
  | _, [] => true
  | n, ti :: r => tiB P n ti && tabB P (n + 1) r
theorem tabB_sound {P : Program} : ∀ {l : List TI} {n : Nat}, tabB P n l = true → ∀ i ti, l[i]? = some ti → TIok P (n + i) ti
  | [], n, _, i, ti, h => by simp at h
  | x :: r, n, hb, 0, ti, h => by
    simp only [tabB, Bool.and_eq_true] at hb
    simp at h; subst h
    exact tiB_sound hb.1
  | x :: r, n, hb, i + 1, ti, h => by
    simp only [tabB, Bool.and_eq_true] at hb
    have := tabB_sound hb.2 i ti (by simpa using h)
    rwa [show n + 1 + i = n + (i + 1) by omega] at this

def noTI : TI := ⟨.none, 0, 0, []⟩
def tabOf (l : List TI) : Tab := fun t => l.getD t noTI
theorem tabOf_ok {P : Program} {l : List TI} (h : tabB P 0 l = true) : (tabOf l).ok P := by
  intro t
  unfold tabOf
  cases e : l[t]? with
  | none =>
    have : l.getD t noTI = noTI := by simp [List.getD, e]
    rw [this]
    exact ⟨trivial, (fun h => by cases h), (fun h => by cases h), .inl rfl⟩
  | some ti =>
    have : l.getD t noTI = ti := by simp [List.getD, e]
    rw [this]
    have := tabB_sound h t ti e
    rwa [Nat.zero_add] at this
end Go.Eng
/- The engine, part U: small helps. -/
namespace Go.Eng
open Go
set_option linter.unusedVariables false
set_option linter.unusedSimpArgs false

theorem Sub.trans {a b c : SS} (h : Sub a b) (k : Sub b c) : Sub a c := fun E x w hf hw => by
  obtain ⟨E1, p1, p2, p3⟩ := h E x w hf hw
  obtain ⟨E2, q1, q2, q3⟩ := k E1 x w p2 p3
  exact ⟨E2, p1.trans q1, q2, q3⟩

theorem denL_weak {E : Env} {x : SV} : ∀ (l : List SV) (cs : List Value) (j : Nat), DenL E l cs → (∀ v, Den E (lget l j) v → Den E x v) → DenL E (lset l j x) cs
  | [], [], j, h, _ => by simp only [lset, DenL]
  | y :: ys, v :: vs, 0, h, k => by
    simp only [DenL] at h
    simp only [lset, DenL]
    exact ⟨k v h.1, h.2⟩
  | y :: ys, v :: vs, j + 1, h, k => by
    simp only [DenL] at h
    simp only [lset, DenL]
    exact ⟨h.1, denL_weak ys vs j h.2 k⟩
  | [], _ :: _, j, h, _ => by simp only [DenL] at h
  | _ :: _, [], j, h, _ => by simp only [DenL] at h

/-- The nil slice in a cell has a token. -/
theorem Sub.tokHp {s : SS} (n j : Nat) {T : TypeId} {l : List SV} {k : IntKind} (h1 : hfind s.hp n = some (T, l)) (h2 : lget l j = .ints k .nil []) :
    Sub s { s with hp := hset s.hp n (lset l j (.ints k (.tok s.nx true) [])), tk := s.nx :: s.tk, nx := s.nx + 1 } := by
  intro E a w hf hw
  obtain ⟨E', q1, q2, q3, q4, q5⟩ := hw.tok_none 1 none 0
  obtain ⟨κ, ho⟩ := q5.own
  refine ⟨E', q1.ext, ⟨(hf.mono q1).tmps, hf.defers⟩, q5.k, q5.kx, q5.os, q5.tape, q5.output, q5.size, q5.old, q5.mu, q5.nxρ, q5.nxθ, κ, fun m T' ls e => ?_, ho.tk, ho.rs, ho.mu, ho.dom⟩
  by_cases hm : m = n
  · subst hm
    have := hfind_hset_same s.hp m T l (lset l j (.ints k (.tok s.nx true) [])) h1
    rw [this] at e
    simp only [Option.some.injEq, Prod.mk.injEq] at e
    obtain ⟨rfl, rfl⟩ := e
    obtain ⟨b, cs, p1, p2, p3, p4, p5⟩ := ho.hp _ _ _ h1
    exact ⟨b, cs, p1, p2, denL_weak _ _ _ p3 (fun v hv => nil_tok q2 (by rw [h2] at hv; exact hv)), p4, p5⟩
  · have := hfind_hset_ne s.hp n m (lset l j (.ints k (.tok s.nx true) [])) hm
    rw [this] at e
    exact ho.hp _ _ _ e

/-- The nil slice in a variable has a token. -/
theorem Sub.tokFr {s : SS} (j : Nat) {k : IntKind} (h2 : lget s.fr j = .ints k .nil []) :
    Sub s { s with fr := lset s.fr j (.ints k (.tok s.nx true) []), tk := s.nx :: s.tk, nx := s.nx + 1 } := by
  intro E a w hf hw
  obtain ⟨E', q1, q2, q3, q4, q5⟩ := hw.tok_none 1 none 0
  refine ⟨E', q1.ext, ⟨denL_weak _ _ _ (hf.mono q1).tmps (fun v hv => nil_tok q2 (by rw [h2] at hv; exact hv)), hf.defers⟩, ⟨q5.k, q5.kx, q5.os, q5.tape, q5.output, q5.size, q5.old, q5.mu, q5.nxρ, q5.nxθ, let ⟨κ, k⟩ := q5.own; ⟨κ, k.hp, k.tk, k.rs, k.mu, k.dom⟩⟩⟩

/-- The same, for a slice of elements. -/
theorem Sub.tokFrS {s : SS} (j sz : Nat) (el : Nat → Nat → SV) {k : IntKind} (h2 : lget s.fr j = .ints k .nil []) :
    Sub s { s with fr := lset s.fr j (.sl sz (.tok s.nx true) 0 el), tk := s.nx :: s.tk, nx := s.nx + 1 } := by
  intro E a w hf hw
  obtain ⟨E', q1, q2, q3, q4, q5⟩ := hw.tok_none sz none 0
  refine ⟨E', q1.ext, ⟨denL_weak _ _ _ (hf.mono q1).tmps (fun v hv => ?_), hf.defers⟩, ⟨q5.k, q5.kx, q5.os, q5.tape, q5.output, q5.size, q5.old, q5.mu, q5.nxρ, q5.nxθ, let ⟨κ, k⟩ := q5.own; ⟨κ, k.hp, k.tk, k.rs, k.mu, k.dom⟩⟩⟩
  rw [h2] at hv
  simp only [Den] at hv ⊢
  obtain ⟨a, cap, h1, _, _, _, h5⟩ := hv
  simp only [TagOK] at h5
  refine ⟨none, 0, h5, Nat.le_refl _, by omega, fun i hi => absurd hi (Nat.not_lt_zero _), ?_, fun _ a n c e => ?_⟩
  · rw [h5, q2]; exact TokV.self (Nat.le_refl _)
  · rw [h5] at e; cases e

/-- Nothing came in but what stays. -/
theorem Fin.nil {R : SV → SS → Prop} {sv psv : SV} {s : SS} (hk : s.k = 0) (hw : W false (fmap [] s.nx) psv sv) (h : R psv nilSS) : Fin R sv s :=
  .inl ⟨[], psv, nilSS, ⟨trivial, trivial, Nat.le_refl _, by rw [hk]; rfl, Nat.le_refl _, by rw [hk]; trivial⟩, hw, trivial, trivial, trivial, h⟩

theorem den_len {E : Env} {k : IntKind} {t : Tag} {l : List Int} {v : Value} (h : Den E (.ints k t l) v) : l.length ≤ 9223372036854775807 := by
  simp only [Den] at h
  obtain ⟨a, cap, h1, h2, h3, _⟩ := h
  omega
/-- No slice is longer than a length can tell. -/
theorem contract_len {P : Program} {f : FuncId} {pre : SS} {pargs : List SV} {R : SV → SS → Prop} (j : Nat) {k : IntKind} {t : Tag} {l : List Int} (hj : lget pargs j = .ints k t l)
    (h : l.length ≤ 9223372036854775807 → Contract P f pre pargs R) : Contract P f pre pargs R := by
  intro E w vs h0 hw hv
  have := denL_get pargs vs j undef hv
  rw [hj] at this
  exact h (den_len this) E w vs h0 hw hv
theorem code_len {P : Program} {B : Ctx} {c : Code} {s : SS} {K : Ex → SS → Prop} (j : Nat) {k : IntKind} {t : Tag} {l : List Int} (hj : lget s.fr j = .ints k t l)
    (h : l.length ≤ 9223372036854775807 → CodeOK P B c s K) : CodeOK P B c s K := by
  intro E a w hb hf hw
  have := denL_get s.fr a.tmps.toList j undef hf.tmps
  rw [hj] at this
  exact h (den_len this) E a w hb hf hw
theorem wrap64 {n : Int} (h1 : -9223372036854775808 ≤ n) (h2 : n ≤ 9223372036854775807) : IntKind.i64.wrap n = n := by
  rw [IntKind.wrap_i64]; omega

/-- 'Sub.of', its conditions in one. -/
def SubW (im : List Nat) (s t : SS) : Prop :=
  distincts im ∧ allLt s.nx im ∧ im.length ≤ t.nx ∧ t.k = s.k ∧ t.k ≤ t.nx ∧ idTo im s.nx s.k ∧ t.df = s.df ∧ WL false (fmap im s.nx) t.fr s.fr ∧ hpSub false (fmap im s.nx) s.hp t.hp ∧ tkSub (fmap im s.nx) s.tk t.tk ∧ rsSub (fmap im s.nx) s.rs t.rs
theorem Sub.w {s t : SS} (im : List Nat) (h : SubW im s t) : Sub s t :=
  let ⟨h1, h2, h3, h4, h5, h6, h7, h8, h9, h10, h11⟩ := h
  Sub.of im h1 h2 h3 h4 h5 (idTo_all h6) h7 h8 h9 h10 h11

/-- 'call_of', its conditions in one. -/
def CallW (im : List Nat) (pre : SS) (pargs : List SV) (st : SS) (args : List SV) : Prop :=
  distincts im ∧ allLt st.nx im ∧ im.length = pre.nx ∧ pre.k ≤ pre.nx ∧ pre.lt pre.nx ∧ hpSub false (fmap im st.nx) st.hp pre.hp ∧ tkSub (fmap im st.nx) st.tk pre.tk ∧ rsSub (fmap im st.nx) st.rs pre.rs ∧ WL false (fmap im st.nx) pargs args
theorem call_w {P : Program} {f : FuncId} {pre : SS} {pargs : List SV} {R : SV → SS → Prop} (hC : Contract P f pre pargs R) (im : List Nat) {st : SS} {args : List SV} {K : SV → SS → Prop}
    (h : CallW im pre pargs st args) (hK : ∀ sv post, R sv post → K (ren (fmap (im.take pre.k) st.nx) sv) (st.back (lentOf im st.nx pre) (im.take pre.k) post)) : CallOK P f args st K :=
  let ⟨h1, h2, h3, h4, h5, h6, h7, h8, h9⟩ := h
  call_of hC im h1 h2 h3 h4 h5 h6 h7 h8 h9 hK

def FinW (im : List Nat) (psv : SV) (post : SS) (sv : SV) (s : SS) : Prop :=
  (distincts im ∧ allLt s.nx im ∧ im.length ≤ post.nx ∧ post.k = s.k ∧ post.k ≤ post.nx ∧ idTo im s.nx s.k) ∧ W false (fmap im s.nx) psv sv ∧
    hpSub false (fmap im s.nx) s.hp post.hp ∧ tkSub (fmap im s.nx) s.tk post.tk ∧ rsSub (fmap im s.nx) s.rs post.rs
theorem Fin.w {R : SV → SS → Prop} {sv : SV} {s : SS} (im : List Nat) (psv : SV) (post : SS) (h : FinW im psv post sv s) (hR : R psv post) : Fin R sv s :=
  let ⟨h1, h2, h3, h4, h5⟩ := h
  .inl ⟨im, psv, post, h1, h2, h3, h4, h5, hR⟩
theorem Fin.wt {R : SV → SS → Prop} {k : IntKind} {s : SS} (im : List Nat) (psv : SV) (post : SS) (h : FinW im psv post (.ints k (.tok s.nx true) []) { s with tk := s.nx :: s.tk, nx := s.nx + 1 }) (hR : R psv post) : Fin R (.ints k .nil []) s :=
  let ⟨h1, h2, h3, h4, h5⟩ := h
  .inr ⟨k, rfl, im, psv, post, h1, h2, h3, h4, h5, hR⟩

theorem TW_self {f : Nat → Nat} (hf : ∀ n, f n = n) : ∀ t : Tag, TW false f t t
  | .old => trivial
  | .new => rfl
  | .nil => trivial
  | .tok τ b => ⟨(hf τ).symm, fun h => ⟨h, rfl⟩⟩
mutual
theorem W_self {f : Nat → Nat} (hf : ∀ n, f n = n) : ∀ x : SV, W false f x x
  | .any => by simp only [W]
  | .i k n => by simp only [W]; exact ⟨trivial, trivial⟩
  | .b c => by simp only [W]
  | .s x => by simp only [W]
  | .ptr n o => by simp only [W]; exact ⟨(hf n).symm, trivial⟩
  | .mp n => by simp only [W]; exact (hf n).symm
  | .nilp => by simp only [W]
  | .ints k t l => by simp only [W]; exact ⟨.inl trivial, trivial, TW_self hf t⟩
  | .sl sz t n el => by simp only [W]; exact ⟨trivial, trivial, TW_self hf t, fun i _ j _ => W_self hf (el i j)⟩
  | .ep n g => by simp only [W]; exact ⟨Nat.le_refl _, fun d _ => W_self hf (g d)⟩
  | .agg l => by simp only [W]; exact WL_self hf l
  | .tup l => by simp only [W]; exact WL_self hf l
  | .nili => by simp only [W]
  | .ifc t x => by simp only [W]; exact ⟨trivial, W_self hf x⟩
  | .fn g a c => by simp only [W]; exact ⟨trivial, WL_self hf a, WL_self hf c⟩
  | .nilf => by simp only [W]
  | .raw x => by simp only [W]
  | .cnd g x => by simp only [W]; exact ⟨trivial, W_self hf x⟩
theorem WL_self {f : Nat → Nat} (hf : ∀ n, f n = n) : ∀ l : List SV, WL false f l l
  | [] => by simp only [WL]
  | x :: r => by simp only [WL]; exact ⟨W_self hf x, WL_self hf r⟩
end
end Go.Eng
/- The engine, part V: from a contract to what a row asks. -/
namespace Go.Eng
open Go Go.RowKit
set_option linter.unusedVariables false
set_option linter.unusedSimpArgs false

def env0 (W : World) : Env := { w0 := W, S0 := fun _ => False, ρ := fun _ => none, θ := fun _ => none, μ := fun a => W.cell? a, k := 0, Z := fun b => W.heap.size ≤ b, hZ := fun _ h => h }

theorem good0 (W : World) : Good (env0 W) nilSS W :=
  ⟨rfl, Nat.le_refl _, rfl, rfl, rfl, Nat.le_refl _, fun _ _ _ => rfl, fun _ _ h => h, fun _ _ => rfl, fun _ _ => rfl, fun _ => none,
    fun _ _ _ h => by simp [nilSS, hfind] at h, fun _ h => by simp [nilSS] at h, fun _ _ h => by simp [nilSS] at h, fun _ _ _ _ h => by simp at h, fun _ _ h => by simp at h⟩

/-- A row of numbers that came in. -/
theorem den_row {W : World} {k : IntKind} {a : Option Addr} {len cap : Nat} {zs : List Int}
    (h : (a = none ∧ len = 0 ∧ cap = 0 ∧ zs = []) ∨ ∃ x, a = some x ∧ len ≤ cap ∧ cap ≤ maxLen ∧ zs.length = cap ∧ (∀ i, i < zs.length → W.cell? (x.add i) = some (.int k (zs.getD i 0))) ∧ ∀ n ∈ zs, (Lit.int k n).wf = true) :
    Den (env0 W) (.ints k .old (zs.take len)) (.slice a len cap) := by
  simp only [Den]
  rcases h with ⟨rfl, rfl, rfl, rfl⟩ | ⟨x, rfl, h1, h2, h3, h4, h5⟩
  · exact ⟨none, 0, rfl, by simp, by simp, fun i x hx => by simp at hx, trivial⟩
  · have hl : (zs.take len).length = len := by simp; omega
    refine ⟨some x, cap, by rw [hl], by omega, by unfold maxLen at h2; omega, fun i y hy => ?_, trivial⟩
    rw [List.getElem?_take] at hy
    split at hy
    · have hi : i < zs.length := by omega
      have hc := h4 i hi
      obtain ⟨b, off, spot⟩ := x
      have hspot : spot = none := by
        cases spot with
        | none => rfl
        | some s =>
          have := World.cell?_spot (h4 0 (by omega))
          simp [Addr.add] at this
      subst hspot
      refine ⟨b, off, rfl, ?_⟩
      have : zs.getD i 0 = y := by simp [List.getD, hy]
      rw [this, addr_add] at hc
      exact hc
    · cases hy

/-- A law's contract is what its row asks. -/
theorem law_run {P : Program} {f : FuncId} {pargs : List SV} (hC : Contract P f nilSS pargs (fun sv post => sv = .b true ∧ post = nilSS)) {W : World} {vs : List Value} (hd : DenL (env0 W) pargs vs) :
    Calls P f vs.toArray W fun e w' => e = .returned (.bool true) ∧ Below W.heap.size W w' := by
  obtain ⟨_, h⟩ := hC (env0 W) W vs rfl (good0 W) hd
  refine h.mono ?_
  rintro e w' ⟨v, E', post, sv, rfl, h1, h2, h3, rfl, rfl⟩
  simp only [Den] at h3
  subst h3
  have e0 : E'.w0 = W := h1.w0
  have e1 : ∀ b, ¬ E'.S0 b := fun b => by rw [h1.S0]; exact fun h => h
  refine ⟨rfl, ?_⟩
  exact ⟨by rw [h2.os, e0], by rw [h2.tape, e0], by rw [h2.output, e0], by have := h2.size; rwa [e0] at this, fun k hk => by have := h2.old k (by rw [e0]; exact hk) (e1 k); rwa [e0] at this⟩
end Go.Eng
/- The engine, part GD: what came in with a row: slices of structs, structs. -/
namespace Go.Eng
open Go Go.RowKit
set_option linter.unusedVariables false
set_option linter.unusedSimpArgs false

section
variable {H : Type} {enc : TypeId × Value → H} {P : Program} {W : World} {base : Nat} {sp : Nat → Bool} {held : Bool}

/-- The cells of one struct whose fields are one cell each. -/
theorem trod_fields {t : TypeId} {fs : Array Field} {fuel : Nat} {cs : List Value} {x : DataW H × List MemPlace} (ht : P.underlying t = some (.struct fs)) (hone : ∀ i (f : Field), fs[i]? = some f → f.offset = i ∧ P.cellsOf f.type = 1) (hn : P.cellsOf t = fs.size)
    (h : DataW.trod enc P W base sp held fuel t cs = some x) : cs.length = fs.size ∧ ∀ (i : Nat) (f : Field), fs[i]? = some f → ∃ v y n, cs[i]? = some v ∧ DataW.trod enc P W base sp held n f.type [v] = some y := by
  obtain ⟨xs, n, _, _, hl, hx, hf⟩ := DataW.trod_struct ht h
  refine ⟨hl.trans hn, fun i f hfi => ?_⟩
  have h1 := hf i f hfi
  obtain ⟨h2, h3⟩ := hone i f hfi
  have hi : i < fs.size := by
    rcases Nat.lt_or_ge i fs.size with h | h
    · exact h
    · rw [Array.getElem?_eq_none h] at hfi; cases hfi
  have hc : i < cs.length := by rw [hl, hn]; exact hi
  rw [h2, h3] at h1
  have h4 : (cs.drop i).take 1 = [cs[i]] := by
    rw [List.drop_eq_getElem_cons hc, List.take_succ_cons, List.take_zero]
  rw [h4, List.getElem?_eq_getElem (by omega)] at h1
  exact ⟨cs[i], _, n, List.getElem?_eq_getElem hc, h1⟩

theorem den_el {E : Env} {sz : Nat} {tg : Tag} {n : Nat} {el el' : Nat → Nat → SV} {v : Value} (he : ∀ i, i < n → ∀ j, j < sz → el i j = el' i j) (h : Den E (.sl sz tg n el) v) : Den E (.sl sz tg n el') v := by
  simp only [Den] at h ⊢
  obtain ⟨a, cap, h1, h2, h3, h4, h5⟩ := h
  refine ⟨a, cap, h1, h2, h3, fun i hi => ?_, h5⟩
  obtain ⟨b, off, p, q⟩ := h4 i hi
  refine ⟨b, off, p, fun j hj => ?_⟩
  obtain ⟨x, r, s⟩ := q j hj
  exact ⟨x, r, by rw [← he i hi j hj]; exact s⟩

theorem cells_get {a : Addr} {k : Nat} {cs : List Value} (h : W.cells? base a k = some cs) : cs.length = k ∧ ∀ (j : Nat) (v : Value), cs[j]? = some v → W.cell? (a.add j) = some v := by
  obtain ⟨_, hl, hc⟩ := World.cells?_some h
  refine ⟨hl, fun j v hj => ?_⟩
  have hjk : j < k := by
    rcases Nat.lt_or_ge j k with h' | h'
    · exact h'
    · rw [List.getElem?_eq_none (by omega)] at hj; cases hj
  rw [hc j hjk, hj]

/-- A slice of elements that came in. -/
theorem den_slice {t e : TypeId} {fuel sz : Nat} {v : Value} {x : DataW H × List MemPlace} (ht : P.underlying t = some (.slice e)) (hc : P.cellsOf e = sz) (hsz : 0 < sz) {α : Type} (f : α → List SV)
    (hel : ∀ (n : Nat) (cs : List Value) (y : DataW H × List MemPlace), cs.length = sz → DataW.trod enc P W base sp held n e cs = some y → ∃ a : α, DenL (env0 W) (f a) cs)
    (h : DataW.trod enc P W base sp held fuel t v.cells.toList = some x) (hv : ∃ a n c, v = .slice a n c) :
    ∃ (rows : List α), rows.length ≤ 9223372036854775807 ∧ ∀ d : α, Den (env0 W) (.sl sz .old rows.length (fun i j => lget (f (rows.getD i d)) j)) v := by
  obtain ⟨va, vn, vc, rfl⟩ := hv
  rcases DataW.trod_slice ht h with ⟨h0, _⟩ | ⟨a, len, cap, elems, rest, n, _, hcs, _, hb, hl, hm, hlen, hel', _, _⟩
  · simp [Value.cells] at h0
    obtain ⟨rfl, rfl, rfl⟩ := h0
    refine ⟨[], by simp, fun d => ?_⟩
    simp only [Den]
    exact ⟨none, 0, rfl, Nat.le_refl _, by omega, fun i hi => absurd hi (Nat.not_lt_zero _), trivial⟩
  · simp [Value.cells] at hcs
    obtain ⟨rfl, rfl, rfl⟩ := hcs
    have each : ∀ i, i < vn → ∃ r : α, ∃ cs : List Value, cs.length = sz ∧ (∀ (j : Nat) (u : Value), cs[j]? = some u → W.cell? ((a.add (i * sz)).add j) = some u) ∧ DenL (env0 W) (f r) cs := by
      intro i hi
      have h1 := hel' i hi
      rw [List.getElem?_eq_getElem (by omega), Option.bind_eq_some_iff, hc] at h1
      obtain ⟨cs, h2, h3⟩ := h1
      obtain ⟨h4, h5⟩ := cells_get h2
      obtain ⟨r, hr⟩ := hel n cs _ h4 h3
      exact ⟨r, cs, h4, h5, hr⟩
    have build : ∀ m, m ≤ vn → ∃ rows : List α, rows.length = m ∧ ∀ i, i < m → ∃ r cs, rows[i]? = some r ∧ List.length cs = sz ∧ (∀ (j : Nat) (u : Value), cs[j]? = some u → W.cell? ((a.add (i * sz)).add j) = some u) ∧ DenL (env0 W) (f r) cs := by
      intro m
      induction m with
      | zero => intro _; exact ⟨[], rfl, fun i hi => absurd hi (Nat.not_lt_zero _)⟩
      | succ m ih =>
        intro hm
        obtain ⟨rows, h1, h2⟩ := ih (by omega)
        obtain ⟨r, cs, h3, h4, h5⟩ := each m (by omega)
        refine ⟨rows ++ [r], by simp [h1], fun i hi => ?_⟩
        rcases Nat.lt_or_ge i m with h | h
        · obtain ⟨r', cs', q1, q2⟩ := h2 i h
          exact ⟨r', cs', by rw [List.getElem?_append_left (by omega)]; exact q1, q2⟩
        · have : i = m := by omega
          subst this
          exact ⟨r, cs, by rw [List.getElem?_append_right (by omega), h1]; simp, h3, h4, h5⟩
    obtain ⟨rows, hr, hrows⟩ := build vn (Nat.le_refl _)
    refine ⟨rows, by unfold maxLen at hm; omega, fun d => ?_⟩
    rw [hr]
    simp only [Den]
    refine ⟨some a, vc, rfl, hl, by unfold maxLen at hm; omega, fun i hi => ?_, trivial⟩
    obtain ⟨r, cs, q1, q2, q3, q4⟩ := hrows i hi
    have hspot : a.spot = none := by
      obtain ⟨r0, cs0, _, l0, c0, _⟩ := hrows 0 (by omega)
      have h1 := World.cell?_spot (c0 0 (cs0[0]'(by omega)) (List.getElem?_eq_getElem (by omega)))
      simpa [Addr.add] using h1
    obtain ⟨b, off, spot⟩ := a
    simp only at hspot
    subst hspot
    refine ⟨b, off, rfl, fun j hj => ?_⟩
    have hju : cs[j]? = some (cs[j]'(by omega)) := List.getElem?_eq_getElem (by omega)
    refine ⟨cs[j]'(by omega), ?_, ?_⟩
    · have := q3 j _ hju
      rw [addr_add, addr_add] at this
      exact this
    · have h1 : rows.getD i d = r := by simp [List.getD, q1]
      rw [h1]
      have := denL_get _ _ j undef q4
      rw [hju] at this
      exact this
end
end Go.Eng
/- The engine, part W: a region that draws its order, whatever it does: by a family of states, one for each set of what has been done. -/
namespace Go.Eng
open Go
set_option linter.unusedVariables false
set_option linter.unusedSimpArgs false

/-- What goes ahead of an operation has been done. -/
def Ahead (o : Oper) (D : Nat → Bool) : Prop := ∀ e ∈ o.after.toList, Region.binds .any e = true → D e.on = true

def doneK (J : SS → Prop) (t : SS) : Prop := ∃ s, Sub t s ∧ J s

theorem wpList_one {P : Program} {ops : Array Oper} {Q : Exit → Act → World → Prop} {o : Oper} {a : Act} {w : World} {i : Nat} {K : Act → World → Prop} (ho : ops[i]? = some o) {Q' : Exit → Act → World → Prop} (hQ : ∀ a w, Q' .normal a w → K a w) (hp : ∀ c a w, ¬ Q' (.panic c) a w) (hl : ¬ LetsOut Q')
    (h : wpList P ops Q' [o] a w) : wpOp P ops Q i K a w := by
  unfold wpOp
  rw [ho]
  simp only [wpList] at h ⊢
  split at h
  · rename_i hw
    rw [if_pos hw]
    left
    rcases h with h | h
    · unfold Oper.wp at h ⊢
      revert h
      cases (execOp a.eval o).run P w with
      | ok x w' =>
        cases x <;> intro h <;> first
          | exact hQ _ _ h
          | exact h.elim
          | (refine h.mono ?_
             intro e w'' h
             cases e with
             | returned v => exact hQ _ _ h
             | panicked c => exact (hp _ _ _ h).elim
             | outgrown => exact (hl h).elim)
          | (intro c cs
             obtain ⟨v, w2, h1, h2⟩ := h c cs
             exact ⟨v, w2, hQ _ _ h1, h2⟩)
      | halt x w' => cases x <;> intro h <;> first | exact (hp _ _ _ h).elim | exact h.elim
    · exact (hl h.2).elim
  · rename_i hw
    rw [if_neg hw]
    exact hQ _ _ h

def unl (f : Nat → Bool) (N : Nat) : Nat := ((List.range N).filter fun j => !f j).length
theorem unl_succ (f : Nat → Bool) (N : Nat) : unl f (N + 1) = unl f N + (if f N then 0 else 1) := by
  unfold unl
  rw [List.range_succ, List.filter_append, List.length_append]
  cases h : f N <;> simp [h]
theorem unl_upd (f : Nat → Bool) (i : Nat) (h : f i = false) : ∀ N, unl (fun j => if j = i then true else f j) N + (if i < N then 1 else 0) = unl f N
  | 0 => by simp [unl]
  | N + 1 => by
    have ih := unl_upd f i h N
    rw [unl_succ, unl_succ]
    by_cases e : N = i
    · subst e
      simp only [if_pos, h, Nat.lt_irrefl, if_false] at ih ⊢
      simp only [Nat.lt_succ_self, if_true, Bool.false_eq_true, if_false] at ih ⊢
      omega
    · have e2 : (if N = i then true else f N) = f N := if_neg e
      have e3 : (i < N + 1) ↔ (i < N) := by omega
      simp only [e2, e3]
      omega
theorem unl_zero (f : Nat → Bool) : ∀ N, unl f N = 0 → ∀ j, j < N → f j = true
  | 0, _, j, h => by omega
  | N + 1, h0, j, h => by
    rw [unl_succ] at h0
    by_cases e : j = N
    · subst e
      cases hf : f j with
      | true => rfl
      | false => rw [hf] at h0; simp at h0
    · exact unl_zero f N (by omega) j (by omega)

/-- Every operation waits for earlier ones alone. -/
def backB (l : List Oper) : Bool := (List.range l.length).all fun i => match l[i]? with | some o => o.after.toList.all fun e => !Region.binds .any e || decide (e.on < i) | none => true

theorem getD_set {a : Array Bool} {i : Nat} (h : i < a.size) : (fun j => (a.setIfInBounds i true).getD j false) = fun j => if j = i then true else a.getD j false := by
  funext j
  by_cases e : j = i
  · subst e
    simp [h]
  · simp only [Array.getD_eq_getD_getElem?, if_neg e]
    rw [Array.getElem?_setIfInBounds_ne (Ne.symm e)]

theorem region_any' {P : Program} {Γ : Tab} {B : Ctx} (hrd : B.rd = none) (hΓ : Γ.ok P) (hm : P.follows .mixedOrders = true) {id : Nat} {l : List Oper} {s : SS} {K : Ex → SS → Prop} (hback : backB l = true) (J : (Nat → Bool) → SS → Prop)
    (h0 : doneK (J fun _ => false) s)
    (step : ∀ (D : Nat → Bool) (i : Nat) (o : Oper) (t : SS), J D t → l[i]? = some o → D i = false → Ahead o D → (∀ j oj, l[j]? = some oj → D j = true → Ahead oj D) → evOps P Γ l (doneK (J fun j => if j = i then true else D j)) [o] t)
    (fin : ∀ (D : Nat → Bool) (t : SS), J D t → (∀ j, j < l.length → D j = true) → doneK (K .normal) t) : CodeOK P B (.region id l.toArray true) s K := by
  intro E a w hb hf hw
  rw [hrd]
  refine wpIn_wide.2 (wp_region_any hm ?_)
  have hw' : Good E s { w with drawn := w.drawn + 1 } := hw.congr rfl rfl rfl rfl
  obtain ⟨s0, hs, hJ⟩ := h0
  obtain ⟨E0, p1, p2, p3⟩ := hs E a _ hf hw'
  have hready : ∀ (listed : Array Bool) (i : Nat), listed.size = l.length → (i ∈ Region.ready .any l.toArray listed ↔ i < l.length ∧ listed.getD i false = false ∧ ∀ o, l[i]? = some o → Ahead o fun j => listed.getD j false) := by
    intro listed i hsz
    unfold Region.ready
    rw [List.mem_filter, List.mem_range, List.size_toArray]
    constructor
    · rintro ⟨h1, h2⟩
      have ho : l[i]? = some l[i] := List.getElem?_eq_getElem h1
      simp only [List.getElem?_toArray, ho, Option.map_some, Option.getD_some, Bool.and_eq_true, Bool.not_eq_true', Array.all_eq_true] at h2
      refine ⟨h1, ?_, fun o e => ?_⟩
      · have := h2.1
        simp only [Array.getD_eq_getD_getElem?, Array.getElem?_eq_getElem (show i < listed.size by omega), Option.getD_some] at this ⊢
        exact this
      · rw [ho] at e
        injection e with e
        subst e
        intro ed hed hbi
        rw [Array.mem_toList_iff, Array.mem_iff_getElem] at hed
        obtain ⟨k, hk, rfl⟩ := hed
        have := h2.2 k hk
        rw [hbi] at this
        simpa using this
    · rintro ⟨h1, h2, h3⟩
      have ho : l[i]? = some l[i] := List.getElem?_eq_getElem h1
      refine ⟨h1, ?_⟩
      simp only [List.getElem?_toArray, ho, Option.map_some, Option.getD_some, Bool.and_eq_true, Bool.not_eq_true', Array.all_eq_true]
      refine ⟨?_, fun k hk => ?_⟩
      · simp only [Array.getD_eq_getD_getElem?, Array.getElem?_eq_getElem (show i < listed.size by omega), Option.getD_some] at h2 ⊢
        exact h2
      · have := h3 _ ho l[i].after[k] (by rw [Array.mem_toList_iff]; exact Array.getElem_mem hk)
        cases hbi : Region.binds .any l[i].after[k] with
        | false => rfl
        | true => simpa [hbi] using this hbi
  have hall : ∀ (listed : Array Bool), listed.size = l.length → Region.ready .any l.toArray listed = [] → ∀ j, j < l.length → listed.getD j false = true := by
    intro listed hsz hr j
    induction j using Nat.strongRecOn with
    | ind j ih =>
      intro hj
      cases hd : listed.getD j false with
      | true => rfl
      | false =>
        have : j ∈ Region.ready .any l.toArray listed := by
          rw [hready listed j hsz]
          refine ⟨hj, hd, fun o ho e he hbd => ?_⟩
          have hB := hback
          unfold backB at hB
          rw [List.all_eq_true] at hB
          have := hB j (List.mem_range.2 hj)
          rw [ho] at this
          simp only [List.all_eq_true, Bool.or_eq_true, Bool.not_eq_true', decide_eq_true_eq] at this
          have hlt : e.on < j := (this e he).resolve_left (by rw [hbd]; simp)
          exact ih e.on hlt (by omega)
        rw [hr] at this
        cases this
  have main : ∀ (n : Nat) (listed : Array Bool) (E1 : Env) (t : SS) (a : Act) (w : World), listed.size = l.length → (B.base E).Ext E1 → Fr E1 t a → Good E1 t w → J (fun j => listed.getD j false) t →
      (∀ j oj, l[j]? = some oj → listed.getD j false = true → Ahead oj fun j => listed.getD j false) → unl (fun j => listed.getD j false) l.length ≤ n → wpAny P .any l.toArray (QK (B.base E) K) n listed a w := by
    intro n
    induction n with
    | zero =>
      intro listed E1 t a w hsz hx hf hw hJ hcl hn
      have hdone := unl_zero _ _ (by omega : unl (fun j => listed.getD j false) l.length = 0)
      obtain ⟨t2, q1, q2⟩ := fin _ t hJ hdone
      obtain ⟨E2, m1, m2, m3⟩ := q1 E1 a w hf hw
      refine ⟨?_, E2, t2, .normal, hx.trans m1, m2, m3, trivial, q2⟩
      cases hr : Region.ready .any l.toArray listed with
      | nil => rfl
      | cons x xs =>
        have := (hready listed x hsz).1 (by rw [hr]; simp)
        have h2 := hdone x this.1
        rw [this.2.1] at h2
        cases h2
    | succ n ih =>
      intro listed E1 t a w hsz hx hf hw hJ hcl hn
      refine ⟨fun hr => ?_, fun i hi => ?_⟩
      · obtain ⟨t2, q1, q2⟩ := fin _ t hJ (hall listed hsz hr)
        obtain ⟨E2, m1, m2, m3⟩ := q1 E1 a w hf hw
        exact ⟨E2, t2, .normal, hx.trans m1, m2, m3, trivial, q2⟩
      obtain ⟨r1, r2, r3⟩ := (hready listed i hsz).1 hi
      have ho : l[i]? = some l[i] := List.getElem?_eq_getElem r1
      have hst := step _ i l[i] t hJ ho r2 (r3 _ ho) hcl
      have hset := getD_set (a := listed) (i := i) (by omega)
      have hl := evOps_sound (Q := fun e a' w' => e = .normal ∧ ∃ E2 t2, (B.base E).Ext E2 ∧ Fr E2 t2 a' ∧ Good E2 t2 w' ∧ J (fun j => if j = i then true else listed.getD j false) t2) hΓ [l[i]] E1 t a w hf hw hst (fun E' st' a' w' h1 h2 h3 h4 => by
        obtain ⟨t2, q1, q2⟩ := h4
        obtain ⟨E2, m1, m2, m3⟩ := q1 E' a' w' h2 h3
        exact ⟨rfl, E2, t2, (hx.trans h1.ext).trans m1, m2, m3, q2⟩)
      refine wpList_one (i := i) (by simp) (fun a' w' h => ?_) (fun c a' w' h => by cases h.1) (by rintro ⟨a', w', h⟩; cases h.1) hl
      obtain ⟨-, E2, t2, m1, m2, m3, m4⟩ := h
      refine ih _ E2 t2 a' w' (by simpa using hsz) m1 m2 m3 (by rw [hset]; exact m4) ?_ ?_
      · intro j oj hj hd e he hbi
        have hpt : ∀ j, (listed.setIfInBounds i true).getD j false = if j = i then true else listed.getD j false := fun j => congrFun hset j
        rw [hpt] at hd
        show (listed.setIfInBounds i true).getD e.on false = true
        rw [hpt]
        by_cases hji : j = i
        · subst hji
          rw [ho] at hj
          injection hj with hj
          subst hj
          have := r3 _ ho e he hbi
          split
          · rfl
          · exact this
        · rw [if_neg hji] at hd
          have := hcl j oj hj hd e he hbi
          split
          · rfl
          · exact this
      · rw [hset]
        have := unl_upd (fun j => listed.getD j false) i r2 l.length
        rw [if_pos r1] at this
        omega
  have hrep : (fun j => (Array.replicate l.toArray.size false).getD j false) = fun _ => false := by
    funext j
    simp only [Array.getD_eq_getD_getElem?, Array.getElem?_replicate]
    split <;> rfl
  refine main _ _ E0 s0 a _ (by simp) (hb.base.trans p1) p2 p3 (by rw [hrep]; exact hJ) ?_ ?_
  · intro j oj _ hd
    have this : (Array.replicate l.toArray.size false).getD j false = false := congrFun hrep j
    rw [this] at hd
    cases hd
  · unfold unl
    refine Nat.le_trans (List.length_filter_le _ _) ?_
    simp
theorem region_any {P : Program} {Γ : Tab} {B : Ctx} (hrd : B.rd = none) (hΓ : Γ.ok P) (hm : P.follows .mixedOrders = true) {id : Nat} {l : List Oper} {s : SS} {K : Ex → SS → Prop} (hback : backB l = true) (J : (Nat → Bool) → SS → Prop)
    (h0 : doneK (J fun _ => false) s)
    (step : ∀ (D : Nat → Bool) (i : Nat) (o : Oper) (t : SS), J D t → l[i]? = some o → D i = false → Ahead o D → (∀ j oj, l[j]? = some oj → D j = true → Ahead oj D) → evOps P Γ l (doneK (J fun j => if j = i then true else D j)) [o] t)
    (fin : ∀ (D : Nat → Bool) (t : SS), J D t → (∀ j, j < l.length → D j = true) → K .normal t) : CodeOK P B (.region id l.toArray true) s K :=
  region_any' hrd hΓ hm hback J h0 step fun D t h1 h2 => ⟨t, Sub.refl t, fin D t h1 h2⟩
end Go.Eng
/- The engine, part X: loops round by round; the next of a text. -/
namespace Go.Eng
open Go
set_option linter.unusedVariables false
set_option linter.unusedSimpArgs false

/-- At most so many rounds. -/
def loopN (P : Program) (B : Ctx) (c : Code) (K : Ex → SS → Prop) : Nat → SS → Prop
  | 0, _ => False
  | m + 1, s => CodeOK P B c s (thenK (loopN P B c K m) K)

theorem loop_unroll {P : Program} {B : Ctx} {c : Code} {K : Ex → SS → Prop} : ∀ (m : Nat) {s : SS}, loopN P B c K m s → CodeOK P B (.loop c) s K := by
  intro m s h E a w hb hf hw
  refine wpIn_loop_rounds m ?_
  have main : ∀ (m : Nat) (s : SS) (E1 : Env) (a : Act) (w : World), (B.base E).Ext E1 → Fr E1 s a → Good E1 s w → loopN P B c K m s → Code.roundsIn (wideR B.rd) 0 P c (QK (B.base E) K) m a w := by
    intro m
    induction m with
    | zero => intro s E1 a w _ _ _ h; exact h.elim
    | succ m ih =>
      intro s E1 a w hx hf hw h
      rw [roundsIn_succ]
      refine wpIn_mono (h E1 a w (Ctx.base_ok hx) hf hw) ?_
      rintro e a' w' ⟨E2, st, x, q1, q2, q3, q4, q5⟩
      cases x <;> cases e <;> simp only [ExRel] at q4 <;> simp only [thenK] at q5
      · exact ih st E2 a' w' (Ctx.base_trans hx q1) q2 q3 q5
      · exact ⟨E2, st, .ret, Ctx.base_trans hx q1, q2, q3, trivial, q5⟩
      · subst q4; exact ⟨E2, st, .exit _, Ctx.base_trans hx q1, q2, q3, rfl, q5⟩
      · subst q4; exact ⟨E2, st, .goto _, Ctx.base_trans hx q1, q2, q3, rfl, q5⟩
  exact main m s E a w hb.base hf hw h

/-- A scope that no jump leads through. -/
def scopeK (K : Ex → SS → Prop) : Ex → SS → Prop
  | .normal, s => K .normal s
  | .ret, s => K .ret s
  | .exit i, s => K (.exit i) s
  | .goto _, _ => False
theorem scope_ok {P : Program} {B : Ctx} (hrd : B.rd = none) {c : Code} {s : SS} {K : Ex → SS → Prop} (h : CodeOK P B c s (scopeK K)) : CodeOK P B (.scope c) s K := by
  intro E a w hb hf hw
  have h1 := h E a w hb hf hw
  rw [hrd] at h1 ⊢
  refine wpIn_wide.2 (wp_scope_straight (wp_mono (wpIn_wide.1 h1) ?_))
  rintro e a' w' ⟨E2, st, x, q1, q2, q3, q4, q5⟩
  cases x <;> cases e <;> simp only [ExRel] at q4 <;> simp only [scopeK] at q5
  · exact ⟨E2, st, .normal, q1, q2, q3, trivial, q5⟩
  · exact ⟨E2, st, .ret, q1, q2, q3, trivial, q5⟩
  · subst q4; exact ⟨E2, st, .exit _, q1, q2, q3, rfl, q5⟩

/-- The next of a text that is ranged over. -/
theorem next_ok {P : Program} {Γ : Tab} (hΓ : Γ.ok P) {B : Ctx} {id : Nat} {o : Oper} {rest : List Oper} {it : Operand} {s : SS} {K : Ex → SS → Prop} (r b : Nat) (y : ByteArray) (pos : Nat)
    (ho : o.op = .next it true) (hg : o.guard = none) (hit : opd s it = .raw (.pointer (some ⟨b, 0, none⟩))) (hc : ovc s true it) (hr : (r, RObj b (.stringIter y pos)) ∈ s.rs)
    (h : (pos < y.size → evOps P Γ (o :: rest) (K .normal) rest (({ s with rs := rsSet s.rs r (RObj b (.stringIter y (pos + (Utf8.decode y pos).2))) } : SS).put o.dst (.tup [.b true, .i .i64 pos, .i .i32 (Utf8.decode y pos).1]))) ∧
      (¬ pos < y.size → evOps P Γ (o :: rest) (K .normal) rest (s.put o.dst (.tup [.b false])))) : CodeOK P B (.region id (o :: rest).toArray false) s K := by
  intro E a w hb hf hw
  refine wpIn_region_lit ?_
  have hv := opd_den hf rfl hc
  rw [hit] at hv
  simp only [Den] at hv
  obtain ⟨p1, p2⟩ := hw.reres hr
  have hnd : ∀ c, o.op ≠ .defer c := by intro c hc; rw [ho] at hc; cases hc
  simp only [wpListIn]
  rw [if_pos (by unfold Region.wanted; rw [hg])]
  refine wpIn_of hnd not_letsOut ?_
  have fin : ∀ (E' : Env) (st' : SS) (a' : Act) (w' : World), E.Ext E' → Fr E' st' a' → Good E' st' w' → evOps P Γ (o :: rest) (K .normal) rest st' → wpListIn (wideR B.rd) 0 P (o :: rest).toArray (QK (B.base E) K) rest a' w' := fun E' st' a' w' h1 h2 h3 h4 =>
    evOps_soundIn (Q := QK (B.base E) K) hΓ not_letsOut rest E' st' a' w' h2 h3 h4 (fun E2 st2 a2 w2 k1 k2 k3 k4 => ⟨E2, st2, .normal, hb.base.trans (h1.trans k1.ext), k2, k3, trivial, k4⟩)
  by_cases hp : pos < y.size
  · obtain ⟨f1, f2, f3, f4, f5⟩ := putObj_frame w b (.stringIter y (pos + (Utf8.decode y pos).2))
    have g2 := (p2 _ f1 f2 f3 f4 f5).2 _ (World.putObj_heap_same (Array.getElem?_eq_some_iff.1 p1).1)
    refine wp_value (v := .tuple #[.bool true, .int .i64 pos, .int .i32 (Utf8.decode y pos).1]) (w' := w.putObj b (.stringIter y (pos + (Utf8.decode y pos).2))) ?_ ?_
    · simp only [execOp, ho, hv]
      simp [Instr.next, getObj, setObj, Sem.run_bind, Sem.run, p1, hp, goInt, World.putObj]
    · have hf2 : Fr E ({ s with rs := rsSet s.rs r (RObj b (.stringIter y (pos + (Utf8.decode y pos).2))) } : SS) a := ⟨hf.tmps, hf.defers⟩
      exact fin E _ _ _ (Env.Ext.refl E) (hf2.put o.dst (by simp only [Den]; exact ⟨_, rfl, by simp only [DenL, Den]; exact ⟨trivial, trivial, trivial, trivial⟩⟩)) (g2.put _ _) (h.1 hp)
  · refine wp_value (v := .tuple #[.bool false]) (w' := w) ?_ ?_
    · simp only [execOp, ho, hv]
      simp [Instr.next, getObj, Sem.run_bind, Sem.run, p1, hp]
    · exact fin E _ _ _ (Env.Ext.refl E) (hf.put o.dst (by simp only [Den]; exact ⟨_, rfl, by simp only [DenL, Den]; exact ⟨trivial, trivial⟩⟩)) (hw.put _ _) (h.2 hp)
end Go.Eng
/- The engine, part Y: a method of an interface value. -/
namespace Go.Eng
open Go
set_option linter.unusedVariables false
set_option linter.unusedSimpArgs false

/-- Whatever pointer the interface value of type t holds, its method of that name is f's, on that pointer. -/
def MethodIs (P : Program) (t : TypeId) (name : String) (f : FuncId) : Prop :=
  ∀ b off w, (Go.method (P.types.size + Made.depth) t (.pointer (some ⟨b, off, none⟩)) name).run P w = .ok (f, .pointer (some ⟨b, off, none⟩)) w

def methodB (P : Program) (t : TypeId) (name : String) (f : FuncId) : Bool :=
  (match P.info? t with
    | some i => (match i.methods.find? (·.name == name) with
      | some m => m.path.toList.isEmpty && (match m.func with | some (g, true) => g == f | _ => false)
      | none => false)
    | none => false) && (match P.underlying t with | some (.pointer _) => true | _ => false)

theorem methodIs_of {P : Program} {t : TypeId} {name : String} {f : FuncId} (h : methodB P t name f = true) : MethodIs P t name f := by
  intro b off w
  unfold methodB at h
  rw [Bool.and_eq_true] at h
  obtain ⟨h1, h2⟩ := h
  split at h1
  · rename_i i hi
    split at h1
    · rename_i m hm
      rw [Bool.and_eq_true] at h1
      obtain ⟨h3, h4⟩ := h1
      split at h4
      · rename_i g hg
        have hg' : g = f := by simpa using h4
        subst hg'
        split at h2
        · rename_i e he
          have hp : m.path.toList = [] := by simpa using h3
          rw [show P.types.size + Made.depth = (P.types.size + (Made.depth - 1)) + 1 by unfold Made.depth; omega]
          simp only [Go.method, Sem.run_bind]
          have h5 : (typeInfo t).run P w = .ok i w := by simp [typeInfo, hi]
          rw [h5]
          simp only [Result.andThen_ok, hm, Sem.run_bind, hp, Go.follow, Sem.run_pure, hg]
          have h6 : ∀ x, (Go.receiverAt t (.val (.pointer (some ⟨b, off, none⟩))) true x).run P w = .ok (.pointer (some ⟨b, off, none⟩)) w := fun x => by
            simp [Go.receiverAt, run_underlying he, Place.get]
          rw [h6]
          rfl
        · cases h2
      · cases h4
    · cases h1
  · cases h1

theorem inv_of {P : Program} {t : TypeId} {name : String} {f : FuncId} (hm : MethodIs P t name f) {n o : Nat} {args : List SV} {st : SS} {K : SV → SS → Prop} (h : CallEnt P f (.ptr n o :: args) st K) : InvOK P (.ifc t (.ptr n o)) name args st K := by
  intro E w r vs hw hr hv
  simp only [Den] at hr
  obtain ⟨y, rfl, b, hb, rfl⟩ := hr
  obtain ⟨k1, k2⟩ := h E w (.pointer (some ⟨b, o, none⟩) :: vs) hw (by simp only [DenL, Den]; exact ⟨⟨b, hb, rfl⟩, hv⟩)
  refine ⟨f, (.pointer (some ⟨b, o, none⟩) :: vs).toArray, ?_, k2⟩
  rw [← k1]
  simp only [callMethod, Sem.run_bind, run_program, Result.andThen_ok, hm b o w]
  congr 2
  apply Array.ext'; simp
/-- A method with a value receiver that is the type's own. -/
def methodWB (P : Program) (t : TypeId) (name : String) (f : FuncId) : Bool :=
  (match P.info? t with
    | some i => (match i.methods.find? (·.name == name) with
      | some m => m.path.toList.isEmpty && (match m.func with | some (g, false) => g == f | _ => false)
      | none => false)
    | none => false) && (match P.underlying t with | some (.struct _) => true | _ => false)

theorem methodW_of {P : Program} {t : TypeId} {name : String} {f : FuncId} (h : methodWB P t name f = true) (y : Value) (w : World) :
    (Go.method (P.types.size + Made.depth) t y name).run P w = .ok (f, y) w ∧ (nilAhead (P.types.size + Made.depth) t y name).run P w = .ok (some false) w := by
  unfold methodWB at h
  rw [Bool.and_eq_true] at h
  obtain ⟨h1, h2⟩ := h
  split at h1
  · rename_i i hi
    split at h1
    · rename_i m hm
      rw [Bool.and_eq_true] at h1
      obtain ⟨h3, h4⟩ := h1
      split at h4
      · rename_i g hg
        have hg' : g = f := by simpa using h4
        subst hg'
        split at h2
        · rename_i e he
          have hp : m.path.toList = [] := by simpa using h3
          rw [show P.types.size + Made.depth = (P.types.size + (Made.depth - 1)) + 1 by unfold Made.depth; omega]
          have h5 : (typeInfo t).run P w = .ok i w := by simp [typeInfo, hi]
          constructor
          · simp only [Go.method, Sem.run_bind]
            rw [h5]
            simp only [Result.andThen_ok, hm, Sem.run_bind, hp, Go.follow, Sem.run_pure, hg]
            have h6 : ∀ x, (Go.receiverAt t (.val y) false x).run P w = .ok y w := fun x => by
              simp [Go.receiverAt, run_underlying he, Place.get]
            rw [h6]
            rfl
          · simp only [Go.nilAhead, Sem.run_bind]
            rw [h5]
            simp only [Result.andThen_ok, hm, Sem.run_bind, hp, Go.followBlind, Sem.run_pure, hg]
            simp [run_underlying he]
        · cases h2
      · cases h4
    · cases h1
  · cases h1

theorem inv_ofV {P : Program} {t : TypeId} {name : String} {f : FuncId} (hm : methodWB P t name f = true) {y : SV} {args : List SV} {st : SS} {K : SV → SS → Prop} (h : CallEnt P f (y :: args) st K) : InvOK P (.ifc t y) name args st K := by
  intro E w r vs hw hr hv
  simp only [Den] at hr
  obtain ⟨v, rfl, hd⟩ := hr
  obtain ⟨k1, k2⟩ := h E w (v :: vs) hw (by simp only [DenL]; exact ⟨hd, hv⟩)
  refine ⟨f, (v :: vs).toArray, ?_, k2⟩
  rw [← k1]
  simp only [callMethod, Sem.run_bind, run_program, Result.andThen_ok, (methodW_of hm v w).1]
  congr 2
  apply Array.ext'; simp
end Go.Eng
namespace Go.Eng
open Go
theorem mem_distincts : ∀ l : List Nat, l.Nodup → distincts l
  | [], _ => trivial
  | m :: r, h => by
    rw [List.nodup_cons] at h
    exact ⟨fun x hx e => h.1 (by rw [e]; exact hx), mem_distincts r h.2⟩
theorem mem_allLt {nx : Nat} : ∀ l : List Nat, (∀ x ∈ l, x < nx) → allLt nx l
  | [], _ => trivial
  | m :: r, h => ⟨h m (by simp), mem_allLt r fun x hx => h x (by simp [hx])⟩
theorem fmap_get : ∀ (l : List Nat) (nx n : Nat) (h : n < l.length), fmap l nx n = l[n]
  | m :: r, nx, 0, h => rfl
  | m :: r, nx, n + 1, h => by simp only [fmap, List.getElem_cons_succ]; exact fmap_get r nx n (by simpa using h)
theorem fmap_range (N : Nat) : fmap (List.range N) N = fun n => n := by
  funext n
  rcases Nat.lt_or_ge n N with h | h
  · rw [fmap_get _ _ _ (by simpa using h)]; simp
  · rw [fmap_ge _ _ _ (by simpa using h)]; simp; omega
theorem idTo_range (N : Nat) : ∀ k, idTo (List.range N) N k
  | 0 => trivial
  | k + 1 => ⟨by rw [fmap_range], idTo_range N k⟩

/-- The end where no name has turned. -/
theorem Fin.ids {R : SV → SS → Prop} {sv : SV} {s : SS} (psv : SV) (post : SS) (h1 : post.nx = s.nx) (h2 : post.k = s.k) (h3 : s.k ≤ s.nx)
    (h : W false (fun n => n) psv sv ∧ hpSub false (fun n => n) s.hp post.hp ∧ tkSub (fun n => n) s.tk post.tk ∧ rsSub (fun n => n) s.rs post.rs) (hR : R psv post) : Fin R sv s := by
  refine .inl ⟨List.range s.nx, psv, post, ⟨mem_distincts _ List.nodup_range, mem_allLt _ (fun x hx => List.mem_range.1 hx), by simp [h1], h2, by rw [h1, h2]; exact h3, idTo_range _ _⟩, ?_⟩
  rw [fmap_range]
  exact ⟨h.1, h.2.1, h.2.2.1, h.2.2.2, hR⟩
theorem W_same : ∀ x : SV, W false (fun n => n) x x := W_self fun _ => rfl
end Go.Eng
/- The engine, part Z: a part of a state as one resource; calls through an interface value whose content is not seen. -/
namespace Go.Eng
open Go
set_option linter.unusedVariables false
set_option linter.unusedSimpArgs false

structure PartOK (H : SS) (root : Nat) (μ : Addr → Option Value) (F : Nat → Prop) (w : World) (ρ : Nat → Option Nat) (θ : Nat → Option (Nat × Value)) (κ : Nat → Option Key) : Prop where
  root : ρ 0 = some root
  nxρ : ∀ n, H.nx ≤ n → ρ n = none
  nxθ : ∀ n, H.nx ≤ n → θ n = none
  hp : ∀ n T ls, hfind H.hp n = some (T, ls) → ∃ b cs, ρ n = some b ∧ w.heap[b]? = some (objOf T cs) ∧ (∀ E' : Env, E'.ρ = ρ → E'.θ = θ → E'.μ = μ → DenL E' ls cs.toList) ∧ κ b = some (.blk n)
  tk : ∀ τ, τ ∈ H.tk → ∃ sz a len cap, θ τ = some (sz, .slice a len cap) ∧ len ≤ cap ∧ ((cap = len ∧ a = none) ∨ ∃ b off T cs, a = some ⟨b, off, none⟩ ∧ κ b = some (.tok τ) ∧ Row w b cs T ∧ off + cap * sz ≤ cs.size ∧ ∀ ad v, μ ad = some v → ad.block = b → ad.off < off + len * sz)
  rs : ∀ r R, (r, R) ∈ H.rs → ∃ G, R.holds μ G w ∧ ∀ b, G b → κ b = some (.res r)
  mu : ∀ a v, μ a = some v → ∀ n, κ a.block ≠ some (.blk n)
  dom : ∀ b key, κ b = some key → F b

/-- A part of a state, whose first name stands for block 'root', as one resource. -/
def SS.res (H : SS) (root : Nat) : Res where
  holds μ F w := ∃ ρ θ κ, PartOK H root μ F w ρ θ κ
  next μ μ' F w w' := by
    rintro ⟨ρ, θ, κ, h⟩ hk hμ hn
    refine ⟨ρ, θ, κ, h.root, h.nxρ, h.nxθ, fun n T ls e => ?_, fun τ hτ => ?_, fun r R hr => ?_, fun a v e n hb => ?_, h.dom⟩
    · obtain ⟨b, cs, q1, q2, q3, q4⟩ := h.hp n T ls e
      refine ⟨b, cs, q1, ?_, fun E' e1 e2 e3 => DenL.mono0 (E := { E' with μ := μ }) (E' := E') ⟨fun _ _ h => h, fun _ _ h => h, fun a v h => by rw [e3]; exact hμ a v h, fun _ h => h⟩ _ _ (q3 _ e1 e2 rfl), q4⟩
      rcases hk b (h.dom _ _ q4) with e' | ⟨⟨a, v, e', e2⟩, _⟩
      · rw [e']; exact q2
      · exact absurd (by rw [e2]; exact q4) (h.mu a v e' n)
    · obtain ⟨sz, a, len, cap, q1, q2, q3⟩ := h.tk τ hτ
      refine ⟨sz, a, len, cap, q1, q2, ?_⟩
      rcases q3 with q3 | ⟨b, off, T, cs, q4, q5, q6, q7, q8⟩
      · exact .inl q3
      · have hF := h.dom _ _ q5
        refine .inr ⟨b, off, T, cs, q4, q5, ?_, q7, fun ad v e hb => ?_⟩
        · rcases hk b hF with e' | ⟨_, cs', T', fz, fz', m1, m2, m3⟩
          · exact q6.congr e'
          · obtain ⟨fz0, i1, i2⟩ := q6
            rw [m1] at i1
            injection i1 with i1
            injection i1 with j1 j2 j3
            subst j1 j2 j3
            exact ⟨fz', m2, .inr (m3 i2)⟩
        · rcases hn ad v e with e' | e'
          · exact q8 ad v e' hb
          · rw [hb] at e'; exact absurd hF e'
    · obtain ⟨G, q1, q2⟩ := h.rs r R hr
      refine ⟨G, R.next μ μ' G w w' q1 (fun b hb => hk b (h.dom _ _ (q2 b hb))) hμ (fun a v e => ?_), q2⟩
      rcases hn a v e with e' | e'
      · exact .inl e'
      · exact .inr fun hG => e' (h.dom _ _ (q2 _ hG))
    · rcases hn a v e with e' | e'
      · exact h.mu a v e' n hb
      · exact e' (h.dom _ _ hb)

/-- What is asked to fold names 'im' of a state into one resource. -/
def FoldW (H : SS) (im : List Nat) (s : SS) : Prop :=
  distincts im ∧ allLt s.nx im ∧ im.length = H.nx ∧ H.lt H.nx ∧ hpSub true (fmap im s.nx) s.hp H.hp ∧ tkSub (fmap im s.nx) s.tk H.tk ∧ rsSub (fmap im s.nx) s.rs H.rs

def imN (im : List Nat) (nx : Nat) (n : Nat) : Prop := n < im.length
theorem finv_im {im : List Nat} {nx : Nat} (hd : distincts im) (hl : allLt nx im) {m : Nat} : (∃ n, finv (fmap im nx) (imN im nx) m = some n) ↔ m ∈ im := by
  constructor
  · rintro ⟨n, h⟩
    obtain ⟨h1, h2⟩ := finv_some h
    rw [← h2]
    exact (fmap_lt im nx n hl h1).1
  · intro h
    obtain ⟨n, hn, e⟩ := List.getElem_of_mem h
    refine ⟨n, ?_⟩
    rw [← e, ← fmap_get im nx n hn]
    exact finv_of (fmap_inj im nx hd hl) hn

/-- The part holds. -/
theorem fold_part {E : Env} {s : SS} {w : World} (hw : Good E s w) {κ : Nat → Option Key} (ho : Owns E s w κ) {H : SS} {im : List Nat} (h : FoldW H im s) {root : Nat} (hroot : E.ρ (fmap im s.nx 0) = some root) :
    PartOK H root E.μ (fun b => ∃ key, (κ b).bind (Key.ren (finv (fmap im s.nx) (imN im s.nx))) = some key) w (fun n => E.ρ (fmap im s.nx n)) (fun n => E.θ (fmap im s.nx n)) (fun b => (κ b).bind (Key.ren (finv (fmap im s.nx) (imN im s.nx)))) := by
  obtain ⟨h1, h2, h3, ⟨h4, h4', h4''⟩, h5, h6, h7⟩ := h
  have hinj := fmap_inj im s.nx h1 h2
  have hN : ∀ n, n < H.nx → imN im s.nx n := fun n hn => by unfold imN; omega
  have hge : ∀ n, H.nx ≤ n → s.nx ≤ fmap im s.nx n := fun n hn => by rw [fmap_ge im s.nx n (by omega)]; omega
  have hp : ∀ E' : Env, E'.ρ = (fun n => E.ρ (fmap im s.nx n)) → E'.θ = (fun n => E.θ (fmap im s.nx n)) → E'.μ = E.μ → Pull true (fmap im s.nx) E E' := fun E' e1 e2 e3 => ⟨fun n => by rw [e1], fun n => by rw [e2], e3, fun h => by cases h⟩
  refine ⟨hroot, fun n hn => hw.nxρ _ (hge n hn), fun n hn => hw.nxθ _ (hge n hn), fun n T ls e => ?_, fun τ hτ => ?_, fun r R hr => ?_, fun a v e n => ?_, fun b key e => ⟨key, e⟩⟩
  · obtain ⟨ls', q1, q2⟩ := hpSub_find h5 n T ls e
    obtain ⟨b, cs, k1, k2, k3, k4, k5⟩ := ho.hp _ _ _ q1
    exact ⟨b, cs, k1, k2, fun E' e1 e2 e3 => WL_den (hp E' e1 e2 e3) _ _ _ q2 k3, by simp [k4, Key.ren, finv_of hinj (hN n (hpLt_find h4 n T ls e))]⟩
  · obtain ⟨sz, a, len, cap, k1, k2, k3⟩ := ho.tk _ (tkSub_mem h6 τ hτ)
    refine ⟨sz, a, len, cap, k1, k2, ?_⟩
    rcases k3 with k3 | ⟨b, off, T, cs, k4, k5, k6, k7, k8, k9⟩
    · exact .inl k3
    · exact .inr ⟨b, off, T, cs, k4, by simp [k5, Key.ren, finv_of hinj (hN τ (allLt_mem h4' τ hτ))], k7, k8, k9⟩
  · obtain ⟨F, k1, k2⟩ := ho.rs _ _ (rsSub_mem h7 r R hr)
    exact ⟨F, k1, fun b hb => by simp [(k2 b hb).2.1, Key.ren, finv_of hinj (hN r (rsLt_mem h4'' r R hr))]⟩
  · intro e'
    have := ho.mu a v e
    cases hk : κ a.block with
    | none => simp [hk] at e'
    | some key =>
      cases key with
      | blk m => exact this m hk
      | tok m => simp [hk, Key.ren] at e'
      | res m => simp [hk, Key.ren] at e'

/-- Parts of a state have become one resource, of name r. -/
def SS.fold (s : SS) (H : SS) (im : List Nat) (root : Nat) : SS :=
  { s with hp := hpDel im s.hp, tk := tkDelL im s.tk, rs := (s.nx, H.res root) :: rsDel im s.rs, nx := s.nx + 1 }

theorem Good.fold {E : Env} {s : SS} {w : World} (hw : Good E s w) {H : SS} {im : List Nat} (h : FoldW H im s) {root : Nat} (hroot : E.ρ (fmap im s.nx 0) = some root) : Good E (s.fold H im root) w := by
  obtain ⟨κ, ho⟩ := hw.own
  have hpart := fold_part hw ho h hroot
  obtain ⟨h1, h2, h3, ⟨h4, h4', h4''⟩, h5, h6, h7⟩ := h
  have hmem : ∀ (key : Key), (∃ key', Key.ren (finv (fmap im s.nx) (imN im s.nx)) key = some key') ↔ key.name ∈ im := by
    intro key
    rw [← finv_im h1 h2]
    cases key <;> simp only [Key.ren, Key.name, Option.map_eq_some_iff] <;> constructor <;> rintro ⟨x, hx⟩
    · obtain ⟨n, e, _⟩ := hx; exact ⟨n, e⟩
    · exact ⟨_, x, hx, rfl⟩
    · obtain ⟨n, e, _⟩ := hx; exact ⟨n, e⟩
    · exact ⟨_, x, hx, rfl⟩
    · obtain ⟨n, e, _⟩ := hx; exact ⟨n, e⟩
    · exact ⟨_, x, hx, rfl⟩
  let κ2 : Nat → Option Key := fun b => match κ b with | some key => if key.name ∈ im then some (.res s.nx) else some key | none => none
  have k2o : ∀ b key, κ b = some key → key.name ∉ im → κ2 b = some key := fun b key h hn => by simp only [κ2, h]; rw [if_neg hn]
  have k2i : ∀ b key, κ b = some key → key.name ∈ im → κ2 b = some (.res s.nx) := fun b key h hn => by simp only [κ2, h]; rw [if_pos hn]
  have k2blk : ∀ b n, κ2 b = some (.blk n) → κ b = some (.blk n) := fun b n e => by
    simp only [κ2] at e
    cases hk : κ b with
    | none => simp [hk] at e
    | some key =>
      simp only [hk] at e
      split at e
      · cases e
      · exact e
  refine ⟨hw.k, Nat.le_succ_of_le hw.kx, hw.os, hw.tape, hw.output, hw.size, hw.old, hw.mu, fun n hn => hw.nxρ n (by simp only [SS.fold] at hn; omega), fun n hn => hw.nxθ n (by simp only [SS.fold] at hn; omega), κ2, fun n T ls e => ?_, fun τ hτ => ?_, fun r R hr => ?_, fun a v e n e' => ho.mu a v e n (k2blk _ _ e'), fun b key e => ?_⟩
  · obtain ⟨q1, q2⟩ := hpDel_find im _ n T ls e
    obtain ⟨b, cs, k1, k2, k3, k4, k5⟩ := ho.hp _ _ _ q1
    exact ⟨b, cs, k1, k2, k3, k2o b _ k4 q2, k5⟩
  · obtain ⟨q1, q2⟩ := tkDelL_mem im _ _ hτ
    obtain ⟨sz, a, len, cap, k1, k2, k3⟩ := ho.tk _ q1
    refine ⟨sz, a, len, cap, k1, k2, ?_⟩
    rcases k3 with k3 | ⟨b, off, T, cs, k4, k5, k6, k7, k8, k9⟩
    · exact .inl k3
    · exact .inr ⟨b, off, T, cs, k4, k2o b _ k5 q2, k6, k7, k8, k9⟩
  · rcases List.mem_cons.1 hr with e | hr
    · simp only [Prod.mk.injEq] at e
      obtain ⟨rfl, rfl⟩ := e
      refine ⟨_, ⟨_, _, _, hpart⟩, fun b hb => ?_⟩
      obtain ⟨key, hb⟩ := hb
      cases hk : κ b with
      | none => simp [hk] at hb
      | some key0 =>
        simp only [hk, Option.bind_some] at hb
        have := (hmem key0).1 ⟨_, hb⟩
        exact ⟨(ho.dom _ _ hk).1, k2i b _ hk this, (ho.dom _ _ hk).2⟩
    · obtain ⟨q1, q2⟩ := rsDel_mem im _ _ _ hr
      obtain ⟨F, k1, k2⟩ := ho.rs _ _ q1
      exact ⟨F, k1, fun b hb => ⟨(k2 b hb).1, k2o b _ (k2 b hb).2.1 q2, (k2 b hb).2.2⟩⟩
  · simp only [κ2] at e
    cases hk : κ b with
    | none => simp [hk] at e
    | some key0 => exact ho.dom _ _ hk

mutual
/-- The pointer to block n, seen as a plain value. -/
def rawV (n b : Nat) : SV → SV
  | .ptr m o => if m = n then .raw (.pointer (some ⟨b, o, none⟩)) else .ptr m o
  | .ifc t x => .ifc t (rawV n b x)
  | .agg l => .agg (rawL n b l)
  | .tup l => .tup (rawL n b l)
  | x => x
def rawL (n b : Nat) : List SV → List SV
  | [] => []
  | x :: r => rawV n b x :: rawL n b r
end
mutual
theorem rawV_den {E : Env} {n b : Nat} (h : E.ρ n = some b) : ∀ (x : SV) (v : Value), Den E x v → Den E (rawV n b x) v
  | .ptr m o, v, hd => by
    simp only [rawV]
    split
    · rename_i e
      subst e
      simp only [Den] at hd ⊢
      obtain ⟨b', h1, h2⟩ := hd
      rw [h] at h1
      injection h1 with h1
      rw [h2, h1]
    · exact hd
  | .ifc t x, v, hd => by
    simp only [rawV, Den] at hd ⊢
    obtain ⟨y, h1, h2⟩ := hd
    exact ⟨y, h1, rawV_den h x y h2⟩
  | .agg l, v, hd => by
    simp only [rawV, Den] at hd ⊢
    obtain ⟨cs, h1, h2⟩ := hd
    exact ⟨cs, h1, rawL_den h l cs h2⟩
  | .tup l, v, hd => by
    simp only [rawV, Den] at hd ⊢
    obtain ⟨cs, h1, h2⟩ := hd
    exact ⟨cs, h1, rawL_den h l cs h2⟩
  | .i _ _, v, hd => by simpa only [rawV] using hd
  | .b _, v, hd => by simpa only [rawV] using hd
  | .s _, v, hd => by simpa only [rawV] using hd
  | .mp _, v, hd => by simpa only [rawV] using hd
  | .nilp, v, hd => by simpa only [rawV] using hd
  | .ints _ _ _, v, hd => by simpa only [rawV] using hd
  | .sl _ _ _ _, v, hd => by simpa only [rawV] using hd
  | .ep _ _, v, hd => by simpa only [rawV] using hd
  | .nili, v, hd => by simpa only [rawV] using hd
  | .fn _ _ _, v, hd => by simpa only [rawV] using hd
  | .nilf, v, hd => by simpa only [rawV] using hd
  | .raw _, v, hd => by simpa only [rawV] using hd
  | .cnd _ _, v, hd => by simpa only [rawV] using hd
  | .any, v, hd => by simpa only [rawV] using hd
theorem rawL_den {E : Env} {n b : Nat} (h : E.ρ n = some b) : ∀ (l : List SV) (cs : List Value), DenL E l cs → DenL E (rawL n b l) cs
  | [], [], _ => by simp only [rawL, DenL]
  | x :: xs, v :: vs, hd => by
    simp only [rawL, DenL] at hd ⊢
    exact ⟨rawV_den h x v hd.1, rawL_den h xs vs hd.2⟩
  | [], _ :: _, hd => by simp only [DenL] at hd
  | _ :: _, [], hd => by simp only [DenL] at hd
end
def rawHp (n b : Nat) : List (Nat × TypeId × List SV) → List (Nat × TypeId × List SV)
  | [] => []
  | (m, T, ls) :: r => (m, T, rawL n b ls) :: rawHp n b r
theorem rawHp_find {n b : Nat} : ∀ (l : List (Nat × TypeId × List SV)) (m : Nat) (T : TypeId) (ls : List SV), hfind (rawHp n b l) m = some (T, ls) → ∃ ls', hfind l m = some (T, ls') ∧ ls = rawL n b ls'
  | [], m, T, ls, h => by simp [rawHp, hfind] at h
  | (m', T', ls') :: r, m, T, ls, h => by
    simp only [rawHp, hfind] at h ⊢
    split at h
    · rename_i e
      simp only [Option.some.injEq, Prod.mk.injEq] at h
      obtain ⟨rfl, rfl⟩ := h
      exact ⟨ls', by rw [if_pos e], rfl⟩
    · rename_i e
      rw [if_neg e]
      exact rawHp_find r m T ls h
/-- Everywhere. -/
def SS.rawAll (s : SS) (n b : Nat) : SS := { s with fr := rawL n b s.fr, hp := rawHp n b s.hp }

/-- Parts of a state are folded into one resource; pointers to its first block are plain values from then on. -/
theorem fold_ok {P : Program} {B : Ctx} {c : Code} {s : SS} {K : Ex → SS → Prop} (H : SS) (im : List Nat) (h : FoldW H im s) {T : TypeId} {ls : List SV} (h0 : hfind s.hp (fmap im s.nx 0) = some (T, ls))
    (hc : ∀ b, CodeOK P B c ((s.fold H im b).rawAll (fmap im s.nx 0) b) K) : CodeOK P B c s K := by
  intro E a w hb hf hw
  obtain ⟨κ, ho⟩ := hw.own
  obtain ⟨b, cs, k1, k2, k3, k4, k5⟩ := ho.hp _ _ _ h0
  have hg := hw.fold h k1
  obtain ⟨κ2, ho2⟩ := hg.own
  refine hc b E a w hb ⟨rawL_den k1 _ _ hf.tmps, hf.defers⟩ ⟨hg.k, hg.kx, hg.os, hg.tape, hg.output, hg.size, hg.old, hg.mu, hg.nxρ, hg.nxθ, κ2, fun n T' ls' e => ?_, ho2.tk, ho2.rs, ho2.mu, ho2.dom⟩
  obtain ⟨ls0, e1, rfl⟩ := rawHp_find _ _ _ _ e
  obtain ⟨b', cs', q1, q2, q3, q4, q5⟩ := ho2.hp _ _ _ e1
  exact ⟨b', cs', q1, q2, rawL_den k1 _ _ q3, q4, q5⟩

/-- A resource is opened. -/
def SS.unfold (s : SS) (r : Nat) (H : SS) : SS :=
  { s with hp := hpRen (fmap [] s.nx) H.hp s.hp, tk := tkRen (fmap [] s.nx) H.tk s.tk, rs := rsRen (fmap [] s.nx) H.rs (rsCut s.rs r), nx := s.nx + H.nx }

theorem Good.unfold {E : Env} {s : SS} {w : World} (hw : Good E s w) {r root : Nat} {H : SS} (hr : (r, H.res root) ∈ s.rs) (hH : H.lt H.nx) :
    ∃ E', E.Le E' ∧ E'.ρ s.nx = some root ∧ Good E' (s.unfold r H) w := by
  obtain ⟨κ, ho⟩ := hw.own
  obtain ⟨F, ⟨ρ, θ, κH, hp⟩, hF⟩ := ho.rs _ _ hr
  obtain ⟨h4, h4', h4''⟩ := hH
  have fm : ∀ n, fmap [] s.nx n = s.nx + n := fun n => rfl
  have hinj : ∀ n m, fmap [] s.nx n = fmap [] s.nx m → n = m := fun n m e => by rw [fm, fm] at e; omega
  let E' : Env := { E with ρ := fun n => if n < s.nx then E.ρ n else ρ (n - s.nx), θ := fun n => if n < s.nx then E.θ n else θ (n - s.nx) }
  have hle : E.Le E' := by
    refine ⟨rfl, rfl, rfl, fun n b e => ?_, fun n v e => ?_, fun _ _ h => h, fun _ _ h => .inl h, fun n hn => if_pos (by have := hw.k; have := hw.kx; omega), fun n hn => if_pos (by have := hw.k; have := hw.kx; omega), rfl⟩
    · have : n < s.nx := by
        rcases Nat.lt_or_ge n s.nx with h | h
        · exact h
        · rw [hw.nxρ n h] at e; cases e
      show (if n < s.nx then E.ρ n else _) = _
      rw [if_pos this]; exact e
    · have : n < s.nx := by
        rcases Nat.lt_or_ge n s.nx with h | h
        · exact h
        · rw [hw.nxθ n h] at e; cases e
      show (if n < s.nx then E.θ n else _) = _
      rw [if_pos this]; exact e
  have hlater : Later (fmap [] s.nx) { E with ρ := ρ, θ := θ } E' := by
    refine ⟨fun n b e => ?_, fun n b e => ?_, fun a v e => e, fun _ h => h⟩
    · show (if s.nx + n < s.nx then _ else ρ (s.nx + n - s.nx)) = _
      rw [if_neg (by omega), show s.nx + n - s.nx = n by omega]; exact e
    · show (if s.nx + n < s.nx then _ else θ (s.nx + n - s.nx)) = _
      rw [if_neg (by omega), show s.nx + n - s.nx = n by omega]; exact e
  refine ⟨E', hle, ?_, ?_⟩
  · show (if s.nx < s.nx then _ else ρ (s.nx - s.nx)) = _
    rw [if_neg (by omega), Nat.sub_self]; exact hp.root
  let ren' : Key → Key := fun | .blk n => .blk (s.nx + n) | .tok n => .tok (s.nx + n) | .res n => .res (s.nx + n)
  open Classical in
  let κ2 : Nat → Option Key := fun b => if F b then (κH b).map ren' else κ b
  have k2m : ∀ b, F b → κ2 b = (κH b).map ren' := fun b h => if_pos h
  have k2o : ∀ b, ¬ F b → κ2 b = κ b := fun b h => if_neg h
  have far : ∀ b key, κ b = some key → (∀ n, key ≠ .res n) → ¬ F b := fun b key e hk hb => by
    rw [(hF b hb).2.1] at e
    injection e with e
    exact hk r e.symm
  refine ⟨hw.k, Nat.le_trans hw.kx (Nat.le_add_right _ _), hw.os, hw.tape, hw.output, hw.size, hw.old, hw.mu, fun n hn => ?_, fun n hn => ?_, κ2, fun n T ls e => ?_, fun τ hτ => ?_, fun r' R hr' => ?_, fun a v e n e' => ?_, fun b key e => ?_⟩
  · have hn' : s.nx + H.nx ≤ n := hn
    show (if n < s.nx then E.ρ n else ρ (n - s.nx)) = none
    rw [if_neg (by omega)]; exact hp.nxρ _ (by omega)
  · have hn' : s.nx + H.nx ≤ n := hn
    show (if n < s.nx then E.θ n else θ (n - s.nx)) = none
    rw [if_neg (by omega)]; exact hp.nxθ _ (by omega)
  · have e' : hfind (hpRen (fmap [] s.nx) H.hp s.hp) n = some (T, ls) := e
    rcases hpRen_find hinj _ _ n T ls e' with ⟨m, ls', rfl, q1, rfl⟩ | q
    · obtain ⟨b, cs, k1, k2, k3, k4⟩ := hp.hp _ _ _ q1
      have hFb := hp.dom _ _ k4
      exact ⟨b, cs, hlater.ρ _ _ k1, k2, DenL.ren hlater _ _ (k3 { E with ρ := ρ, θ := θ } rfl rfl rfl), by rw [k2m b hFb, k4]; rfl, (hF b hFb).2.2⟩
    · obtain ⟨b, cs, k1, k2, k3, k4, k5⟩ := ho.hp _ _ _ q
      exact ⟨b, cs, hle.ρ _ _ k1, k2, DenL.mono hle _ _ k3, by rw [k2o b (far b _ k4 (by simp))]; exact k4, k5⟩
  · have hτ' : τ ∈ tkRen (fmap [] s.nx) H.tk s.tk := hτ
    rcases tkRen_mem _ _ _ hτ' with ⟨n, q1, rfl⟩ | q
    · obtain ⟨sz, a, len, cap, k1, k2, k3⟩ := hp.tk _ q1
      refine ⟨sz, a, len, cap, hlater.θ _ _ k1, k2, ?_⟩
      rcases k3 with k3 | ⟨b, off, T, cs, k4, k5, k6, k7, k8⟩
      · exact .inl k3
      · have hFb := hp.dom _ _ k5
        exact .inr ⟨b, off, T, cs, k4, by rw [k2m b hFb, k5]; rfl, (hF b hFb).2.2, k6, k7, k8⟩
    · obtain ⟨sz, a, len, cap, k1, k2, k3⟩ := ho.tk _ q
      refine ⟨sz, a, len, cap, hle.θ _ _ k1, k2, ?_⟩
      rcases k3 with k3 | ⟨b, off, T, cs, k4, k5, k6, k7, k8, k9⟩
      · exact .inl k3
      · exact .inr ⟨b, off, T, cs, k4, by rw [k2o b (far b _ k5 (by simp))]; exact k5, k6, k7, k8, k9⟩
  · have hr2 : (r', R) ∈ rsRen (fmap [] s.nx) H.rs (rsCut s.rs r) := hr'
    rcases rsRen_mem _ _ _ _ hr2 with ⟨n, q1, rfl⟩ | q
    · obtain ⟨G, k1, k2⟩ := hp.rs _ _ q1
      exact ⟨G, k1, fun b hb => ⟨(hF b (hp.dom _ _ (k2 b hb))).1, by rw [k2m b (hp.dom _ _ (k2 b hb)), k2 b hb]; rfl, (hF b (hp.dom _ _ (k2 b hb))).2.2⟩⟩
    · obtain ⟨q1, q2⟩ := rsCut_mem q
      obtain ⟨G, k1, k2⟩ := ho.rs _ _ q2
      refine ⟨G, k1, fun b hb => ⟨(k2 b hb).1, ?_, (k2 b hb).2.2⟩⟩
      rw [k2o b]
      · exact (k2 b hb).2.1
      · intro hFb
        have := (hF b hFb).2.1
        rw [(k2 b hb).2.1] at this
        injection this with this
        injection this with this
        exact q1 this
  · by_cases hFb : F a.block
    · rw [k2m _ hFb] at e'
      cases hk : κH a.block with
      | none => simp [hk] at e'
      | some key =>
        cases key with
        | blk m => exact hp.mu a v e m hk
        | tok m => simp [hk, ren'] at e'
        | res m => simp [hk, ren'] at e'
    · rw [k2o _ hFb] at e'
      exact ho.mu a v e n e'
  · by_cases hFb : F b
    · exact ⟨(hF b hFb).1, (hF b hFb).2.2⟩
    · rw [k2o _ hFb] at e
      exact ho.dom b key e

/-- A resource is opened; the variables js, its first block's pointer, are pointers to it. -/
def ptrAt (n : Nat) : List Nat → List SV → List SV
  | [], fr => fr
  | j :: js, fr => ptrAt n js (lset fr j (.ptr n 0))
def rawsAt (root : Nat) (fr : List SV) : List Nat → Prop
  | [] => True
  | j :: js => lget fr j = .raw (.pointer (some ⟨root, 0, none⟩)) ∧ rawsAt root fr js
theorem ptrAt_den {E : Env} {n root : Nat} (h : E.ρ n = some root) : ∀ (js : List Nat) (fr : List SV) (cs : List Value), DenL E fr cs → (∀ j, j ∈ js → Den E (.ptr n 0) (cs[j]?.getD undef)) → DenL E (ptrAt n js fr) cs
  | [], fr, cs, hd, _ => hd
  | j :: js, fr, cs, hd, hj => by
    refine ptrAt_den h js _ cs ?_ (fun i hi => hj i (by simp [hi]))
    have := hj j (by simp)
    by_cases hlt : j < cs.length
    · rw [List.getElem?_eq_getElem hlt, Option.getD_some] at this
      have h2 := denL_set fr cs j (.ptr n 0) cs[j] hd this
      rw [List.set_getElem_self] at h2
      exact h2
    · rw [List.getElem?_eq_none (by omega)] at this
      simp only [Den, Option.getD_none, undef] at this
      obtain ⟨b, _, e⟩ := this
      cases e
theorem unfold_ok {P : Program} {B : Ctx} {c : Code} {s : SS} {K : Ex → SS → Prop} (r : Nat) (H : SS) (js : List Nat) {root : Nat} (hr : (r, H.res root) ∈ s.rs) (hH : H.lt H.nx) (hj : rawsAt root s.fr js)
    (hc : CodeOK P B c { s.unfold r H with fr := ptrAt s.nx js s.fr } K) : CodeOK P B c s K := by
  intro E a w hb hf hw
  obtain ⟨E', h1, h2, h3⟩ := hw.unfold hr hH
  have hraw : ∀ j, j ∈ js → lget s.fr j = .raw (.pointer (some ⟨root, 0, none⟩)) := by
    clear hc
    induction js with
    | nil => intro j h; simp at h
    | cons i r ih =>
      intro j h
      rcases List.mem_cons.1 h with rfl | h
      · exact hj.1
      · exact ih hj.2 j h
  have hden := DenL.mono h1 _ _ hf.tmps
  have := wpIn_mono (hc E' a w (hb.ext h1.ext) ⟨ptrAt_den h2 js _ _ hden (fun j hjm => ?_), hf.defers⟩ ⟨h3.k, h3.kx, h3.os, h3.tape, h3.output, h3.size, h3.old, h3.mu, h3.nxρ, h3.nxθ, let ⟨κ, k⟩ := h3.own; ⟨κ, k.hp, k.tk, k.rs, k.mu, k.dom⟩⟩) (fun e a' w' h => QK.base (hb.base.trans h1.ext) h)
  · exact this
  · have := denL_get s.fr a.tmps.toList j undef hf.tmps
    rw [hraw j hjm] at this
    simp only [Den] at this ⊢
    exact ⟨root, h2, this⟩
end Go.Eng
/- The engine, part FA: contracts over resources; methods of interface values whose content is not seen. -/
namespace Go.Eng
open Go
set_option linter.unusedVariables false
set_option linter.unusedSimpArgs false

def NNT : Tag → Prop
  | .tok _ _ => False
  | _ => True
mutual
/-- No name stands in it. -/
def NN : SV → Prop
  | .ints _ t _ => NNT t
  | .sl _ t _ el => NNT t ∧ ∀ i j, NN (el i j)
  | .ep _ g => ∀ d, NN (g d)
  | .ptr _ _ => False
  | .mp _ => False
  | .agg l => NNL l
  | .tup l => NNL l
  | .ifc _ x => NN x
  | .fn _ a c => NNL a ∧ NNL c
  | .cnd _ x => NN x
  | _ => True
def NNL : List SV → Prop
  | [] => True
  | x :: r => NN x ∧ NNL r
end
structure LeN (E E' : Env) : Prop where
  μ : ∀ a v, E.μ a = some v → E'.μ a = some v
  mt : ∀ b, E.Z b → E'.Z b
theorem TagOK.nn {E E' : Env} (h : LeN E E') {sz : Nat} {v : Value} : ∀ {t : Tag}, NNT t → TagOK E sz v t → TagOK E' sz v t
  | .old, _, k => trivial
  | .new, _, k => fun a n c e => h.mt _ (k a n c e)
  | .nil, _, k => k
  | .tok _ _, hn, _ => by simp only [NNT] at hn
mutual
theorem Den.nn {E E' : Env} (h : LeN E E') : ∀ (x : SV) (v : Value), NN x → Den E x v → Den E' x v
  | .i k n, v, _, hd => by simpa only [Den] using hd
  | .b c, v, _, hd => by simpa only [Den] using hd
  | .s x, v, _, hd => by simpa only [Den] using hd
  | .ptr n off, v, hn, hd => by simp only [NN] at hn
  | .mp n, v, hn, hd => by simp only [NN] at hn
  | .nilp, v, _, hd => by simpa only [Den] using hd
  | .ints k tg l, v, hn, hd => by
      simp only [Den] at hd ⊢
      simp only [NN] at hn
      obtain ⟨a, cap, h1, h2, h3, h4, h5⟩ := hd
      exact ⟨a, cap, h1, h2, h3, fun i x e => let ⟨b, off, p, q⟩ := h4 i x e; ⟨b, off, p, h.μ _ _ q⟩, h5.nn h hn⟩
  | .sl sz tg n el, v, hn, hd => by
      simp only [Den] at hd ⊢
      simp only [NN] at hn
      obtain ⟨a, cap, h1, h2, h3, h4, h5⟩ := hd
      refine ⟨a, cap, h1, h2, h3, fun i hi => ?_, h5.nn h hn.1⟩
      obtain ⟨b, off, p, q⟩ := h4 i hi
      refine ⟨b, off, p, fun j hj => ?_⟩
      obtain ⟨x, r, s⟩ := q j hj
      exact ⟨x, h.μ _ _ r, Den.nn h (el i j) x (hn.2 i j) s⟩
  | .ep n get, v, hn, hd => by
      simp only [Den] at hd ⊢
      simp only [NN] at hn
      obtain ⟨b, off, p, q⟩ := hd
      refine ⟨b, off, p, fun d hd => ?_⟩
      obtain ⟨x, r, s⟩ := q d hd
      exact ⟨x, h.μ _ _ r, Den.nn h (get d) x (hn d) s⟩
  | .agg l, v, hn, hd => by
      simp only [Den] at hd ⊢
      simp only [NN] at hn
      obtain ⟨cs, p, q⟩ := hd
      exact ⟨cs, p, DenL.nn h l cs hn q⟩
  | .tup l, v, hn, hd => by
      simp only [Den] at hd ⊢
      simp only [NN] at hn
      obtain ⟨cs, p, q⟩ := hd
      exact ⟨cs, p, DenL.nn h l cs hn q⟩
  | .nili, v, _, hd => by simpa only [Den] using hd
  | .ifc t x, v, hn, hd => by
      simp only [Den] at hd ⊢
      simp only [NN] at hn
      obtain ⟨y, p, q⟩ := hd
      exact ⟨y, p, Den.nn h x y hn q⟩
  | .fn f first cap, v, hn, hd => by
      simp only [Den] at hd ⊢
      simp only [NN] at hn
      obtain ⟨fs, cs, p, q, r⟩ := hd
      exact ⟨fs, cs, p, DenL.nn h first fs hn.1 q, DenL.nn h cap cs hn.2 r⟩
  | .nilf, v, _, hd => by simpa only [Den] using hd
  | .raw x, v, _, hd => by simpa only [Den] using hd
  | .cnd g x, v, hn, hd => by
      simp only [Den] at hd ⊢
      simp only [NN] at hn
      exact ⟨fun e => Den.nn h x v hn (hd.1 e), hd.2⟩
  | .any, v, _, hd => by simp only [Den]
theorem DenL.nn {E E' : Env} (h : LeN E E') : ∀ (l : List SV) (cs : List Value), NNL l → DenL E l cs → DenL E' l cs
  | [], [], _, _ => by simp only [DenL]
  | x :: xs, v :: vs, hn, hd => by
      simp only [DenL] at hd ⊢
      simp only [NNL] at hn
      exact ⟨Den.nn h x v hn.1 hd.1, DenL.nn h xs vs hn.2 hd.2⟩
  | [], _ :: _, _, hd => by simp only [DenL] at hd
  | _ :: _, [], _, hd => by simp only [DenL] at hd
end

/-- One resource came in, or goes out. -/
def preR (R : Res) : SS := ⟨[], [], [], [(0, R)], 1, 1, []⟩

/-- What a call's end says. -/
def EndsAs (E : Env) (R : SV → SS → Prop) (e : Ending) (w' : World) : Prop := ∃ v E' post sv, e = .returned v ∧ E.Ext E' ∧ Good E' post w' ∧ Den E' sv v ∧ R sv post

/-- What a method's contract over the parts of its receiver says over the receiver as one resource. -/
def FoldR (root : Nat) (R : SV → SS → Prop) (sv : SV) (post : SS) : Prop :=
  ∃ H' im psv, FoldW H' im post ∧ fmap im post.nx 0 = 0 ∧ W false (fun n => n) psv sv ∧ NN psv ∧ R psv (preR (H'.res root))

theorem unfold_pre {E : Env} {w : World} {H : SS} {root : Nat} (hw0 : E.w0 = w) (hw : Good E (preR (H.res root)) w) (hk1 : 1 ≤ H.k) (hkx : H.k ≤ H.nx) :
    ∃ E1, E1.w0 = w ∧ E1.S0 = E.S0 ∧ E1.μ = E.μ ∧ E1.ρ 0 = some root ∧ Good E1 H w ∧ E1.k = H.k ∧ E1.Z = E.Z := by
  obtain ⟨κ, ho⟩ := hw.own
  obtain ⟨F, ⟨ρ, θ, κH, hp⟩, hF⟩ := ho.rs 0 (H.res root) (by simp [preR])
  refine ⟨⟨w, E.S0, ρ, θ, E.μ, H.k, E.Z, by rw [← hw0]; exact E.hZ⟩, rfl, rfl, rfl, hp.root, ⟨rfl, hkx, rfl, rfl, rfl, Nat.le_refl _, fun _ _ _ => rfl, hw.mu, hp.nxρ, hp.nxθ, κH, fun n T ls e => ?_, fun τ hτ => ?_, fun r R hr => ?_, hp.mu, fun b key e => ?_⟩, rfl, rfl⟩
  · obtain ⟨b, cs, q1, q2, q3, q4⟩ := hp.hp n T ls e
    have := (hF b (hp.dom _ _ q4)).2.2
    refine ⟨b, cs, q1, q2, q3 _ rfl rfl rfl, q4, ?_⟩
    unfold Mut at this ⊢
    rw [hw0] at this
    exact this
  · obtain ⟨sz, a, len, cap, q1, q2, q3⟩ := hp.tk τ hτ
    refine ⟨sz, a, len, cap, q1, q2, ?_⟩
    rcases q3 with q3 | ⟨b, off, T, cs, q4, q5, q6, q7, q8⟩
    · exact .inl q3
    · refine .inr ⟨b, off, T, cs, q4, q5, ?_, q6, q7, q8⟩
      have := (hF b (hp.dom _ _ q5)).2.2
      unfold Mut at this ⊢
      rw [hw0] at this
      exact this
  · obtain ⟨G, q1, q2⟩ := hp.rs r R hr
    refine ⟨G, q1, fun b hb => ?_⟩
    have h3 := hF b (hp.dom _ _ (q2 b hb))
    refine ⟨h3.1, q2 b hb, ?_⟩
    have := h3.2.2
    unfold Mut at this ⊢
    rw [hw0] at this
    exact this
  · have h3 := hF b (hp.dom _ _ e)
    refine ⟨h3.1, ?_⟩
    have := h3.2.2
    unfold Mut at this ⊢
    rw [hw0] at this
    exact this

theorem fold_post {E E1 E2 : Env} {w w' : World} {H0 : Res} {root : Nat} {R : SV → SS → Prop} {sv : SV} {post : SS} {v : Value} (hw0 : E.w0 = w) (hw : Good E (preR H0) w) (e1 : E1.w0 = w) (e2 : E1.S0 = E.S0) (e3 : E1.μ = E.μ) (e4 : E1.ρ 0 = some root) (e5 : E1.Z = E.Z) (hk : 1 ≤ E1.k)
    (hx : E1.Ext E2) (hp : Good E2 post w') (hd : Den E2 sv v) (hR : FoldR root R sv post) :
    ∃ E', E.Ext E' ∧ ∃ psv post', Good E' post' w' ∧ Den E' psv v ∧ R psv post' := by
  obtain ⟨H', im, psv, hf, h0, h1, h2, h3⟩ := hR
  have hroot : E2.ρ (fmap im post.nx 0) = some root := by rw [h0, hx.ρ 0 (by omega)]; exact e4
  obtain ⟨κ, ho⟩ := hp.own
  have hpart := fold_part hp ho hf hroot
  have hmt : ∀ b, Mut E2 b → Mut E b := fun b hb => by
    have := (Mut.ext hx).2 hb
    unfold Mut at this ⊢
    rw [e1, e2] at this
    rw [hw0]; exact this
  let E3 : Env := { E with μ := E2.μ }
  refine ⟨E3, ⟨rfl, fun _ _ => rfl, fun _ _ => rfl, rfl, rfl, fun a v e => hx.μ a v (by rw [e3]; exact e), fun a v e => ?_, rfl⟩, psv, _, ?_, ?_, h3⟩
  · rcases hx.μnew a v e with h | h
    · rw [e3] at h; exact .inl h
    · refine .inr ?_
      unfold Mut at h ⊢
      rw [e1, e2] at h
      rw [hw0]; exact h
  · have s1 := hp.size
    rw [hx.w0, e1] at s1
    refine ⟨hw.k, hw.kx, ?_, ?_, ?_, ?_, fun b hb hs => ?_, hp.mu, hw.nxρ, hw.nxθ, fun b => match κ b with | some key => (match Key.ren (finv (fmap im post.nx) (imN im post.nx)) key with | some _ => some (.res 0) | none => none) | none => none, fun n T ls e => by simp [preR, hfind] at e, fun τ hτ => by simp [preR] at hτ, fun r R hr => ?_, fun a v e n e' => ?_, fun b key e => ?_⟩
    · rw [hp.os, hx.w0, e1]; show w.os = E.w0.os; rw [hw0]
    · rw [hp.tape, hx.w0, e1]; show w.tape = E.w0.tape; rw [hw0]
    · rw [hp.output, hx.w0, e1]; show w.output = E.w0.output; rw [hw0]
    · show E.w0.heap.size ≤ _; rw [hw0]; exact s1
    · have hb' : b < E.w0.heap.size := hb
      have := hp.old b (by rw [hx.w0, e1, ← hw0]; exact hb') (fun h => hs (by rw [hx.S0, e2] at h; exact h))
      rw [this, hx.w0, e1]; show w.heap[b]? = E.w0.heap[b]?; rw [hw0]
    · simp only [preR, List.mem_cons, Prod.mk.injEq, List.not_mem_nil, or_false] at hr
      obtain ⟨rfl, rfl⟩ := hr
      refine ⟨_, ⟨_, _, _, hpart⟩, fun b hb => ?_⟩
      obtain ⟨key, hb⟩ := hb
      cases hk : κ b with
      | none => simp [hk] at hb
      | some key0 =>
        simp only [hk, Option.bind_some] at hb
        simp only [hb]
        exact ⟨(ho.dom _ _ hk).1, trivial, hmt _ (ho.dom _ _ hk).2⟩
    · split at e'
      · split at e' <;> cases e'
      · cases e'
    · cases hk : κ b with
      | none => simp [hk] at e
      | some key0 => exact ⟨(ho.dom _ _ hk).1, hmt _ (ho.dom _ _ hk).2⟩
  · exact Den.nn (E := E2) (E' := E3) ⟨fun _ _ h => h, fun b hb => by rw [hx.Z, e5] at hb; exact hb⟩ _ _ h2 (W_den (f := fun n => n) (imp := false) ⟨fun _ => rfl, fun _ => rfl, rfl, fun _ _ h => h⟩ _ _ _ h1 hd)

/-- A method's contract over its receiver as one resource. -/
theorem contract_res {P : Program} {f : FuncId} {H : SS} (root : Nat) {args : List SV} {R' R : SV → SS → Prop} (hk1 : 1 ≤ H.k) (hkx : H.k ≤ H.nx) (hC : Contract P f H (.ptr 0 0 :: args) R') (hn : NNL args)
    (hR : ∀ sv post, R' sv post → FoldR root R sv post) : Contract P f (preR (H.res root)) (.raw (.pointer (some ⟨root, 0, none⟩)) :: args) R := by
  intro E w vs hw0 hw hv
  obtain ⟨E1, e1, e2, e3, e4, e5, e6, e7⟩ := unfold_pre hw0 hw hk1 hkx
  have hv1 : DenL E1 (.ptr 0 0 :: args) vs := by
    cases vs with
    | nil => simp only [DenL] at hv
    | cons v0 vs =>
      simp only [DenL] at hv ⊢
      refine ⟨?_, DenL.nn ⟨fun a v e => by rw [e3]; exact e, fun b hb => by rw [e7]; exact hb⟩ _ _ hn hv.2⟩
      have := hv.1
      simp only [Den] at this ⊢
      exact ⟨root, e4, this⟩
  obtain ⟨q1, q2⟩ := hC E1 w vs e1 e5 hv1
  refine ⟨q1, q2.mono ?_⟩
  rintro e w' ⟨v, E2, post, sv, rfl, k1, k2, k3, k4⟩
  obtain ⟨E', r1, psv, post', r2, r3, r4⟩ := fold_post hw0 hw e1 e2 e3 e4 e7 (by omega) k1 k2 k3 (hR sv post k4)
  exact ⟨v, E', post', psv, rfl, r1, r2, r3, r4⟩

/-- A contract of a method that is called through an interface value of type t and content y. -/
def InvC (P : Program) (t : TypeId) (y : Value) (name : String) (pre : SS) (pargs : List SV) (R : SV → SS → Prop) : Prop :=
  ∀ E w vs, E.w0 = w → Good E pre w → DenL E pargs vs → ∃ f ars, (callMethod (.iface t y) name vs.toArray).run P w = .ok (.enter f ars) w ∧
    Calls P f ars w (fun e w' => ∃ v E' post sv, e = .returned v ∧ E.Ext E' ∧ Good E' post w' ∧ Den E' sv v ∧ R sv post)

theorem invC_of {P : Program} {t : TypeId} {name : String} {f : FuncId} (hm : MethodIs P t name f) {root : Nat} {pre : SS} {pargs : List SV} {R : SV → SS → Prop} (hC : Contract P f pre (.raw (.pointer (some ⟨root, 0, none⟩)) :: pargs) R) :
    InvC P t (.pointer (some ⟨root, 0, none⟩)) name pre pargs R := by
  intro E w vs hw0 hw hv
  obtain ⟨k1, k2⟩ := hC E w (.pointer (some ⟨root, 0, none⟩) :: vs) hw0 hw (by simp only [DenL, Den]; exact ⟨trivial, hv⟩)
  refine ⟨f, (.pointer (some ⟨root, 0, none⟩) :: vs).toArray, ?_, k2⟩
  rw [← k1]
  simp only [callMethod, Sem.run_bind, run_program, Result.andThen_ok, hm root 0 w]
  congr 2
  apply Array.ext'; simp

theorem InvC.mono {P : Program} {t : TypeId} {y : Value} {name : String} {pre : SS} {pargs : List SV} {R R' : SV → SS → Prop} (h : InvC P t y name pre pargs R) (hR : ∀ sv post, R sv post → R' sv post) : InvC P t y name pre pargs R' := by
  intro E w vs hw0 hw hv
  obtain ⟨f, ars, k1, k2⟩ := h E w vs hw0 hw hv
  exact ⟨f, ars, k1, k2.mono fun e w' ⟨v, E', post, sv, h1, h2, h3, h4, h5⟩ => ⟨v, E', post, sv, h1, h2, h3, h4, hR _ _ h5⟩⟩
theorem Contract.mono {P : Program} {f : FuncId} {pre : SS} {pargs : List SV} {R R' : SV → SS → Prop} (h : Contract P f pre pargs R) (hR : ∀ sv post, R sv post → R' sv post) : Contract P f pre pargs R' := by
  intro E w vs hw0 hw hv
  obtain ⟨k1, k2⟩ := h E w vs hw0 hw hv
  exact ⟨k1, k2.mono fun e w' ⟨v, E', post, sv, h1, h2, h3, h4, h5⟩ => ⟨v, E', post, sv, h1, h2, h3, h4, hR _ _ h5⟩⟩

/-- A callee's view of a caller's state, and back. -/
theorem lend {pre : SS} {pargs : List SV} {R : SV → SS → Prop} (im : List Nat) {st : SS} {args : List SV} {K : SV → SS → Prop} (h : CallW im pre pargs st args)
    (hK : ∀ sv post, R sv post → K (ren (fmap (im.take pre.k) st.nx) sv) (st.back (lentOf im st.nx pre) (im.take pre.k) post)) {E : Env} {w : World} {vs : List Value} (hw : Good E st w) (hv : DenL E args vs) :
    ∃ E', E'.w0 = w ∧ Good E' pre w ∧ DenL E' pargs vs ∧ ∀ e w', (∃ v E1 post sv, e = .returned v ∧ E'.Ext E1 ∧ Good E1 post w' ∧ Den E1 sv v ∧ R sv post) → CallPost E st K e w' := by
  obtain ⟨hd, hl, hlen, hk, hlt, h1, h2, h3, ha⟩ := h
  obtain ⟨κ, ho⟩ := hw.own
  have hinj := fmap_inj im st.nx hd hl
  let E' : Env := { w0 := w, S0 := fun b => ∃ key, κ b = some key ∧ key.name ∈ lentOf im st.nx pre, ρ := fun n => E.ρ (fmap im st.nx n), θ := fun n => E.θ (fmap im st.nx n), μ := E.μ, k := pre.k, Z := E.Z, hZ := fun b hb => E.hZ b (Nat.le_trans hw.size hb) }
  have hp : Pull false (fmap im st.nx) E E' := ⟨fun _ => rfl, fun _ => rfl, rfl, fun _ _ h => h⟩
  have hg : Good E' pre w := by
    refine ⟨rfl, hk, rfl, rfl, rfl, Nat.le_refl _, fun _ _ _ => rfl, hw.mu, fun n hn => hw.nxρ _ ?_, fun n hn => hw.nxθ _ ?_, _, ho.pull hinj hp h1 h2 h3 (fun n => fmap im st.nx n ∈ lentOf im st.nx pre) (fun n T ls e => List.mem_append_left _ (lentHp_find _ _ n T ls e)) (fun τ hτ => List.mem_append_right _ (List.mem_append_left _ (lentTk_mem _ _ τ hτ))) (fun r R hr => List.mem_append_right _ (List.mem_append_right _ (lentRs_mem _ _ r R hr))) ?_⟩
    · rw [fmap_ge im st.nx n (by omega)]; omega
    · rw [fmap_ge im st.nx n (by omega)]; omega
    · intro b key n hκ hn hN _
      exact .inr ⟨key, hκ, by rw [hn]; exact hN⟩
  refine ⟨E', rfl, hg, WL_den hp _ _ _ ha hv, ?_⟩
  rintro e w' ⟨v, E1, post, sv, rfl, k1, k2, k3, k4⟩
  have hw0 : E1.w0 = w := k1.w0
  have hS0 : E1.S0 = fun b => ∃ key, κ b = some key ∧ key.name ∈ lentOf im st.nx pre := k1.S0
  have hkl : (im.take pre.k).length = pre.k := by simp; omega
  obtain ⟨E2, r1, r2, r3⟩ := back_good (ik := im.take pre.k) hw ho (distincts_take _ _ hd) (allLt_take _ _ hl) hw0 k1.Z hS0 (fun n b hn e => by rw [k1.ρ n (by show n < pre.k; omega)] at e; rw [fmap_take _ _ _ _ (by omega)]; exact e) (fun n b hn e => by rw [k1.θ n (by show n < pre.k; omega)] at e; rw [fmap_take _ _ _ _ (by omega)]; exact e) k1.μ (fun a v e => by
      rcases k1.μnew a v e with h | h
      · exact .inl h
      · exact .inr ((Mut.ext k1).1 h)) k2
  · exact ⟨v, E2, _, _, rfl, r1, r3, Den.ren r2 _ _ k3, ⟨rfl, rfl⟩, hK sv post k4⟩

theorem inv_w {P : Program} {t : TypeId} {y : Value} {name : String} {pre : SS} {pargs : List SV} {R : SV → SS → Prop} (hC : InvC P t y name pre pargs R) (im : List Nat) {st : SS} {args : List SV} {K : SV → SS → Prop}
    (h : CallW im pre pargs st args) (hK : ∀ sv post, R sv post → K (ren (fmap (im.take pre.k) st.nx) sv) (st.back (lentOf im st.nx pre) (im.take pre.k) post)) : InvOK P (.ifc t (.raw y)) name args st K := by
  intro E w r vs hw hr hv
  simp only [Den] at hr
  obtain ⟨y', rfl, rfl⟩ := hr
  obtain ⟨E', e1, e2, e3, e4⟩ := lend im h hK hw hv
  obtain ⟨f, ars, k1, k2⟩ := hC E' w vs e1 e2 e3
  exact ⟨f, ars, k1, k2.mono e4⟩
end Go.Eng
/- The engine, part FC: a region in any order, by one walk: what leaves the world alone first, the rest as the edges order it. -/
namespace Go.Eng
open Go
set_option linter.unusedVariables false
set_option linter.unusedSimpArgs false

/-- The operands that an operation's value hangs on. -/
def opsOf : Op → List Operand
  | .move x => [x]
  | .assign x => [x]
  | .pick c a b => [c, a, b]
  | .box _ v => [v]
  | .build _ ps => ps.toList.map (·.2)
  | .buildSlice _ _ ps => ps.toList.map (·.2)
  | .load _ x => [x]
  | .store _ a v => [a, v]
  | .nilCheck x => [x]
  | .binOp _ _ x y _ => [x, y]
  | .unOp _ _ x => [x]
  | .convert _ _ x => [x]
  | .makeInterface _ x => [x]
  | .makeFunc _ a c => a.toList ++ c.toList
  | .makeSlice _ n c => [n, c]
  | .slice _ x lo hi _ => x :: (lo.toList ++ hi.toList)
  | .fieldAddr _ x _ => [x]
  | .field _ x _ => [x]
  | .indexAddr _ x i => [x, i]
  | .index _ x i => [x, i]
  | .range _ x => [x]
  | .next it _ => [it]
  | .extract x _ => [x]
  | .lookup _ x i _ => [x, i]
  | .typeAssert x _ _ _ => [x]
  | .mapUpdate _ m k v => [m, k, v]
  | .call c => (match c.callee with | .value f => [f] | .invoke r _ => [r] | .builtin _ => []) ++ c.args.toList
  | _ => []

def Agree (s t : SS) (l : List Operand) : Prop := ∀ x, x ∈ l → s.eval x = t.eval x
theorem Agree.opd {s t : SS} {l : List Operand} (h : Agree s t l) {x : Operand} (hx : x ∈ l) : opd s x = opd t x := by unfold Eng.opd; rw [h x hx]
theorem Agree.ovc {s t : SS} {l : List Operand} (h : Agree s t l) {x : Operand} (hx : x ∈ l) (g : Bool) : ovc s g x = ovc t g x := by unfold Eng.ovc; rw [h x hx]
theorem Agree.map {s t : SS} {l m : List Operand} (h : Agree s t l) (hm : ∀ x, x ∈ m → x ∈ l) : m.map (Eng.opd s) = m.map (Eng.opd t) := List.map_congr_left fun x hx => h.opd (hm x hx)
theorem Agree.ovcL {s t : SS} {l : List Operand} (h : Agree s t l) (g : Bool) : ∀ (m : List Operand), (∀ x, x ∈ m → x ∈ l) → ovcL s g m = ovcL t g m
  | [], _ => rfl
  | x :: r, hm => by simp only [Eng.ovcL]; rw [h.ovc (hm x (by simp)) g, Agree.ovcL h g r (fun y hy => hm y (by simp [hy]))]
theorem Agree.symm {s t : SS} {l : List Operand} (h : Agree s t l) : Agree t s l := fun x hx => (h x hx).symm

def loadB : Op → Bool
  | .load _ _ => true
  | .lookup _ _ _ _ => true
  | _ => false

/-- The value of an operation hangs on its operands, and on memory where it loads. -/
theorem evalP_congr {P : Program} {Γ : Tab} {s t : SS} {g : Bool} {op : Op} (h : Agree s t (opsOf op)) (hh : loadB op = true → s.hp = t.hp) : evalP P Γ s g op = evalP P Γ t g op := by
  cases op with
  | move x => simp only [evalP]; rw [h.opd (by simp [opsOf]), h.ovc (by simp [opsOf])]
  | assign x => simp only [evalP]; rw [h.opd (by simp [opsOf]), h.ovc (by simp [opsOf])]
  | pick c a b => simp only [evalP, evPick]; simp only [h.opd (show c ∈ _ by simp [opsOf]), h.ovc (show c ∈ _ by simp [opsOf]), h.opd (show a ∈ _ by simp [opsOf]), h.ovc (show a ∈ _ by simp [opsOf]), h.opd (show b ∈ _ by simp [opsOf]), h.ovc (show b ∈ _ by simp [opsOf])]
  | build T ps =>
    simp only [evalP, evBuild]
    have e1 : (ps.toList.map fun p => (p.1, opd s p.2)) = ps.toList.map fun p => (p.1, opd t p.2) := List.map_congr_left fun p hp => by rw [h.opd (by simp only [opsOf, List.mem_map]; exact ⟨p, hp, rfl⟩)]
    rw [e1, h.ovcL g (ps.toList.map fun p => p.2) (fun x hx => by simpa [opsOf] using hx)]
  | load T x => simp only [evalP, evLoad]; rw [h.opd (show x ∈ _ by simp [opsOf]), h.ovc (show x ∈ _ by simp [opsOf]), hh rfl]
  | lookup T x i ok => simp only [evalP, evLookup]; rw [h.opd (show x ∈ _ by simp [opsOf]), h.ovc (show x ∈ _ by simp [opsOf]), h.opd (show i ∈ _ by simp [opsOf]), h.ovc (show i ∈ _ by simp [opsOf]), hh rfl]
  | typeAssert x _ T ok => simp only [evalP]; rw [h.opd (show x ∈ _ by simp [opsOf]), h.ovc (show x ∈ _ by simp [opsOf])]
  | nilCheck x => simp only [evalP, evNil]; rw [h.opd (show x ∈ _ by simp [opsOf]), h.ovc (show x ∈ _ by simp [opsOf])]
  | binOp o T x y _ => simp only [evalP]; rw [h.opd (show x ∈ _ by simp [opsOf]), h.ovc (show x ∈ _ by simp [opsOf]), h.opd (show y ∈ _ by simp [opsOf]), h.ovc (show y ∈ _ by simp [opsOf])]
  | unOp o T x => simp only [evalP]; rw [h.opd (show x ∈ _ by simp [opsOf]), h.ovc (show x ∈ _ by simp [opsOf])]
  | convert S D x => simp only [evalP]; rw [h.opd (show x ∈ _ by simp [opsOf]), h.ovc (show x ∈ _ by simp [opsOf])]
  | makeInterface T x => simp only [evalP]; rw [h.opd (show x ∈ _ by simp [opsOf]), h.ovc (show x ∈ _ by simp [opsOf])]
  | makeFunc f a c => simp only [evalP]; rw [h.map (fun x hx => by simp [opsOf] at hx ⊢; exact .inl hx), h.map (m := c.toList) (fun x hx => by simp [opsOf] at hx ⊢; exact .inr hx), h.ovcL g a.toList (fun x hx => by simp [opsOf] at hx ⊢; exact .inl hx), h.ovcL g c.toList (fun x hx => by simp [opsOf] at hx ⊢; exact .inr hx)]
  | slice T x lo hi mx =>
    cases mx with
    | some _ => rfl
    | none =>
      simp only [evalP]
      have e1 : lo.map (opd s) = lo.map (opd t) := by
        cases lo with
        | none => rfl
        | some y => simp only [Option.map_some]; rw [h.opd (by simp [opsOf])]
      have e2 : hi.map (opd s) = hi.map (opd t) := by
        cases hi with
        | none => rfl
        | some y => simp only [Option.map_some]; rw [h.opd (by simp [opsOf])]
      rw [e1, e2, h.opd (show x ∈ _ by simp [opsOf]), h.ovc (show x ∈ _ by simp [opsOf]), h.ovcL g lo.toList (fun y hy => by simp only [opsOf, List.mem_cons, List.mem_append]; exact .inr (.inl hy)), h.ovcL g hi.toList (fun y hy => by simp only [opsOf, List.mem_cons, List.mem_append]; exact .inr (.inr hy))]
  | fieldAddr T x f => simp only [evalP, evField]; rw [h.opd (show x ∈ _ by simp [opsOf]), h.ovc (show x ∈ _ by simp [opsOf])]
  | field T x f => simp only [evalP]; rw [h.opd (show x ∈ _ by simp [opsOf]), h.ovc (show x ∈ _ by simp [opsOf])]
  | indexAddr T x i => simp only [evalP, evIndexAddr]; rw [h.opd (show x ∈ _ by simp [opsOf]), h.ovc (show x ∈ _ by simp [opsOf]), h.opd (show i ∈ _ by simp [opsOf]), h.ovc (show i ∈ _ by simp [opsOf])]
  | index T x i => simp only [evalP]; rw [h.opd (show x ∈ _ by simp [opsOf]), h.ovc (show x ∈ _ by simp [opsOf]), h.opd (show i ∈ _ by simp [opsOf]), h.ovc (show i ∈ _ by simp [opsOf])]
  | extract x n => simp only [evalP]; rw [h.opd (show x ∈ _ by simp [opsOf]), h.ovc (show x ∈ _ by simp [opsOf])]
  | call c =>
    simp only [evalP]
    have hm : ∀ x, x ∈ c.args.toList → x ∈ opsOf (.call c) := fun x hx => by simp only [opsOf, List.mem_append]; exact .inr hx
    rw [h.map hm, h.ovcL g _ hm]
  | _ => rfl

/-- The same but for the variables. -/
def SS.with (s : SS) (fr : List SV) : SS := { s with fr := fr }
theorem with_put (s : SS) (fr : List SV) (d : Option Nat) (v : SV) : (s.with fr).put d v = (s.put d v).with ((s.with fr).put d v).fr := by
  cases d <;> rfl

theorem CallOK.with {P : Program} {f : FuncId} {args : List SV} {s : SS} (fr : List SV) {K : SV → SS → Prop} (h : CallOK P f args s K) :
    CallOK P f args (s.with fr) (fun sv t' => ∃ s', K sv s' ∧ s'.fr = s.fr ∧ t' = s'.with fr) := by
  rcases h with h | ⟨sv, h, h'⟩
  · refine .inl fun E w vs hw hv => ?_
    obtain ⟨q1, q2⟩ := h E w vs ⟨hw.k, hw.kx, hw.os, hw.tape, hw.output, hw.size, hw.old, hw.mu, hw.nxρ, hw.nxθ, let ⟨κ, k⟩ := hw.own; ⟨κ, k.hp, k.tk, k.rs, k.mu, k.dom⟩⟩ hv
    refine ⟨q1, q2.mono ?_⟩
    rintro e w' ⟨v, E', st', sv, rfl, h1, h2, h3, ⟨h4, h5⟩, h6⟩
    exact ⟨v, E', st'.with fr, sv, rfl, h1, ⟨h2.k, h2.kx, h2.os, h2.tape, h2.output, h2.size, h2.old, h2.mu, h2.nxρ, h2.nxθ, let ⟨κ, k⟩ := h2.own; ⟨κ, k.hp, k.tk, k.rs, k.mu, k.dom⟩⟩, h3, ⟨rfl, h5⟩, st', h6, h4, rfl⟩
  · exact .inr ⟨sv, h, s, h', rfl, rfl⟩
theorem InvOK.with {P : Program} {r : SV} {name : String} {args : List SV} {s : SS} (fr : List SV) {K : SV → SS → Prop} (h : InvOK P r name args s K) :
    InvOK P r name args (s.with fr) (fun sv t' => ∃ s', K sv s' ∧ s'.fr = s.fr ∧ t' = s'.with fr) := by
  intro E w r vs hw hr hv
  obtain ⟨f, ars, q1, q2⟩ := h E w r vs ⟨hw.k, hw.kx, hw.os, hw.tape, hw.output, hw.size, hw.old, hw.mu, hw.nxρ, hw.nxθ, let ⟨κ, k⟩ := hw.own; ⟨κ, k.hp, k.tk, k.rs, k.mu, k.dom⟩⟩ hr hv
  refine ⟨f, ars, q1, q2.mono ?_⟩
  rintro e w' ⟨v, E', st', sv, rfl, h1, h2, h3, ⟨h4, h5⟩, h6⟩
  exact ⟨v, E', st'.with fr, sv, rfl, h1, ⟨h2.k, h2.kx, h2.os, h2.tape, h2.output, h2.size, h2.old, h2.mu, h2.nxρ, h2.nxθ, let ⟨κ, k⟩ := h2.own; ⟨κ, k.hp, k.tk, k.rs, k.mu, k.dom⟩⟩, h3, ⟨rfl, h5⟩, st', h6, h4, rfl⟩
theorem CallOK.mono {P : Program} {f : FuncId} {args : List SV} {s : SS} {K K' : SV → SS → Prop} (h : CallOK P f args s K) (hk : ∀ sv t, K sv t → K' sv t) : CallOK P f args s K' := by
  rcases h with h | ⟨sv, h, h'⟩
  · refine .inl fun E w vs hw hv => ?_
    obtain ⟨q1, q2⟩ := h E w vs hw hv
    exact ⟨q1, q2.mono fun e w' ⟨⟨v, E', st', sv, h0, h1, h2, h3, h4, h6⟩⟩ => ⟨v, E', st', sv, h0, h1, h2, h3, h4, hk _ _ h6⟩⟩
  · exact .inr ⟨sv, h, hk _ _ h'⟩
theorem InvOK.mono {P : Program} {r : SV} {name : String} {args : List SV} {s : SS} {K K' : SV → SS → Prop} (h : InvOK P r name args s K) (hk : ∀ sv t, K sv t → K' sv t) : InvOK P r name args s K' := by
  intro E w r vs hw hr hv
  obtain ⟨f, ars, q1, q2⟩ := h E w r vs hw hr hv
  exact ⟨f, ars, q1, q2.mono fun e w' ⟨⟨v, E', st', sv, h0, h1, h2, h3, h4, h6⟩⟩ => ⟨v, E', st', sv, h0, h1, h2, h3, h4, hk _ _ h6⟩⟩

/-- What follows, where the variables are others. -/
def OnFr (s : SS) (fr : List SV) (d : Option Tmp) (K : SS → Prop) (t' : SS) : Prop := ∃ s' v, K s' ∧ s'.fr = (s.put d v).fr ∧ t' = s'.with ((s.with fr).put d v).fr
theorem OnFr.of {s s1 : SS} {fr : List SV} {d : Option Tmp} {v : SV} {K : SS → Prop} (h : K (s1.put d v)) (hs : s1.fr = s.fr) : OnFr s fr d K ((s1.with fr).put d v) := by
  refine ⟨_, v, h, ?_, ?_⟩
  · cases d with
    | none => exact hs
    | some d => simp only [SS.put]; rw [hs]
  · rw [with_put]
    cases d with
    | none => rfl
    | some d => rfl

theorem evAppend_with {Γ : Tab} {s : SS} (fr : List SV) {d : Option Tmp} {t t2 : TypeId} {x y : SV} {K K' : SS → Prop} (hk : ∀ (s1 : SS) (v : SV), s1.fr = s.fr → K (s1.put d v) → K' ((s1.with fr).put d v)) (h : evAppend Γ s d t t2 x y K) : evAppend Γ (s.with fr) d t t2 x y K' := by
  unfold evAppend at h ⊢
  split at h
  · split at h
    · split at h
      · split at h
        · rename_i hc
          refine (if_pos (show _ ∧ tkMem (s.with fr).tk _ = true from hc)).symm ▸ ?_
          obtain ⟨h1, h2, h3, h4, h5, h6⟩ := h
          exact ⟨h1, h2, h3, h4, h5, hk ({ s with tk := s.nx :: tkDel s.tk _, nx := s.nx + 1 }) _ rfl h6⟩
        · exact h.elim
      · obtain ⟨h1, h2, h3, h4, h5, h6⟩ := h
        exact ⟨h1, h2, h3, h4, h5, hk ({ s with tk := s.nx :: s.tk, nx := s.nx + 1 }) _ rfl h6⟩
      · exact h.elim
    · exact h.elim
  · exact h.elim

theorem evAppendX_with {Γ : Tab} {s : SS} (fr : List SV) {d : Option Tmp} {t t2 : TypeId} {x y : SV} {K K' : SS → Prop} (hk : ∀ (s1 : SS) (v : SV), s1.fr = s.fr → K (s1.put d v) → K' ((s1.with fr).put d v)) (h : evAppendX Γ s d t t2 x y K) : evAppendX Γ (s.with fr) d t t2 x y K' := by
  unfold evAppendX at h ⊢
  split at h
  · split at h
    · unfold rowApp at h ⊢
      split at h
      · split at h
        · obtain ⟨r, k, l, m, h1, h2, h3, h4, h5, h6, h7, h8, h9, h10⟩ := h
          exact ⟨r, k, l, m, h1, h2, h3, h4, h5, h6, h7, h8, h9, fun p' c' => hk ({ s with rs := rsSet s.rs r _ }) _ rfl (h10 p' c')⟩
        · obtain ⟨r, k, l, m, h1, h2, h3, h4, h5, h6, h7, h8, h9, h10⟩ := h
          exact ⟨r, k, l, m, h1, h2, h3, h4, h5, h6, h7, h8, h9, fun p' c' => hk ({ s with rs := rsSet s.rs r _ }) _ rfl (h10 p' c')⟩
      · exact h.elim
    · exact h.elim
  · split at h
    · split at h
      · obtain ⟨k, m, h1, h2⟩ := h
        exact ⟨k, m, h1, evAppend_with fr hk h2⟩
      · exact h.elim
    · split at h
      · unfold slAppend at h ⊢
        split at h
        · split at h
          · rename_i hc
            refine (if_pos (show _ ∧ tkMem (s.with fr).tk _ = true from hc)).symm ▸ ?_
            obtain ⟨h1, h2, h3, h4, h5, h6, h7, h8, h9⟩ := h
            exact ⟨h1, h2, h3, h4, h5, h6, h7, h8, hk ({ s with tk := s.nx :: tkDel s.tk _, nx := s.nx + 1 }) _ rfl h9⟩
          · exact h.elim
        · obtain ⟨h1, h2, h3, h4, h5, h6, h7, h9⟩ := h
          exact ⟨h1, h2, h3, h4, h5, h6, h7, hk ({ s with tk := s.nx :: s.tk, nx := s.nx + 1 }) _ rfl h9⟩
        · exact h.elim
      · exact h.elim
    · exact evAppend_with fr hk h
theorem evCopy_with {Γ : Tab} {s : SS} (fr : List SV) {d : Option Tmp} {t : TypeId} {x y : SV} {K K' : SS → Prop} (hk : ∀ (s1 : SS) (v : SV), s1.fr = s.fr → K (s1.put d v) → K' ((s1.with fr).put d v)) (h : evCopy Γ s d t x y K) : evCopy Γ (s.with fr) d t x y K' := by
  unfold evCopy at h ⊢
  split at h
  · split at h
    · unfold rowCopy at h ⊢
      split at h
      · obtain ⟨r, k, p0, c0, l0, i, m, Q, h0, h1, h2, h3, h4, h5, h6⟩ := h
        exact ⟨r, k, p0, c0, l0, i, m, Q, h0, h1, h2, h3, h4, h5, hk ({ s with rs := rsSet s.rs r _ }) _ rfl h6⟩
      · exact h.elim
    · exact h.elim
  · exact h.elim

/-- An operation's effect hangs on its operands alone. -/
theorem evEff_with' {P : Program} {Γ : Tab} {s : SS} {fr : List SV} {o : Oper} {K K' : SS → Prop} (hk : ∀ (s1 : SS) (v : SV), s1.fr = s.fr → K (s1.put o.dst v) → K' ((s1.with fr).put o.dst v)) (h : Agree s (s.with fr) (opsOf o.op)) (hs : evEff P Γ s o K) : evEff P Γ (s.with fr) o K' := by
  have hop : ∀ {x : Operand}, x ∈ opsOf o.op → opd (s.with fr) x = opd s x := fun hx => (h.opd hx).symm
  have hov : ∀ {x : Operand}, x ∈ opsOf o.op → ∀ g, ovc (s.with fr) g x = ovc s g x := fun hx g => (h.ovc hx g).symm
  have hovL : ∀ m : List Operand, (∀ x, x ∈ m → x ∈ opsOf o.op) → ∀ g, ovcL (s.with fr) g m = ovcL s g m := fun m hm g => (h.ovcL g m hm).symm
  have hmap : ∀ ps : Array (Nat × Operand), (∀ x, x ∈ ps.toList.map (·.2) → x ∈ opsOf o.op) → (ps.toList.map fun p => (p.1, opd (s.with fr) p.2)) = ps.toList.map fun p => (p.1, opd s p.2) := fun ps hp => List.map_congr_left fun p hpp => by rw [hop (hp _ (List.mem_map.2 ⟨p, hpp, rfl⟩))]
  unfold evEff at hs ⊢
  generalize ho : o.op = op at *
  cases op with
  | alloc t => exact ⟨hs.1, hs.2.1, hk (s.addBlk _ _) _ rfl hs.2.2⟩
  | makeMap t r =>
    cases r with
    | none => exact hk (s.addBlk _ _) _ rfl hs
    | some r => exact hs.elim
  | mapUpdate t m k v =>
    simp only at hs ⊢
    rw [hop (show m ∈ _ by simp [opsOf]), hop (show k ∈ _ by simp [opsOf]), hop (show v ∈ _ by simp [opsOf]), hov (show m ∈ _ by simp [opsOf]), hov (show k ∈ _ by simp [opsOf]), hov (show v ∈ _ by simp [opsOf])]
    split at hs
    · rename_i n kt et e1 e2
      show (match hfind s.hp n with | some (_, l) => _ | none => False)
      split at hs
      · rename_i T l e3
        obtain ⟨h1, h2, h3, h4, h5, h6, h7⟩ := hs
        rw [e3]
        refine ⟨h1, h2, h3, h4, h5, h6, ?_⟩
        unfold mapPut at h7 ⊢
        split at h7
        · exact hk (s.setBlk _ _) _ rfl h7
        · exact hk (s.setBlk _ _) _ rfl h7
      · exact hs.elim
    · exact hs.elim
  | box t x =>
    simp only at hs ⊢
    rw [hop (show x ∈ _ by simp [opsOf]), hov (show x ∈ _ by simp [opsOf])]
    split at hs
    · exact ⟨hs.1, hs.2.1, hk (s.addBlk _ _) _ rfl hs.2.2⟩
    · exact hs.elim
  | store t ad x =>
    simp only at hs ⊢
    rw [hop (show ad ∈ _ by simp [opsOf]), hop (show x ∈ _ by simp [opsOf]), hov (show ad ∈ _ by simp [opsOf]), hov (show x ∈ _ by simp [opsOf])]
    split at hs
    · rename_i n off ls e1 e2
      show (match hfind s.hp n with | some (_, l) => _ | none => False)
      split at hs
      · rename_i T l e3
        obtain ⟨h1, h2, h3, h4, h5, h6, hT, h7⟩ := hs
        rw [e3]
        exact ⟨h1, h2, h3, h4, h5, h6, hT, hk (s.setBlk _ _) _ rfl h7⟩
      · exact hs.elim
    · show (if (Γ t).size = 1 then _ else _)
      split at hs
      · rename_i hsz
        obtain ⟨h1, h2, h3, r, k, p0, c0, l0, i0, n, h5, h6, h7, h8, h9⟩ := hs
        rw [if_pos hsz]
        exact ⟨h1, h2, h3, r, k, p0, c0, l0, i0, n, h5, h6, h7, h8, hk ({ s with rs := rsSet s.rs r _ }) _ rfl h9⟩
      · rename_i hsz
        obtain ⟨h1, h2, h3, h4, h4', h4'', r, k, p0, c0, i0, h5, h6, h7, h9⟩ := hs
        rw [if_neg hsz]
        exact ⟨h1, h2, h3, h4, h4', h4'', r, k, p0, c0, i0, h5, h6, h7, hk ({ s with rs := rsSet s.rs r _ }) _ rfl h9⟩
    · exact hs.elim
  | load t x =>
    simp only at hs ⊢
    rw [hop (show x ∈ _ by simp [opsOf]), hov (show x ∈ _ by simp [opsOf])]
    split at hs
    · obtain ⟨h1, h2, h3, r, k, p0, c0, l0, i0, h5, h6, h7, h9⟩ := hs
      exact ⟨h1, h2, h3, r, k, p0, c0, l0, i0, h5, h6, h7, hk s _ rfl h9⟩
    · exact hs.elim
  | buildSlice t len parts =>
    simp only at hs ⊢
    rw [hmap parts (fun x hx => by simpa [opsOf] using hx), hovL _ (fun x hx => by simpa [opsOf] using hx)]
    split at hs
    · split at hs
      · split at hs
        · obtain ⟨h1, h2, h3, h4, h5, h6⟩ := hs
          exact ⟨h1, h2, h3, h4, h5, hk (s.addTok) _ rfl h6⟩
        · exact hs.elim
      · split at hs
        · obtain ⟨h1, h2, h3, h4, h6⟩ := hs
          exact ⟨h1, h2, h3, h4, hk (s.addTok) _ rfl h6⟩
        · exact hs.elim
    · exact hs.elim
  | range t x =>
    simp only at hs ⊢
    rw [hop (show x ∈ _ by simp [opsOf]), hov (show x ∈ _ by simp [opsOf])]
    split at hs
    · exact ⟨hs.1, fun b => hk ({ s with rs := (s.nx, RObj b _) :: s.rs, nx := s.nx + 1 }) _ rfl (hs.2 b)⟩
    · rename_i n kt et e1 e2
      show (match hfind s.hp n with | some (_, l) => _ | none => False)
      split at hs
      · rename_i T l e3
        rw [e3]
        exact ⟨hs.1, hs.2.1, hs.2.2.1, hk (s.addBlk _ _) _ rfl hs.2.2.2⟩
      · exact hs.elim
    · exact hs.elim
  | next it isS =>
    cases isS with
    | true => exact hs.elim
    | false =>
      simp only at hs ⊢
      rw [hop (show it ∈ _ by simp [opsOf]), hov (show it ∈ _ by simp [opsOf])]
      split at hs
      · rename_i i e1
        show (match hfind s.hp i with | some (T, .mp n :: .i .i64 c :: seen) => _ | _ => False)
        split at hs
        · rename_i T n c seen e2
          rw [e2]
          show (match hfind s.hp n with | some (T2, l) => _ | none => False)
          split at hs
          · rename_i T2 l e3
            rw [e3]
            obtain ⟨h1, h2, h3, h4, h5, h6, h7⟩ := hs
            refine ⟨h1, h2, h3, h4, h5, h6, ?_⟩
            unfold nextK at h7 ⊢
            cases hc : candL l 0 seen with
            | nil =>
              rw [hc] at h7
              exact hk (s) _ rfl h7
            | cons y ys =>
              rw [hc] at h7
              exact nextAll_mono (fun j k v h => hk (s.setBlk _ _) _ rfl h) h7
          · exact hs.elim
        · exact hs.elim
      · exact hs.elim
  | makeSlice t n c =>
    simp only at hs ⊢
    rw [hop (show n ∈ _ by simp [opsOf]), hop (show c ∈ _ by simp [opsOf]), hov (show n ∈ _ by simp [opsOf]), hov (show c ∈ _ by simp [opsOf])]
    split at hs
    · split at hs
      · split at hs
        · obtain ⟨h1, h2, h3, h4, h5, h6, h9⟩ := hs
          exact ⟨h1, h2, h3, h4, h5, h6, fun b => hk ({ s with rs := (s.nx, RowZ _ _ _ _ _) :: s.rs, nx := s.nx + 1 }) _ rfl (h9 b)⟩
        · exact hs.elim
      · exact hs.elim
    · split at hs
      · split at hs
        · obtain ⟨h1, h2, h3, h4, h5, h6, h7, h8, h9⟩ := hs
          exact ⟨h1, h2, h3, h4, h5, h6, h7, h8, hk (s.addTok) _ rfl h9⟩
        · exact hs.elim
      · exact hs.elim
  | convert S D x =>
    simp only at hs ⊢
    rw [hop (show x ∈ _ by simp [opsOf]), hov (show x ∈ _ by simp [opsOf])]
    split at hs
    · obtain ⟨h1, h2, h3, h4, h6, h5⟩ := hs
      exact ⟨h1, h2, h3, h4, h6, hk (s) _ rfl h5⟩
    · obtain ⟨h1, h2, h3, h5⟩ := hs
      exact ⟨h1, h2, h3, hk (s.addTok) _ rfl h5⟩
    · obtain ⟨h1, h2, m, h3, h5⟩ := hs
      exact ⟨h1, h2, m, h3, hk (s) _ rfl h5⟩
    · exact hs.elim
  | binOp b T x y _ =>
    simp only at hs ⊢
    rw [hop (show x ∈ _ by simp [opsOf]), hop (show y ∈ _ by simp [opsOf]), hov (show x ∈ _ by simp [opsOf]), hov (show y ∈ _ by simp [opsOf])]
    split at hs
    · refine ⟨hs.1, ?_⟩
      have h2 := hs.2
      have nk : ∀ c, nilK K s o.dst c → nilK K' (s.with fr) o.dst c := fun c hc => hk (s) _ rfl hc
      unfold evSliceNil at h2 ⊢
      split at h2
      · exact nk _ h2
      · exact nk _ h2
      · exact fun c hc => nk _ (h2 c hc)
      · exact fun c hc => nk _ (h2 c hc)
      · exact fun c hc => nk _ (h2 c hc)
      · exact fun c hc => nk _ (h2 c hc)
      · exact ⟨fun e => nk _ (h2.1 e), fun e => nk _ (h2.2 e)⟩
      · exact ⟨fun e => nk _ (h2.1 e), fun e => nk _ (h2.2 e)⟩
      · exact h2.elim
    · split at hs
      · split at hs
        · obtain ⟨h1, h2, h3, h5⟩ := hs
          exact ⟨h1, h2, h3, hk (s) _ rfl h5⟩
        · exact hs.elim
      · split at hs
        · obtain ⟨h1, h2, h3, h5⟩ := hs
          exact ⟨h1, h2, h3, hk (s) _ rfl h5⟩
        · exact hs.elim
      · exact hs.elim
    · exact hs.elim
  | call c =>
    simp only at hs ⊢
    have ck : ∀ sv t', (∃ s', callK K o.dst sv s' ∧ s'.fr = s.fr ∧ t' = s'.with fr) → callK K' o.dst sv t' := by
      rintro sv t' ⟨s', h1, h2, rfl⟩
      exact hk (s') _ h2 h1
    have hm : ∀ x, x ∈ c.args.toList → x ∈ opsOf (.call c) := fun x hx => by simp only [opsOf, List.mem_append]; exact .inr hx
    unfold evCall at hs ⊢
    generalize hcal : c.callee = cal at *
    have hopc : ∀ {x : Operand}, x ∈ (match cal with | .value f => [f] | .invoke r _ => [r] | .builtin _ => []) → x ∈ opsOf (.call c) := fun hx => by simp only [opsOf, hcal, List.mem_append]; exact .inl hx
    cases cal with
    | value f =>
      simp only at hs ⊢
      rw [hop (x := f) (hopc (by simp)), hov (x := f) (hopc (by simp)), hovL _ hm, show c.args.toList.map (opd (s.with fr)) = c.args.toList.map (opd s) from (h.map hm).symm]
      split at hs
      · exact ⟨hs.1, hs.2.1, (hs.2.2.with fr).mono ck⟩
      · exact hs.elim
    | invoke r name =>
      simp only at hs ⊢
      rw [hop (x := r) (hopc (by simp)), hov (x := r) (hopc (by simp)), hovL _ hm, show c.args.toList.map (opd (s.with fr)) = c.args.toList.map (opd s) from (h.map hm).symm]
      exact ⟨hs.1, hs.2.1, (hs.2.2.with fr).mono ck⟩
    | builtin b =>
      cases b <;> simp only at hs ⊢ <;> try exact hs.elim
      · split at hs
        · rename_i x y t t2 e1 e2
          have hx : x ∈ opsOf (.call c) := hm x (by rw [e1]; simp)
          have hy : y ∈ opsOf (.call c) := hm y (by rw [e1]; simp)
          rw [hop hx, hop hy, hov hx, hov hy]
          exact ⟨hs.1, hs.2.1, evAppendX_with fr hk hs.2.2⟩
        · exact hs.elim
      · split at hs
        · rename_i x y t t2 e1 e2
          have hx : x ∈ opsOf (.call c) := hm x (by rw [e1]; simp)
          have hy : y ∈ opsOf (.call c) := hm y (by rw [e1]; simp)
          rw [hop hx, hop hy, hov hx, hov hy]
          exact ⟨hs.1, hs.2.1, evCopy_with fr hk hs.2.2⟩
        · exact hs.elim
      · split at hs
        · rename_i x t e1 e2
          have hx : x ∈ opsOf (.call c) := hm x (by rw [e1]; simp)
          split at hs
          · have he : evLenM (s.with fr) true x = evLenM s true x := by
              unfold evLenM
              rw [hop hx, hov hx]
              rfl
            rw [he]
            split at hs
            · exact ⟨hs.1, hk (s) _ rfl hs.2⟩
            · exact hs.elim
          · exact hs.elim
        · exact hs.elim
  | _ => exact hs.elim
theorem evEff_with {P : Program} {Γ : Tab} {s : SS} {fr : List SV} {o : Oper} {K : SS → Prop} (h : Agree s (s.with fr) (opsOf o.op)) (hs : evEff P Γ s o K) : evEff P Γ (s.with fr) o (OnFr s fr o.dst K) :=
  evEff_with' (fun _ _ h2 h1 => OnFr.of h1 h2) h hs
theorem evEff_mono {P : Program} {Γ : Tab} {s : SS} {o : Oper} {K K' : SS → Prop} (hk : ∀ x, K x → K' x) (hs : evEff P Γ s o K) : evEff P Γ s o K' :=
  evEff_with' (fr := s.fr) (fun s1 v h2 h1 => by
    have : s1.with s.fr = s1 := by rw [← h2]; rfl
    rw [this]; exact hk _ h1) (fun _ _ => rfl) hs
theorem evOps_mono1 {P : Program} {Γ : Tab} {s : SS} {l : List Oper} {o : Oper} {K K' : SS → Prop} (hk : ∀ x, K x → K' x) (hs : evOps P Γ l K [o] s) : evOps P Γ l K' [o] s := by
  simp only [evOps] at hs ⊢
  split at hs
  · exact hs.elim
  · split at hs
    · exact ⟨hs.1, hk _ hs.2⟩
    · exact evEff_mono hk hs
  · split at hs
    · exact ⟨hs.1, hk _ hs.2⟩
    · exact ⟨fun e => evEff_mono hk (hs.1 e), fun e => hk _ (hs.2 e)⟩
end Go.Eng
/- The engine, part FD: a region in any order, by a plan: its rule. -/
namespace Go.Eng
open Go
set_option linter.unusedVariables false
set_option linter.unusedSimpArgs false

mutual
/-- A plan: what leaves the world alone is done as soon as may be; of the rest, each that may come next. -/
inductive Sched where
  | done
  | pure (i : Nat) (n : Sched)
  | eff (a : Alts)
inductive Alts where
  | nil
  | cons (i : Nat) (pend : List Nat) (n : Sched) (r : Alts)
end

/-- Loads that may still be to be done tell the same behind an effect. -/
def heldL (P : Program) (Γ : Tab) (l : List Oper) : List Nat → SS → Prop
  | [], _ => True
  | j :: r, s =>
    (match nth l j with
    | some o => (match evalP P Γ s true o.op, o.dst with
      | some (v, vc), some d => vc ∧ v = lget s.fr d
      | _, _ => False)
    | none => False) ∧ heldL P Γ l r s
mutual
def evMix (P : Program) (Γ : Tab) (l : List Oper) (K : SS → Prop) : Sched → SS → Prop
  | .done, s => K s
  | .pure i n, s =>
    match nth l i with
    | none => False
    | some o =>
      match evGuard s l o with
      | .bad => False
      | .run =>
        match evalP P Γ s true o.op with
        | some (v, vc) => vc ∧ evMix P Γ l K n (s.put o.dst v)
        | none => False
      | .when g =>
        match evalP P Γ s g o.op with
        | some (v, vc) => (g = true → vc) ∧ evMix P Γ l K n (s.put o.dst (.cnd g v))
        | none => False
  | .eff a, s => evAlts P Γ l K a s
def evAlts (P : Program) (Γ : Tab) (l : List Oper) (K : SS → Prop) : Alts → SS → Prop
  | .nil, _ => True
  | .cons i p n r, s =>
    (match nth l i with
    | none => False
    | some o => evOps P Γ l (fun s' => heldL P Γ l p s' ∧ evMix P Γ l K n s') [o] s) ∧ evAlts P Γ l K r s
end
/-- What follows an effect. -/
def mixN (P : Program) (Γ : Tab) (l : List Oper) (K : SS → Prop) (p : List Nat) (n : Sched) (s : SS) : Prop := heldL P Γ l p s ∧ evMix P Γ l K n s
theorem mixN_eq {P : Program} {Γ : Tab} {l : List Oper} {K : SS → Prop} {p : List Nat} {n : Sched} {s : SS} : mixN P Γ l K p n s = (heldL P Γ l p s ∧ evMix P Γ l K n s) := rfl
theorem evAlts_cons {P : Program} {Γ : Tab} {l : List Oper} {K : SS → Prop} {i : Nat} {p : List Nat} {n : Sched} {r : Alts} {s : SS} : evAlts P Γ l K (.cons i p n r) s = ((match nth l i with
    | none => False
    | some o => evOps P Γ l (mixN P Γ l K p n) [o] s) ∧ evAlts P Γ l K r s) := by rw [evAlts]; rfl

mutual
theorem evMix_mono {P : Program} {Γ : Tab} {l : List Oper} {K K' : SS → Prop} (hk : ∀ x, K x → K' x) : ∀ (p : Sched) (s : SS), evMix P Γ l K p s → evMix P Γ l K' p s
  | .done, s, h => by simp only [evMix] at h ⊢; exact hk _ h
  | .pure i n, s, h => by
    simp only [evMix] at h ⊢
    split at h
    · exact h.elim
    · split at h
      · exact h.elim
      · split at h
        · exact ⟨h.1, evMix_mono hk n _ h.2⟩
        · exact h.elim
      · split at h
        · exact ⟨h.1, evMix_mono hk n _ h.2⟩
        · exact h.elim
  | .eff a, s, h => by simp only [evMix] at h ⊢; exact evAlts_mono hk a s h
theorem evAlts_mono {P : Program} {Γ : Tab} {l : List Oper} {K K' : SS → Prop} (hk : ∀ x, K x → K' x) : ∀ (a : Alts) (s : SS), evAlts P Γ l K a s → evAlts P Γ l K' a s
  | .nil, s, _ => by simp only [evAlts]
  | .cons i p n r, s, h => by
    simp only [evAlts] at h ⊢
    refine ⟨?_, evAlts_mono hk r s h.2⟩
    have h1 := h.1
    split at h1
    · exact h1.elim
    · exact evOps_mono1 (fun x hx => ⟨hx.1, evMix_mono hk n x hx.2⟩) h1
end

def stillB : Op → Bool
  | .move _ => true
  | .assign _ => true
  | .pick _ _ _ => true
  | .nilCheck _ => true
  | .fieldAddr _ _ _ => true
  | .indexAddr _ _ _ => true
  | .load _ _ => true
  | .lookup _ _ _ _ => true
  | .typeAssert _ _ _ _ => true
  | .binOp _ _ _ _ _ => true
  | .unOp _ _ _ => true
  | .convert _ _ _ => true
  | .makeInterface _ _ => true
  | .makeFunc _ _ _ => true
  | .extract _ _ => true
  | .field _ _ _ => true
  | .index _ _ _ => true
  | .slice _ _ _ _ _ => true
  | .build _ _ => true
  | .call c => (match c.callee with | .builtin .append => false | .builtin _ => true | _ => false)
  | _ => false

def afterB (o : Oper) : List Nat := (o.after.toList.filter fun e => Region.binds .any e).map (·.on)
def readyB (l : List Oper) (L : List Nat) (i : Nat) : Bool := match nth l i with | some o => (afterB o).all fun j => L.contains j | none => false
/-- For each operation those that go ahead of it, through others too. -/
def ancL : List Oper → List (List Nat) → List (List Nat)
  | [], acc => acc
  | o :: r, acc => ancL r (acc ++ [((afterB o).map fun j => j :: (nth acc j).getD []).flatten.eraseDups])
def anc (l : List Oper) : List (List Nat) := ancL l []
def tmpOf : Operand → Option Nat
  | .tmp t => some t
  | _ => none
/-- The slots that an operation reads, its guard's among them. -/
def readsOf (l : List Oper) (o : Oper) : List Nat :=
  (opsOf o.op).filterMap tmpOf ++ (match o.guard with | none => [] | some (j, _) => (match nth l j with | some oj => oj.dst.toList | none => []))
/-- Who writes a slot. -/
def writers (l : List Oper) (d : Nat) : List Nat := (List.range l.length).filter fun j => match nth l j with | some o => o.dst == some d | none => false
/-- Each slot that an operation reads is written ahead of it, or behind it; a load's is not written behind it. -/
def readsB (l : List Oper) (A : List (List Nat)) (i : Nat) : Bool :=
  match nth l i with
  | none => false
  | some o => (readsOf l o).all fun d => (writers l d).all fun j => ((nth A i).getD []).contains j || (!loadB o.op && ((nth A j).getD []).contains i)
def dstB (l : List Oper) (n : Nat) : Bool := (List.range l.length).all fun i => match nth l i with | some o => (match o.dst with | some d => (writers l d) == [i] && decide (d < n) | none => true) | none => false

def altHeads : Alts → List Nat
  | .nil => []
  | .cons i _ _ r => i :: altHeads r
def todo (l : List Oper) (L : List Nat) : List Nat := (List.range l.length).filter fun i => !L.contains i && readyB l L i
mutual
def okS (l : List Oper) (A : List (List Nat)) : Sched → List Nat → List Nat → Bool
  | .done, L, _ => (List.range l.length).all fun i => L.contains i
  | .pure i n, L, X => decide (i < l.length) && !L.contains i && readyB l L i && (match nth l i with | some o => stillB o.op && o.dst.isSome | none => false) && okS l A n (i :: L) X
  | .eff a, L, X => ((List.range l.length).any fun i => !L.contains i) && ((todo l L).all fun i => (altHeads a).contains i) && okA l A a L X
def okA (l : List Oper) (A : List (List Nat)) : Alts → List Nat → List Nat → Bool
  | .nil, _, _ => true
  | .cons i p n r, L, X => decide (i < l.length) && !L.contains i && readyB l L i && (L.all fun j => (match nth l j with | some o => !loadB o.op | none => false) || p.contains j || ((nth A i).getD []).contains j || X.contains j) && (p.all fun j => match nth l j with | some o => o.guard.isNone | none => false) && okS l A n (i :: L) (i :: X) && okA l A r L X
end
def planB (l : List Oper) (n : Nat) (p : Sched) : Bool := backB l && dstB l n && ((List.range l.length).all fun i => readsB l (anc l) i) && okS l (anc l) p [] []
end Go.Eng
/- The engine, part FE: a region in any order, by a plan: that the rule holds. -/
namespace Go.Eng
open Go
set_option linter.unusedVariables false
set_option linter.unusedSimpArgs false

theorem lget_lset : ∀ (fr : List SV) (d k : Nat) (v : SV), lget (lset fr d v) k = if k = d ∧ d < fr.length then v else lget fr k
  | [], d, k, v => by simp [lset]
  | x :: r, 0, 0, v => by simp [lset, lget]
  | x :: r, 0, k + 1, v => by simp [lset, lget]
  | x :: r, d + 1, 0, v => by simp [lset, lget]
  | x :: r, d + 1, k + 1, v => by simp only [lset, lget, lget_lset r d k v]; simp
theorem lset_length : ∀ (fr : List SV) (d : Nat) (v : SV), (lset fr d v).length = fr.length
  | [], d, v => rfl
  | x :: r, 0, v => rfl
  | x :: r, d + 1, v => by simp only [lset, List.length_cons, lset_length r d v]
theorem lget_ext : ∀ (a b : List SV), a.length = b.length → (∀ k, lget a k = lget b k) → a = b
  | [], [], _, _ => rfl
  | x :: xs, y :: ys, h, e => by
    have h0 := e 0
    simp only [lget] at h0
    rw [h0, lget_ext xs ys (by simpa using h) fun k => by simpa only [lget] using e (k + 1)]
  | [], _ :: _, h, _ => by simp at h
  | _ :: _, [], h, _ => by simp at h

theorem evGuard_congr {s t : SS} {l : List Oper} {o : Oper} (h : ∀ d, d ∈ readsOf l o → lget s.fr d = lget t.fr d) : evGuard s l o = evGuard t l o := by
  unfold evGuard
  cases hg : o.guard with
  | none => rfl
  | some p =>
    obtain ⟨j, want⟩ := p
    simp only
    cases hj : nth l j with
    | none => rfl
    | some oj =>
      simp only
      cases hd : oj.dst with
      | none => rfl
      | some d =>
        simp only
        rw [h d (by unfold readsOf; simp [hg, hj, hd])]
theorem reads_agree {s t : SS} {l : List Oper} {o : Oper} (h : ∀ d, d ∈ readsOf l o → lget s.fr d = lget t.fr d) : Agree s t (opsOf o.op) := by
  intro x hx
  cases x with
  | tmp k =>
    simp only [SS.eval]
    refine h k ?_
    unfold readsOf
    rw [List.mem_append, List.mem_filterMap]
    exact .inl ⟨_, hx, rfl⟩
  | const v => rfl
  | global g => rfl
  | func f => rfl

/-- One operation, the variables that it does not read being others. -/
theorem evOps_with {P : Program} {Γ : Tab} {s : SS} {fr : List SV} {l : List Oper} {o : Oper} {K : SS → Prop} (h : ∀ d, d ∈ readsOf l o → lget s.fr d = lget fr d) (hs : evOps P Γ l K [o] s) : evOps P Γ l (OnFr s fr o.dst K) [o] (s.with fr) := by
  have ha : Agree s (s.with fr) (opsOf o.op) := reads_agree (t := s.with fr) h
  simp only [evOps] at hs ⊢
  rw [← evGuard_congr (s := s) (t := s.with fr) h]
  split at hs
  · exact hs.elim
  · rw [← evalP_congr (s := s) (t := s.with fr) ha (fun _ => rfl)]
    split at hs
    · exact ⟨hs.1, OnFr.of (s1 := s) hs.2 rfl⟩
    · exact evEff_with ha hs
  · rename_i g hg
    rw [← evalP_congr (s := s) (t := s.with fr) ha (fun _ => rfl)]
    split at hs
    · exact ⟨hs.1, OnFr.of (s1 := s) hs.2 rfl⟩
    · exact ⟨fun e => evEff_with ha (hs.1 e), fun e => OnFr.of (s1 := s) (hs.2 e) rfl⟩

/-- What an operation comes to. -/
def Evals (P : Program) (Γ : Tab) (l : List Oper) (st : SS) (o : Oper) (v : SV) : Prop :=
  match evGuard st l o with
  | .bad => False
  | .run => ∃ vc, evalP P Γ st true o.op = some (v, vc) ∧ vc
  | .when g => ∃ v' vc, evalP P Γ st g o.op = some (v', vc) ∧ (g = true → vc) ∧ v = .cnd g v'

open Classical in
/-- What stands in a slot, where those of S are done. -/
noncomputable def slotV (l : List Oper) (fr0 : List SV) (val : Nat → SV) (S : Nat → Prop) (k : Nat) : SV :=
  if h : ∃ j o, nth l j = some o ∧ o.dst = some k ∧ S j then val (Classical.choose h) else lget fr0 k

theorem mem_writers {l : List Oper} {d j : Nat} : j ∈ writers l d ↔ ∃ o, nth l j = some o ∧ o.dst = some d := by
  unfold writers
  rw [List.mem_filter, List.mem_range]
  constructor
  · rintro ⟨h1, h2⟩
    split at h2
    · rename_i o e; exact ⟨o, e, by simpa using h2⟩
    · cases h2
  · rintro ⟨o, e, hd⟩
    refine ⟨?_, by rw [e]; simpa using hd⟩
    rw [nth_eq] at e
    exact (List.getElem?_eq_some_iff.1 e).1

structure PlanOK (l : List Oper) (n : Nat) : Prop where
  back : backB l = true
  dst : ∀ i o d, nth l i = some o → o.dst = some d → d < n ∧ ∀ j oj, nth l j = some oj → oj.dst = some d → j = i
  reads : ∀ i o d, nth l i = some o → d ∈ readsOf l o → ∀ j oj, nth l j = some oj → oj.dst = some d → j ∈ (nth (anc l) i).getD [] ∨ (loadB o.op = false ∧ i ∈ (nth (anc l) j).getD [])

theorem nth_lt {α : Type} {l : List α} {i : Nat} {x : α} (h : nth l i = some x) : i < l.length := by
  rw [nth_eq] at h; exact (List.getElem?_eq_some_iff.1 h).1
theorem nth_some {α : Type} {l : List α} {i : Nat} (h : i < l.length) : ∃ x, nth l i = some x := ⟨l[i], by rw [nth_eq]; exact List.getElem?_eq_getElem h⟩

theorem planB_ok {l : List Oper} {n : Nat} {p : Sched} (h : planB l n p = true) : PlanOK l n ∧ okS l (anc l) p [] [] = true := by
  unfold planB at h
  simp only [Bool.and_eq_true, List.all_eq_true, List.mem_range] at h
  obtain ⟨⟨⟨h1, h2⟩, h3⟩, h4⟩ := h
  refine ⟨⟨h1, fun i o d e hd => ?_, fun i o d e hd j oj ej hj => ?_⟩, h4⟩
  · unfold dstB at h2
    simp only [List.all_eq_true, List.mem_range] at h2
    have := h2 i (nth_lt e)
    simp only [e, hd, Bool.and_eq_true, decide_eq_true_eq, beq_iff_eq] at this
    refine ⟨this.2, fun j oj ej hj => ?_⟩
    have hm : j ∈ writers l d := mem_writers.2 ⟨oj, ej, hj⟩
    rw [this.1] at hm
    simpa using hm
  · have := h3 i (nth_lt e)
    unfold readsB at this
    simp only [e, List.all_eq_true] at this
    have := this d hd j (mem_writers.2 ⟨oj, ej, hj⟩)
    simp only [Bool.or_eq_true, Bool.and_eq_true, List.contains_iff_mem, Bool.not_eq_true'] at this
    exact this

theorem slotV_in {l : List Oper} {n : Nat} (hp : PlanOK l n) {fr0 : List SV} {val : Nat → SV} {S : Nat → Prop} {k j : Nat} {o : Oper} (e : nth l j = some o) (hd : o.dst = some k) (hS : S j) : slotV l fr0 val S k = val j := by
  have h : ∃ j o, nth l j = some o ∧ o.dst = some k ∧ S j := ⟨j, o, e, hd, hS⟩
  unfold slotV
  rw [dif_pos h]
  obtain ⟨o', h1, h2, h3⟩ := Classical.choose_spec h
  rw [(hp.dst j o k e hd).2 _ o' h1 h2]
theorem slotV_out {l : List Oper} {fr0 : List SV} {val : Nat → SV} {S : Nat → Prop} {k : Nat} (h : ∀ j o, nth l j = some o → o.dst = some k → ¬ S j) : slotV l fr0 val S k = lget fr0 k := by
  unfold slotV
  rw [dif_neg]
  rintro ⟨j, o, h1, h2, h3⟩
  exact h j o h1 h2 h3
theorem slotV_congr {l : List Oper} {n : Nat} (hp : PlanOK l n) {fr0 : List SV} {val val' : Nat → SV} {S S' : Nat → Prop} {k : Nat} (h : ∀ j o, nth l j = some o → o.dst = some k → (S j ↔ S' j) ∧ (S j → val j = val' j)) : slotV l fr0 val S k = slotV l fr0 val' S' k := by
  by_cases hx : ∃ j o, nth l j = some o ∧ o.dst = some k ∧ S j
  · obtain ⟨j, o, h1, h2, h3⟩ := hx
    rw [slotV_in hp h1 h2 h3, slotV_in hp h1 h2 ((h j o h1 h2).1.1 h3), (h j o h1 h2).2 h3]
  · rw [slotV_out (fun j o h1 h2 h3 => hx ⟨j, o, h1, h2, h3⟩), slotV_out (fun j o h1 h2 h3 => hx ⟨j, o, h1, h2, (h j o h1 h2).1.2 h3⟩)]

theorem ancL_app : ∀ (r : List Oper) (acc : List (List Nat)), ∃ rest, ancL r acc = acc ++ rest
  | [], acc => ⟨[], by simp [ancL]⟩
  | o :: r, acc => by
    obtain ⟨rest, h⟩ := ancL_app r (acc ++ [((afterB o).map fun j => j :: (nth acc j).getD []).flatten.eraseDups])
    exact ⟨[((afterB o).map fun j => j :: (nth acc j).getD []).flatten.eraseDups] ++ rest, by rw [ancL, h, List.append_assoc]⟩
theorem nth_app_left {α : Type} {a b : List α} {i : Nat} {x : α} (h : nth a i = some x) : nth (a ++ b) i = some x := by
  rw [nth_eq] at h ⊢
  rw [List.getElem?_append_left (List.getElem?_eq_some_iff.1 h).1]; exact h
theorem ancL_spec : ∀ (r : List Oper) (acc : List (List Nat)) (i : Nat) (o : Oper), nth r i = some o → ∀ j, j ∈ (nth (ancL r acc) (acc.length + i)).getD [] → ∃ d, d ∈ afterB o ∧ (j = d ∨ (d < acc.length + i ∧ j ∈ (nth (ancL r acc) d).getD []))
  | [], acc, i, o, h, j, hj => by simp [nth] at h
  | o' :: r, acc, 0, o, h, j, hj => by
    simp only [nth, Option.some.injEq] at h
    subst h
    obtain ⟨rest, hr⟩ := ancL_app r (acc ++ [((afterB o').map fun j => j :: (nth acc j).getD []).flatten.eraseDups])
    rw [ancL, hr] at hj ⊢
    rw [nth_eq, Nat.add_zero, List.append_assoc, List.getElem?_append_right (Nat.le_refl _)] at hj
    simp only [Nat.sub_self, List.cons_append, List.nil_append, List.getElem?_cons_zero, Option.getD_some, List.mem_eraseDups, List.mem_flatten, List.mem_map] at hj
    obtain ⟨m, ⟨d, hd, rfl⟩, hm⟩ := hj
    refine ⟨d, hd, ?_⟩
    rcases List.mem_cons.1 hm with h | h
    · exact .inl h
    · right
      cases hn : nth acc d with
      | none => rw [hn] at h; simp at h
      | some ars =>
        refine ⟨by have := nth_lt hn; omega, ?_⟩
        rw [List.append_assoc, nth_app_left hn]
        rw [hn] at h; exact h
  | o' :: r, acc, i + 1, o, h, j, hj => by
    simp only [nth] at h
    have hl : (acc ++ [((afterB o').map fun j => j :: (nth acc j).getD []).flatten.eraseDups]).length + i = acc.length + (i + 1) := by simp; omega
    have := ancL_spec r (acc ++ [((afterB o').map fun j => j :: (nth acc j).getD []).flatten.eraseDups]) i o h j (by rw [hl]; exact hj)
    rw [hl] at this
    exact this
/-- A set that holds with each operation what goes ahead of it holds all that goes ahead through others. -/
theorem anc_closed {l : List Oper} {S : Nat → Prop} (hS : ∀ j oj, nth l j = some oj → S j → ∀ d, d ∈ afterB oj → S d) : ∀ (i : Nat) (o : Oper), nth l i = some o → (∀ d, d ∈ afterB o → S d) → ∀ j, j ∈ (nth (anc l) i).getD [] → S j := by
  intro i
  induction i using Nat.strongRecOn with
  | ind i ih =>
    intro o ho h j hj
    obtain ⟨d, h1, h2⟩ := ancL_spec l [] i o ho j (by simpa [anc] using hj)
    rcases h2 with rfl | ⟨h2, h3⟩
    · exact h _ h1
    · have hlt : d < i := by simpa using h2
      obtain ⟨od, hod⟩ := nth_some (l := l) (i := d) (by have := nth_lt ho; omega)
      exact ih d hlt od hod (hS d od hod (h d h1)) j h3

theorem mem_afterB {o : Oper} {d : Nat} : d ∈ afterB o ↔ ∃ e, e ∈ o.after.toList ∧ Region.binds .any e = true ∧ e.on = d := by
  unfold afterB
  simp only [List.mem_map, List.mem_filter, and_assoc]

/-- Where a walk by the plan stands. -/
structure Stand (P : Program) (Γ : Tab) (l : List Oper) (n : Nat) (fr0 : List SV) (K : SS → Prop) (D : Nat → Bool) (t : SS) (L X : List Nat) (p : Sched) (s : SS) (val : Nat → SV) : Prop where
  sub : ∀ j, D j = true → j < l.length → j ∈ L
  lt : ∀ j, j ∈ L → j < l.length
  ok : okS l (anc l) p L X = true
  xs : ∀ j, j ∈ X → D j = true
  ev : evMix P Γ l K p s
  eq : t = s.with t.fr
  ls : s.fr.length = n
  lt' : t.fr.length = n
  fs : ∀ k, lget s.fr k = slotV l fr0 val (· ∈ L) k
  ft : ∀ k, lget t.fr k = slotV l fr0 val (fun j => D j = true) k
  cl : ∀ j oj, nth l j = some oj → j ∈ L → ∀ d, d ∈ afterB oj → d ∈ L
  pd : ∀ j o, nth l j = some o → j ∈ L → D j = false → ∃ st0 : SS, o.dst.isSome = true ∧ (∀ d, d ∈ readsOf l o → lget st0.fr d = slotV l fr0 val (· ∈ (nth (anc l) j).getD []) d) ∧ (loadB o.op = true → st0.hp = s.hp) ∧ Evals P Γ l st0 o (val j)

theorem put_fr {s : SS} {d : Nat} {v : SV} : (s.put (some d) v).fr = lset s.fr d v := rfl

/-- What leaves the world alone is done at once. -/
theorem eager {P : Program} {Γ : Tab} {l : List Oper} {n : Nat} (hp : PlanOK l n) {fr0 : List SV} {K : SS → Prop} {D : Nat → Bool} {t : SS} (hD : ∀ j, D j = true → j < l.length) : ∀ (p : Sched) (L X : List Nat) (s : SS) (val : Nat → SV), Stand P Γ l n fr0 K D t L X p s val →
    ∃ L' p' s' val', Stand P Γ l n fr0 K D t L' X p' s' val' ∧ (p' = .done ∨ ∃ a, p' = .eff a)
  | .done, L, X, s, val, h => ⟨L, _, s, val, h, .inl rfl⟩
  | .eff a, L, X, s, val, h => ⟨L, _, s, val, h, .inr ⟨a, rfl⟩⟩
  | .pure i q, L, X, s, val, h => by
    have hok := h.ok
    simp only [okS, Bool.and_eq_true, decide_eq_true_eq, Bool.not_eq_true', List.contains_eq_mem, decide_eq_false_iff_not] at hok
    obtain ⟨⟨⟨⟨h1, h2⟩, h3⟩, h4⟩, h5⟩ := hok
    obtain ⟨o, ho⟩ := nth_some h1
    simp only [ho, Bool.and_eq_true] at h4
    obtain ⟨d, hd⟩ := Option.isSome_iff_exists.1 h4.2
    have hrd : ∀ e, e ∈ afterB o → e ∈ L := by
      unfold readyB at h3
      simp only [ho, List.all_eq_true, List.contains_iff_mem] at h3
      exact h3
    have hanc : ∀ j, j ∈ (nth (anc l) i).getD [] → j ∈ L := anc_closed (S := (· ∈ L)) h.cl i o ho hrd
    have hnot : ∀ j oj, nth l j = some oj → i ∈ (nth (anc l) j).getD [] → j ∉ L := fun j oj hj hi hL =>
      h2 (anc_closed (S := (· ∈ L)) h.cl j oj hj (h.cl j oj hj hL) i hi)
    have hDi : D i = false := by
      cases hDi : D i with
      | false => rfl
      | true => exact absurd (h.sub i hDi h1) h2
    obtain ⟨hdn, huniq⟩ := hp.dst i o d ho hd
    have main : ∀ v, Evals P Γ l s o v → evMix P Γ l K q (s.put o.dst v) → ∃ L' p' s' val', Stand P Γ l n fr0 K D t L' X p' s' val' ∧ (p' = .done ∨ ∃ a, p' = .eff a) := by
      intro v hv hq
      have hold : ∀ (S : Nat → Prop) k, ¬ S i → slotV l fr0 (upd val i v) S k = slotV l fr0 val S k := fun S k hS => slotV_congr hp fun j oj _ _ => ⟨Iff.rfl, fun hj => upd_ne (by rintro rfl; exact hS hj)⟩
      refine eager hp hD q (i :: L) X (s.put o.dst v) (upd val i v) ⟨fun j hj hl => List.mem_cons_of_mem _ (h.sub j hj hl), fun j hj => ?_, h5, h.xs, hq, ?_, ?_, h.lt', fun k => ?_, fun k => ?_, fun j oj hj hL e he => ?_, fun j oj hj hL hDj => ?_⟩
      · rcases List.mem_cons.1 hj with rfl | hj
        · exact h1
        · exact h.lt j hj
      · rw [hd]; have := h.eq; rw [this]; rfl
      · rw [hd, put_fr, lset_length]; exact h.ls
      · rw [hd, put_fr, lget_lset, h.ls]
        by_cases hk : k = d
        · subst hk
          rw [if_pos ⟨rfl, hdn⟩, slotV_in hp ho hd (by simp), upd_same]
        · rw [if_neg (by rintro ⟨e, _⟩; exact hk e), h.fs k]
          refine slotV_congr hp fun j oj hj hjd => ?_
          have hne : j ≠ i := by rintro rfl; rw [ho] at hj; injection hj with hj; rw [← hj, hd] at hjd; injection hjd with hjd; exact hk hjd.symm
          exact ⟨by simp [hne], fun _ => (upd_ne hne).symm⟩
      · rw [h.ft k]; exact (hold _ k (by rw [hDi]; simp)).symm
      · rcases List.mem_cons.1 hL with rfl | hL
        · rw [ho] at hj; injection hj with hj; subst hj; exact List.mem_cons_of_mem _ (hrd e he)
        · exact List.mem_cons_of_mem _ (h.cl j oj hj hL e he)
      · rcases List.mem_cons.1 hL with rfl | hL2
        · rw [ho] at hj
          injection hj with hj
          subst hj
          refine ⟨s, h4.2, fun e he => ?_, fun _ => by rw [hd]; rfl, by rw [upd_same]; exact hv⟩
          rw [h.fs e]
          refine slotV_congr hp fun w ow hw hwd => ?_
          rcases hp.reads j o e ho he w ow hw hwd with hr | ⟨_, hr⟩
          · exact ⟨⟨fun _ => hr, fun _ => hanc w hr⟩, fun hwL => (upd_ne (by rintro rfl; exact h2 hwL)).symm⟩
          · have hwL := hnot w ow hw hr
            exact ⟨⟨fun hx => absurd hx hwL, fun hx => absurd (hanc w hx) hwL⟩, fun hx => absurd hx hwL⟩
        · obtain ⟨st0, q0, q1, q2, q3⟩ := h.pd j oj hj hL2 hDj
          refine ⟨st0, q0, fun e he => ?_, fun hx => by rw [q2 hx, hd]; rfl, by rw [upd_ne (by rintro rfl; exact h2 hL2)]; exact q3⟩
          rw [q1 e he]
          exact (hold _ e (fun hi => hnot j oj hj hi hL2)).symm
    have hev := h.ev
    simp only [evMix, ho] at hev
    split at hev
    · exact hev.elim
    · rename_i hg
      split at hev
      · rename_i v vc he
        exact main v (by unfold Evals; rw [hg]; exact ⟨vc, he, hev.1⟩) hev.2
      · exact hev.elim
    · rename_i g hg
      split at hev
      · rename_i v vc he
        exact main (.cnd g v) (by unfold Evals; rw [hg]; exact ⟨v, vc, he, hev.1, rfl⟩) hev.2
      · exact hev.elim

theorem eagerX {P : Program} {Γ : Tab} {l : List Oper} {n : Nat} (hp : PlanOK l n) {fr0 : List SV} {K : SS → Prop} {D : Nat → Bool} {t : SS} (hD : ∀ j, D j = true → j < l.length) (p : Sched) (L X : List Nat) (s : SS) (val : Nat → SV) (h : Stand P Γ l n fr0 K D t L X p s val) :
    ∃ L' X' p' s' val', Stand P Γ l n fr0 K D t L' X' p' s' val' ∧ (p' = .done ∨ ∃ a, p' = .eff a) :=
  let ⟨L', p', s', val', h1, h2⟩ := eager hp hD p L X s val h
  ⟨L', X, p', s', val', h1, h2⟩
theorem alts_mem {P : Program} {Γ : Tab} {l : List Oper} {K : SS → Prop} {L X : List Nat} {s : SS} {i : Nat} : ∀ (a : Alts), i ∈ altHeads a → okA l (anc l) a L X = true → evAlts P Γ l K a s →
    ∃ pd q o, nth l i = some o ∧ evOps P Γ l (fun s' => heldL P Γ l pd s' ∧ evMix P Γ l K q s') [o] s ∧ i ∉ L ∧ okS l (anc l) q (i :: L) (i :: X) = true ∧
      (∀ j, j ∈ L → ∀ oj, nth l j = some oj → loadB oj.op = true → (j ∈ pd ∨ j ∈ (nth (anc l) i).getD []) ∨ j ∈ X) ∧ (∀ j, j ∈ pd → ∀ oj, nth l j = some oj → oj.guard = none)
  | .nil, hi, _, _ => by simp [altHeads] at hi
  | .cons i' pd q r, hi, hok, hev => by
    simp only [okA, Bool.and_eq_true, decide_eq_true_eq, Bool.not_eq_true', List.contains_eq_mem, decide_eq_false_iff_not, List.all_eq_true, Bool.or_eq_true] at hok
    obtain ⟨⟨⟨⟨⟨⟨h1, h2⟩, h3⟩, h4⟩, h5⟩, h6⟩, h7⟩ := hok
    simp only [evAlts] at hev
    simp only [altHeads] at hi
    by_cases e : i = i'
    · subst e
      obtain ⟨o, ho⟩ := nth_some h1
      have := hev.1
      simp only [ho] at this
      refine ⟨pd, q, o, ho, this, h2, h6, fun j hj oj ej hl => ?_, fun j hj oj ej => ?_⟩
      · have := h4 j hj
        simp only [ej, hl, Bool.not_true, Bool.false_eq_true, false_or, decide_eq_true_eq] at this
        exact this
      · have := h5 j hj
        simp only [ej] at this
        simpa using this
    · exact alts_mem r (by simpa [e] using hi) h7 hev.2

theorem heldL_mem {P : Program} {Γ : Tab} {l : List Oper} {s : SS} {j : Nat} : ∀ (pd : List Nat), j ∈ pd → heldL P Γ l pd s → ∃ o v vc d, nth l j = some o ∧ evalP P Γ s true o.op = some (v, vc) ∧ o.dst = some d ∧ vc ∧ v = lget s.fr d
  | [], hj, _ => by simp at hj
  | i :: r, hj, h => by
    simp only [heldL] at h
    by_cases e : j = i
    · subst e
      have := h.1
      split at this
      · rename_i o ho
        split at this
        · rename_i v vc d h1 h2; exact ⟨o, v, vc, d, ho, h1, h2, this.1, this.2⟩
        · exact this.elim
      · exact this.elim
    · exact heldL_mem r (by simpa [e] using hj) h.2

/-- A region in any order, by a plan. -/
theorem region_plan' {P : Program} {Γ : Tab} {B : Ctx} (hrd : B.rd = none) (hΓ : Γ.ok P) (hm : P.follows .mixedOrders = true) {id : Nat} {l : List Oper} {s : SS} {K : Ex → SS → Prop} (p : Sched) (n : Nat) (hn : s.fr.length = n) (hB : planB l n p = true)
    (h : evMix P Γ l (doneK (K .normal)) p s) : CodeOK P B (.region id l.toArray true) s K := by
  obtain ⟨hp, hok⟩ := planB_ok hB
  refine region_any' hrd hΓ hm hp.back (fun D t => ∃ L X q s' val, (Stand P Γ l n s.fr (doneK (K .normal)) (fun j => D j && decide (j < l.length)) t L X q s' val) ∧ (q = .done ∨ ∃ a, q = .eff a)) ⟨s, Sub.refl s, ?_⟩ ?_ ?_
  · refine eagerX hp (fun j hj => by simp at hj) p [] [] s (fun _ => .any) ⟨fun j hj => by simp at hj, fun j hj => by simp at hj, hok, fun j hj => by simp at hj, h, rfl, hn, hn, fun k => (slotV_out fun j o _ _ hS => by simp at hS).symm, fun k => (slotV_out fun j o _ _ hS => by simp at hS).symm, fun j oj _ hj => by simp at hj, fun j o _ hj => by simp at hj⟩
  · rintro D i o t ⟨L, X, q, s', val, hst, hq⟩ ho hDi hah hcl
    have ho' : nth l i = some o := by rw [nth_eq]; exact ho
    have hil := nth_lt ho'
    let D1 : Nat → Bool := fun j => D j && decide (j < l.length)
    have hD1 : ∀ j, j < l.length → D1 j = D j := fun j hj => by simp [D1, hj]
    have hback := hp.back
    have haftlt : ∀ j oj, nth l j = some oj → ∀ d, d ∈ afterB oj → d < l.length := by
      intro j oj hj d hd
      obtain ⟨e, he, hbd, rfl⟩ := mem_afterB.1 hd
      unfold backB at hback
      rw [List.all_eq_true] at hback
      have hjl := nth_lt hj
      have := hback j (List.mem_range.2 hjl)
      rw [nth_eq] at hj
      rw [hj] at this
      simp only [List.all_eq_true, Bool.or_eq_true, Bool.not_eq_true', decide_eq_true_eq] at this
      have := (this e he).resolve_left (by rw [hbd]; simp)
      omega
    have hclD : ∀ j oj, nth l j = some oj → D1 j = true → ∀ d, d ∈ afterB oj → D1 d = true := by
      intro j oj hj hDj d hd
      have hjl := nth_lt hj
      rw [hD1 j hjl] at hDj
      rw [hD1 d (haftlt j oj hj d hd)]
      obtain ⟨e, he, hb, rfl⟩ := mem_afterB.1 hd
      exact hcl j oj (by rw [← nth_eq]; exact hj) hDj e he hb
    have hahD : ∀ d, d ∈ afterB o → D1 d = true := by
      intro d hd
      rw [hD1 d (haftlt i o ho' d hd)]
      obtain ⟨e, he, hb, rfl⟩ := mem_afterB.1 hd
      exact hah e he hb
    have hancD : ∀ j, j ∈ (nth (anc l) i).getD [] → D1 j = true := anc_closed (S := fun j => D1 j = true) hclD i o ho' hahD
    have hnotD : ∀ j oj, nth l j = some oj → i ∈ (nth (anc l) j).getD [] → D1 j = false := fun j oj hj hi => by
      cases hx : D1 j with
      | false => rfl
      | true =>
        have := anc_closed (S := fun j => D1 j = true) hclD j oj hj (hclD j oj hj hx) i hi
        rw [hD1 i hil, hDi] at this
        cases this
    have hDi1 : D1 i = false := by rw [hD1 i hil]; exact hDi
    have hD2 : (fun j => (if j = i then true else D j) && decide (j < l.length)) = fun j => if j = i then true else D1 j := by
      funext j
      by_cases hj : j = i
      · subst hj; simp [hil]
      · simp [hj, D1]
    have hD2lt : ∀ j, (if j = i then true else D1 j) = true → j < l.length := fun j hj => by
      by_cases e : j = i
      · subst e; exact hil
      · rw [if_neg e] at hj; simp only [D1, Bool.and_eq_true, decide_eq_true_eq] at hj; exact hj.2
    by_cases hiL : i ∈ L
    · -- it has been foreseen
      obtain ⟨st0, q0, q1, q2, q3⟩ := hst.pd i o ho' hiL hDi1
      obtain ⟨d, hd⟩ := Option.isSome_iff_exists.1 q0
      obtain ⟨hdn, huniq⟩ := hp.dst i o d ho' hd
      have hag : ∀ e, e ∈ readsOf l o → lget st0.fr e = lget t.fr e := fun e he => by
        rw [q1 e he, hst.ft e]
        refine slotV_congr hp fun w ow hw hwd => ?_
        refine ⟨⟨fun hx => hancD w hx, fun hx => ?_⟩, fun _ => rfl⟩
        rcases hp.reads i o e ho' he w ow hw hwd with hr | ⟨_, hr⟩
        · exact hr
        · have := hnotD w ow hw hr
          have hx' : D1 w = true := hx
          rw [this] at hx'; cases hx'
      have hhp : loadB o.op = true → st0.hp = t.hp := fun hx => by rw [q2 hx, hst.eq]; rfl
      have fin : ∀ v, v = val i → doneK (fun t => ∃ L X q s' val, (Stand P Γ l n s.fr (doneK (K .normal)) (fun j => (if j = i then true else D j) && decide (j < l.length)) t L X q s' val) ∧ (q = .done ∨ ∃ a, q = .eff a)) (t.put o.dst v) := by
        rintro v rfl
        rw [hD2]
        refine ⟨_, Sub.refl _, L, X, q, s', val, ⟨fun j hj hl => ?_, hst.lt, hst.ok, fun j hj => ?_, hst.ev, ?_, hst.ls, ?_, hst.fs, fun k => ?_, hst.cl, fun j oj hj hL hDj => ?_⟩, hq⟩
        · by_cases e : j = i
          · subst e; exact hiL
          · rw [if_neg e] at hj; exact hst.sub j hj hl
        · have := hst.xs j hj
          by_cases e : j = i
          · rw [if_pos e]
          · rw [if_neg e]; exact this
        · rw [hd]; have := hst.eq; rw [this]; rfl
        · rw [hd, put_fr, lset_length]; exact hst.lt'
        · rw [hd, put_fr, lget_lset, hst.lt']
          by_cases hk : k = d
          · subst hk
            rw [if_pos ⟨rfl, hdn⟩, slotV_in hp ho' hd (by simp)]
          · rw [if_neg (by rintro ⟨e, _⟩; exact hk e), hst.ft k]
            refine slotV_congr hp fun j oj hj hjd => ?_
            have hne : j ≠ i := by rintro rfl; rw [ho'] at hj; injection hj with hj; rw [← hj, hd] at hjd; injection hjd with hjd; exact hk hjd.symm
            exact ⟨by simp only [if_neg hne]; rfl, fun _ => rfl⟩
        · by_cases e : j = i
          · subst e; simp at hDj
          · rw [if_neg e] at hDj; exact hst.pd j oj hj hL hDj
      unfold Evals at q3
      rw [evGuard_congr hag] at q3
      simp only [evOps]
      split at q3
      · exact q3.elim
      · rename_i hg
        obtain ⟨vc, q4, q5⟩ := q3
        rw [evalP_congr (reads_agree hag) hhp] at q4
        rw [hg, q4]
        exact ⟨q5, fin _ rfl⟩
      · rename_i g hg
        obtain ⟨v', vc, q4, q5, q6⟩ := q3
        rw [evalP_congr (reads_agree hag) hhp] at q4
        simp only [hg, q4]
        exact ⟨q5, fin _ q6.symm⟩
    · -- it is the plan's next
      have hq' : ∃ a, q = .eff a := by
        rcases hq with rfl | hq
        · have := hst.ok
          simp only [okS, List.all_eq_true, List.mem_range, List.contains_iff_mem] at this
          exact absurd (this i hil) hiL
        · exact hq
      obtain ⟨a, rfl⟩ := hq'
      have hok2 := hst.ok
      simp only [okS, Bool.and_eq_true, List.all_eq_true, List.contains_iff_mem] at hok2
      obtain ⟨⟨_, k1⟩, k2⟩ := hok2
      have hrdL : ∀ e, e ∈ afterB o → e ∈ L := fun e he => hst.sub e (hahD e he) (haftlt i o ho' e he)
      have hhead : i ∈ altHeads a := k1 i (by
        unfold todo
        rw [List.mem_filter, List.mem_range]
        refine ⟨hil, ?_⟩
        unfold readyB
        simp only [ho', Bool.and_eq_true, Bool.not_eq_true', List.contains_eq_mem, decide_eq_false_iff_not, List.all_eq_true, decide_eq_true_eq]
        exact ⟨hiL, hrdL⟩)
      obtain ⟨pd, q', o', e1, e2, e3, e4, e5, e6⟩ := alts_mem a hhead k2 (by have := hst.ev; simp only [evMix] at this; exact this)
      rw [ho'] at e1
      injection e1 with e1
      subst e1
      have hnotL : ∀ j oj, nth l j = some oj → i ∈ (nth (anc l) j).getD [] → j ∉ L := fun j oj hj hi hL =>
        hiL (anc_closed (S := (· ∈ L)) hst.cl j oj hj (hst.cl j oj hj hL) i hi)
      have hag : ∀ e, e ∈ readsOf l o → lget s'.fr e = lget t.fr e := fun e he => by
        rw [hst.fs e, hst.ft e]
        refine slotV_congr hp fun w ow hw hwd => ?_
        rcases hp.reads i o e ho' he w ow hw hwd with hr | ⟨_, hr⟩
        · have hx := hancD w hr
          exact ⟨⟨fun _ => hx, fun _ => hst.sub w hx (nth_lt hw)⟩, fun _ => rfl⟩
        · have hx := hnotD w ow hw hr
          have hxL := hnotL w ow hw hr
          exact ⟨⟨fun hL => absurd hL hxL, fun hD => by have hD' : D1 w = true := hD; rw [hx] at hD'; cases hD'⟩, fun _ => rfl⟩
      have hrun := evOps_with (fr := t.fr) hag e2
      rw [← hst.eq] at hrun
      have cont : ∀ t', OnFr s' t.fr o.dst (fun s' => heldL P Γ l pd s' ∧ evMix P Γ l (doneK (K .normal)) q' s') t' → doneK (fun t => ∃ L X q s' val, (Stand P Γ l n s.fr (doneK (K .normal)) (fun j => (if j = i then true else D j) && decide (j < l.length)) t L X q s' val) ∧ (q = .done ∨ ∃ a, q = .eff a)) t' := by
        rintro t' ⟨s2, v, ⟨hheld, hmix⟩, hfr, rfl⟩
        rw [hD2]
        refine ⟨_, Sub.refl _, eagerX hp hD2lt q' (i :: L) (i :: X) s2 (upd val i v) ?_⟩
        have hold : ∀ (S : Nat → Prop) k, ¬ S i → slotV l s.fr (upd val i v) S k = slotV l s.fr val S k := fun S k hS => slotV_congr hp fun j oj _ _ => ⟨Iff.rfl, fun hj => upd_ne (by rintro rfl; exact hS hj)⟩
        have slots : ∀ (fr : List SV) (S S' : Nat → Prop), fr.length = n → (∀ k, lget fr k = slotV l s.fr val S k) → (∀ j, S' j ↔ j = i ∨ S j) → ¬ S i → ∀ k, lget ((s'.with fr).put o.dst v).fr k = slotV l s.fr (upd val i v) S' k := by
          intro fr S S' hlen hfr hS' hSi k
          cases hd : o.dst with
          | none =>
            show lget fr k = _
            rw [hfr k]
            refine slotV_congr hp fun j oj hj hjd => ?_
            have hne : j ≠ i := by rintro rfl; rw [ho'] at hj; injection hj with hj; rw [← hj, hd] at hjd; cases hjd
            exact ⟨by rw [hS' j]; simp [hne], fun _ => (upd_ne hne).symm⟩
          | some d =>
            obtain ⟨hdn, huniq⟩ := hp.dst i o d ho' hd
            show lget (lset fr d v) k = _
            rw [lget_lset, hlen]
            by_cases hk : k = d
            · subst hk
              rw [if_pos ⟨rfl, hdn⟩, slotV_in hp ho' hd ((hS' i).2 (.inl rfl)), upd_same]
            · rw [if_neg (by rintro ⟨e, _⟩; exact hk e), hfr k]
              refine slotV_congr hp fun j oj hj hjd => ?_
              have hne : j ≠ i := by rintro rfl; rw [ho'] at hj; injection hj with hj; rw [← hj, hd] at hjd; injection hjd with hjd; exact hk hjd.symm
              exact ⟨by rw [hS' j]; simp [hne], fun _ => (upd_ne hne).symm⟩
        have plen : ∀ fr : List SV, fr.length = n → ((s'.with fr).put o.dst v).fr.length = n := by
          intro fr hf
          cases hd : o.dst with
          | none => exact hf
          | some d => show (lset fr d v).length = n; rw [lset_length]; exact hf
        have hs2fr : s2.fr = ((s'.with s'.fr).put o.dst v).fr := hfr
        have hfs2 : ∀ k, lget s2.fr k = slotV l s.fr (upd val i v) (· ∈ i :: L) k := fun k => by
          rw [hs2fr]; exact slots s'.fr (· ∈ L) _ hst.ls hst.fs (fun j => by simp) hiL k
        refine ⟨fun j hj hl => ?_, fun j hj => ?_, e4, fun j hj => ?_, hmix, rfl, by rw [hs2fr]; exact plen _ hst.ls, plen _ hst.lt', hfs2, fun k => ?_, fun j oj hj hL e he => ?_, fun j oj hj hL hDj => ?_⟩
        · by_cases e : j = i
          · subst e; simp
          · rw [if_neg e] at hj; exact List.mem_cons_of_mem _ (hst.sub j hj hl)
        · rcases List.mem_cons.1 hj with rfl | hj
          · exact hil
          · exact hst.lt j hj
        · rcases List.mem_cons.1 hj with rfl | hj
          · rw [if_pos rfl]
          · have := hst.xs j hj
            by_cases e : j = i
            · rw [if_pos e]
            · rw [if_neg e]; exact this
        · exact slots t.fr (fun j => D1 j = true) _ hst.lt' hst.ft (fun j => by by_cases e : j = i <;> simp [e]) (by rw [hDi1]; simp) k
        · rcases List.mem_cons.1 hL with rfl | hL
          · rw [ho'] at hj; injection hj with hj; subst hj; exact List.mem_cons_of_mem _ (hrdL e he)
          · exact List.mem_cons_of_mem _ (hst.cl j oj hj hL e he)
        · have hji : j ≠ i := by rintro rfl; simp at hDj
          rw [if_neg hji] at hDj
          have hL' : j ∈ L := by simpa [hji] using hL
          obtain ⟨st0, q0, q1, q2, q3⟩ := hst.pd j oj hj hL' hDj
          cases hlb : loadB oj.op with
          | false =>
            refine ⟨st0, q0, fun e he => ?_, (fun hx => nomatch hx), by rw [upd_ne hji]; exact q3⟩
            rw [q1 e he]
            exact (hold _ e (fun hi => hnotL j oj hj hi hL')).symm
          | true =>
            have hpd : j ∈ pd := by
              rcases e5 j hL' oj hj hlb with (h | h) | h
              · exact h
              rotate_left
              · have := hst.xs j h
                have hDj' : D1 j = false := hDj
                have this' : D1 j = true := this
                rw [this'] at hDj'; cases hDj'
              · have := hancD j h
                have hDj' : D1 j = false := hDj
                rw [this] at hDj'; cases hDj'
            obtain ⟨oj', v', vc, d', f1, f2, f3, f4, f5⟩ := heldL_mem pd hpd hheld
            rw [hj] at f1
            injection f1 with f1
            subst f1
            have hval : v' = upd val i v j := by
              rw [f5, hfs2 d', slotV_in hp hj f3 (by simp [hL'])]
            refine ⟨s2, q0, fun e he => ?_, fun _ => rfl, ?_⟩
            · rw [hfs2 e]
              refine slotV_congr hp fun w ow hw hwd => ?_
              rcases hp.reads j oj e hj he w ow hw hwd with hr | ⟨hr, _⟩
              · have : w ∈ L := anc_closed (S := (· ∈ L)) hst.cl j oj hj (hst.cl j oj hj hL') w hr
                exact ⟨⟨fun _ => hr, fun _ => by simp [this]⟩, fun _ => rfl⟩
              · rw [hlb] at hr; cases hr
            · unfold Evals
              have hgn : evGuard s2 l oj = .run := by unfold evGuard; rw [e6 j hpd oj hj]
              rw [hgn]
              exact ⟨vc, by rw [← hval]; exact f2, f4⟩
      -- the same, of a longer list of what follows
      have mono : ∀ {Ka Kb : SS → Prop}, (∀ x, Ka x → Kb x) → evOps P Γ l Ka [o] t → evOps P Γ l Kb [o] t := fun {Ka Kb} hk hx => evOps_mono1 hk hx
      exact mono cont hrun
  · rintro D t ⟨L, X, q, s', val, hst, hq⟩ hall
    have hLall : ∀ i, i < l.length → i ∈ L := fun i hi => hst.sub i (by simp [hall i hi, hi]) hi
    have hq' : q = .done := by
      rcases hq with hq | ⟨a, rfl⟩
      · exact hq
      · have := hst.ok
        simp only [okS, Bool.and_eq_true, List.any_eq_true, List.mem_range, Bool.not_eq_true', List.contains_eq_mem, decide_eq_false_iff_not] at this
        obtain ⟨⟨⟨i, hi, hn⟩, _⟩, _⟩ := this
        exact absurd (hLall i hi) hn
    subst hq'
    have hev := hst.ev
    simp only [evMix] at hev
    have : t.fr = s'.fr := lget_ext _ _ (by rw [hst.lt', hst.ls]) fun k => by
      rw [hst.ft k, hst.fs k]
      refine slotV_congr hp fun j oj hj _ => ⟨⟨fun _ => hLall j (nth_lt hj), fun _ => by simp [hall j (nth_lt hj), nth_lt hj]⟩, fun _ => rfl⟩
    have ht : t = s' := by
      have h1 := hst.eq
      rw [this] at h1
      exact h1
    rw [ht]; exact hev
theorem region_plan {P : Program} {Γ : Tab} {B : Ctx} (hrd : B.rd = none) (hΓ : Γ.ok P) (hm : P.follows .mixedOrders = true) {id : Nat} {l : List Oper} {s : SS} {K : Ex → SS → Prop} (p : Sched) (n : Nat) (hn : s.fr.length = n) (hB : planB l n p = true)
    (h : evMix P Γ l (K .normal) p s) : CodeOK P B (.region id l.toArray true) s K :=
  region_plan' hrd hΓ hm p n hn hB (evMix_mono (fun x hx => ⟨x, Sub.refl x, hx⟩) p s h)
/-- The same, its orders led together into one state. -/
theorem region_planS {P : Program} {Γ : Tab} {B : Ctx} (hrd : B.rd = none) (hΓ : Γ.ok P) (hm : P.follows .mixedOrders = true) {id : Nat} {l : List Oper} {s : SS} {K : Ex → SS → Prop} (p : Sched) (n : Nat) (hn : s.fr.length = n) (hB : planB l n p = true) {S : SS}
    (h : evMix P Γ l (fun t => Sub t S) p s) (hK : K .normal S) : CodeOK P B (.region id l.toArray true) s K :=
  region_plan' hrd hΓ hm p n hn hB (evMix_mono (fun x hx => ⟨S, hx, hK⟩) p s h)
end Go.Eng
/- The engine, part FF: objects handed back as resources; a region by itself. -/
namespace Go.Eng
open Go
set_option linter.unusedVariables false
set_option linter.unusedSimpArgs false

/-- A region that draws no order, by itself. -/
theorem region_run {P : Program} {Γ : Tab} (hΓ : Γ.ok P) {B : Ctx} {id : Nat} {l : List Oper} {s : SS} {K : Ex → SS → Prop} (h : evOps P Γ l (K .normal) l s) : CodeOK P B (.region id l.toArray false) s K := by
  have h1 : CodeOK P { B with stop := [] } (.region id l.toArray false) s K := evCode_sound hΓ _ K s (by
    rw [evC_region]
    simp only [memId, Bool.or_false]
    exact h)
  exact h1

/-- What is handed back is folded into a resource. -/
def FoldN (R : SV → SS → Prop) (sv : SV) (post : SS) : Prop :=
  ∃ H im T ls, FoldW H im post ∧ hfind post.hp (fmap im post.nx 0) = some (T, ls) ∧ ∀ b, R (rawV (fmap im post.nx 0) b sv) ((post.fold H im b).rawAll (fmap im post.nx 0) b)
theorem contract_new {P : Program} {f : FuncId} {pre : SS} {pargs : List SV} {R' R : SV → SS → Prop} (hC : Contract P f pre pargs R') (hR : ∀ sv post, R' sv post → FoldN R sv post) : Contract P f pre pargs R := by
  intro E w vs hw0 hw hv
  obtain ⟨k1, k2⟩ := hC E w vs hw0 hw hv
  refine ⟨k1, k2.mono ?_⟩
  rintro e w' ⟨v, E', post, sv, rfl, h2, h3, h4, h5⟩
  obtain ⟨H, im, T, ls, f1, f2, f3⟩ := hR sv post h5
  obtain ⟨κ, ho⟩ := h3.own
  obtain ⟨b, cs, q1, q2, q3, q4, q5⟩ := ho.hp _ _ _ f2
  have hg := h3.fold f1 q1
  obtain ⟨κ2, ho2⟩ := hg.own
  refine ⟨v, E', (post.fold H im b).rawAll (fmap im post.nx 0) b, _, rfl, h2, ⟨hg.k, hg.kx, hg.os, hg.tape, hg.output, hg.size, hg.old, hg.mu, hg.nxρ, hg.nxθ, κ2, fun n T' ls' e => ?_, ho2.tk, ho2.rs, ho2.mu, ho2.dom⟩, rawV_den q1 _ _ h4, f3 b⟩
  obtain ⟨ls0, e1, rfl⟩ := rawHp_find _ _ _ _ e
  obtain ⟨b', cs', q1', q2', q3', q4', q5'⟩ := ho2.hp _ _ _ e1
  exact ⟨b', cs', q1', q2', rawL_den q1 _ _ q3', q4', q5'⟩
end Go.Eng
/- The engine, part GB: resources of which something is left open; contracts whose result is a row of one's own. -/
namespace Go.Eng
open Go
set_option linter.unusedVariables false
set_option linter.unusedSimpArgs false

/-- One of a family. -/
def exR {ι : Type} (f : ι → Res) : Res where
  holds μ F w := ∃ i, (f i).holds μ F w
  next μ μ' F w w' := fun ⟨i, h⟩ hk hμ hn => ⟨i, (f i).next μ μ' F w w' h hk hμ hn⟩

/-- Of every good world of one state another may be said. -/
def SSLe (s t : SS) : Prop := ∀ E w, Good E s w → Good E t w
theorem SSLe.refl (s : SS) : SSLe s s := fun _ _ h => h
theorem SSLe.resay {s : SS} (r : Nat) {R Q : Res} (hr : (r, R) ∈ s.rs) (hQ : ∀ μ F w, R.holds μ F w → Q.holds μ F w) : SSLe s { s with rs := rsSet s.rs r Q } := fun E w h => h.resay hr (fun F => hQ _ F _)
theorem SSLe.ex {s : SS} {ι : Type} (r : Nat) {f : ι → Res} (i : ι) (hr : (r, f i) ∈ s.rs) : SSLe s { s with rs := rsSet s.rs r (exR f) } := SSLe.resay r hr fun _ _ _ h => ⟨i, h⟩
theorem SSLe.pre {ι : Type} {f : ι → Res} (i : ι) : SSLe (preR (f i)) (preR (exR f)) := by
  have := SSLe.ex (s := preR (f i)) (f := f) 0 i (by simp [preR])
  simpa [preR, rsSet] using this

theorem Contract.post {P : Program} {f : FuncId} {pre : SS} {pargs : List SV} {R R' : SV → SS → Prop} (h : Contract P f pre pargs R) (hR : ∀ sv post, R sv post → ∃ post', SSLe post post' ∧ R' sv post') : Contract P f pre pargs R' := by
  intro E w vs hw0 hw hv
  obtain ⟨k1, k2⟩ := h E w vs hw0 hw hv
  refine ⟨k1, k2.mono fun e w' ⟨v, E', post, sv, h1, h2, h3, h4, h5⟩ => ?_⟩
  obtain ⟨post', q1, q2⟩ := hR sv post h5
  exact ⟨v, E', post', sv, h1, h2, q1 _ _ h3, h4, q2⟩
theorem InvC.post {P : Program} {t : TypeId} {y : Value} {name : String} {pre : SS} {pargs : List SV} {R R' : SV → SS → Prop} (h : InvC P t y name pre pargs R) (hR : ∀ sv post, R sv post → ∃ post', SSLe post post' ∧ R' sv post') : InvC P t y name pre pargs R' := by
  intro E w vs hw0 hw hv
  obtain ⟨f, ars, k1, k2⟩ := h E w vs hw0 hw hv
  refine ⟨f, ars, k1, k2.mono fun e w' ⟨v, E', post, sv, h1, h2, h3, h4, h5⟩ => ?_⟩
  obtain ⟨post', q1, q2⟩ := hR sv post h5
  exact ⟨v, E', post', sv, h1, h2, q1 _ _ h3, h4, q2⟩

/-- A resource that is one of a family is that one. -/
theorem pre_ex {ι : Type} {f : ι → Res} {E : Env} {w : World} (h : Good E (preR (exR f)) w) : ∃ i, Good E (preR (f i)) w := by
  obtain ⟨κ, ho⟩ := h.own
  obtain ⟨F, ⟨i, h1⟩, h2⟩ := ho.rs 0 (exR f) (by simp [preR])
  refine ⟨i, h.k, h.kx, h.os, h.tape, h.output, h.size, h.old, h.mu, h.nxρ, h.nxθ, κ, ho.hp, ho.tk, fun r R hr => ?_, ho.mu, ho.dom⟩
  simp only [preR, List.mem_cons, Prod.mk.injEq, List.not_mem_nil, or_false] at hr
  obtain ⟨rfl, rfl⟩ := hr
  exact ⟨F, h1, h2⟩
theorem Contract.ex {P : Program} {g : FuncId} {ι : Type} {f : ι → Res} {pargs : List SV} {R : SV → SS → Prop} (h : ∀ i, Contract P g (preR (f i)) pargs R) : Contract P g (preR (exR f)) pargs R := by
  intro E w vs hw0 hw hv
  obtain ⟨i, hi⟩ := pre_ex hw
  exact h i E w vs hw0 hi hv
theorem InvC.ex {P : Program} {t : TypeId} {y : Value} {name : String} {ι : Type} {f : ι → Res} {pargs : List SV} {R : SV → SS → Prop} (h : ∀ i, InvC P t y name (preR (f i)) pargs R) : InvC P t y name (preR (exR f)) pargs R := by
  intro E w vs hw0 hw hv
  obtain ⟨i, hi⟩ := pre_ex hw
  exact h i E w vs hw0 hi hv

/-- What is known of a row. -/
theorem code_row {P : Program} {B : Ctx} {c : Code} {s : SS} {K : Ex → SS → Prop} (r : Nat) {k : IntKind} {p : Option Addr} {cap : Nat} {l : List Int} (hr : rsFind s.rs r = some (RowR k p cap l))
    (h : l.length ≤ cap → (cap ≠ 0 → p ≠ none) → CodeOK P B c s K) : CodeOK P B c s K := by
  intro E a w hb hf hw
  obtain ⟨h0, h1, h2⟩ := hw.rowOf (rsFind_mem _ _ _ hr)
  refine h h0 (fun hc => ?_) E a w hb hf hw
  rcases h2 with rfl | ⟨b, off, T, cs, rfl, _⟩
  · exact absurd rfl hc
  · simp
theorem contract_row {P : Program} {f : FuncId} {s : SS} {pargs : List SV} {R : SV → SS → Prop} (r : Nat) {k : IntKind} {p : Option Addr} {cap : Nat} {l : List Int} (hr : rsFind s.rs r = some (RowR k p cap l))
    (h : l.length ≤ cap → (cap ≠ 0 → p ≠ none) → Contract P f s pargs R) : Contract P f s pargs R := by
  intro E w vs h0 hw hv
  obtain ⟨h1, _, h2⟩ := hw.rowOf (rsFind_mem _ _ _ hr)
  refine h h1 (fun hc => ?_) E w vs h0 hw hv
  rcases h2 with rfl | ⟨b, off, T, cs, rfl, _⟩
  · exact absurd rfl hc
  · simp

/-- A slice that is new, with its token, is a row of one's own. -/
theorem Good.thaw {E E2 : Env} {w : World} (h0 : E.w0.heap.size ≤ w.heap.size) (hx : E.Ext E2) {k : IntKind} {l : List Int} {v : Value} (hw : Good E2 ⟨[], [], [0], [], 1, 0, []⟩ w) (hv : Den E2 (.ints k (.tok 0 true) l) v)
    (hnew : ∀ a n c, v = .slice (some a) n c → ∀ ad x, E.μ ad = some x → ad.block ≠ a.block) (Z : Nat → Prop) (hZ : ∀ b, E2.w0.heap.size ≤ b → Z b) :
    ∃ p c E3, v = .slice p l.length c ∧ E3.w0 = E2.w0 ∧ E3.S0 = E2.S0 ∧ E3.k = E2.k ∧ E3.Z = Z ∧ (∀ a v, E.μ a = some v → E3.μ a = some v) ∧ (∀ a v, E3.μ a = some v → E2.μ a = some v) ∧ E3.ρ = E2.ρ ∧ E3.θ = E2.θ ∧ Good E3 ⟨[], [], [], [(0, RowR k p c l)], 1, 0, []⟩ w := by
  simp only [Den] at hv
  obtain ⟨p, c, rfl, hc, hc2, hcell, htok, hfresh⟩ := hv
  obtain ⟨κ, ho⟩ := hw.own
  obtain ⟨sz, a', len, cap, t1, t2, t3⟩ := ho.tk 0 (by simp)
  obtain ⟨a0, n0, c0, j, p', u1, u2, u3, u4, u5⟩ := htok
  rw [t1] at u1
  simp only [Option.some.injEq, Prod.mk.injEq, Value.slice.injEq] at u1 u4
  obtain ⟨rfl, rfl, rfl, rfl⟩ := u1
  obtain ⟨rfl, e1, e2⟩ := u4
  let μ3 : Addr → Option Value := fun a => match p with | some ad => if a.block = ad.block then none else E2.μ a | none => E2.μ a
  have m1 : ∀ a v, μ3 a = some v → E2.μ a = some v ∧ ∀ ad, p = some ad → a.block ≠ ad.block := by
    intro a v e
    simp only [μ3] at e
    cases p with
    | none => exact ⟨e, fun ad h => by cases h⟩
    | some ad =>
      simp only at e
      split at e
      · cases e
      · rename_i hne
        exact ⟨e, fun ad' h => by injection h with h; rw [← h]; exact hne⟩
  have m2 : ∀ a v, E.μ a = some v → μ3 a = some v := by
    intro a v e
    have e' := hx.μ a v e
    simp only [μ3]
    cases p with
    | none => exact e'
    | some ad =>
      simp only
      rw [if_neg (hnew ad _ _ rfl a v e)]
      exact e'
  refine ⟨p, c, { E2 with μ := μ3, Z := Z, hZ := hZ }, rfl, rfl, rfl, rfl, rfl, m2, fun a v e => (m1 a v e).1, rfl, rfl, ?_⟩
  refine ⟨hw.k, hw.kx, hw.os, hw.tape, hw.output, hw.size, hw.old, fun a v e => hw.mu a v (m1 a v e).1, hw.nxρ, hw.nxθ, fun b => match κ b with | some (.tok 0) => some (.res 0) | _ => none, fun n T ls e => by simp [hfind] at e, fun τ hτ => by simp at hτ, fun r R hr => ?_, fun a v e n e' => ?_, fun b key e => ?_⟩
  · simp only [List.mem_cons, Prod.mk.injEq, List.not_mem_nil, or_false] at hr
    obtain ⟨rfl, rfl⟩ := hr
    refine ⟨fun b => κ b = some (.tok 0), ⟨hc, hc2, ?_⟩, fun b hb => ⟨(ho.dom b _ hb).1, by simp only [hb], (ho.dom b _ hb).2⟩⟩
    by_cases hc0 : c = 0
    · exact .inl hc0
    · rcases u5 with u5 | rfl
      · omega
      rcases t3 with ⟨t3, rfl⟩ | ⟨b, off, T, cs, rfl, t4, t5, t6, t7, t8⟩
      · simp only [Option.map_none] at hcell
        have : l = [] := by
          cases l with
          | nil => rfl
          | cons y ys => obtain ⟨b, off, e, _⟩ := hcell 0 y (by simp); cases e
        subst this
        simp at e1
        omega
      · refine .inr ⟨b, off + j, T, cs, by simp [add_none], t4, t6, by omega, fun i x hx => ?_, fun a v e => (m1 a v e).2 ⟨b, off + j, none⟩ (by simp [add_none])⟩
        obtain ⟨b', off', q1, q2⟩ := hcell i x hx
        simp only [Option.map_some, Nat.mul_one, add_none, Option.some.injEq, Addr.mk.injEq] at q1
        obtain ⟨rfl, rfl, _⟩ := q1
        have := hw.mu _ _ q2
        obtain ⟨fz, hb, _⟩ := t6
        simpa [World.cell?, hb] using this
  · split at e' <;> cases e'
  · split at e
    · rename_i hk
      exact ho.dom b _ hk
    · cases e
/-- A function that hands back a new slice of numbers hands back a row of one's own. -/
theorem Contract.thaw {P : Program} {f : FuncId} {pargs : List SV} {k : IntKind} {l : List Int} (h : Contract P f nilSS pargs (fun sv post => sv = .ints k (.tok 0 true) l ∧ post = ⟨[], [], [0], [], 1, 0, []⟩))
    (hargs : ∀ (E : Env) (Z : Nat → Prop) (hZ : ∀ b, E.w0.heap.size ≤ b → Z b) (vs : List Value), DenL E pargs vs → DenL { E with Z := Z, hZ := hZ } pargs vs) :
    Contract P f nilSS pargs (fun sv post => ∃ p c, sv = .raw (.slice p l.length c) ∧ post = ⟨[], [], [], [(0, RowR k p c l)], 1, 0, []⟩) := by
  intro E w vs hw0 hw hv
  subst hw0
  let E1 : Env := { E with Z := fun b => E.w0.heap.size ≤ b, hZ := fun b h => h }
  have g1 : Good E1 nilSS E.w0 := ⟨hw.k, hw.kx, hw.os, hw.tape, hw.output, hw.size, hw.old, hw.mu, hw.nxρ, hw.nxθ, let ⟨κ, ho⟩ := hw.own; ⟨κ, fun n T ls e => by simp [nilSS, hfind] at e, fun τ hτ => by simp [nilSS] at hτ, fun r R hr => by simp [nilSS] at hr, ho.mu, ho.dom⟩⟩
  obtain ⟨k1, k2⟩ := h E1 E.w0 vs rfl g1 (hargs E _ _ vs hv)
  refine ⟨k1, k2.mono ?_⟩
  rintro e w' ⟨v, E2, post, sv, rfl, x1, x2, x3, rfl, rfl⟩
  have hnew : ∀ a n c, v = .slice (some a) n c → ∀ ad x, E1.μ ad = some x → ad.block ≠ a.block := by
    intro a n c e ad x hx
    have hv := x3
    simp only [Den] at hv
    obtain ⟨p, c', e', _, _, _, _, hfresh⟩ := hv
    have hz := hfresh rfl a n c e
    rw [x1.Z] at hz
    have : ad.block < E.w0.heap.size := World.block_lt_of_cell? _ ad (hw.mu ad x hx)
    have hz' : E.w0.heap.size ≤ a.block := hz
    omega
  have hsize : E1.w0.heap.size ≤ w'.heap.size := by have := x2.size; rw [x1.w0] at this; exact this
  obtain ⟨p, c, E3, rfl, q1, q2, q3, q4, q5, q6, q7, q8, q9⟩ := Good.thaw hsize x1 x2 x3 hnew E.Z (fun b hb => by rw [x1.w0] at hb; exact E.hZ b hb)
  refine ⟨_, E3, _, .raw (.slice p l.length c), rfl, ⟨q3.trans x1.k, fun n hn => by rw [q7]; exact x1.ρ n hn, fun n hn => by rw [q8]; exact x1.θ n hn, q1.trans x1.w0, q2.trans x1.S0, q5, fun a v e => x1.μnew a v (q6 a v e), q4⟩, q9, by simp only [Den], p, c, rfl, rfl⟩
theorem old_args {k : IntKind} {l : List Int} (E : Env) (Z : Nat → Prop) (hZ : ∀ b, E.w0.heap.size ≤ b → Z b) (vs : List Value) : DenL E [.ints k .old l] vs → DenL { E with Z := Z, hZ := hZ } [.ints k .old l] vs := by
  cases vs with
  | nil => simp only [DenL]; exact id
  | cons v vs =>
    simp only [DenL, Den]
    rintro ⟨⟨a, c, h1, h2, h3, h4, h5⟩, h6⟩
    refine ⟨⟨a, c, h1, h2, h3, h4, trivial⟩, ?_⟩
    cases vs with
    | nil => simp only [DenL]
    | cons u us => simp only [DenL] at h6
end Go.Eng
/- The engine, part GG: a new slice of structs that comes back, as a row of one's own of which nothing is known. -/
namespace Go.Eng
open Go
set_option linter.unusedVariables false
set_option linter.unusedSimpArgs false

theorem Good.thawS {E E2 : Env} {w : World} (h0 : E.w0.heap.size ≤ w.heap.size) (hx : E.Ext E2) {sz n : Nat} {el : Nat → Nat → SV} {v : Value} (hb : n * sz ≤ 9223372036854775807) (hw : Good E2 ⟨[], [], [0], [], 1, 0, []⟩ w) (hv : Den E2 (.sl sz (.tok 0 true) n el) v)
    (hnew : ∀ a n c, v = .slice (some a) n c → ∀ ad x, E.μ ad = some x → ad.block ≠ a.block) (Z : Nat → Prop) (hZ : ∀ b, E2.w0.heap.size ≤ b → Z b) :
    ∃ p c E3, v = .slice p n c ∧ E3.w0 = E2.w0 ∧ E3.S0 = E2.S0 ∧ E3.k = E2.k ∧ E3.Z = Z ∧ (∀ a v, E.μ a = some v → E3.μ a = some v) ∧ (∀ a v, E3.μ a = some v → E2.μ a = some v) ∧ E3.ρ = E2.ρ ∧ E3.θ = E2.θ ∧ Good E3 ⟨[], [], [], [(0, RowR .u8 p (n * sz) [])], 1, 0, []⟩ w := by
  simp only [Den] at hv
  obtain ⟨p, c, rfl, hc, hc2, hcell, htok, hfresh⟩ := hv
  obtain ⟨κ, ho⟩ := hw.own
  obtain ⟨sz', a', len, cap, t1, t2, t3⟩ := ho.tk 0 (by simp)
  obtain ⟨a0, n0, c0, j, p', u1, u2, u3, u4, u5⟩ := htok
  rw [t1] at u1
  simp only [Option.some.injEq, Prod.mk.injEq, Value.slice.injEq] at u1 u4
  obtain ⟨rfl, rfl, rfl, rfl⟩ := u1
  obtain ⟨rfl, e1, e2⟩ := u4
  let μ3 : Addr → Option Value := fun a => match p with | some ad => if a.block = ad.block then none else E2.μ a | none => E2.μ a
  have m1 : ∀ a v, μ3 a = some v → E2.μ a = some v ∧ ∀ ad, p = some ad → a.block ≠ ad.block := by
    intro a v e
    simp only [μ3] at e
    cases p with
    | none => exact ⟨e, fun ad h => by cases h⟩
    | some ad =>
      simp only at e
      split at e
      · cases e
      · rename_i hne
        exact ⟨e, fun ad' h => by injection h with h; rw [← h]; exact hne⟩
  have m2 : ∀ a v, E.μ a = some v → μ3 a = some v := by
    intro a v e
    have e' := hx.μ a v e
    simp only [μ3]
    cases p with
    | none => exact e'
    | some ad =>
      simp only
      rw [if_neg (hnew ad _ _ rfl a v e)]
      exact e'
  refine ⟨p, c, { E2 with μ := μ3, Z := Z, hZ := hZ }, rfl, rfl, rfl, rfl, rfl, m2, fun a v e => (m1 a v e).1, rfl, rfl, ?_⟩
  refine ⟨hw.k, hw.kx, hw.os, hw.tape, hw.output, hw.size, hw.old, fun a v e => hw.mu a v (m1 a v e).1, hw.nxρ, hw.nxθ, fun b => match κ b with | some (.tok 0) => some (.res 0) | _ => none, fun n T ls e => by simp [hfind] at e, fun τ hτ => by simp at hτ, fun r R hr => ?_, fun a v e n e' => ?_, fun b key e => ?_⟩
  · simp only [List.mem_cons, Prod.mk.injEq, List.not_mem_nil, or_false] at hr
    obtain ⟨rfl, rfl⟩ := hr
    refine ⟨fun b => κ b = some (.tok 0), ⟨Nat.zero_le _, hb, ?_⟩, fun b hb => ⟨(ho.dom b _ hb).1, by simp only [hb], (ho.dom b _ hb).2⟩⟩
    by_cases hc0 : n * sz' = 0
    · exact .inl hc0
    · have hn0 : n ≠ 0 := by rintro rfl; simp at hc0
      have hc1 : c ≠ 0 := by omega
      rcases u5 with u5 | rfl
      · omega
      rcases t3 with ⟨t3, rfl⟩ | ⟨b, off, T, cs, rfl, t4, t5, t6, t7, t8⟩
      · simp only [Option.map_none] at hcell
        obtain ⟨b, off, e, _⟩ := hcell 0 (by omega)
        cases e
      · refine .inr ⟨b, off + j * sz', T, cs, by simp [add_none], t4, t6, ?_, fun i x hx => by simp at hx, fun a v e => (m1 a v e).2 ⟨b, off + j * sz', none⟩ (by simp [add_none])⟩
        have h1 : n * sz' ≤ c * sz' := Nat.mul_le_mul_right _ hc
        have h2 : (j + c) * sz' = j * sz' + c * sz' := Nat.add_mul _ _ _
        have h3 : (j + c) * sz' ≤ cap * sz' := Nat.mul_le_mul_right _ (by omega)
        omega
  · split at e' <;> cases e'
  · split at e
    · rename_i hk
      exact ho.dom b _ hk
    · cases e
/-- A function that hands back a new slice of structs and two numbers. -/
theorem Contract.thawS {P : Program} {f : FuncId} {pargs : List SV} {sz n : Nat} {el : Nat → Nat → SV} {k2 k3 : IntKind} {x y : Int} (hb : n * sz ≤ 9223372036854775807) (h : Contract P f nilSS pargs (fun sv post => sv = .tup [.sl sz (.tok 0 true) n el, .i k2 x, .i k3 y] ∧ post = ⟨[], [], [0], [], 1, 0, []⟩))
    (hargs : ∀ (E : Env) (Z : Nat → Prop) (hZ : ∀ b, E.w0.heap.size ≤ b → Z b) (vs : List Value), DenL E pargs vs → DenL { E with Z := Z, hZ := hZ } pargs vs) :
    Contract P f nilSS pargs (fun sv post => ∃ p c, sv = .tup [.raw (.slice p n c), .i k2 x, .i k3 y] ∧ post = ⟨[], [], [], [(0, RowR .u8 p (n * sz) [])], 1, 0, []⟩) := by
  intro E w vs hw0 hw hv
  subst hw0
  let E1 : Env := { E with Z := fun b => E.w0.heap.size ≤ b, hZ := fun b h => h }
  have g1 : Good E1 nilSS E.w0 := ⟨hw.k, hw.kx, hw.os, hw.tape, hw.output, hw.size, hw.old, hw.mu, hw.nxρ, hw.nxθ, let ⟨κ, ho⟩ := hw.own; ⟨κ, fun n T ls e => by simp [nilSS, hfind] at e, fun τ hτ => by simp [nilSS] at hτ, fun r R hr => by simp [nilSS] at hr, ho.mu, ho.dom⟩⟩
  obtain ⟨k1, k2'⟩ := h E1 E.w0 vs rfl g1 (hargs E _ _ vs hv)
  refine ⟨k1, k2'.mono ?_⟩
  rintro e w' ⟨v, E2, post, sv, rfl, x1, x2, x3, rfl, rfl⟩
  rw [Den] at x3
  obtain ⟨cs, rfl, x3⟩ := x3
  cases cs with
  | nil => simp only [DenL] at x3
  | cons va cs =>
  cases cs with
  | nil => simp only [DenL] at x3; exact x3.2.elim
  | cons vb cs =>
  cases cs with
  | nil => simp only [DenL] at x3; exact x3.2.2.elim
  | cons vc cs =>
  cases cs with
  | cons vd cs => simp only [DenL] at x3; exact x3.2.2.2.elim
  | nil =>
  simp only [DenL] at x3
  obtain ⟨d1, d3, d4, -⟩ := x3
  have hnew : ∀ a n c, va = .slice (some a) n c → ∀ ad x, E1.μ ad = some x → ad.block ≠ a.block := by
    intro a n c e ad x hx
    have hv := d1
    simp only [Den] at hv
    obtain ⟨p, c', e', _, _, _, _, hfresh⟩ := hv
    have hz := hfresh rfl a n c e
    rw [x1.Z] at hz
    have : ad.block < E.w0.heap.size := World.block_lt_of_cell? _ ad (hw.mu ad x hx)
    have hz' : E.w0.heap.size ≤ a.block := hz
    omega
  have hsize : E1.w0.heap.size ≤ w'.heap.size := by have := x2.size; rw [x1.w0] at this; exact this
  obtain ⟨p, c, E3, rfl, q1, q2, q3, q4, q5, q6, q7, q8, q9⟩ := Good.thawS hsize x1 hb x2 d1 hnew E.Z (fun b hb => by rw [x1.w0] at hb; exact E.hZ b hb)
  refine ⟨_, E3, _, .tup [.raw (.slice p n c), .i k2 x, .i k3 y], rfl, ⟨q3.trans x1.k, fun n hn => by rw [q7]; exact x1.ρ n hn, fun n hn => by rw [q8]; exact x1.θ n hn, q1.trans x1.w0, q2.trans x1.S0, q5, fun a v e => x1.μnew a v (q6 a v e), q4⟩, q9, ?_, p, c, rfl, rfl⟩
  simp only [Den, DenL] at d3 d4 ⊢
  exact ⟨_, rfl, rfl, d3, d4, trivial⟩
end Go.Eng
