/- The engine, part FD: a region in any order, by a plan: its rule. -/
import Derived.Test.YtdbhgnjpjpmioaaFc
namespace Go.Eng
open Go
set_option linter.unusedVariables false
set_option linter.unusedSimpArgs false

mutual
/-- A plan: what leaves the world alone is done as soon as may be; of the rest, each that may come next. -/
inductive Sched where
  | done
  | pure (i : Nat) (n : Sched)
  | eff (a : Alts)
inductive Alts where
  | nil
  | cons (i : Nat) (pend : List Nat) (n : Sched) (r : Alts)
end

/-- Loads that may still be to be done tell the same behind an effect. -/
def heldL (P : Program) (Γ : Tab) (l : List Oper) : List Nat → SS → Prop
  | [], _ => True
  | j :: r, s =>
    (match nth l j with
    | some o => (match evalP P Γ s true o.op, o.dst with
      | some (v, vc), some d => vc ∧ v = lget s.fr d
      | _, _ => False)
    | none => False) ∧ heldL P Γ l r s
mutual
def evMix (P : Program) (Γ : Tab) (l : List Oper) (K : SS → Prop) : Sched → SS → Prop
  | .done, s => K s
  | .pure i n, s =>
    match nth l i with
    | none => False
    | some o =>
      match evGuard s l o with
      | .bad => False
      | .run =>
        match evalP P Γ s true o.op with
        | some (v, vc) => vc ∧ evMix P Γ l K n (s.put o.dst v)
        | none => False
      | .when g =>
        match evalP P Γ s g o.op with
        | some (v, vc) => (g = true → vc) ∧ evMix P Γ l K n (s.put o.dst (.cnd g v))
        | none => False
  | .eff a, s => evAlts P Γ l K a s
def evAlts (P : Program) (Γ : Tab) (l : List Oper) (K : SS → Prop) : Alts → SS → Prop
  | .nil, _ => True
  | .cons i p n r, s =>
    (match nth l i with
    | none => False
    | some o => evOps P Γ l (fun s' => heldL P Γ l p s' ∧ evMix P Γ l K n s') [o] s) ∧ evAlts P Γ l K r s
end

mutual
theorem evMix_mono {P : Program} {Γ : Tab} {l : List Oper} {K K' : SS → Prop} (hk : ∀ x, K x → K' x) : ∀ (p : Sched) (s : SS), evMix P Γ l K p s → evMix P Γ l K' p s
  | .done, s, h => by simp only [evMix] at h ⊢; exact hk _ h
  | .pure i n, s, h => by
    simp only [evMix] at h ⊢
    split at h
    · exact h.elim
    · split at h
      · exact h.elim
      · split at h
        · exact ⟨h.1, evMix_mono hk n _ h.2⟩
        · exact h.elim
      · split at h
        · exact ⟨h.1, evMix_mono hk n _ h.2⟩
        · exact h.elim
  | .eff a, s, h => by simp only [evMix] at h ⊢; exact evAlts_mono hk a s h
theorem evAlts_mono {P : Program} {Γ : Tab} {l : List Oper} {K K' : SS → Prop} (hk : ∀ x, K x → K' x) : ∀ (a : Alts) (s : SS), evAlts P Γ l K a s → evAlts P Γ l K' a s
  | .nil, s, _ => by simp only [evAlts]
  | .cons i p n r, s, h => by
    simp only [evAlts] at h ⊢
    refine ⟨?_, evAlts_mono hk r s h.2⟩
    have h1 := h.1
    split at h1
    · exact h1.elim
    · exact evOps_mono1 (fun x hx => ⟨hx.1, evMix_mono hk n x hx.2⟩) h1
end

def stillB : Op → Bool
  | .move _ => true
  | .assign _ => true
  | .pick _ _ _ => true
  | .nilCheck _ => true
  | .fieldAddr _ _ _ => true
  | .indexAddr _ _ _ => true
  | .load _ _ => true
  | .binOp _ _ _ _ _ => true
  | .unOp _ _ _ => true
  | .convert _ _ _ => true
  | .makeInterface _ _ => true
  | .makeFunc _ _ _ => true
  | .extract _ _ => true
  | .field _ _ _ => true
  | .index _ _ _ => true
  | .slice _ _ _ _ _ => true
  | .build _ _ => true
  | .call c => (match c.callee with | .builtin .append => false | .builtin _ => true | _ => false)
  | _ => false

def afterB (o : Oper) : List Nat := (o.after.toList.filter fun e => Region.binds .any e).map (·.on)
def readyB (l : List Oper) (L : List Nat) (i : Nat) : Bool := match nth l i with | some o => (afterB o).all fun j => L.contains j | none => false
/-- For each operation those that go ahead of it, through others too. -/
def ancL : List Oper → List (List Nat) → List (List Nat)
  | [], acc => acc
  | o :: r, acc => ancL r (acc ++ [((afterB o).map fun j => j :: (nth acc j).getD []).flatten.eraseDups])
def anc (l : List Oper) : List (List Nat) := ancL l []
def tmpOf : Operand → Option Nat
  | .tmp t => some t
  | _ => none
/-- The slots that an operation reads, its guard's among them. -/
def readsOf (l : List Oper) (o : Oper) : List Nat :=
  (opsOf o.op).filterMap tmpOf ++ (match o.guard with | none => [] | some (j, _) => (match nth l j with | some oj => oj.dst.toList | none => []))
/-- Who writes a slot. -/
def writers (l : List Oper) (d : Nat) : List Nat := (List.range l.length).filter fun j => match nth l j with | some o => o.dst == some d | none => false
/-- Each slot that an operation reads is written ahead of it, or behind it; a load's is not written behind it. -/
def readsB (l : List Oper) (A : List (List Nat)) (i : Nat) : Bool :=
  match nth l i with
  | none => false
  | some o => (readsOf l o).all fun d => (writers l d).all fun j => ((nth A i).getD []).contains j || (!loadB o.op && ((nth A j).getD []).contains i)
def dstB (l : List Oper) (n : Nat) : Bool := (List.range l.length).all fun i => match nth l i with | some o => (match o.dst with | some d => (writers l d) == [i] && decide (d < n) | none => true) | none => false

def altHeads : Alts → List Nat
  | .nil => []
  | .cons i _ _ r => i :: altHeads r
def todo (l : List Oper) (L : List Nat) : List Nat := (List.range l.length).filter fun i => !L.contains i && readyB l L i
mutual
def okS (l : List Oper) (A : List (List Nat)) : Sched → List Nat → Bool
  | .done, L => (List.range l.length).all fun i => L.contains i
  | .pure i n, L => decide (i < l.length) && !L.contains i && readyB l L i && (match nth l i with | some o => stillB o.op && o.dst.isSome | none => false) && okS l A n (i :: L)
  | .eff a, L => ((List.range l.length).any fun i => !L.contains i) && ((todo l L).all fun i => (altHeads a).contains i) && okA l A a L
def okA (l : List Oper) (A : List (List Nat)) : Alts → List Nat → Bool
  | .nil, _ => true
  | .cons i p n r, L => decide (i < l.length) && !L.contains i && readyB l L i && (L.all fun j => (match nth l j with | some o => !loadB o.op | none => false) || p.contains j || ((nth A i).getD []).contains j) && (p.all fun j => match nth l j with | some o => o.guard.isNone | none => false) && okS l A n (i :: L) && okA l A r L
end
def planB (l : List Oper) (n : Nat) (p : Sched) : Bool := backB l && dstB l n && ((List.range l.length).all fun i => readsB l (anc l) i) && okS l (anc l) p []
end Go.Eng
