/- The engine, part E: what an operation that leaves the world alone comes to, and that it does. -/
import Derived.Test.YtdbhgnjpjpmioaaEd
namespace Go.Eng
open Go
set_option linter.unusedVariables false
set_option linter.unusedSimpArgs false

def nth {α : Type} : List α → Nat → Option α
  | [], _ => none
  | x :: _, 0 => some x
  | _ :: r, n + 1 => nth r n
theorem nth_eq {α : Type} : ∀ (l : List α) (n : Nat), nth l n = l[n]?
  | [], n => by simp [nth]
  | x :: r, 0 => by simp [nth]
  | x :: r, n + 1 => by simp [nth, nth_eq r n]

def ovcL (st : SS) (g : Bool) : List Operand → Prop
  | [] => True
  | x :: r => ovc st g x ∧ ovcL st g r
theorem ovcL_mem {st : SS} {g : Bool} : ∀ {l : List Operand}, ovcL st g l → ∀ x, x ∈ l → ovc st g x
  | [], _, x, h => by simp at h
  | y :: r, hv, x, h => by
    simp only [ovcL] at hv
    rcases List.mem_cons.1 h with rfl | h
    · exact hv.1
    · exact ovcL_mem hv.2 x h

def spl : List SV → Nat → List SV → List SV
  | [], _, _ => []
  | x :: r, n + 1, ls => x :: spl r n ls
  | x :: r, 0, [] => x :: r
  | _ :: r, 0, y :: ys => y :: spl r 0 ys
def fieldOf (d : TD) (f : Nat) : Option (Nat × TypeId) :=
  match d with
  | .struct fs => nth fs f
  | _ => none

def NilOK (P : Program) (name : String) (x : SV) : Prop :=
  ∀ E v, Den E x v → ∃ t y, v = .iface t y ∧ ∀ w, (nilAhead (P.types.size + Made.depth) t y name).run P w = .ok (some false) w

def isT : Operand → Bool
  | .const (.bool true) => true
  | _ => false
def isF : Operand → Bool
  | .const (.bool false) => true
  | _ => false

def evPick (st : SS) (g : Bool) (c x y : Operand) : Option (SV × Prop) :=
  match isT x, isF y with
  | true, _ =>
    match opd st c, opd st y with
    | .b t, .b u => some (.b (t || u), ovc st g c ∧ ovc st (g && !t) y)
    | _, _ => none
  | false, true =>
    match opd st c, opd st x with
    | .b t, .b u => some (.b (t && u), ovc st g c ∧ ovc st (g && t) x)
    | _, _ => none
  | _, _ => none

theorem evPick_sound {P : Program} {E : Env} {st : SS} {a : Act} {w : World} {g : Bool} (hf : Fr E st a) (hg : g = true) {c x y : Operand} {r : SV} {vc : Prop}
    (h : evPick st g c x y = some (r, vc)) (hv : vc) : ∃ v, (do pure (if ← asBool (a.eval c) then a.eval x else a.eval y) : Sem Value).run P w = .ok v w ∧ Den E r v := by
  unfold evPick at h
  split at h
  · rename_i hx
    split at h
    · rename_i t u e1 e2
      simp only [Option.some.injEq, Prod.mk.injEq] at h
      obtain ⟨rfl, rfl⟩ := h
      have hc := opd_den hf hg hv.1
      rw [e1] at hc
      simp only [Den] at hc
      have hxe : a.eval x = .bool true := by
        unfold isT at hx; split at hx
        · rfl
        · cases hx
      cases t with
      | true => exact ⟨.bool true, by simp [hc, asBool, hxe], by simp only [Den, Bool.true_or]⟩
      | false =>
        have hy := opd_den hf (g := g && !false) (by simp [hg]) hv.2
        rw [e2] at hy
        simp only [Den] at hy
        exact ⟨.bool u, by simp [hc, asBool, hy], by simp only [Den, Bool.false_or]⟩
    · cases h
  · rename_i hx hy'
    split at h
    · rename_i t u e1 e2
      simp only [Option.some.injEq, Prod.mk.injEq] at h
      obtain ⟨rfl, rfl⟩ := h
      have hc := opd_den hf hg hv.1
      rw [e1] at hc
      simp only [Den] at hc
      have hye : a.eval y = .bool false := by
        unfold isF at hy'; split at hy'
        · rfl
        · cases hy'
      cases t with
      | false => exact ⟨.bool false, by simp [hc, asBool, hye], by simp only [Den, Bool.false_and]⟩
      | true =>
        have hx := opd_den hf (g := g && true) (by simp [hg]) hv.2
        rw [e2] at hx
        simp only [Den] at hx
        exact ⟨.bool u, by simp [hc, asBool, hx], by simp only [Den, Bool.true_and]⟩
    · cases h
  · cases h

def evNil (P : Program) (st : SS) (g : Bool) (x : Operand) : Option (SV × Prop) :=
  match opd st x with
  | .ptr n o => some (.ptr n o, ovc st g x)
  | .ep n o => some (.ep n o, ovc st g x)
  | .fn (.func f) a b => some (.fn (.func f) a b, ovc st g x)
  | .fn (.method m) [r] b => some (.fn (.method m) [r] b, ovc st g x ∧ NilOK P m r)
  | _ => none

theorem evNil_sound {P : Program} {E : Env} {st : SS} {a : Act} {w : World} {g : Bool} (hf : Fr E st a) (hg : g = true) {x : Operand} {r : SV} {vc : Prop} (o : Oper) (ho : o.op = .nilCheck x)
    (h : evNil P st g x = some (r, vc)) (hv : vc) : ∃ v, (execOp a.eval o).run P w = .ok (.value v) w ∧ Den E r v := by
  unfold evNil at h
  split at h <;> simp only [Option.some.injEq, Prod.mk.injEq, reduceCtorEq] at h <;> obtain ⟨rfl, rfl⟩ := h <;> rename_i e1
  · have hd := opd_den hf hg hv
    rw [e1] at hd
    simp only [Den] at hd
    obtain ⟨b, hb, e⟩ := hd
    exact ⟨_, by simp [execOp, ho, e]; rfl, by simp only [Den]; exact ⟨b, hb, rfl⟩⟩
  · have hd := opd_den hf hg hv
    rw [e1] at hd
    have hd' := hd
    simp only [Den] at hd
    obtain ⟨b, off, e, q⟩ := hd
    exact ⟨_, by simp [execOp, ho, e]; rfl, by rw [e] at hd'; exact hd'⟩
  · have hd := opd_den hf hg hv
    rw [e1] at hd
    have hd' := hd
    simp only [Den] at hd
    obtain ⟨fs, cs, e, q⟩ := hd
    exact ⟨_, by simp [execOp, ho, e]; rfl, by rw [e] at hd'; exact hd'⟩
  · have hd := opd_den hf hg hv.1
    rw [e1] at hd
    have hd' := hd
    simp only [Den] at hd
    obtain ⟨fs, cs, e, q, q2⟩ := hd
    rw [e] at hd'
    obtain ⟨v1, rfl⟩ : ∃ v1, fs = [v1] := by
      match fs, q with
      | [v1], _ => exact ⟨v1, rfl⟩
      | [], q => simp only [DenL] at q
      | _ :: _ :: _, q => simp only [DenL] at q; exact q.2.elim
    simp only [DenL] at q
    obtain ⟨t, y, rfl, hn⟩ := hv.2 E v1 q.1
    refine ⟨_, ?_, hd'⟩
    simp [execOp, ho, e, hn]

def evField (Γ : Tab) (st : SS) (g : Bool) (t : TypeId) (x : Operand) (f : Nat) : Option (SV × Prop) :=
  match opd st x, fieldOf (Γ t).d f with
  | .ptr n o, some (off, ft) => some (.ptr n (o + off), ovc st g x ∧ (Γ ft).size ≠ 0 ∧ (Γ ft).d ≠ .none)
  | .ep n get, some (off, ft) => some (.ep (n - off) (fun d => get (off + d)), ovc st g x ∧ (Γ ft).size ≠ 0 ∧ (Γ ft).d ≠ .none)
  | _, _ => none

theorem fieldOf_run {P : Program} {Γ : Tab} (hΓ : Γ.ok P) {t : TypeId} {f off : Nat} {ft : TypeId} (h : fieldOf (Γ t).d f = some (off, ft)) :
    ∃ fields fd, P.underlying t = some (.struct fields) ∧ fields[f]? = some fd ∧ fd.offset = off ∧ fd.type = ft := by
  have hd := (hΓ t).und
  unfold fieldOf at h
  split at h
  · rename_i fs e
    rw [e] at hd
    obtain ⟨fields, h1, h2⟩ := hd
    rw [nth_eq, ← h2] at h
    simp only [List.getElem?_map, Option.map_eq_some_iff, Prod.mk.injEq] at h
    obtain ⟨fd, h3, h4, h5⟩ := h
    exact ⟨fields, fd, h1, by simpa using h3, h4, h5⟩
  · cases h

theorem addr_add (b off n : Nat) : (⟨b, off, none⟩ : Addr).add n = ⟨b, off + n, none⟩ := by
  unfold Addr.add; split
  · rename_i h; subst h; rfl
  · rfl

theorem run_fieldPlace {P : Program} {Γ : Tab} (hΓ : Γ.ok P) {fd : Field} (hs : (Γ fd.type).size ≠ 0) (hn : (Γ fd.type).d ≠ .none) (w : World) (ad : Addr) :
    (fieldPlace ad fd).run P w = .ok (ad.add fd.offset) w := by
  obtain ⟨i, z, hi, h1, -⟩ := Tab.info hΓ _ hn
  simp [fieldPlace, run_sizeOf' hi, h1, hs]

theorem evField_sound {P : Program} {Γ : Tab} (hΓ : Γ.ok P) {E : Env} {st : SS} {a : Act} {w : World} {g : Bool} (hf : Fr E st a) (hg : g = true) {t : TypeId} {x : Operand} {f : Nat} {r : SV} {vc : Prop}
    (h : evField Γ st g t x f = some (r, vc)) (hv : vc) : ∃ v, (Instr.fieldAt t (a.eval x) f).run P w = .ok v w ∧ Den E r v := by
  unfold evField at h
  split at h <;> simp only [Option.some.injEq, Prod.mk.injEq, reduceCtorEq] at h <;> obtain ⟨rfl, rfl⟩ := h <;> rename_i e1 e2
  · obtain ⟨fields, fd, h1, h2, rfl, rfl⟩ := fieldOf_run hΓ e2
    have hd := opd_den hf hg hv.1
    rw [e1] at hd
    simp only [Den] at hd
    obtain ⟨b, hb, e⟩ := hd
    refine ⟨.pointer (some ⟨b, _, none⟩), ?_, by simp only [Den]; exact ⟨b, hb, rfl⟩⟩
    simp [Instr.fieldAt, run_underlying h1, h2, e, Instr.sureAddr, run_fieldPlace hΓ hv.2.1 hv.2.2, addr_add]
  · obtain ⟨fields, fd, h1, h2, rfl, rfl⟩ := fieldOf_run hΓ e2
    have hd := opd_den hf hg hv.1
    rw [e1] at hd
    simp only [Den] at hd
    obtain ⟨b, off, e, q⟩ := hd
    refine ⟨.pointer (some ⟨b, off + fd.offset, none⟩), ?_, ?_⟩
    · simp [Instr.fieldAt, run_underlying h1, h2, e, Instr.sureAddr, run_fieldPlace hΓ hv.2.1 hv.2.2, addr_add]
    · simp only [Den]
      refine ⟨b, _, rfl, fun d hd => ?_⟩
      obtain ⟨x', p, q⟩ := q (fd.offset + d) (by omega)
      exact ⟨x', by rw [Nat.add_assoc]; exact p, q⟩

def evIndexAddr (Γ : Tab) (st : SS) (g : Bool) (t : TypeId) (x ix : Operand) : Option (SV × Prop) :=
  match opd st x, opd st ix, (Γ t).d with
  | .ints k tg l, .i _ i, .slice e => some (.ep 1 (fun _ => .i k (l.getD i.toNat 0)), ovc st g x ∧ ovc st g ix ∧ 0 ≤ i ∧ i < l.length ∧ (Γ e).size = 1 ∧ (Γ e).d ≠ .none)
  | .sl sz tg n el, .i _ i, .slice e => some (.ep sz (el i.toNat), ovc st g x ∧ ovc st g ix ∧ 0 ≤ i ∧ i < n ∧ (Γ e).size = sz ∧ (Γ e).d ≠ .none)
  | .ptr n o, .i _ i, .arr len e => some (.ptr n (o + i.toNat * (Γ e).size), ovc st g x ∧ ovc st g ix ∧ 0 ≤ i ∧ i < len ∧ (Γ e).d ≠ .none)
  | _, _, _ => none

theorem evIndexAddr_sound {P : Program} {Γ : Tab} (hΓ : Γ.ok P) {E : Env} {st : SS} {a : Act} {w : World} {g : Bool} (hf : Fr E st a) (hg : g = true) {t : TypeId} {x ix : Operand} {r : SV} {vc : Prop}
    (h : evIndexAddr Γ st g t x ix = some (r, vc)) (hv : vc) : ∃ v, (Instr.indexAt t (a.eval x) (a.eval ix)).run P w = .ok v w ∧ Den E r v := by
  unfold evIndexAddr at h
  have hd := (hΓ t).und
  split at h <;> simp only [Option.some.injEq, Prod.mk.injEq, reduceCtorEq] at h <;> obtain ⟨rfl, rfl⟩ := h <;> rename_i e1 e2 e3 <;> rw [e3] at hd <;> simp only [TD.ok] at hd
  · rename_i k tg l k' i el
    obtain ⟨v1, v2, h0, h1, h2, h3⟩ := hv
    have hx := opd_den hf hg v1
    have hi := opd_den hf hg v2
    rw [e1] at hx; rw [e2] at hi
    simp only [Den] at hx hi
    obtain ⟨p, cap, e, _, _, q, _⟩ := hx
    have hlt : i.toNat < l.length := by omega
    obtain ⟨b, off, rfl, hm⟩ := q i.toNat _ (List.getElem?_eq_getElem hlt)
    obtain ⟨i', z, hi', h4, -⟩ := Tab.info hΓ _ h3
    refine ⟨.pointer (some ⟨b, off + i.toNat, none⟩), ?_, ?_⟩
    · simp [Instr.indexAt, e, hi, asIntOf, run_underlying hd, h0, h1, run_sizeOf' hi', h4, h2, addr_add]
    · simp only [Den]
      refine ⟨b, _, rfl, fun d hd => ?_⟩
      obtain rfl : d = 0 := by omega
      exact ⟨_, hm, by simp [hlt]⟩
  · rename_i sz tg n el k' i el'
    obtain ⟨v1, v2, h0, h1, h2, h3⟩ := hv
    have hx := opd_den hf hg v1
    have hi := opd_den hf hg v2
    rw [e1] at hx; rw [e2] at hi
    simp only [Den] at hx hi
    obtain ⟨p, cap, e, _, _, q, _⟩ := hx
    have hlt : i.toNat < n := by omega
    obtain ⟨b, off, rfl, hm⟩ := q i.toNat hlt
    obtain ⟨i', z, hi', h4, -⟩ := Tab.info hΓ _ h3
    refine ⟨.pointer (some ⟨b, off + i.toNat * sz, none⟩), ?_, ?_⟩
    · simp [Instr.indexAt, e, hi, asIntOf, run_underlying hd, h0, h1, run_sizeOf' hi', h4, h2, addr_add]
    · simp only [Den]
      exact ⟨b, _, rfl, fun d hd => hm d hd⟩
  · obtain ⟨v1, v2, h0, h1, h3⟩ := hv
    have hx := opd_den hf hg v1
    have hi := opd_den hf hg v2
    rw [e1] at hx; rw [e2] at hi
    simp only [Den] at hx hi
    obtain ⟨b, hb, e⟩ := hx
    obtain ⟨i', z, hi', h4, -⟩ := Tab.info hΓ _ h3
    refine ⟨_, ?_, by simp only [Den]; exact ⟨b, hb, rfl⟩⟩
    simp [Instr.indexAt, e, hi, asIntOf, run_underlying hd, h0, h1, run_sizeOf' hi', h4, addr_add, Instr.sureAddr]
end Go.Eng
