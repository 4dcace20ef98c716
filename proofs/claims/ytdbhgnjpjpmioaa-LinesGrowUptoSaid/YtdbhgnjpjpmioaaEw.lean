/- The engine, part W: a region that draws its order, whatever it does: by a family of states, one for each set of what has been done. -/
import Derived.Test.YtdbhgnjpjpmioaaEu
namespace Go.Eng
open Go
set_option linter.unusedVariables false
set_option linter.unusedSimpArgs false

/-- What goes ahead of an operation has been done. -/
def Ahead (o : Oper) (D : Nat → Bool) : Prop := ∀ e ∈ o.after.toList, Region.binds .any e = true → D e.on = true

def doneK (J : SS → Prop) (t : SS) : Prop := ∃ s, Sub t s ∧ J s

theorem wpList_one {P : Program} {ops : Array Oper} {Q : Exit → Act → World → Prop} {o : Oper} {a : Act} {w : World} {i : Nat} {K : Act → World → Prop} (ho : ops[i]? = some o) {Q' : Exit → Act → World → Prop} (hQ : ∀ a w, Q' .normal a w → K a w) (hp : ∀ c a w, ¬ Q' (.panic c) a w) (hl : ¬ LetsOut Q')
    (h : wpList P ops Q' [o] a w) : wpOp P ops Q i K a w := by
  unfold wpOp
  rw [ho]
  simp only [wpList] at h ⊢
  split at h
  · rename_i hw
    rw [if_pos hw]
    left
    rcases h with h | h
    · unfold Oper.wp at h ⊢
      revert h
      cases (execOp a.eval o).run P w with
      | ok x w' =>
        cases x <;> intro h <;> first
          | exact hQ _ _ h
          | exact h.elim
          | (refine h.mono ?_
             intro e w'' h
             cases e with
             | returned v => exact hQ _ _ h
             | panicked c => exact (hp _ _ _ h).elim
             | outgrown => exact (hl h).elim)
          | (intro c cs
             obtain ⟨v, w2, h1, h2⟩ := h c cs
             exact ⟨v, w2, hQ _ _ h1, h2⟩)
      | halt x w' => cases x <;> intro h <;> first | exact (hp _ _ _ h).elim | exact h.elim
    · exact (hl h.2).elim
  · rename_i hw
    rw [if_neg hw]
    exact hQ _ _ h

def unl (f : Nat → Bool) (N : Nat) : Nat := ((List.range N).filter fun j => !f j).length
theorem unl_succ (f : Nat → Bool) (N : Nat) : unl f (N + 1) = unl f N + (if f N then 0 else 1) := by
  unfold unl
  rw [List.range_succ, List.filter_append, List.length_append]
  cases h : f N <;> simp [h]
theorem unl_upd (f : Nat → Bool) (i : Nat) (h : f i = false) : ∀ N, unl (fun j => if j = i then true else f j) N + (if i < N then 1 else 0) = unl f N
  | 0 => by simp [unl]
  | N + 1 => by
    have ih := unl_upd f i h N
    rw [unl_succ, unl_succ]
    by_cases e : N = i
    · subst e
      simp only [if_pos, h, Nat.lt_irrefl, if_false] at ih ⊢
      simp only [Nat.lt_succ_self, if_true, Bool.false_eq_true, if_false] at ih ⊢
      omega
    · have e2 : (if N = i then true else f N) = f N := if_neg e
      have e3 : (i < N + 1) ↔ (i < N) := by omega
      simp only [e2, e3]
      omega
theorem unl_zero (f : Nat → Bool) : ∀ N, unl f N = 0 → ∀ j, j < N → f j = true
  | 0, _, j, h => by omega
  | N + 1, h0, j, h => by
    rw [unl_succ] at h0
    by_cases e : j = N
    · subst e
      cases hf : f j with
      | true => rfl
      | false => rw [hf] at h0; simp at h0
    · exact unl_zero f N (by omega) j (by omega)

/-- Every operation waits for earlier ones alone. -/
def backB (l : List Oper) : Bool := (List.range l.length).all fun i => match l[i]? with | some o => o.after.toList.all fun e => !Region.binds .any e || decide (e.on < i) | none => true

theorem getD_set {a : Array Bool} {i : Nat} (h : i < a.size) : (fun j => (a.setIfInBounds i true).getD j false) = fun j => if j = i then true else a.getD j false := by
  funext j
  by_cases e : j = i
  · subst e
    simp [h]
  · simp only [Array.getD_eq_getD_getElem?, if_neg e]
    rw [Array.getElem?_setIfInBounds_ne (Ne.symm e)]

theorem region_any' {P : Program} {Γ : Tab} {B : Ctx} (hrd : B.rd = none) (hΓ : Γ.ok P) (hm : P.follows .mixedOrders = true) {id : Nat} {l : List Oper} {s : SS} {K : Ex → SS → Prop} (hback : backB l = true) (J : (Nat → Bool) → SS → Prop)
    (h0 : doneK (J fun _ => false) s)
    (step : ∀ (D : Nat → Bool) (i : Nat) (o : Oper) (t : SS), J D t → l[i]? = some o → D i = false → Ahead o D → (∀ j oj, l[j]? = some oj → D j = true → Ahead oj D) → evOps P Γ l (doneK (J fun j => if j = i then true else D j)) [o] t)
    (fin : ∀ (D : Nat → Bool) (t : SS), J D t → (∀ j, j < l.length → D j = true) → doneK (K .normal) t) : CodeOK P B (.region id l.toArray true) s K := by
  intro E a w hb hf hw
  rw [hrd]
  refine wpIn_wide.2 (wp_region_any hm ?_)
  have hw' : Good E s { w with drawn := w.drawn + 1 } := hw.congr rfl rfl rfl rfl
  obtain ⟨s0, hs, hJ⟩ := h0
  obtain ⟨E0, p1, p2, p3⟩ := hs E a _ hf hw'
  have hready : ∀ (listed : Array Bool) (i : Nat), listed.size = l.length → (i ∈ Region.ready .any l.toArray listed ↔ i < l.length ∧ listed.getD i false = false ∧ ∀ o, l[i]? = some o → Ahead o fun j => listed.getD j false) := by
    intro listed i hsz
    unfold Region.ready
    rw [List.mem_filter, List.mem_range, List.size_toArray]
    constructor
    · rintro ⟨h1, h2⟩
      have ho : l[i]? = some l[i] := List.getElem?_eq_getElem h1
      simp only [List.getElem?_toArray, ho, Option.map_some, Option.getD_some, Bool.and_eq_true, Bool.not_eq_true', Array.all_eq_true] at h2
      refine ⟨h1, ?_, fun o e => ?_⟩
      · have := h2.1
        simp only [Array.getD_eq_getD_getElem?, Array.getElem?_eq_getElem (show i < listed.size by omega), Option.getD_some] at this ⊢
        exact this
      · rw [ho] at e
        injection e with e
        subst e
        intro ed hed hbi
        rw [Array.mem_toList_iff, Array.mem_iff_getElem] at hed
        obtain ⟨k, hk, rfl⟩ := hed
        have := h2.2 k hk
        rw [hbi] at this
        simpa using this
    · rintro ⟨h1, h2, h3⟩
      have ho : l[i]? = some l[i] := List.getElem?_eq_getElem h1
      refine ⟨h1, ?_⟩
      simp only [List.getElem?_toArray, ho, Option.map_some, Option.getD_some, Bool.and_eq_true, Bool.not_eq_true', Array.all_eq_true]
      refine ⟨?_, fun k hk => ?_⟩
      · simp only [Array.getD_eq_getD_getElem?, Array.getElem?_eq_getElem (show i < listed.size by omega), Option.getD_some] at h2 ⊢
        exact h2
      · have := h3 _ ho l[i].after[k] (by rw [Array.mem_toList_iff]; exact Array.getElem_mem hk)
        cases hbi : Region.binds .any l[i].after[k] with
        | false => rfl
        | true => simpa [hbi] using this hbi
  have hall : ∀ (listed : Array Bool), listed.size = l.length → Region.ready .any l.toArray listed = [] → ∀ j, j < l.length → listed.getD j false = true := by
    intro listed hsz hr j
    induction j using Nat.strongRecOn with
    | ind j ih =>
      intro hj
      cases hd : listed.getD j false with
      | true => rfl
      | false =>
        have : j ∈ Region.ready .any l.toArray listed := by
          rw [hready listed j hsz]
          refine ⟨hj, hd, fun o ho e he hbd => ?_⟩
          have hB := hback
          unfold backB at hB
          rw [List.all_eq_true] at hB
          have := hB j (List.mem_range.2 hj)
          rw [ho] at this
          simp only [List.all_eq_true, Bool.or_eq_true, Bool.not_eq_true', decide_eq_true_eq] at this
          have hlt : e.on < j := (this e he).resolve_left (by rw [hbd]; simp)
          exact ih e.on hlt (by omega)
        rw [hr] at this
        cases this
  have main : ∀ (n : Nat) (listed : Array Bool) (E1 : Env) (t : SS) (a : Act) (w : World), listed.size = l.length → E.Ext E1 → Fr E1 t a → Good E1 t w → J (fun j => listed.getD j false) t →
      (∀ j oj, l[j]? = some oj → listed.getD j false = true → Ahead oj fun j => listed.getD j false) → unl (fun j => listed.getD j false) l.length ≤ n → wpAny P .any l.toArray (QK E K) n listed a w := by
    intro n
    induction n with
    | zero =>
      intro listed E1 t a w hsz hx hf hw hJ hcl hn
      have hdone := unl_zero _ _ (by omega : unl (fun j => listed.getD j false) l.length = 0)
      obtain ⟨t2, q1, q2⟩ := fin _ t hJ hdone
      obtain ⟨E2, m1, m2, m3⟩ := q1 E1 a w hf hw
      refine ⟨?_, E2, t2, .normal, hx.trans m1, m2, m3, trivial, q2⟩
      cases hr : Region.ready .any l.toArray listed with
      | nil => rfl
      | cons x xs =>
        have := (hready listed x hsz).1 (by rw [hr]; simp)
        have h2 := hdone x this.1
        rw [this.2.1] at h2
        cases h2
    | succ n ih =>
      intro listed E1 t a w hsz hx hf hw hJ hcl hn
      refine ⟨fun hr => ?_, fun i hi => ?_⟩
      · obtain ⟨t2, q1, q2⟩ := fin _ t hJ (hall listed hsz hr)
        obtain ⟨E2, m1, m2, m3⟩ := q1 E1 a w hf hw
        exact ⟨E2, t2, .normal, hx.trans m1, m2, m3, trivial, q2⟩
      obtain ⟨r1, r2, r3⟩ := (hready listed i hsz).1 hi
      have ho : l[i]? = some l[i] := List.getElem?_eq_getElem r1
      have hst := step _ i l[i] t hJ ho r2 (r3 _ ho) hcl
      have hset := getD_set (a := listed) (i := i) (by omega)
      have hl := evOps_sound (Q := fun e a' w' => e = .normal ∧ ∃ E2 t2, E.Ext E2 ∧ Fr E2 t2 a' ∧ Good E2 t2 w' ∧ J (fun j => if j = i then true else listed.getD j false) t2) hΓ [l[i]] E1 t a w hf hw hst (fun E' st' a' w' h1 h2 h3 h4 => by
        obtain ⟨t2, q1, q2⟩ := h4
        obtain ⟨E2, m1, m2, m3⟩ := q1 E' a' w' h2 h3
        exact ⟨rfl, E2, t2, (hx.trans h1.ext).trans m1, m2, m3, q2⟩)
      refine wpList_one (i := i) (by simp) (fun a' w' h => ?_) (fun c a' w' h => by cases h.1) (by rintro ⟨a', w', h⟩; cases h.1) hl
      obtain ⟨-, E2, t2, m1, m2, m3, m4⟩ := h
      refine ih _ E2 t2 a' w' (by simpa using hsz) m1 m2 m3 (by rw [hset]; exact m4) ?_ ?_
      · intro j oj hj hd e he hbi
        have hpt : ∀ j, (listed.setIfInBounds i true).getD j false = if j = i then true else listed.getD j false := fun j => congrFun hset j
        rw [hpt] at hd
        show (listed.setIfInBounds i true).getD e.on false = true
        rw [hpt]
        by_cases hji : j = i
        · subst hji
          rw [ho] at hj
          injection hj with hj
          subst hj
          have := r3 _ ho e he hbi
          split
          · rfl
          · exact this
        · rw [if_neg hji] at hd
          have := hcl j oj hj hd e he hbi
          split
          · rfl
          · exact this
      · rw [hset]
        have := unl_upd (fun j => listed.getD j false) i r2 l.length
        rw [if_pos r1] at this
        omega
  have hrep : (fun j => (Array.replicate l.toArray.size false).getD j false) = fun _ => false := by
    funext j
    simp only [Array.getD_eq_getD_getElem?, Array.getElem?_replicate]
    split <;> rfl
  refine main _ _ E0 s0 a _ (by simp) p1 p2 p3 (by rw [hrep]; exact hJ) ?_ ?_
  · intro j oj _ hd
    have this : (Array.replicate l.toArray.size false).getD j false = false := congrFun hrep j
    rw [this] at hd
    cases hd
  · unfold unl
    refine Nat.le_trans (List.length_filter_le _ _) ?_
    simp
theorem region_any {P : Program} {Γ : Tab} {B : Ctx} (hrd : B.rd = none) (hΓ : Γ.ok P) (hm : P.follows .mixedOrders = true) {id : Nat} {l : List Oper} {s : SS} {K : Ex → SS → Prop} (hback : backB l = true) (J : (Nat → Bool) → SS → Prop)
    (h0 : doneK (J fun _ => false) s)
    (step : ∀ (D : Nat → Bool) (i : Nat) (o : Oper) (t : SS), J D t → l[i]? = some o → D i = false → Ahead o D → (∀ j oj, l[j]? = some oj → D j = true → Ahead oj D) → evOps P Γ l (doneK (J fun j => if j = i then true else D j)) [o] t)
    (fin : ∀ (D : Nat → Bool) (t : SS), J D t → (∀ j, j < l.length → D j = true) → K .normal t) : CodeOK P B (.region id l.toArray true) s K :=
  region_any' hrd hΓ hm hback J h0 step fun D t h1 h2 => ⟨t, Sub.refl t, fin D t h1 h2⟩
end Go.Eng
