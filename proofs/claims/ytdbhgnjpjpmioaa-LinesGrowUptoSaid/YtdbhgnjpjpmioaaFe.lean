/- The engine, part FE: a region in any order, by a plan: that the rule holds. -/
import Derived.Test.YtdbhgnjpjpmioaaFd
namespace Go.Eng
open Go
set_option linter.unusedVariables false
set_option linter.unusedSimpArgs false

theorem lget_lset : ∀ (fr : List SV) (d k : Nat) (v : SV), lget (lset fr d v) k = if k = d ∧ d < fr.length then v else lget fr k
  | [], d, k, v => by simp [lset]
  | x :: r, 0, 0, v => by simp [lset, lget]
  | x :: r, 0, k + 1, v => by simp [lset, lget]
  | x :: r, d + 1, 0, v => by simp [lset, lget]
  | x :: r, d + 1, k + 1, v => by simp only [lset, lget, lget_lset r d k v]; simp
theorem lset_length : ∀ (fr : List SV) (d : Nat) (v : SV), (lset fr d v).length = fr.length
  | [], d, v => rfl
  | x :: r, 0, v => rfl
  | x :: r, d + 1, v => by simp only [lset, List.length_cons, lset_length r d v]
theorem lget_ext : ∀ (a b : List SV), a.length = b.length → (∀ k, lget a k = lget b k) → a = b
  | [], [], _, _ => rfl
  | x :: xs, y :: ys, h, e => by
    have h0 := e 0
    simp only [lget] at h0
    rw [h0, lget_ext xs ys (by simpa using h) fun k => by simpa only [lget] using e (k + 1)]
  | [], _ :: _, h, _ => by simp at h
  | _ :: _, [], h, _ => by simp at h

theorem evGuard_congr {s t : SS} {l : List Oper} {o : Oper} (h : ∀ d, d ∈ readsOf l o → lget s.fr d = lget t.fr d) : evGuard s l o = evGuard t l o := by
  unfold evGuard
  cases hg : o.guard with
  | none => rfl
  | some p =>
    obtain ⟨j, want⟩ := p
    simp only
    cases hj : nth l j with
    | none => rfl
    | some oj =>
      simp only
      cases hd : oj.dst with
      | none => rfl
      | some d =>
        simp only
        rw [h d (by unfold readsOf; simp [hg, hj, hd])]
theorem reads_agree {s t : SS} {l : List Oper} {o : Oper} (h : ∀ d, d ∈ readsOf l o → lget s.fr d = lget t.fr d) : Agree s t (opsOf o.op) := by
  intro x hx
  cases x with
  | tmp k =>
    simp only [SS.eval]
    refine h k ?_
    unfold readsOf
    rw [List.mem_append, List.mem_filterMap]
    exact .inl ⟨_, hx, rfl⟩
  | const v => rfl
  | global g => rfl
  | func f => rfl

/-- One operation, the variables that it does not read being others. -/
theorem evOps_with {P : Program} {Γ : Tab} {s : SS} {fr : List SV} {l : List Oper} {o : Oper} {K : SS → Prop} (h : ∀ d, d ∈ readsOf l o → lget s.fr d = lget fr d) (hs : evOps P Γ l K [o] s) : evOps P Γ l (OnFr s fr o.dst K) [o] (s.with fr) := by
  have ha : Agree s (s.with fr) (opsOf o.op) := reads_agree (t := s.with fr) h
  simp only [evOps] at hs ⊢
  rw [← evGuard_congr (s := s) (t := s.with fr) h]
  split at hs
  · exact hs.elim
  · rw [← evalP_congr (s := s) (t := s.with fr) ha (fun _ => rfl)]
    split at hs
    · exact ⟨hs.1, OnFr.of (s1 := s) hs.2 rfl⟩
    · exact evEff_with ha hs
  · rename_i g hg
    rw [← evalP_congr (s := s) (t := s.with fr) ha (fun _ => rfl)]
    split at hs
    · exact ⟨hs.1, OnFr.of (s1 := s) hs.2 rfl⟩
    · exact ⟨fun e => evEff_with ha (hs.1 e), fun e => OnFr.of (s1 := s) (hs.2 e) rfl⟩

/-- What an operation comes to. -/
def Evals (P : Program) (Γ : Tab) (l : List Oper) (st : SS) (o : Oper) (v : SV) : Prop :=
  match evGuard st l o with
  | .bad => False
  | .run => ∃ vc, evalP P Γ st true o.op = some (v, vc) ∧ vc
  | .when g => ∃ v' vc, evalP P Γ st g o.op = some (v', vc) ∧ (g = true → vc) ∧ v = .cnd g v'

open Classical in
/-- What stands in a slot, where those of S are done. -/
noncomputable def slotV (l : List Oper) (fr0 : List SV) (val : Nat → SV) (S : Nat → Prop) (k : Nat) : SV :=
  if h : ∃ j o, nth l j = some o ∧ o.dst = some k ∧ S j then val (Classical.choose h) else lget fr0 k

theorem mem_writers {l : List Oper} {d j : Nat} : j ∈ writers l d ↔ ∃ o, nth l j = some o ∧ o.dst = some d := by
  unfold writers
  rw [List.mem_filter, List.mem_range]
  constructor
  · rintro ⟨h1, h2⟩
    split at h2
    · rename_i o e; exact ⟨o, e, by simpa using h2⟩
    · cases h2
  · rintro ⟨o, e, hd⟩
    refine ⟨?_, by rw [e]; simpa using hd⟩
    rw [nth_eq] at e
    exact (List.getElem?_eq_some_iff.1 e).1

structure PlanOK (l : List Oper) (n : Nat) : Prop where
  back : backB l = true
  dst : ∀ i o d, nth l i = some o → o.dst = some d → d < n ∧ ∀ j oj, nth l j = some oj → oj.dst = some d → j = i
  reads : ∀ i o d, nth l i = some o → d ∈ readsOf l o → ∀ j oj, nth l j = some oj → oj.dst = some d → j ∈ (nth (anc l) i).getD [] ∨ (loadB o.op = false ∧ i ∈ (nth (anc l) j).getD [])

theorem nth_lt {α : Type} {l : List α} {i : Nat} {x : α} (h : nth l i = some x) : i < l.length := by
  rw [nth_eq] at h; exact (List.getElem?_eq_some_iff.1 h).1
theorem nth_some {α : Type} {l : List α} {i : Nat} (h : i < l.length) : ∃ x, nth l i = some x := ⟨l[i], by rw [nth_eq]; exact List.getElem?_eq_getElem h⟩

theorem planB_ok {l : List Oper} {n : Nat} {p : Sched} (h : planB l n p = true) : PlanOK l n ∧ okS l (anc l) p [] = true := by
  unfold planB at h
  simp only [Bool.and_eq_true, List.all_eq_true, List.mem_range] at h
  obtain ⟨⟨⟨h1, h2⟩, h3⟩, h4⟩ := h
  refine ⟨⟨h1, fun i o d e hd => ?_, fun i o d e hd j oj ej hj => ?_⟩, h4⟩
  · unfold dstB at h2
    simp only [List.all_eq_true, List.mem_range] at h2
    have := h2 i (nth_lt e)
    simp only [e, hd, Bool.and_eq_true, decide_eq_true_eq, beq_iff_eq] at this
    refine ⟨this.2, fun j oj ej hj => ?_⟩
    have hm : j ∈ writers l d := mem_writers.2 ⟨oj, ej, hj⟩
    rw [this.1] at hm
    simpa using hm
  · have := h3 i (nth_lt e)
    unfold readsB at this
    simp only [e, List.all_eq_true] at this
    have := this d hd j (mem_writers.2 ⟨oj, ej, hj⟩)
    simp only [Bool.or_eq_true, Bool.and_eq_true, List.contains_iff_mem, Bool.not_eq_true'] at this
    exact this

theorem slotV_in {l : List Oper} {n : Nat} (hp : PlanOK l n) {fr0 : List SV} {val : Nat → SV} {S : Nat → Prop} {k j : Nat} {o : Oper} (e : nth l j = some o) (hd : o.dst = some k) (hS : S j) : slotV l fr0 val S k = val j := by
  have h : ∃ j o, nth l j = some o ∧ o.dst = some k ∧ S j := ⟨j, o, e, hd, hS⟩
  unfold slotV
  rw [dif_pos h]
  obtain ⟨o', h1, h2, h3⟩ := Classical.choose_spec h
  rw [(hp.dst j o k e hd).2 _ o' h1 h2]
theorem slotV_out {l : List Oper} {fr0 : List SV} {val : Nat → SV} {S : Nat → Prop} {k : Nat} (h : ∀ j o, nth l j = some o → o.dst = some k → ¬ S j) : slotV l fr0 val S k = lget fr0 k := by
  unfold slotV
  rw [dif_neg]
  rintro ⟨j, o, h1, h2, h3⟩
  exact h j o h1 h2 h3
theorem slotV_congr {l : List Oper} {n : Nat} (hp : PlanOK l n) {fr0 : List SV} {val val' : Nat → SV} {S S' : Nat → Prop} {k : Nat} (h : ∀ j o, nth l j = some o → o.dst = some k → (S j ↔ S' j) ∧ (S j → val j = val' j)) : slotV l fr0 val S k = slotV l fr0 val' S' k := by
  by_cases hx : ∃ j o, nth l j = some o ∧ o.dst = some k ∧ S j
  · obtain ⟨j, o, h1, h2, h3⟩ := hx
    rw [slotV_in hp h1 h2 h3, slotV_in hp h1 h2 ((h j o h1 h2).1.1 h3), (h j o h1 h2).2 h3]
  · rw [slotV_out (fun j o h1 h2 h3 => hx ⟨j, o, h1, h2, h3⟩), slotV_out (fun j o h1 h2 h3 => hx ⟨j, o, h1, h2, (h j o h1 h2).1.2 h3⟩)]

theorem ancL_app : ∀ (r : List Oper) (acc : List (List Nat)), ∃ rest, ancL r acc = acc ++ rest
  | [], acc => ⟨[], by simp [ancL]⟩
  | o :: r, acc => by
    obtain ⟨rest, h⟩ := ancL_app r (acc ++ [((afterB o).map fun j => j :: (nth acc j).getD []).flatten.eraseDups])
    exact ⟨[((afterB o).map fun j => j :: (nth acc j).getD []).flatten.eraseDups] ++ rest, by rw [ancL, h, List.append_assoc]⟩
theorem nth_app_left {α : Type} {a b : List α} {i : Nat} {x : α} (h : nth a i = some x) : nth (a ++ b) i = some x := by
  rw [nth_eq] at h ⊢
  rw [List.getElem?_append_left (List.getElem?_eq_some_iff.1 h).1]; exact h
theorem ancL_spec : ∀ (r : List Oper) (acc : List (List Nat)) (i : Nat) (o : Oper), nth r i = some o → ∀ j, j ∈ (nth (ancL r acc) (acc.length + i)).getD [] → ∃ d, d ∈ afterB o ∧ (j = d ∨ (d < acc.length + i ∧ j ∈ (nth (ancL r acc) d).getD []))
  | [], acc, i, o, h, j, hj => by simp [nth] at h
  | o' :: r, acc, 0, o, h, j, hj => by
    simp only [nth, Option.some.injEq] at h
    subst h
    obtain ⟨rest, hr⟩ := ancL_app r (acc ++ [((afterB o').map fun j => j :: (nth acc j).getD []).flatten.eraseDups])
    rw [ancL, hr] at hj ⊢
    rw [nth_eq, Nat.add_zero, List.append_assoc, List.getElem?_append_right (Nat.le_refl _)] at hj
    simp only [Nat.sub_self, List.cons_append, List.nil_append, List.getElem?_cons_zero, Option.getD_some, List.mem_eraseDups, List.mem_flatten, List.mem_map] at hj
    obtain ⟨m, ⟨d, hd, rfl⟩, hm⟩ := hj
    refine ⟨d, hd, ?_⟩
    rcases List.mem_cons.1 hm with h | h
    · exact .inl h
    · right
      cases hn : nth acc d with
      | none => rw [hn] at h; simp at h
      | some as =>
        refine ⟨by have := nth_lt hn; omega, ?_⟩
        rw [List.append_assoc, nth_app_left hn]
        rw [hn] at h; exact h
  | o' :: r, acc, i + 1, o, h, j, hj => by
    simp only [nth] at h
    have hl : (acc ++ [((afterB o').map fun j => j :: (nth acc j).getD []).flatten.eraseDups]).length + i = acc.length + (i + 1) := by simp; omega
    have := ancL_spec r (acc ++ [((afterB o').map fun j => j :: (nth acc j).getD []).flatten.eraseDups]) i o h j (by rw [hl]; exact hj)
    rw [hl] at this
    exact this
/-- A set that holds with each operation what goes ahead of it holds all that goes ahead through others. -/
theorem anc_closed {l : List Oper} {S : Nat → Prop} (hS : ∀ j oj, nth l j = some oj → S j → ∀ d, d ∈ afterB oj → S d) : ∀ (i : Nat) (o : Oper), nth l i = some o → (∀ d, d ∈ afterB o → S d) → ∀ j, j ∈ (nth (anc l) i).getD [] → S j := by
  intro i
  induction i using Nat.strongRecOn with
  | ind i ih =>
    intro o ho h j hj
    obtain ⟨d, h1, h2⟩ := ancL_spec l [] i o ho j (by simpa [anc] using hj)
    rcases h2 with rfl | ⟨h2, h3⟩
    · exact h _ h1
    · have hlt : d < i := by simpa using h2
      obtain ⟨od, hod⟩ := nth_some (l := l) (i := d) (by have := nth_lt ho; omega)
      exact ih d hlt od hod (hS d od hod (h d h1)) j h3

theorem mem_afterB {o : Oper} {d : Nat} : d ∈ afterB o ↔ ∃ e, e ∈ o.after.toList ∧ Region.binds .any e = true ∧ e.on = d := by
  unfold afterB
  simp only [List.mem_map, List.mem_filter, and_assoc]

/-- Where a walk by the plan stands. -/
structure Stand (P : Program) (Γ : Tab) (l : List Oper) (n : Nat) (fr0 : List SV) (K : SS → Prop) (D : Nat → Bool) (t : SS) (L : List Nat) (p : Sched) (s : SS) (val : Nat → SV) : Prop where
  sub : ∀ j, D j = true → j < l.length → j ∈ L
  lt : ∀ j, j ∈ L → j < l.length
  ok : okS l (anc l) p L = true
  ev : evMix P Γ l K p s
  eq : t = s.with t.fr
  ls : s.fr.length = n
  lt' : t.fr.length = n
  fs : ∀ k, lget s.fr k = slotV l fr0 val (· ∈ L) k
  ft : ∀ k, lget t.fr k = slotV l fr0 val (fun j => D j = true) k
  cl : ∀ j oj, nth l j = some oj → j ∈ L → ∀ d, d ∈ afterB oj → d ∈ L
  pd : ∀ j o, nth l j = some o → j ∈ L → D j = false → ∃ st0 : SS, o.dst.isSome = true ∧ (∀ d, d ∈ readsOf l o → lget st0.fr d = slotV l fr0 val (· ∈ (nth (anc l) j).getD []) d) ∧ (loadB o.op = true → st0.hp = s.hp) ∧ Evals P Γ l st0 o (val j)

theorem put_fr {s : SS} {d : Nat} {v : SV} : (s.put (some d) v).fr = lset s.fr d v := rfl

/-- What leaves the world alone is done at once. -/
theorem eager {P : Program} {Γ : Tab} {l : List Oper} {n : Nat} (hp : PlanOK l n) {fr0 : List SV} {K : SS → Prop} {D : Nat → Bool} {t : SS} (hD : ∀ j, D j = true → j < l.length) : ∀ (p : Sched) (L : List Nat) (s : SS) (val : Nat → SV), Stand P Γ l n fr0 K D t L p s val →
    ∃ L' p' s' val', Stand P Γ l n fr0 K D t L' p' s' val' ∧ (p' = .done ∨ ∃ a, p' = .eff a)
  | .done, L, s, val, h => ⟨L, _, s, val, h, .inl rfl⟩
  | .eff a, L, s, val, h => ⟨L, _, s, val, h, .inr ⟨a, rfl⟩⟩
  | .pure i q, L, s, val, h => by
    have hok := h.ok
    simp only [okS, Bool.and_eq_true, decide_eq_true_eq, Bool.not_eq_true', List.contains_eq_mem, decide_eq_false_iff_not] at hok
    obtain ⟨⟨⟨⟨h1, h2⟩, h3⟩, h4⟩, h5⟩ := hok
    obtain ⟨o, ho⟩ := nth_some h1
    simp only [ho, Bool.and_eq_true] at h4
    obtain ⟨d, hd⟩ := Option.isSome_iff_exists.1 h4.2
    have hrd : ∀ e, e ∈ afterB o → e ∈ L := by
      unfold readyB at h3
      simp only [ho, List.all_eq_true, List.contains_iff_mem] at h3
      exact h3
    have hanc : ∀ j, j ∈ (nth (anc l) i).getD [] → j ∈ L := anc_closed (S := (· ∈ L)) h.cl i o ho hrd
    have hnot : ∀ j oj, nth l j = some oj → i ∈ (nth (anc l) j).getD [] → j ∉ L := fun j oj hj hi hL =>
      h2 (anc_closed (S := (· ∈ L)) h.cl j oj hj (h.cl j oj hj hL) i hi)
    have hDi : D i = false := by
      cases hDi : D i with
      | false => rfl
      | true => exact absurd (h.sub i hDi h1) h2
    obtain ⟨hdn, huniq⟩ := hp.dst i o d ho hd
    have main : ∀ v, Evals P Γ l s o v → evMix P Γ l K q (s.put o.dst v) → ∃ L' p' s' val', Stand P Γ l n fr0 K D t L' p' s' val' ∧ (p' = .done ∨ ∃ a, p' = .eff a) := by
      intro v hv hq
      have hold : ∀ (S : Nat → Prop) k, ¬ S i → slotV l fr0 (upd val i v) S k = slotV l fr0 val S k := fun S k hS => slotV_congr hp fun j oj _ _ => ⟨Iff.rfl, fun hj => upd_ne (by rintro rfl; exact hS hj)⟩
      refine eager hp hD q (i :: L) (s.put o.dst v) (upd val i v) ⟨fun j hj hl => List.mem_cons_of_mem _ (h.sub j hj hl), fun j hj => ?_, h5, hq, ?_, ?_, h.lt', fun k => ?_, fun k => ?_, fun j oj hj hL e he => ?_, fun j oj hj hL hDj => ?_⟩
      · rcases List.mem_cons.1 hj with rfl | hj
        · exact h1
        · exact h.lt j hj
      · rw [hd]; have := h.eq; rw [this]; rfl
      · rw [hd, put_fr, lset_length]; exact h.ls
      · rw [hd, put_fr, lget_lset, h.ls]
        by_cases hk : k = d
        · subst hk
          rw [if_pos ⟨rfl, hdn⟩, slotV_in hp ho hd (by simp), upd_same]
        · rw [if_neg (by rintro ⟨e, _⟩; exact hk e), h.fs k]
          refine slotV_congr hp fun j oj hj hjd => ?_
          have hne : j ≠ i := by rintro rfl; rw [ho] at hj; injection hj with hj; rw [← hj, hd] at hjd; injection hjd with hjd; exact hk hjd.symm
          exact ⟨by simp [hne], fun _ => (upd_ne hne).symm⟩
      · rw [h.ft k]; exact (hold _ k (by rw [hDi]; simp)).symm
      · rcases List.mem_cons.1 hL with rfl | hL
        · rw [ho] at hj; injection hj with hj; subst hj; exact List.mem_cons_of_mem _ (hrd e he)
        · exact List.mem_cons_of_mem _ (h.cl j oj hj hL e he)
      · rcases List.mem_cons.1 hL with rfl | hL2
        · rw [ho] at hj
          injection hj with hj
          subst hj
          refine ⟨s, h4.2, fun e he => ?_, fun _ => by rw [hd]; rfl, by rw [upd_same]; exact hv⟩
          rw [h.fs e]
          refine slotV_congr hp fun w ow hw hwd => ?_
          rcases hp.reads j o e ho he w ow hw hwd with hr | ⟨_, hr⟩
          · exact ⟨⟨fun _ => hr, fun _ => hanc w hr⟩, fun hwL => (upd_ne (by rintro rfl; exact h2 hwL)).symm⟩
          · have hwL := hnot w ow hw hr
            exact ⟨⟨fun hx => absurd hx hwL, fun hx => absurd (hanc w hx) hwL⟩, fun hx => absurd hx hwL⟩
        · obtain ⟨st0, q0, q1, q2, q3⟩ := h.pd j oj hj hL2 hDj
          refine ⟨st0, q0, fun e he => ?_, fun hx => by rw [q2 hx, hd]; rfl, by rw [upd_ne (by rintro rfl; exact h2 hL2)]; exact q3⟩
          rw [q1 e he]
          exact (hold _ e (fun hi => hnot j oj hj hi hL2)).symm
    have hev := h.ev
    simp only [evMix, ho] at hev
    split at hev
    · exact hev.elim
    · rename_i hg
      split at hev
      · rename_i v vc he
        exact main v (by unfold Evals; rw [hg]; exact ⟨vc, he, hev.1⟩) hev.2
      · exact hev.elim
    · rename_i g hg
      split at hev
      · rename_i v vc he
        exact main (.cnd g v) (by unfold Evals; rw [hg]; exact ⟨v, vc, he, hev.1, rfl⟩) hev.2
      · exact hev.elim

theorem alts_mem {P : Program} {Γ : Tab} {l : List Oper} {K : SS → Prop} {L : List Nat} {s : SS} {i : Nat} : ∀ (a : Alts), i ∈ altHeads a → okA l (anc l) a L = true → evAlts P Γ l K a s →
    ∃ pd q o, nth l i = some o ∧ evOps P Γ l (fun s' => heldL P Γ l pd s' ∧ evMix P Γ l K q s') [o] s ∧ i ∉ L ∧ okS l (anc l) q (i :: L) = true ∧
      (∀ j, j ∈ L → ∀ oj, nth l j = some oj → loadB oj.op = true → j ∈ pd ∨ j ∈ (nth (anc l) i).getD []) ∧ (∀ j, j ∈ pd → ∀ oj, nth l j = some oj → oj.guard = none)
  | .nil, hi, _, _ => by simp [altHeads] at hi
  | .cons i' pd q r, hi, hok, hev => by
    simp only [okA, Bool.and_eq_true, decide_eq_true_eq, Bool.not_eq_true', List.contains_eq_mem, decide_eq_false_iff_not, List.all_eq_true, Bool.or_eq_true] at hok
    obtain ⟨⟨⟨⟨⟨⟨h1, h2⟩, h3⟩, h4⟩, h5⟩, h6⟩, h7⟩ := hok
    simp only [evAlts] at hev
    simp only [altHeads] at hi
    by_cases e : i = i'
    · subst e
      obtain ⟨o, ho⟩ := nth_some h1
      have := hev.1
      simp only [ho] at this
      refine ⟨pd, q, o, ho, this, h2, h6, fun j hj oj ej hl => ?_, fun j hj oj ej => ?_⟩
      · have := h4 j hj
        simp only [ej, hl, Bool.not_true, Bool.false_eq_true, false_or, decide_eq_true_eq] at this
        exact this
      · have := h5 j hj
        simp only [ej] at this
        simpa using this
    · exact alts_mem r (by simpa [e] using hi) h7 hev.2

theorem heldL_mem {P : Program} {Γ : Tab} {l : List Oper} {s : SS} {j : Nat} : ∀ (pd : List Nat), j ∈ pd → heldL P Γ l pd s → ∃ o v vc d, nth l j = some o ∧ evalP P Γ s true o.op = some (v, vc) ∧ o.dst = some d ∧ vc ∧ v = lget s.fr d
  | [], hj, _ => by simp at hj
  | i :: r, hj, h => by
    simp only [heldL] at h
    by_cases e : j = i
    · subst e
      have := h.1
      split at this
      · rename_i o ho
        split at this
        · rename_i v vc d h1 h2; exact ⟨o, v, vc, d, ho, h1, h2, this.1, this.2⟩
        · exact this.elim
      · exact this.elim
    · exact heldL_mem r (by simpa [e] using hj) h.2

/-- A region in any order, by a plan. -/
theorem region_plan' {P : Program} {Γ : Tab} {B : Ctx} (hrd : B.rd = none) (hΓ : Γ.ok P) (hm : P.follows .mixedOrders = true) {id : Nat} {l : List Oper} {s : SS} {K : Ex → SS → Prop} (p : Sched) (n : Nat) (hn : s.fr.length = n) (hB : planB l n p = true)
    (h : evMix P Γ l (doneK (K .normal)) p s) : CodeOK P B (.region id l.toArray true) s K := by
  obtain ⟨hp, hok⟩ := planB_ok hB
  refine region_any' hrd hΓ hm hp.back (fun D t => ∃ L q s' val, (Stand P Γ l n s.fr (doneK (K .normal)) (fun j => D j && decide (j < l.length)) t L q s' val) ∧ (q = .done ∨ ∃ a, q = .eff a)) ⟨s, Sub.refl s, ?_⟩ ?_ ?_
  · refine eager hp (fun j hj => by simp at hj) p [] s (fun _ => .any) ⟨fun j hj => by simp at hj, fun j hj => by simp at hj, hok, h, rfl, hn, hn, fun k => (slotV_out fun j o _ _ hS => by simp at hS).symm, fun k => (slotV_out fun j o _ _ hS => by simp at hS).symm, fun j oj _ hj => by simp at hj, fun j o _ hj => by simp at hj⟩
  · rintro D i o t ⟨L, q, s', val, hst, hq⟩ ho hDi hah hcl
    have ho' : nth l i = some o := by rw [nth_eq]; exact ho
    have hil := nth_lt ho'
    let D1 : Nat → Bool := fun j => D j && decide (j < l.length)
    have hD1 : ∀ j, j < l.length → D1 j = D j := fun j hj => by simp [D1, hj]
    have hback := hp.back
    have haftlt : ∀ j oj, nth l j = some oj → ∀ d, d ∈ afterB oj → d < l.length := by
      intro j oj hj d hd
      obtain ⟨e, he, hbd, rfl⟩ := mem_afterB.1 hd
      unfold backB at hback
      rw [List.all_eq_true] at hback
      have hjl := nth_lt hj
      have := hback j (List.mem_range.2 hjl)
      rw [nth_eq] at hj
      rw [hj] at this
      simp only [List.all_eq_true, Bool.or_eq_true, Bool.not_eq_true', decide_eq_true_eq] at this
      have := (this e he).resolve_left (by rw [hbd]; simp)
      omega
    have hclD : ∀ j oj, nth l j = some oj → D1 j = true → ∀ d, d ∈ afterB oj → D1 d = true := by
      intro j oj hj hDj d hd
      have hjl := nth_lt hj
      rw [hD1 j hjl] at hDj
      rw [hD1 d (haftlt j oj hj d hd)]
      obtain ⟨e, he, hb, rfl⟩ := mem_afterB.1 hd
      exact hcl j oj (by rw [← nth_eq]; exact hj) hDj e he hb
    have hahD : ∀ d, d ∈ afterB o → D1 d = true := by
      intro d hd
      rw [hD1 d (haftlt i o ho' d hd)]
      obtain ⟨e, he, hb, rfl⟩ := mem_afterB.1 hd
      exact hah e he hb
    have hancD : ∀ j, j ∈ (nth (anc l) i).getD [] → D1 j = true := anc_closed (S := fun j => D1 j = true) hclD i o ho' hahD
    have hnotD : ∀ j oj, nth l j = some oj → i ∈ (nth (anc l) j).getD [] → D1 j = false := fun j oj hj hi => by
      cases hx : D1 j with
      | false => rfl
      | true =>
        have := anc_closed (S := fun j => D1 j = true) hclD j oj hj (hclD j oj hj hx) i hi
        rw [hD1 i hil, hDi] at this
        cases this
    have hDi1 : D1 i = false := by rw [hD1 i hil]; exact hDi
    have hD2 : (fun j => (if j = i then true else D j) && decide (j < l.length)) = fun j => if j = i then true else D1 j := by
      funext j
      by_cases hj : j = i
      · subst hj; simp [hil]
      · simp [hj, D1]
    have hD2lt : ∀ j, (if j = i then true else D1 j) = true → j < l.length := fun j hj => by
      by_cases e : j = i
      · subst e; exact hil
      · rw [if_neg e] at hj; simp only [D1, Bool.and_eq_true, decide_eq_true_eq] at hj; exact hj.2
    by_cases hiL : i ∈ L
    · -- it has been foreseen
      obtain ⟨st0, q0, q1, q2, q3⟩ := hst.pd i o ho' hiL hDi1
      obtain ⟨d, hd⟩ := Option.isSome_iff_exists.1 q0
      obtain ⟨hdn, huniq⟩ := hp.dst i o d ho' hd
      have hag : ∀ e, e ∈ readsOf l o → lget st0.fr e = lget t.fr e := fun e he => by
        rw [q1 e he, hst.ft e]
        refine slotV_congr hp fun w ow hw hwd => ?_
        refine ⟨⟨fun hx => hancD w hx, fun hx => ?_⟩, fun _ => rfl⟩
        rcases hp.reads i o e ho' he w ow hw hwd with hr | ⟨_, hr⟩
        · exact hr
        · have := hnotD w ow hw hr
          have hx' : D1 w = true := hx
          rw [this] at hx'; cases hx'
      have hhp : loadB o.op = true → st0.hp = t.hp := fun hx => by rw [q2 hx, hst.eq]; rfl
      have fin : ∀ v, v = val i → doneK (fun t => ∃ L q s' val, (Stand P Γ l n s.fr (doneK (K .normal)) (fun j => (if j = i then true else D j) && decide (j < l.length)) t L q s' val) ∧ (q = .done ∨ ∃ a, q = .eff a)) (t.put o.dst v) := by
        rintro v rfl
        rw [hD2]
        refine ⟨_, Sub.refl _, L, q, s', val, ⟨fun j hj hl => ?_, hst.lt, hst.ok, hst.ev, ?_, hst.ls, ?_, hst.fs, fun k => ?_, hst.cl, fun j oj hj hL hDj => ?_⟩, hq⟩
        · by_cases e : j = i
          · subst e; exact hiL
          · rw [if_neg e] at hj; exact hst.sub j hj hl
        · rw [hd]; have := hst.eq; rw [this]; rfl
        · rw [hd, put_fr, lset_length]; exact hst.lt'
        · rw [hd, put_fr, lget_lset, hst.lt']
          by_cases hk : k = d
          · subst hk
            rw [if_pos ⟨rfl, hdn⟩, slotV_in hp ho' hd (by simp)]
          · rw [if_neg (by rintro ⟨e, _⟩; exact hk e), hst.ft k]
            refine slotV_congr hp fun j oj hj hjd => ?_
            have hne : j ≠ i := by rintro rfl; rw [ho'] at hj; injection hj with hj; rw [← hj, hd] at hjd; injection hjd with hjd; exact hk hjd.symm
            exact ⟨by simp only [if_neg hne]; rfl, fun _ => rfl⟩
        · by_cases e : j = i
          · subst e; simp at hDj
          · rw [if_neg e] at hDj; exact hst.pd j oj hj hL hDj
      unfold Evals at q3
      rw [evGuard_congr hag] at q3
      simp only [evOps]
      split at q3
      · exact q3.elim
      · rename_i hg
        obtain ⟨vc, q4, q5⟩ := q3
        rw [evalP_congr (reads_agree hag) hhp] at q4
        rw [hg, q4]
        exact ⟨q5, fin _ rfl⟩
      · rename_i g hg
        obtain ⟨v', vc, q4, q5, q6⟩ := q3
        rw [evalP_congr (reads_agree hag) hhp] at q4
        simp only [hg, q4]
        exact ⟨q5, fin _ q6.symm⟩
    · -- it is the plan's next
      have hq' : ∃ a, q = .eff a := by
        rcases hq with rfl | hq
        · have := hst.ok
          simp only [okS, List.all_eq_true, List.mem_range, List.contains_iff_mem] at this
          exact absurd (this i hil) hiL
        · exact hq
      obtain ⟨a, rfl⟩ := hq'
      have hok2 := hst.ok
      simp only [okS, Bool.and_eq_true, List.all_eq_true, List.contains_iff_mem] at hok2
      obtain ⟨⟨_, k1⟩, k2⟩ := hok2
      have hrdL : ∀ e, e ∈ afterB o → e ∈ L := fun e he => hst.sub e (hahD e he) (haftlt i o ho' e he)
      have hhead : i ∈ altHeads a := k1 i (by
        unfold todo
        rw [List.mem_filter, List.mem_range]
        refine ⟨hil, ?_⟩
        unfold readyB
        simp only [ho', Bool.and_eq_true, Bool.not_eq_true', List.contains_eq_mem, decide_eq_false_iff_not, List.all_eq_true, decide_eq_true_eq]
        exact ⟨hiL, hrdL⟩)
      obtain ⟨pd, q', o', e1, e2, e3, e4, e5, e6⟩ := alts_mem a hhead k2 (by have := hst.ev; simp only [evMix] at this; exact this)
      rw [ho'] at e1
      injection e1 with e1
      subst e1
      have hnotL : ∀ j oj, nth l j = some oj → i ∈ (nth (anc l) j).getD [] → j ∉ L := fun j oj hj hi hL =>
        hiL (anc_closed (S := (· ∈ L)) hst.cl j oj hj (hst.cl j oj hj hL) i hi)
      have hag : ∀ e, e ∈ readsOf l o → lget s'.fr e = lget t.fr e := fun e he => by
        rw [hst.fs e, hst.ft e]
        refine slotV_congr hp fun w ow hw hwd => ?_
        rcases hp.reads i o e ho' he w ow hw hwd with hr | ⟨_, hr⟩
        · have hx := hancD w hr
          exact ⟨⟨fun _ => hx, fun _ => hst.sub w hx (nth_lt hw)⟩, fun _ => rfl⟩
        · have hx := hnotD w ow hw hr
          have hxL := hnotL w ow hw hr
          exact ⟨⟨fun hL => absurd hL hxL, fun hD => by have hD' : D1 w = true := hD; rw [hx] at hD'; cases hD'⟩, fun _ => rfl⟩
      have hrun := evOps_with (fr := t.fr) hag e2
      rw [← hst.eq] at hrun
      have cont : ∀ t', OnFr s' t.fr o.dst (fun s' => heldL P Γ l pd s' ∧ evMix P Γ l (doneK (K .normal)) q' s') t' → doneK (fun t => ∃ L q s' val, (Stand P Γ l n s.fr (doneK (K .normal)) (fun j => (if j = i then true else D j) && decide (j < l.length)) t L q s' val) ∧ (q = .done ∨ ∃ a, q = .eff a)) t' := by
        rintro t' ⟨s2, v, ⟨hheld, hmix⟩, hfr, rfl⟩
        rw [hD2]
        refine ⟨_, Sub.refl _, eager hp hD2lt q' (i :: L) s2 (upd val i v) ?_⟩
        have hold : ∀ (S : Nat → Prop) k, ¬ S i → slotV l s.fr (upd val i v) S k = slotV l s.fr val S k := fun S k hS => slotV_congr hp fun j oj _ _ => ⟨Iff.rfl, fun hj => upd_ne (by rintro rfl; exact hS hj)⟩
        have slots : ∀ (fr : List SV) (S S' : Nat → Prop), fr.length = n → (∀ k, lget fr k = slotV l s.fr val S k) → (∀ j, S' j ↔ j = i ∨ S j) → ¬ S i → ∀ k, lget ((s'.with fr).put o.dst v).fr k = slotV l s.fr (upd val i v) S' k := by
          intro fr S S' hlen hfr hS' hSi k
          cases hd : o.dst with
          | none =>
            show lget fr k = _
            rw [hfr k]
            refine slotV_congr hp fun j oj hj hjd => ?_
            have hne : j ≠ i := by rintro rfl; rw [ho'] at hj; injection hj with hj; rw [← hj, hd] at hjd; cases hjd
            exact ⟨by rw [hS' j]; simp [hne], fun _ => (upd_ne hne).symm⟩
          | some d =>
            obtain ⟨hdn, huniq⟩ := hp.dst i o d ho' hd
            show lget (lset fr d v) k = _
            rw [lget_lset, hlen]
            by_cases hk : k = d
            · subst hk
              rw [if_pos ⟨rfl, hdn⟩, slotV_in hp ho' hd ((hS' i).2 (.inl rfl)), upd_same]
            · rw [if_neg (by rintro ⟨e, _⟩; exact hk e), hfr k]
              refine slotV_congr hp fun j oj hj hjd => ?_
              have hne : j ≠ i := by rintro rfl; rw [ho'] at hj; injection hj with hj; rw [← hj, hd] at hjd; injection hjd with hjd; exact hk hjd.symm
              exact ⟨by rw [hS' j]; simp [hne], fun _ => (upd_ne hne).symm⟩
        have plen : ∀ fr : List SV, fr.length = n → ((s'.with fr).put o.dst v).fr.length = n := by
          intro fr hf
          cases hd : o.dst with
          | none => exact hf
          | some d => show (lset fr d v).length = n; rw [lset_length]; exact hf
        have hs2fr : s2.fr = ((s'.with s'.fr).put o.dst v).fr := hfr
        have hfs2 : ∀ k, lget s2.fr k = slotV l s.fr (upd val i v) (· ∈ i :: L) k := fun k => by
          rw [hs2fr]; exact slots s'.fr (· ∈ L) _ hst.ls hst.fs (fun j => by simp) hiL k
        refine ⟨fun j hj hl => ?_, fun j hj => ?_, e4, hmix, rfl, by rw [hs2fr]; exact plen _ hst.ls, plen _ hst.lt', hfs2, fun k => ?_, fun j oj hj hL e he => ?_, fun j oj hj hL hDj => ?_⟩
        · by_cases e : j = i
          · subst e; simp
          · rw [if_neg e] at hj; exact List.mem_cons_of_mem _ (hst.sub j hj hl)
        · rcases List.mem_cons.1 hj with rfl | hj
          · exact hil
          · exact hst.lt j hj
        · exact slots t.fr (fun j => D1 j = true) _ hst.lt' hst.ft (fun j => by by_cases e : j = i <;> simp [e]) (by rw [hDi1]; simp) k
        · rcases List.mem_cons.1 hL with rfl | hL
          · rw [ho'] at hj; injection hj with hj; subst hj; exact List.mem_cons_of_mem _ (hrdL e he)
          · exact List.mem_cons_of_mem _ (hst.cl j oj hj hL e he)
        · have hji : j ≠ i := by rintro rfl; simp at hDj
          rw [if_neg hji] at hDj
          have hL' : j ∈ L := by simpa [hji] using hL
          obtain ⟨st0, q0, q1, q2, q3⟩ := hst.pd j oj hj hL' hDj
          cases hlb : loadB oj.op with
          | false =>
            refine ⟨st0, q0, fun e he => ?_, (fun hx => nomatch hx), by rw [upd_ne hji]; exact q3⟩
            rw [q1 e he]
            exact (hold _ e (fun hi => hnotL j oj hj hi hL')).symm
          | true =>
            have hpd : j ∈ pd := by
              rcases e5 j hL' oj hj hlb with h | h
              · exact h
              · have := hancD j h
                have hDj' : D1 j = false := hDj
                rw [this] at hDj'; cases hDj'
            obtain ⟨oj', v', vc, d', f1, f2, f3, f4, f5⟩ := heldL_mem pd hpd hheld
            rw [hj] at f1
            injection f1 with f1
            subst f1
            have hval : v' = upd val i v j := by
              rw [f5, hfs2 d', slotV_in hp hj f3 (by simp [hL'])]
            refine ⟨s2, q0, fun e he => ?_, fun _ => rfl, ?_⟩
            · rw [hfs2 e]
              refine slotV_congr hp fun w ow hw hwd => ?_
              rcases hp.reads j oj e hj he w ow hw hwd with hr | ⟨hr, _⟩
              · have : w ∈ L := anc_closed (S := (· ∈ L)) hst.cl j oj hj (hst.cl j oj hj hL') w hr
                exact ⟨⟨fun _ => hr, fun _ => by simp [this]⟩, fun _ => rfl⟩
              · rw [hlb] at hr; cases hr
            · unfold Evals
              have hgn : evGuard s2 l oj = .run := by unfold evGuard; rw [e6 j hpd oj hj]
              rw [hgn]
              exact ⟨vc, by rw [← hval]; exact f2, f4⟩
      -- the same, of a longer list of what follows
      have mono : ∀ {Ka Kb : SS → Prop}, (∀ x, Ka x → Kb x) → evOps P Γ l Ka [o] t → evOps P Γ l Kb [o] t := fun {Ka Kb} hk hx => evOps_mono1 hk hx
      exact mono cont hrun
  · rintro D t ⟨L, q, s', val, hst, hq⟩ hall
    have hLall : ∀ i, i < l.length → i ∈ L := fun i hi => hst.sub i (by simp [hall i hi, hi]) hi
    have hq' : q = .done := by
      rcases hq with hq | ⟨a, rfl⟩
      · exact hq
      · have := hst.ok
        simp only [okS, Bool.and_eq_true, List.any_eq_true, List.mem_range, Bool.not_eq_true', List.contains_eq_mem, decide_eq_false_iff_not] at this
        obtain ⟨⟨⟨i, hi, hn⟩, _⟩, _⟩ := this
        exact absurd (hLall i hi) hn
    subst hq'
    have hev := hst.ev
    simp only [evMix] at hev
    have : t.fr = s'.fr := lget_ext _ _ (by rw [hst.lt', hst.ls]) fun k => by
      rw [hst.ft k, hst.fs k]
      refine slotV_congr hp fun j oj hj _ => ⟨⟨fun _ => hLall j (nth_lt hj), fun _ => by simp [hall j (nth_lt hj), nth_lt hj]⟩, fun _ => rfl⟩
    have ht : t = s' := by
      have h1 := hst.eq
      rw [this] at h1
      exact h1
    rw [ht]; exact hev
theorem region_plan {P : Program} {Γ : Tab} {B : Ctx} (hrd : B.rd = none) (hΓ : Γ.ok P) (hm : P.follows .mixedOrders = true) {id : Nat} {l : List Oper} {s : SS} {K : Ex → SS → Prop} (p : Sched) (n : Nat) (hn : s.fr.length = n) (hB : planB l n p = true)
    (h : evMix P Γ l (K .normal) p s) : CodeOK P B (.region id l.toArray true) s K :=
  region_plan' hrd hΓ hm p n hn hB (evMix_mono (fun x hx => ⟨x, Sub.refl x, hx⟩) p s h)
/-- The same, its orders led together into one state. -/
theorem region_planS {P : Program} {Γ : Tab} {B : Ctx} (hrd : B.rd = none) (hΓ : Γ.ok P) (hm : P.follows .mixedOrders = true) {id : Nat} {l : List Oper} {s : SS} {K : Ex → SS → Prop} (p : Sched) (n : Nat) (hn : s.fr.length = n) (hB : planB l n p = true) {S : SS}
    (h : evMix P Γ l (fun t => Sub t S) p s) (hK : K .normal S) : CodeOK P B (.region id l.toArray true) s K :=
  region_plan' hrd hΓ hm p n hn hB (evMix_mono (fun x hx => ⟨S, hx, hK⟩) p s h)
end Go.Eng
