/- The engine, part P: a callee's contract, used by a caller; a contract out of a function's code. -/
import Derived.Test.YtdbhgnjpjpmioaaEo
namespace Go.Eng
open Go
set_option linter.unusedVariables false
set_option linter.unusedSimpArgs false

def hpLt (k : Nat) : List (Nat × TypeId × List SV) → Prop
  | [] => True
  | (n, _, _) :: r => n < k ∧ hpLt k r
def rsLt (k : Nat) : List (Nat × Res) → Prop
  | [] => True
  | (n, _) :: r => n < k ∧ rsLt k r
theorem hpLt_find {k : Nat} : ∀ {l : List (Nat × TypeId × List SV)}, hpLt k l → ∀ n T ls, hfind l n = some (T, ls) → n < k
  | [], _, n, T, ls, e => by simp [hfind] at e
  | (m, T', l') :: r, h, n, T, ls, e => by
    simp only [hpLt] at h
    simp only [hfind] at e
    split at e
    · rename_i hm; rw [← hm]; exact h.1
    · exact hpLt_find h.2 n T ls e
theorem allLt_mem {k : Nat} : ∀ {l : List Nat}, allLt k l → ∀ x, x ∈ l → x < k
  | [], _, x, h => by simp at h
  | m :: r, h, x, hx => by
    simp only [allLt] at h
    rcases List.mem_cons.1 hx with rfl | hx
    · exact h.1
    · exact allLt_mem h.2 x hx
theorem rsLt_mem {k : Nat} : ∀ {l : List (Nat × Res)}, rsLt k l → ∀ r R, (r, R) ∈ l → r < k
  | [], _, r, R, h => by simp at h
  | (m, R') :: l, h, r, R, hr => by
    simp only [rsLt] at h
    rcases List.mem_cons.1 hr with e | hr
    · simp only [Prod.mk.injEq] at e
      rw [e.1]; exact h.1
    · exact rsLt_mem h.2 r R hr

/-- The names of a state are all below. -/
def SS.lt (s : SS) (k : Nat) : Prop := hpLt k s.hp ∧ allLt k s.tk ∧ rsLt k s.rs

theorem distincts_take : ∀ (l : List Nat) (k : Nat), distincts l → distincts (l.take k)
  | [], k, h => by simp [distincts]
  | m :: r, 0, h => by simp [distincts]
  | m :: r, k + 1, h => by
    simp only [distincts, List.take_succ_cons] at h ⊢
    exact ⟨fun x hx => h.1 x (List.mem_of_mem_take hx), distincts_take r k h.2⟩
theorem allLt_take {nx : Nat} : ∀ (l : List Nat) (k : Nat), allLt nx l → allLt nx (l.take k)
  | [], k, h => by simp [allLt]
  | m :: r, 0, h => by simp [allLt]
  | m :: r, k + 1, h => by
    simp only [allLt, List.take_succ_cons] at h ⊢
    exact ⟨h.1, allLt_take r k h.2⟩
theorem fmap_take : ∀ (l : List Nat) (nx k n : Nat), n < (l.take k).length → fmap (l.take k) nx n = fmap l nx n
  | [], nx, k, n, h => by simp at h
  | m :: r, nx, 0, n, h => by simp at h
  | m :: r, nx, k + 1, 0, h => by simp [fmap]
  | m :: r, nx, k + 1, n + 1, h => by
    simp only [List.take_succ_cons, fmap]
    exact fmap_take r nx k n (by simpa using h)

theorem back_good {E : Env} {st : SS} {w : World} (hw : Good E st w) {κ : Nat → Option Key} (ho : Owns E st w κ) {im ik : List Nat} (hd : distincts ik) (hl : allLt st.nx ik)
    {E' : Env} {post : SS} {w' : World} (h0 : E'.w0 = w) (hZ : E'.Z = E.Z) (hS : E'.S0 = fun b => ∃ key, κ b = some key ∧ key.name ∈ im)
    (hρ : ∀ n b, n < ik.length → E'.ρ n = some b → E.ρ (fmap ik st.nx n) = some b) (hθ : ∀ n b, n < ik.length → E'.θ n = some b → E.θ (fmap ik st.nx n) = some b)
    (hμ : ∀ a v, E.μ a = some v → E'.μ a = some v) (hμn : ∀ a v, E'.μ a = some v → E.μ a = some v ∨ Mut E' a.block) (hp : Good E' post w') :
    ∃ E2, E.Le E2 ∧ Later (fmap ik st.nx) E' E2 ∧ Good E2 (st.back im ik post) w' := by
  have hinj := fmap_inj ik st.nx hd hl
  have hmut : ∀ b, Mut E' b → Mut E b := by
    intro b hb
    rcases hb with hb | hb
    · rw [h0] at hb; exact .inl (Nat.le_trans hw.size hb)
    · rw [hS] at hb
      obtain ⟨key, hk, -⟩ := hb
      exact (ho.dom _ _ hk).2
  have hfar : ∀ b key, κ b = some key → key.name ∉ im → ¬ Mut E' b := by
    rintro b key hk hn (hb | hb)
    · rw [h0] at hb; have := (ho.dom _ _ hk).1; omega
    · rw [hS] at hb
      obtain ⟨key', hk', hn'⟩ := hb
      rw [hk] at hk'
      injection hk' with e
      subst e
      exact hn hn'
  have hold : ∀ b, b < w.heap.size → ¬ Mut E' b → w'.heap[b]? = w.heap[b]? := fun b hb hm => by
    have := hp.old b (by rw [h0]; exact hb) (fun h => hm (.inr h))
    rw [this, h0]
  let E2 : Env := { E with ρ := fun n => if n < st.nx then E.ρ n else E'.ρ (n - st.nx + ik.length), θ := fun n => if n < st.nx then E.θ n else E'.θ (n - st.nx + ik.length), μ := E'.μ }
  have hle : E.Le E2 := by
    refine ⟨rfl, rfl, rfl, fun n b e => ?_, fun n v e => ?_, hμ, fun a v e => ?_, fun n hn => if_pos (by have := hw.k; have := hw.kx; omega), fun n hn => if_pos (by have := hw.k; have := hw.kx; omega), rfl⟩
    · have : n < st.nx := by
        rcases Nat.lt_or_ge n st.nx with h | h
        · exact h
        · rw [hw.nxρ n h] at e; cases e
      show (if n < st.nx then E.ρ n else _) = _
      rw [if_pos this]; exact e
    · have : n < st.nx := by
        rcases Nat.lt_or_ge n st.nx with h | h
        · exact h
        · rw [hw.nxθ n h] at e; cases e
      show (if n < st.nx then E.θ n else _) = _
      rw [if_pos this]; exact e
    · rcases hμn a v e with h | h
      · exact .inl h
      · exact .inr (hmut _ h)
  have hlater : Later (fmap ik st.nx) E' E2 := by
    refine ⟨fun n b e => ?_, fun n b e => ?_, fun a v e => e, fun b hb => by rw [hZ] at hb; exact hb⟩
    · show (if _ < st.nx then E.ρ _ else E'.ρ _) = _
      rcases Nat.lt_or_ge n ik.length with h | h
      · rw [if_pos (fmap_lt ik st.nx n hl h).2]; exact hρ n b h e
      · rw [fmap_ge ik st.nx n h, if_neg (by omega), show st.nx + (n - ik.length) - st.nx + ik.length = n by omega]; exact e
    · show (if _ < st.nx then E.θ _ else E'.θ _) = _
      rcases Nat.lt_or_ge n ik.length with h | h
      · rw [if_pos (fmap_lt ik st.nx n hl h).2]; exact hθ n b h e
      · rw [fmap_ge ik st.nx n h, if_neg (by omega), show st.nx + (n - ik.length) - st.nx + ik.length = n by omega]; exact e
  refine ⟨E2, hle, hlater, ?_⟩
  obtain ⟨κ', ho'⟩ := hp.own
  let ren' : Key → Key := fun | .blk n => .blk (fmap ik st.nx n) | .tok n => .tok (fmap ik st.nx n) | .res n => .res (fmap ik st.nx n)
  open Classical in
  let κ2 : Nat → Option Key := fun b => if Mut E' b then (κ' b).map ren' else (match κ b with | some key => if key.name ∈ im then none else some key | none => none)
  have k2m : ∀ b, Mut E' b → κ2 b = (κ' b).map ren' := fun b h => if_pos h
  have k2o : ∀ b key, κ b = some key → key.name ∉ im → κ2 b = some key := fun b key h hn => by
    show (if Mut E' b then _ else _) = _
    rw [if_neg (hfar b key h hn), h]
    simp [hn]
  have k2n : ∀ b key, ¬ Mut E' b → κ2 b = some key → κ b = some key := fun b key hm e => by
    have e' : (if Mut E' b then (κ' b).map ren' else (match κ b with | some key => if key.name ∈ im then none else some key | none => none)) = some key := e
    rw [if_neg hm] at e'
    split at e'
    · rename_i key' hk
      split at e'
      · cases e'
      · rw [hk]; exact e'
    · cases e'
  refine ⟨hw.k, Nat.le_trans hw.kx (Nat.le_add_right _ _), ?_, ?_, ?_, ?_, ?_, hp.mu, ?_, ?_, κ2, ?_, ?_, ?_, ?_, ?_⟩
  · have := hp.os; rw [h0] at this; exact this.trans hw.os
  · have := hp.tape; rw [h0] at this; exact this.trans hw.tape
  · have := hp.output; rw [h0] at this; exact this.trans hw.output
  · have := hp.size; rw [h0] at this; exact Nat.le_trans hw.size this
  · intro b hb hs
    have hb' : b < w.heap.size := Nat.lt_of_lt_of_le hb hw.size
    have hm : ¬ Mut E' b := fun h => by
      rcases hmut b h with h | h
      · have : b < E.w0.heap.size := hb; omega
      · exact hs h
    rw [hold b hb' hm]; exact hw.old b hb hs
  · intro n hn
    have hn' : st.nx + (post.nx - ik.length) ≤ n := hn
    show (if n < st.nx then E.ρ n else E'.ρ (n - st.nx + ik.length)) = none
    rw [if_neg (by omega)]; exact hp.nxρ _ (by omega)
  · intro n hn
    have hn' : st.nx + (post.nx - ik.length) ≤ n := hn
    show (if n < st.nx then E.θ n else E'.θ (n - st.nx + ik.length)) = none
    rw [if_neg (by omega)]; exact hp.nxθ _ (by omega)
  · intro m T ls e
    have e' : hfind (hpRen (fmap ik st.nx) post.hp (hpDel im st.hp)) m = some (T, ls) := e
    rcases hpRen_find hinj _ _ m T ls e' with ⟨n, ls', rfl, q1, rfl⟩ | q
    · obtain ⟨b, cs, k1, k2, k3, k4, k5⟩ := ho'.hp _ _ _ q1
      exact ⟨b, cs, hlater.ρ _ _ k1, k2, DenL.ren hlater _ _ k3, by rw [k2m b k5, k4]; rfl, hmut b k5⟩
    · obtain ⟨q1, q2⟩ := hpDel_find im _ m T ls q
      obtain ⟨b, cs, k1, k2, k3, k4, k5⟩ := ho.hp _ _ _ q1
      have hm := hfar b _ k4 q2
      exact ⟨b, cs, hle.ρ _ _ k1, by rw [hold b (ho.dom _ _ k4).1 hm]; exact k2, DenL.mono hle _ _ k3, k2o b _ k4 q2, k5⟩
  · intro τ hτ
    have hτ' : τ ∈ tkRen (fmap ik st.nx) post.tk (tkDelL im st.tk) := hτ
    rcases tkRen_mem _ _ _ hτ' with ⟨n, q1, rfl⟩ | q
    · obtain ⟨sz, a, len, cap, k1, k2, k3⟩ := ho'.tk _ q1
      refine ⟨sz, a, len, cap, hlater.θ _ _ k1, k2, ?_⟩
      rcases k3 with k3 | ⟨b, off, T, cs, k4, k5, k6, k7, k8, k9⟩
      · exact .inl k3
      · exact .inr ⟨b, off, T, cs, k4, by rw [k2m b k6, k5]; rfl, hmut b k6, k7, k8, k9⟩
    · obtain ⟨q1, q2⟩ := tkDelL_mem im _ _ q
      obtain ⟨sz, a, len, cap, k1, k2, k3⟩ := ho.tk _ q1
      refine ⟨sz, a, len, cap, hle.θ _ _ k1, k2, ?_⟩
      rcases k3 with k3 | ⟨b, off, T, cs, k4, k5, k6, k7, k8, k9⟩
      · exact .inl k3
      · have hm := hfar b _ k5 q2
        refine .inr ⟨b, off, T, cs, k4, k2o b _ k5 q2, k6, k7.congr (hold b (ho.dom _ _ k5).1 hm), k8, fun ad v e hab => ?_⟩
        rcases hμn ad v e with h | h
        · exact k9 ad v h hab
        · rw [hab] at h; exact absurd h hm
  · intro r R hr
    have hr' : (r, R) ∈ rsRen (fmap ik st.nx) post.rs (rsDel im st.rs) := hr
    rcases rsRen_mem _ _ _ _ hr' with ⟨n, q1, rfl⟩ | q
    · obtain ⟨F, k1, k2⟩ := ho'.rs _ _ q1
      exact ⟨F, k1, fun b hb => ⟨(k2 b hb).1, by rw [k2m b (k2 b hb).2.2, (k2 b hb).2.1]; rfl, hmut b (k2 b hb).2.2⟩⟩
    · obtain ⟨q1, q2⟩ := rsDel_mem im _ _ _ q
      obtain ⟨F, k1, k2⟩ := ho.rs _ _ q1
      have hm : ∀ b, F b → ¬ Mut E' b := fun b hb => hfar b _ (k2 b hb).2.1 q2
      have hsz : w.heap.size ≤ w'.heap.size := by have := hp.size; rw [h0] at this; exact this
      exact ⟨F, R.next _ _ F _ _ k1 (fun b hb => .inl (hold b (k2 b hb).1 (hm b hb))) hμ (fun a v e => by
        rcases hμn a v e with h | h
        · exact .inl h
        · exact .inr (fun hF => hm _ hF h)), fun b hb => ⟨Nat.lt_of_lt_of_le (k2 b hb).1 hsz, k2o b _ (k2 b hb).2.1 q2, (k2 b hb).2.2⟩⟩
  · intro a v e
    by_cases hm : Mut E' a.block
    · rw [k2m _ hm]
      have q1 := ho'.mu a v e
      intro n e'
      cases hk : κ' a.block with
      | none => simp [hk] at e'
      | some key =>
        cases key with
        | blk m => exact q1 m hk
        | tok m => simp [hk, ren'] at e'
        | res m => simp [hk, ren'] at e'
    · rcases hμn a v e with h | h
      · exact fun n e' => ho.mu a v h n (k2n _ _ hm e')
      · exact absurd h hm
  · intro b key e
    have hsz : w.heap.size ≤ w'.heap.size := by have := hp.size; rw [h0] at this; exact this
    by_cases hm : Mut E' b
    · rw [k2m b hm] at e
      cases hk : κ' b with
      | none => simp [hk] at e
      | some key' => exact ⟨(ho'.dom _ _ hk).1, hmut b hm⟩
    · have := k2n b key hm e
      exact ⟨Nat.lt_of_lt_of_le (ho.dom _ _ this).1 hsz, (ho.dom _ _ this).2⟩

def lentHp (f : Nat → Nat) : List (Nat × TypeId × List SV) → List Nat
  | [] => []
  | (n, _, _) :: r => f n :: lentHp f r
def lentTk (f : Nat → Nat) : List Nat → List Nat
  | [] => []
  | n :: r => f n :: lentTk f r
def lentRs (f : Nat → Nat) : List (Nat × Res) → List Nat
  | [] => []
  | (n, _) :: r => f n :: lentRs f r
/-- The caller's names of what is lent out. -/
def lentOf (im : List Nat) (nx : Nat) (pre : SS) : List Nat := lentHp (fmap im nx) pre.hp ++ (lentTk (fmap im nx) pre.tk ++ lentRs (fmap im nx) pre.rs)
theorem lentHp_find (f : Nat → Nat) : ∀ (l : List (Nat × TypeId × List SV)) (n : Nat) (T : TypeId) (ls : List SV), hfind l n = some (T, ls) → f n ∈ lentHp f l
  | [], n, T, ls, h => by simp [hfind] at h
  | (m, _, _) :: r, n, T, ls, h => by
    simp only [hfind] at h
    simp only [lentHp]
    split at h
    · rename_i e; rw [e]; simp
    · exact List.mem_cons_of_mem _ (lentHp_find f r n T ls h)
theorem lentTk_mem (f : Nat → Nat) : ∀ (l : List Nat) (n : Nat), n ∈ l → f n ∈ lentTk f l
  | m :: r, n, h => by
    simp only [lentTk]
    rcases List.mem_cons.1 h with rfl | h
    · simp
    · exact List.mem_cons_of_mem _ (lentTk_mem f r n h)
theorem lentRs_mem (f : Nat → Nat) : ∀ (l : List (Nat × Res)) (n : Nat) (R : Res), (n, R) ∈ l → f n ∈ lentRs f l
  | (m, _) :: r, n, R, h => by
    simp only [lentRs]
    rcases List.mem_cons.1 h with h | h
    · injection h with h1 h2; rw [h1]; simp
    · exact List.mem_cons_of_mem _ (lentRs_mem f r n R h)

/-- A callee's contract, in a caller's state: 'im' lists the caller's names of what the callee knows. -/
theorem call_of {P : Program} {f : FuncId} {pre : SS} {pargs : List SV} {R : SV → SS → Prop} (hC : Contract P f pre pargs R) (im : List Nat) {st : SS} {args : List SV} {K : SV → SS → Prop}
    (hd : distincts im) (hl : allLt st.nx im) (hlen : im.length = pre.nx) (hk : pre.k ≤ pre.nx) (hlt : pre.lt pre.nx)
    (h1 : hpSub false (fmap im st.nx) st.hp pre.hp) (h2 : tkSub (fmap im st.nx) st.tk pre.tk) (h3 : rsSub (fmap im st.nx) st.rs pre.rs) (ha : WL false (fmap im st.nx) pargs args)
    (hK : ∀ sv post, R sv post → K (ren (fmap (im.take pre.k) st.nx) sv) (st.back (lentOf im st.nx pre) (im.take pre.k) post)) : CallOK P f args st K := by
  intro E w vs hw hv
  obtain ⟨κ, ho⟩ := hw.own
  have hinj := fmap_inj im st.nx hd hl
  let E' : Env := { w0 := w, S0 := fun b => ∃ key, κ b = some key ∧ key.name ∈ lentOf im st.nx pre, ρ := fun n => E.ρ (fmap im st.nx n), θ := fun n => E.θ (fmap im st.nx n), μ := E.μ, k := pre.k, Z := E.Z, hZ := fun b hb => E.hZ b (Nat.le_trans hw.size hb) }
  have hp : Pull false (fmap im st.nx) E E' := ⟨fun _ => rfl, fun _ => rfl, rfl, fun _ _ h => h⟩
  have hg : Good E' pre w := by
    refine ⟨rfl, hk, rfl, rfl, rfl, Nat.le_refl _, fun _ _ _ => rfl, hw.mu, fun n hn => hw.nxρ _ ?_, fun n hn => hw.nxθ _ ?_, _, ho.pull hinj hp h1 h2 h3 (fun n => fmap im st.nx n ∈ lentOf im st.nx pre) (fun n T ls e => List.mem_append_left _ (lentHp_find _ _ n T ls e)) (fun τ hτ => List.mem_append_right _ (List.mem_append_left _ (lentTk_mem _ _ τ hτ))) (fun r R hr => List.mem_append_right _ (List.mem_append_right _ (lentRs_mem _ _ r R hr))) ?_⟩
    · rw [fmap_ge im st.nx n (by omega)]; omega
    · rw [fmap_ge im st.nx n (by omega)]; omega
    · intro b key n hκ hn hN _
      exact .inr ⟨key, hκ, by rw [hn]; exact hN⟩
  obtain ⟨q1, q2⟩ := hC E' w vs rfl hg (WL_den hp _ _ _ ha hv)
  refine ⟨q1, q2.mono ?_⟩
  rintro e w' ⟨v, E1, post, sv, rfl, k1, k2, k3, k4⟩
  have hw0 : E1.w0 = w := k1.w0
  have hS0 : E1.S0 = fun b => ∃ key, κ b = some key ∧ key.name ∈ lentOf im st.nx pre := k1.S0
  have hkl : (im.take pre.k).length = pre.k := by simp; omega
  obtain ⟨E2, r1, r2, r3⟩ := back_good (ik := im.take pre.k) hw ho (distincts_take _ _ hd) (allLt_take _ _ hl) hw0 k1.Z hS0 (fun n b hn e => by rw [k1.ρ n (by show n < pre.k; omega)] at e; rw [fmap_take _ _ _ _ (by omega)]; exact e) (fun n b hn e => by rw [k1.θ n (by show n < pre.k; omega)] at e; rw [fmap_take _ _ _ _ (by omega)]; exact e) k1.μ (fun a v e => by
      rcases k1.μnew a v e with h | h
      · exact .inl h
      · exact .inr ((Mut.ext k1).1 h)) k2
  · exact ⟨v, E2, _, _, rfl, r1, r3, Den.ren r2 _ _ k3, ⟨rfl, rfl⟩, hK sv post k4⟩
end Go.Eng
