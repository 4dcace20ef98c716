/- The engine, part Z: a part of a state as one resource; calls through an interface value whose content is not seen. -/
import Derived.Test.YtdbhgnjpjpmioaaEy
namespace Go.Eng
open Go
set_option linter.unusedVariables false
set_option linter.unusedSimpArgs false

structure PartOK (H : SS) (root : Nat) (μ : Addr → Option Value) (F : Nat → Prop) (w : World) (ρ : Nat → Option Nat) (θ : Nat → Option (Nat × Value)) (κ : Nat → Option Key) : Prop where
  root : ρ 0 = some root
  nxρ : ∀ n, H.nx ≤ n → ρ n = none
  nxθ : ∀ n, H.nx ≤ n → θ n = none
  hp : ∀ n T ls, hfind H.hp n = some (T, ls) → ∃ b cs, ρ n = some b ∧ w.heap[b]? = some (.cells cs T (0, 0)) ∧ (∀ E' : Env, E'.ρ = ρ → E'.θ = θ → E'.μ = μ → DenL E' ls cs.toList) ∧ κ b = some (.blk n)
  tk : ∀ τ, τ ∈ H.tk → ∃ sz a len cap, θ τ = some (sz, .slice a len cap) ∧ len ≤ cap ∧ ((cap = len ∧ a = none) ∨ ∃ b off T cs, a = some ⟨b, off, none⟩ ∧ κ b = some (.tok τ) ∧ Row w b cs T ∧ off + cap * sz ≤ cs.size ∧ ∀ ad v, μ ad = some v → ad.block = b → ad.off < off + len * sz)
  rs : ∀ r R, (r, R) ∈ H.rs → ∃ G, R.holds μ G w ∧ ∀ b, G b → κ b = some (.res r)
  mu : ∀ a v, μ a = some v → ∀ n, κ a.block ≠ some (.blk n)
  dom : ∀ b key, κ b = some key → F b

/-- A part of a state, whose first name stands for block 'root', as one resource. -/
def SS.res (H : SS) (root : Nat) : Res where
  holds μ F w := ∃ ρ θ κ, PartOK H root μ F w ρ θ κ
  next μ μ' F w w' := by
    rintro ⟨ρ, θ, κ, h⟩ hk hμ hn
    refine ⟨ρ, θ, κ, h.root, h.nxρ, h.nxθ, fun n T ls e => ?_, fun τ hτ => ?_, fun r R hr => ?_, fun a v e n hb => ?_, h.dom⟩
    · obtain ⟨b, cs, q1, q2, q3, q4⟩ := h.hp n T ls e
      refine ⟨b, cs, q1, ?_, fun E' e1 e2 e3 => DenL.mono0 (E := { E' with μ := μ }) (E' := E') ⟨fun _ _ h => h, fun _ _ h => h, fun a v h => by rw [e3]; exact hμ a v h, fun _ h => h⟩ _ _ (q3 _ e1 e2 rfl), q4⟩
      rcases hk b (h.dom _ _ q4) with e' | ⟨⟨a, v, e', e2⟩, _⟩
      · rw [e']; exact q2
      · exact absurd (by rw [e2]; exact q4) (h.mu a v e' n)
    · obtain ⟨sz, a, len, cap, q1, q2, q3⟩ := h.tk τ hτ
      refine ⟨sz, a, len, cap, q1, q2, ?_⟩
      rcases q3 with q3 | ⟨b, off, T, cs, q4, q5, q6, q7, q8⟩
      · exact .inl q3
      · have hF := h.dom _ _ q5
        refine .inr ⟨b, off, T, cs, q4, q5, ?_, q7, fun ad v e hb => ?_⟩
        · rcases hk b hF with e' | ⟨_, cs', T', fz, fz', m1, m2, m3⟩
          · exact q6.congr e'
          · obtain ⟨fz0, i1, i2⟩ := q6
            rw [m1] at i1
            injection i1 with i1
            injection i1 with j1 j2 j3
            subst j1 j2 j3
            exact ⟨fz', m2, .inr (m3 i2)⟩
        · rcases hn ad v e with e' | e'
          · exact q8 ad v e' hb
          · rw [hb] at e'; exact absurd hF e'
    · obtain ⟨G, q1, q2⟩ := h.rs r R hr
      refine ⟨G, R.next μ μ' G w w' q1 (fun b hb => hk b (h.dom _ _ (q2 b hb))) hμ (fun a v e => ?_), q2⟩
      rcases hn a v e with e' | e'
      · exact .inl e'
      · exact .inr fun hG => e' (h.dom _ _ (q2 _ hG))
    · rcases hn a v e with e' | e'
      · exact h.mu a v e' n hb
      · exact e' (h.dom _ _ hb)

/-- What is asked to fold names 'im' of a state into one resource. -/
def FoldW (H : SS) (im : List Nat) (s : SS) : Prop :=
  distincts im ∧ allLt s.nx im ∧ im.length = H.nx ∧ H.lt H.nx ∧ hpSub true (fmap im s.nx) s.hp H.hp ∧ tkSub (fmap im s.nx) s.tk H.tk ∧ rsSub (fmap im s.nx) s.rs H.rs

def imN (im : List Nat) (nx : Nat) (n : Nat) : Prop := n < im.length
theorem finv_im {im : List Nat} {nx : Nat} (hd : distincts im) (hl : allLt nx im) {m : Nat} : (∃ n, finv (fmap im nx) (imN im nx) m = some n) ↔ m ∈ im := by
  constructor
  · rintro ⟨n, h⟩
    obtain ⟨h1, h2⟩ := finv_some h
    rw [← h2]
    exact (fmap_lt im nx n hl h1).1
  · intro h
    obtain ⟨n, hn, e⟩ := List.getElem_of_mem h
    refine ⟨n, ?_⟩
    rw [← e, ← fmap_get im nx n hn]
    exact finv_of (fmap_inj im nx hd hl) hn

/-- The part holds. -/
theorem fold_part {E : Env} {s : SS} {w : World} (hw : Good E s w) {κ : Nat → Option Key} (ho : Owns E s w κ) {H : SS} {im : List Nat} (h : FoldW H im s) {root : Nat} (hroot : E.ρ (fmap im s.nx 0) = some root) :
    PartOK H root E.μ (fun b => ∃ key, (κ b).bind (Key.ren (finv (fmap im s.nx) (imN im s.nx))) = some key) w (fun n => E.ρ (fmap im s.nx n)) (fun n => E.θ (fmap im s.nx n)) (fun b => (κ b).bind (Key.ren (finv (fmap im s.nx) (imN im s.nx)))) := by
  obtain ⟨h1, h2, h3, ⟨h4, h4', h4''⟩, h5, h6, h7⟩ := h
  have hinj := fmap_inj im s.nx h1 h2
  have hN : ∀ n, n < H.nx → imN im s.nx n := fun n hn => by unfold imN; omega
  have hge : ∀ n, H.nx ≤ n → s.nx ≤ fmap im s.nx n := fun n hn => by rw [fmap_ge im s.nx n (by omega)]; omega
  have hp : ∀ E' : Env, E'.ρ = (fun n => E.ρ (fmap im s.nx n)) → E'.θ = (fun n => E.θ (fmap im s.nx n)) → E'.μ = E.μ → Pull true (fmap im s.nx) E E' := fun E' e1 e2 e3 => ⟨fun n => by rw [e1], fun n => by rw [e2], e3, fun h => by cases h⟩
  refine ⟨hroot, fun n hn => hw.nxρ _ (hge n hn), fun n hn => hw.nxθ _ (hge n hn), fun n T ls e => ?_, fun τ hτ => ?_, fun r R hr => ?_, fun a v e n => ?_, fun b key e => ⟨key, e⟩⟩
  · obtain ⟨ls', q1, q2⟩ := hpSub_find h5 n T ls e
    obtain ⟨b, cs, k1, k2, k3, k4, k5⟩ := ho.hp _ _ _ q1
    exact ⟨b, cs, k1, k2, fun E' e1 e2 e3 => WL_den (hp E' e1 e2 e3) _ _ _ q2 k3, by simp [k4, Key.ren, finv_of hinj (hN n (hpLt_find h4 n T ls e))]⟩
  · obtain ⟨sz, a, len, cap, k1, k2, k3⟩ := ho.tk _ (tkSub_mem h6 τ hτ)
    refine ⟨sz, a, len, cap, k1, k2, ?_⟩
    rcases k3 with k3 | ⟨b, off, T, cs, k4, k5, k6, k7, k8, k9⟩
    · exact .inl k3
    · exact .inr ⟨b, off, T, cs, k4, by simp [k5, Key.ren, finv_of hinj (hN τ (allLt_mem h4' τ hτ))], k7, k8, k9⟩
  · obtain ⟨F, k1, k2⟩ := ho.rs _ _ (rsSub_mem h7 r R hr)
    exact ⟨F, k1, fun b hb => by simp [(k2 b hb).2.1, Key.ren, finv_of hinj (hN r (rsLt_mem h4'' r R hr))]⟩
  · intro e'
    have := ho.mu a v e
    cases hk : κ a.block with
    | none => simp [hk] at e'
    | some key =>
      cases key with
      | blk m => exact this m hk
      | tok m => simp [hk, Key.ren] at e'
      | res m => simp [hk, Key.ren] at e'

/-- Parts of a state have become one resource, of name r. -/
def SS.fold (s : SS) (H : SS) (im : List Nat) (root : Nat) : SS :=
  { s with hp := hpDel im s.hp, tk := tkDelL im s.tk, rs := (s.nx, H.res root) :: rsDel im s.rs, nx := s.nx + 1 }

theorem Good.fold {E : Env} {s : SS} {w : World} (hw : Good E s w) {H : SS} {im : List Nat} (h : FoldW H im s) {root : Nat} (hroot : E.ρ (fmap im s.nx 0) = some root) : Good E (s.fold H im root) w := by
  obtain ⟨κ, ho⟩ := hw.own
  have hpart := fold_part hw ho h hroot
  obtain ⟨h1, h2, h3, ⟨h4, h4', h4''⟩, h5, h6, h7⟩ := h
  have hmem : ∀ (key : Key), (∃ key', Key.ren (finv (fmap im s.nx) (imN im s.nx)) key = some key') ↔ key.name ∈ im := by
    intro key
    rw [← finv_im h1 h2]
    cases key <;> simp only [Key.ren, Key.name, Option.map_eq_some_iff] <;> constructor <;> rintro ⟨x, hx⟩
    · obtain ⟨n, e, _⟩ := hx; exact ⟨n, e⟩
    · exact ⟨_, x, hx, rfl⟩
    · obtain ⟨n, e, _⟩ := hx; exact ⟨n, e⟩
    · exact ⟨_, x, hx, rfl⟩
    · obtain ⟨n, e, _⟩ := hx; exact ⟨n, e⟩
    · exact ⟨_, x, hx, rfl⟩
  let κ2 : Nat → Option Key := fun b => match κ b with | some key => if key.name ∈ im then some (.res s.nx) else some key | none => none
  have k2o : ∀ b key, κ b = some key → key.name ∉ im → κ2 b = some key := fun b key h hn => by simp only [κ2, h]; rw [if_neg hn]
  have k2i : ∀ b key, κ b = some key → key.name ∈ im → κ2 b = some (.res s.nx) := fun b key h hn => by simp only [κ2, h]; rw [if_pos hn]
  have k2blk : ∀ b n, κ2 b = some (.blk n) → κ b = some (.blk n) := fun b n e => by
    simp only [κ2] at e
    cases hk : κ b with
    | none => simp [hk] at e
    | some key =>
      simp only [hk] at e
      split at e
      · cases e
      · exact e
  refine ⟨hw.k, Nat.le_succ_of_le hw.kx, hw.os, hw.tape, hw.output, hw.size, hw.old, hw.mu, fun n hn => hw.nxρ n (by simp only [SS.fold] at hn; omega), fun n hn => hw.nxθ n (by simp only [SS.fold] at hn; omega), κ2, fun n T ls e => ?_, fun τ hτ => ?_, fun r R hr => ?_, fun a v e n e' => ho.mu a v e n (k2blk _ _ e'), fun b key e => ?_⟩
  · obtain ⟨q1, q2⟩ := hpDel_find im _ n T ls e
    obtain ⟨b, cs, k1, k2, k3, k4, k5⟩ := ho.hp _ _ _ q1
    exact ⟨b, cs, k1, k2, k3, k2o b _ k4 q2, k5⟩
  · obtain ⟨q1, q2⟩ := tkDelL_mem im _ _ hτ
    obtain ⟨sz, a, len, cap, k1, k2, k3⟩ := ho.tk _ q1
    refine ⟨sz, a, len, cap, k1, k2, ?_⟩
    rcases k3 with k3 | ⟨b, off, T, cs, k4, k5, k6, k7, k8, k9⟩
    · exact .inl k3
    · exact .inr ⟨b, off, T, cs, k4, k2o b _ k5 q2, k6, k7, k8, k9⟩
  · rcases List.mem_cons.1 hr with e | hr
    · simp only [Prod.mk.injEq] at e
      obtain ⟨rfl, rfl⟩ := e
      refine ⟨_, ⟨_, _, _, hpart⟩, fun b hb => ?_⟩
      obtain ⟨key, hb⟩ := hb
      cases hk : κ b with
      | none => simp [hk] at hb
      | some key0 =>
        simp only [hk, Option.bind_some] at hb
        have := (hmem key0).1 ⟨_, hb⟩
        exact ⟨(ho.dom _ _ hk).1, k2i b _ hk this, (ho.dom _ _ hk).2⟩
    · obtain ⟨q1, q2⟩ := rsDel_mem im _ _ _ hr
      obtain ⟨F, k1, k2⟩ := ho.rs _ _ q1
      exact ⟨F, k1, fun b hb => ⟨(k2 b hb).1, k2o b _ (k2 b hb).2.1 q2, (k2 b hb).2.2⟩⟩
  · simp only [κ2] at e
    cases hk : κ b with
    | none => simp [hk] at e
    | some key0 => exact ho.dom _ _ hk

mutual
/-- The pointer to block n, seen as a plain value. -/
def rawV (n b : Nat) : SV → SV
  | .ptr m o => if m = n then .raw (.pointer (some ⟨b, o, none⟩)) else .ptr m o
  | .ifc t x => .ifc t (rawV n b x)
  | .agg l => .agg (rawL n b l)
  | .tup l => .tup (rawL n b l)
  | x => x
def rawL (n b : Nat) : List SV → List SV
  | [] => []
  | x :: r => rawV n b x :: rawL n b r
end
mutual
theorem rawV_den {E : Env} {n b : Nat} (h : E.ρ n = some b) : ∀ (x : SV) (v : Value), Den E x v → Den E (rawV n b x) v
  | .ptr m o, v, hd => by
    simp only [rawV]
    split
    · rename_i e
      subst e
      simp only [Den] at hd ⊢
      obtain ⟨b', h1, h2⟩ := hd
      rw [h] at h1
      injection h1 with h1
      rw [h2, h1]
    · exact hd
  | .ifc t x, v, hd => by
    simp only [rawV, Den] at hd ⊢
    obtain ⟨y, h1, h2⟩ := hd
    exact ⟨y, h1, rawV_den h x y h2⟩
  | .agg l, v, hd => by
    simp only [rawV, Den] at hd ⊢
    obtain ⟨cs, h1, h2⟩ := hd
    exact ⟨cs, h1, rawL_den h l cs h2⟩
  | .tup l, v, hd => by
    simp only [rawV, Den] at hd ⊢
    obtain ⟨cs, h1, h2⟩ := hd
    exact ⟨cs, h1, rawL_den h l cs h2⟩
  | .i _ _, v, hd => by simpa only [rawV] using hd
  | .b _, v, hd => by simpa only [rawV] using hd
  | .s _, v, hd => by simpa only [rawV] using hd
  | .nilp, v, hd => by simpa only [rawV] using hd
  | .ints _ _ _, v, hd => by simpa only [rawV] using hd
  | .sl _ _ _ _, v, hd => by simpa only [rawV] using hd
  | .ep _ _, v, hd => by simpa only [rawV] using hd
  | .nili, v, hd => by simpa only [rawV] using hd
  | .fn _ _ _, v, hd => by simpa only [rawV] using hd
  | .nilf, v, hd => by simpa only [rawV] using hd
  | .raw _, v, hd => by simpa only [rawV] using hd
  | .cnd _ _, v, hd => by simpa only [rawV] using hd
  | .any, v, hd => by simpa only [rawV] using hd
theorem rawL_den {E : Env} {n b : Nat} (h : E.ρ n = some b) : ∀ (l : List SV) (cs : List Value), DenL E l cs → DenL E (rawL n b l) cs
  | [], [], _ => by simp only [rawL, DenL]
  | x :: xs, v :: vs, hd => by
    simp only [rawL, DenL] at hd ⊢
    exact ⟨rawV_den h x v hd.1, rawL_den h xs vs hd.2⟩
  | [], _ :: _, hd => by simp only [DenL] at hd
  | _ :: _, [], hd => by simp only [DenL] at hd
end
def rawHp (n b : Nat) : List (Nat × TypeId × List SV) → List (Nat × TypeId × List SV)
  | [] => []
  | (m, T, ls) :: r => (m, T, rawL n b ls) :: rawHp n b r
theorem rawHp_find {n b : Nat} : ∀ (l : List (Nat × TypeId × List SV)) (m : Nat) (T : TypeId) (ls : List SV), hfind (rawHp n b l) m = some (T, ls) → ∃ ls', hfind l m = some (T, ls') ∧ ls = rawL n b ls'
  | [], m, T, ls, h => by simp [rawHp, hfind] at h
  | (m', T', ls') :: r, m, T, ls, h => by
    simp only [rawHp, hfind] at h ⊢
    split at h
    · rename_i e
      simp only [Option.some.injEq, Prod.mk.injEq] at h
      obtain ⟨rfl, rfl⟩ := h
      exact ⟨ls', by rw [if_pos e], rfl⟩
    · rename_i e
      rw [if_neg e]
      exact rawHp_find r m T ls h
/-- Everywhere. -/
def SS.rawAll (s : SS) (n b : Nat) : SS := { s with fr := rawL n b s.fr, hp := rawHp n b s.hp }

/-- Parts of a state are folded into one resource; pointers to its first block are plain values from then on. -/
theorem fold_ok {P : Program} {B : Ctx} {c : Code} {s : SS} {K : Ex → SS → Prop} (H : SS) (im : List Nat) (h : FoldW H im s) {T : TypeId} {ls : List SV} (h0 : hfind s.hp (fmap im s.nx 0) = some (T, ls))
    (hc : ∀ b, CodeOK P B c ((s.fold H im b).rawAll (fmap im s.nx 0) b) K) : CodeOK P B c s K := by
  intro E a w hb hf hw
  obtain ⟨κ, ho⟩ := hw.own
  obtain ⟨b, cs, k1, k2, k3, k4, k5⟩ := ho.hp _ _ _ h0
  have hg := hw.fold h k1
  obtain ⟨κ2, ho2⟩ := hg.own
  refine hc b E a w hb ⟨rawL_den k1 _ _ hf.tmps, hf.defers⟩ ⟨hg.k, hg.kx, hg.os, hg.tape, hg.output, hg.size, hg.old, hg.mu, hg.nxρ, hg.nxθ, κ2, fun n T' ls' e => ?_, ho2.tk, ho2.rs, ho2.mu, ho2.dom⟩
  obtain ⟨ls0, e1, rfl⟩ := rawHp_find _ _ _ _ e
  obtain ⟨b', cs', q1, q2, q3, q4, q5⟩ := ho2.hp _ _ _ e1
  exact ⟨b', cs', q1, q2, rawL_den k1 _ _ q3, q4, q5⟩

/-- A resource is opened. -/
def SS.unfold (s : SS) (r : Nat) (H : SS) : SS :=
  { s with hp := hpRen (fmap [] s.nx) H.hp s.hp, tk := tkRen (fmap [] s.nx) H.tk s.tk, rs := rsRen (fmap [] s.nx) H.rs (rsCut s.rs r), nx := s.nx + H.nx }

theorem Good.unfold {E : Env} {s : SS} {w : World} (hw : Good E s w) {r root : Nat} {H : SS} (hr : (r, H.res root) ∈ s.rs) (hH : H.lt H.nx) :
    ∃ E', E.Le E' ∧ E'.ρ s.nx = some root ∧ Good E' (s.unfold r H) w := by
  obtain ⟨κ, ho⟩ := hw.own
  obtain ⟨F, ⟨ρ, θ, κH, hp⟩, hF⟩ := ho.rs _ _ hr
  obtain ⟨h4, h4', h4''⟩ := hH
  have fm : ∀ n, fmap [] s.nx n = s.nx + n := fun n => rfl
  have hinj : ∀ n m, fmap [] s.nx n = fmap [] s.nx m → n = m := fun n m e => by rw [fm, fm] at e; omega
  let E' : Env := { E with ρ := fun n => if n < s.nx then E.ρ n else ρ (n - s.nx), θ := fun n => if n < s.nx then E.θ n else θ (n - s.nx) }
  have hle : E.Le E' := by
    refine ⟨rfl, rfl, rfl, fun n b e => ?_, fun n v e => ?_, fun _ _ h => h, fun _ _ h => .inl h, fun n hn => if_pos (by have := hw.k; have := hw.kx; omega), fun n hn => if_pos (by have := hw.k; have := hw.kx; omega), rfl⟩
    · have : n < s.nx := by
        rcases Nat.lt_or_ge n s.nx with h | h
        · exact h
        · rw [hw.nxρ n h] at e; cases e
      show (if n < s.nx then E.ρ n else _) = _
      rw [if_pos this]; exact e
    · have : n < s.nx := by
        rcases Nat.lt_or_ge n s.nx with h | h
        · exact h
        · rw [hw.nxθ n h] at e; cases e
      show (if n < s.nx then E.θ n else _) = _
      rw [if_pos this]; exact e
  have hlater : Later (fmap [] s.nx) { E with ρ := ρ, θ := θ } E' := by
    refine ⟨fun n b e => ?_, fun n b e => ?_, fun a v e => e, fun _ h => h⟩
    · show (if s.nx + n < s.nx then _ else ρ (s.nx + n - s.nx)) = _
      rw [if_neg (by omega), show s.nx + n - s.nx = n by omega]; exact e
    · show (if s.nx + n < s.nx then _ else θ (s.nx + n - s.nx)) = _
      rw [if_neg (by omega), show s.nx + n - s.nx = n by omega]; exact e
  refine ⟨E', hle, ?_, ?_⟩
  · show (if s.nx < s.nx then _ else ρ (s.nx - s.nx)) = _
    rw [if_neg (by omega), Nat.sub_self]; exact hp.root
  let ren' : Key → Key := fun | .blk n => .blk (s.nx + n) | .tok n => .tok (s.nx + n) | .res n => .res (s.nx + n)
  open Classical in
  let κ2 : Nat → Option Key := fun b => if F b then (κH b).map ren' else κ b
  have k2m : ∀ b, F b → κ2 b = (κH b).map ren' := fun b h => if_pos h
  have k2o : ∀ b, ¬ F b → κ2 b = κ b := fun b h => if_neg h
  have far : ∀ b key, κ b = some key → (∀ n, key ≠ .res n) → ¬ F b := fun b key e hk hb => by
    rw [(hF b hb).2.1] at e
    injection e with e
    exact hk r e.symm
  refine ⟨hw.k, Nat.le_trans hw.kx (Nat.le_add_right _ _), hw.os, hw.tape, hw.output, hw.size, hw.old, hw.mu, fun n hn => ?_, fun n hn => ?_, κ2, fun n T ls e => ?_, fun τ hτ => ?_, fun r' R hr' => ?_, fun a v e n e' => ?_, fun b key e => ?_⟩
  · have hn' : s.nx + H.nx ≤ n := hn
    show (if n < s.nx then E.ρ n else ρ (n - s.nx)) = none
    rw [if_neg (by omega)]; exact hp.nxρ _ (by omega)
  · have hn' : s.nx + H.nx ≤ n := hn
    show (if n < s.nx then E.θ n else θ (n - s.nx)) = none
    rw [if_neg (by omega)]; exact hp.nxθ _ (by omega)
  · have e' : hfind (hpRen (fmap [] s.nx) H.hp s.hp) n = some (T, ls) := e
    rcases hpRen_find hinj _ _ n T ls e' with ⟨m, ls', rfl, q1, rfl⟩ | q
    · obtain ⟨b, cs, k1, k2, k3, k4⟩ := hp.hp _ _ _ q1
      have hFb := hp.dom _ _ k4
      exact ⟨b, cs, hlater.ρ _ _ k1, k2, DenL.ren hlater _ _ (k3 { E with ρ := ρ, θ := θ } rfl rfl rfl), by rw [k2m b hFb, k4]; rfl, (hF b hFb).2.2⟩
    · obtain ⟨b, cs, k1, k2, k3, k4, k5⟩ := ho.hp _ _ _ q
      exact ⟨b, cs, hle.ρ _ _ k1, k2, DenL.mono hle _ _ k3, by rw [k2o b (far b _ k4 (by simp))]; exact k4, k5⟩
  · have hτ' : τ ∈ tkRen (fmap [] s.nx) H.tk s.tk := hτ
    rcases tkRen_mem _ _ _ hτ' with ⟨n, q1, rfl⟩ | q
    · obtain ⟨sz, a, len, cap, k1, k2, k3⟩ := hp.tk _ q1
      refine ⟨sz, a, len, cap, hlater.θ _ _ k1, k2, ?_⟩
      rcases k3 with k3 | ⟨b, off, T, cs, k4, k5, k6, k7, k8⟩
      · exact .inl k3
      · have hFb := hp.dom _ _ k5
        exact .inr ⟨b, off, T, cs, k4, by rw [k2m b hFb, k5]; rfl, (hF b hFb).2.2, k6, k7, k8⟩
    · obtain ⟨sz, a, len, cap, k1, k2, k3⟩ := ho.tk _ q
      refine ⟨sz, a, len, cap, hle.θ _ _ k1, k2, ?_⟩
      rcases k3 with k3 | ⟨b, off, T, cs, k4, k5, k6, k7, k8, k9⟩
      · exact .inl k3
      · exact .inr ⟨b, off, T, cs, k4, by rw [k2o b (far b _ k5 (by simp))]; exact k5, k6, k7, k8, k9⟩
  · have hr2 : (r', R) ∈ rsRen (fmap [] s.nx) H.rs (rsCut s.rs r) := hr'
    rcases rsRen_mem _ _ _ _ hr2 with ⟨n, q1, rfl⟩ | q
    · obtain ⟨G, k1, k2⟩ := hp.rs _ _ q1
      exact ⟨G, k1, fun b hb => ⟨(hF b (hp.dom _ _ (k2 b hb))).1, by rw [k2m b (hp.dom _ _ (k2 b hb)), k2 b hb]; rfl, (hF b (hp.dom _ _ (k2 b hb))).2.2⟩⟩
    · obtain ⟨q1, q2⟩ := rsCut_mem q
      obtain ⟨G, k1, k2⟩ := ho.rs _ _ q2
      refine ⟨G, k1, fun b hb => ⟨(k2 b hb).1, ?_, (k2 b hb).2.2⟩⟩
      rw [k2o b]
      · exact (k2 b hb).2.1
      · intro hFb
        have := (hF b hFb).2.1
        rw [(k2 b hb).2.1] at this
        injection this with this
        injection this with this
        exact q1 this
  · by_cases hFb : F a.block
    · rw [k2m _ hFb] at e'
      cases hk : κH a.block with
      | none => simp [hk] at e'
      | some key =>
        cases key with
        | blk m => exact hp.mu a v e m hk
        | tok m => simp [hk, ren'] at e'
        | res m => simp [hk, ren'] at e'
    · rw [k2o _ hFb] at e'
      exact ho.mu a v e n e'
  · by_cases hFb : F b
    · exact ⟨(hF b hFb).1, (hF b hFb).2.2⟩
    · rw [k2o _ hFb] at e
      exact ho.dom b key e

/-- A resource is opened; the variables js, its first block's pointer, are pointers to it. -/
def ptrAt (n : Nat) : List Nat → List SV → List SV
  | [], fr => fr
  | j :: js, fr => ptrAt n js (lset fr j (.ptr n 0))
def rawsAt (root : Nat) (fr : List SV) : List Nat → Prop
  | [] => True
  | j :: js => lget fr j = .raw (.pointer (some ⟨root, 0, none⟩)) ∧ rawsAt root fr js
theorem ptrAt_den {E : Env} {n root : Nat} (h : E.ρ n = some root) : ∀ (js : List Nat) (fr : List SV) (cs : List Value), DenL E fr cs → (∀ j, j ∈ js → Den E (.ptr n 0) (cs[j]?.getD undef)) → DenL E (ptrAt n js fr) cs
  | [], fr, cs, hd, _ => hd
  | j :: js, fr, cs, hd, hj => by
    refine ptrAt_den h js _ cs ?_ (fun i hi => hj i (by simp [hi]))
    have := hj j (by simp)
    by_cases hlt : j < cs.length
    · rw [List.getElem?_eq_getElem hlt, Option.getD_some] at this
      have h2 := denL_set fr cs j (.ptr n 0) cs[j] hd this
      rw [List.set_getElem_self] at h2
      exact h2
    · rw [List.getElem?_eq_none (by omega)] at this
      simp only [Den, Option.getD_none, undef] at this
      obtain ⟨b, _, e⟩ := this
      cases e
theorem unfold_ok {P : Program} {B : Ctx} {c : Code} {s : SS} {K : Ex → SS → Prop} (r : Nat) (H : SS) (js : List Nat) {root : Nat} (hr : (r, H.res root) ∈ s.rs) (hH : H.lt H.nx) (hj : rawsAt root s.fr js)
    (hc : CodeOK P B c { s.unfold r H with fr := ptrAt s.nx js s.fr } K) : CodeOK P B c s K := by
  intro E a w hb hf hw
  obtain ⟨E', h1, h2, h3⟩ := hw.unfold hr hH
  have hraw : ∀ j, j ∈ js → lget s.fr j = .raw (.pointer (some ⟨root, 0, none⟩)) := by
    clear hc
    induction js with
    | nil => intro j h; simp at h
    | cons i r ih =>
      intro j h
      rcases List.mem_cons.1 h with rfl | h
      · exact hj.1
      · exact ih hj.2 j h
  have hden := DenL.mono h1 _ _ hf.tmps
  have := wpIn_mono (hc E' a w (hb.ext h1.ext) ⟨ptrAt_den h2 js _ _ hden (fun j hjm => ?_), hf.defers⟩ ⟨h3.k, h3.kx, h3.os, h3.tape, h3.output, h3.size, h3.old, h3.mu, h3.nxρ, h3.nxθ, let ⟨κ, k⟩ := h3.own; ⟨κ, k.hp, k.tk, k.rs, k.mu, k.dom⟩⟩) (fun e a' w' h => QK.mono h1.ext (fun _ _ h => h) h)
  · exact this
  · have := denL_get s.fr a.tmps.toList j undef hf.tmps
    rw [hraw j hjm] at this
    simp only [Den] at this ⊢
    exact ⟨root, h2, this⟩
end Go.Eng
