/- The engine, part N: states under other names; less said of the same. -/
import Derived.Test.YtdbhgnjpjpmioaaEm
namespace Go.Eng
open Go
set_option linter.unusedVariables false
set_option linter.unusedSimpArgs false

def TW (imp : Bool) (f : Nat → Nat) : Tag → Tag → Prop
  | .old, _ => True
  | .nil, .nil => True
  | .new, .new => imp = false
  | .new, .nil => True
  | .new, .tok _ b => b = true ∧ imp = false
  | .tok τ b, .tok τ' b' => τ' = f τ ∧ (b = true → b' = true ∧ imp = false)
  | _, _ => False

mutual
/-- The first says no more than the second, under the names f (imp: of a state that is handed in). -/
def W (imp : Bool) (f : Nat → Nat) : SV → SV → Prop
  | .any, _ => True
  | .i k n, y => match y with | .i k' n' => k = k' ∧ n = n' | _ => False
  | .b c, y => match y with | .b c' => c = c' | _ => False
  | .s x, y => match y with | .s x' => x = x' | _ => False
  | .ptr n o, y => match y with | .ptr n' o' => n' = f n ∧ o = o' | _ => False
  | .nilp, y => match y with | .nilp => True | _ => False
  | .ints k t l, y => match y with | .ints k' t' l' => (k = k' ∨ l = []) ∧ l = l' ∧ TW imp f t t' | _ => False
  | .sl sz t n el, y => match y with
    | .sl sz' t' n' el' => sz = sz' ∧ n = n' ∧ TW imp f t t' ∧ ∀ i, i < n → ∀ j, j < sz → W imp f (el i j) (el' i j)
    | .ints _ .nil _ => n = 0 ∧ (t = .nil ∨ t = .old ∨ t = .new)
    | _ => False
  | .ep n g, y => match y with | .ep n' g' => n ≤ n' ∧ ∀ d, d < n → W imp f (g d) (g' d) | _ => False
  | .agg l, y => match y with | .agg l' => WL imp f l l' | _ => False
  | .tup l, y => match y with | .tup l' => WL imp f l l' | _ => False
  | .nili, y => match y with | .nili => True | _ => False
  | .ifc t x, y => match y with | .ifc t' x' => t = t' ∧ W imp f x x' | _ => False
  | .fn g a c, y => match y with | .fn g' a' c' => g = g' ∧ WL imp f a a' ∧ WL imp f c c' | _ => False
  | .nilf, y => match y with | .nilf => True | _ => False
  | .raw x, y => match y with | .raw x' => x = x' | _ => False
  | .cnd g x, y => match y with | .cnd g' x' => g = g' ∧ W imp f x x' | _ => False
def WL (imp : Bool) (f : Nat → Nat) : List SV → List SV → Prop
  | [], [] => True
  | x :: xs, y :: ys => W imp f x y ∧ WL imp f xs ys
  | [], _ :: _ => False
  | _ :: _, [] => False
end

structure Pull (imp : Bool) (f : Nat → Nat) (E E' : Env) : Prop where
  ρ : ∀ n, E'.ρ n = E.ρ (f n)
  θ : ∀ n, E'.θ n = E.θ (f n)
  μ : E'.μ = E.μ
  mt : imp = false → ∀ b, E.Z b → E'.Z b

theorem TW_ok {imp : Bool} {f : Nat → Nat} {E E' : Env} (h : Pull imp f E E') {sz : Nat} {v : Value} : ∀ {t t' : Tag}, TW imp f t t' → TagOK E sz v t' → TagOK E' sz v t
  | .old, _, _, _ => trivial
  | .nil, .nil, _, k => k
  | .new, .new, i, k => fun a n c e => h.mt i _ (k a n c e)
  | .new, .nil, _, k => fun a n c e => by simp only [TagOK] at k; rw [k] at e; simp at e
  | .new, .tok τ b, i, k => fun a n c e => by
    simp only [TW] at i
    exact h.mt i.2 _ (k.2 i.1 a n c e)
  | .tok τ b, .tok τ' b', i, k => by
    simp only [TW] at i
    refine ⟨by have := k.1; rw [i.1, ← h.θ] at this; exact this, fun hb a n c e => ?_⟩
    obtain ⟨i1, i2⟩ := i.2 hb
    exact h.mt i2 _ (k.2 i1 a n c e)
  | .new, .old, i, _ => by simp only [TW] at i
  | .nil, .old, i, _ => by simp only [TW] at i
  | .nil, .new, i, _ => by simp only [TW] at i
  | .nil, .tok _ _, i, _ => by simp only [TW] at i
  | .tok _ _, .old, i, _ => by simp only [TW] at i
  | .tok _ _, .new, i, _ => by simp only [TW] at i
  | .tok _ _, .nil, i, _ => by simp only [TW] at i

mutual
theorem W_den {imp : Bool} {f : Nat → Nat} {E E' : Env} (h : Pull imp f E E') : ∀ (x y : SV) (v : Value), W imp f x y → Den E y v → Den E' x v
  | .any, y, v, _, _ => by simp only [Den]
  | .i k n, y, v, hw, hd => by
    simp only [W] at hw; split at hw
    · obtain ⟨rfl, rfl⟩ := hw; simpa only [Den] using hd
    · exact hw.elim
  | .b c, y, v, hw, hd => by
    simp only [W] at hw; split at hw
    · subst hw; simpa only [Den] using hd
    · exact hw.elim
  | .s c, y, v, hw, hd => by
    simp only [W] at hw; split at hw
    · subst hw; simpa only [Den] using hd
    · exact hw.elim
  | .ptr n o, y, v, hw, hd => by
    simp only [W] at hw; split at hw
    · obtain ⟨rfl, rfl⟩ := hw
      simp only [Den] at hd ⊢
      obtain ⟨b, h1, h2⟩ := hd
      exact ⟨b, by rw [h.ρ]; exact h1, h2⟩
    · exact hw.elim
  | .nilp, y, v, hw, hd => by
    simp only [W] at hw; split at hw
    · simpa only [Den] using hd
    · exact hw.elim
  | .ints k t l, y, v, hw, hd => by
    simp only [W] at hw; split at hw
    · obtain ⟨hk, rfl, ht⟩ := hw
      simp only [Den] at hd ⊢
      obtain ⟨a, c, h1, h2, h3, h4, h5⟩ := hd
      refine ⟨a, c, h1, h2, h3, fun i x hx => ?_, TW_ok h ht h5⟩
      rcases hk with rfl | rfl
      · obtain ⟨b, off, e1, e2⟩ := h4 i x hx
        exact ⟨b, off, e1, by rw [h.μ]; exact e2⟩
      · simp at hx
    · exact hw.elim
  | .sl sz t n el, y, v, hw, hd => by
    unfold W at hw; split at hw
    · obtain ⟨rfl, rfl, ht, hel⟩ := hw
      simp only [Den] at hd ⊢
      obtain ⟨a, c, h1, h2, h3, h4, h5⟩ := hd
      refine ⟨a, c, h1, h2, h3, fun i hi => ?_, TW_ok h ht h5⟩
      obtain ⟨b, off, e1, e2⟩ := h4 i hi
      refine ⟨b, off, e1, fun j hj => ?_⟩
      obtain ⟨x, q1, q2⟩ := e2 j hj
      exact ⟨x, by rw [h.μ]; exact q1, W_den h (el i j) _ x (hel i hi j hj) q2⟩
    · obtain ⟨rfl, ht⟩ := hw
      simp only [Den] at hd ⊢
      obtain ⟨a, c, h1, h2, h3, h4, h5⟩ := hd
      simp only [TagOK] at h5
      subst h5
      refine ⟨none, 0, rfl, by omega, by omega, fun i hi => by omega, ?_⟩
      rcases ht with rfl | rfl | rfl
      · rfl
      · trivial
      · intro a n c e; simp at e
    · exact hw.elim
  | .ep n g, y, v, hw, hd => by
    unfold W at hw; split at hw
    · obtain ⟨hn, hg⟩ := hw
      simp only [Den] at hd ⊢
      obtain ⟨b, off, h1, h2⟩ := hd
      refine ⟨b, off, h1, fun d hd => ?_⟩
      obtain ⟨x, q1, q2⟩ := h2 d (by omega)
      exact ⟨x, by rw [h.μ]; exact q1, W_den h (g d) _ x (hg d hd) q2⟩
    · exact hw.elim
  | .agg l, y, v, hw, hd => by
    simp only [W] at hw; split at hw
    · simp only [Den] at hd ⊢
      obtain ⟨cs, h1, h2⟩ := hd
      exact ⟨cs, h1, WL_den h l _ cs hw h2⟩
    · exact hw.elim
  | .tup l, y, v, hw, hd => by
    simp only [W] at hw; split at hw
    · simp only [Den] at hd ⊢
      obtain ⟨cs, h1, h2⟩ := hd
      exact ⟨cs, h1, WL_den h l _ cs hw h2⟩
    · exact hw.elim
  | .nili, y, v, hw, hd => by
    simp only [W] at hw; split at hw
    · simpa only [Den] using hd
    · exact hw.elim
  | .ifc t x, y, v, hw, hd => by
    simp only [W] at hw; split at hw
    · obtain ⟨rfl, hw⟩ := hw
      simp only [Den] at hd ⊢
      obtain ⟨u, h1, h2⟩ := hd
      exact ⟨u, h1, W_den h x _ u hw h2⟩
    · exact hw.elim
  | .fn g a c, y, v, hw, hd => by
    simp only [W] at hw; split at hw
    · obtain ⟨rfl, h1, h2⟩ := hw
      simp only [Den] at hd ⊢
      obtain ⟨fs, cs, q1, q2, q3⟩ := hd
      exact ⟨fs, cs, q1, WL_den h a _ fs h1 q2, WL_den h c _ cs h2 q3⟩
    · exact hw.elim
  | .nilf, y, v, hw, hd => by
    simp only [W] at hw; split at hw
    · simpa only [Den] using hd
    · exact hw.elim
  | .raw x, y, v, hw, hd => by
    simp only [W] at hw; split at hw
    · subst hw; simpa only [Den] using hd
    · exact hw.elim
  | .cnd g x, y, v, hw, hd => by
    simp only [W] at hw; split at hw
    · obtain ⟨rfl, hw⟩ := hw
      simp only [Den] at hd ⊢
      exact ⟨fun e => W_den h x _ v hw (hd.1 e), hd.2⟩
    · exact hw.elim
theorem WL_den {imp : Bool} {f : Nat → Nat} {E E' : Env} (h : Pull imp f E E') : ∀ (l m : List SV) (cs : List Value), WL imp f l m → DenL E m cs → DenL E' l cs
  | [], [], [], _, _ => by simp only [DenL]
  | x :: xs, y :: ys, v :: vs, hw, hd => by
    simp only [WL] at hw
    simp only [DenL] at hd ⊢
    exact ⟨W_den h x y v hw.1 hd.1, WL_den h xs ys vs hw.2 hd.2⟩
  | [], _ :: _, _, hw, _ => by simp only [WL] at hw
  | _ :: _, [], _, hw, _ => by simp only [WL] at hw
  | [], [], _ :: _, _, hd => by simp only [DenL] at hd
  | _ :: _, _ :: _, [], _, hd => by simp only [DenL] at hd
end

/-- Names: the first ones by a list, the others behind all that there are. -/
def fmap : List Nat → Nat → Nat → Nat
  | [], nx, n => nx + n
  | m :: _, _, 0 => m
  | _ :: r, nx, n + 1 => fmap r nx n

def distincts : List Nat → Prop
  | [] => True
  | m :: r => (∀ x, x ∈ r → m ≠ x) ∧ distincts r
def allLt (nx : Nat) : List Nat → Prop
  | [] => True
  | m :: r => m < nx ∧ allLt nx r

theorem fmap_lt : ∀ (l : List Nat) (nx n : Nat), allLt nx l → n < l.length → fmap l nx n ∈ l ∧ fmap l nx n < nx
  | [], nx, n, _, h => by simp at h
  | m :: r, nx, 0, hl, h => by simp only [allLt] at hl; simp [fmap, hl.1]
  | m :: r, nx, n + 1, hl, h => by
    simp only [allLt] at hl
    have := fmap_lt r nx n hl.2 (by simpa using h)
    simp only [fmap]
    exact ⟨List.mem_cons_of_mem _ this.1, this.2⟩
theorem fmap_ge : ∀ (l : List Nat) (nx n : Nat), l.length ≤ n → fmap l nx n = nx + (n - l.length)
  | [], nx, n, _ => by simp [fmap]
  | m :: r, nx, 0, h => by simp at h
  | m :: r, nx, n + 1, h => by
    simp only [fmap]
    rw [fmap_ge r nx n (by simpa using h)]
    simp
theorem fmap_inj : ∀ (l : List Nat) (nx : Nat), distincts l → allLt nx l → ∀ n m, fmap l nx n = fmap l nx m → n = m
  | [], nx, _, _, n, m, h => by simp only [fmap] at h; omega
  | x :: r, nx, hd, hl, 0, 0, h => rfl
  | x :: r, nx, hd, hl, n + 1, m + 1, h => by
    simp only [distincts] at hd
    simp only [allLt] at hl
    simp only [fmap] at h
    rw [fmap_inj r nx hd.2 hl.2 n m h]
  | x :: r, nx, hd, hl, 0, m + 1, h => by
    simp only [distincts] at hd
    simp only [allLt] at hl
    simp only [fmap] at h
    exfalso
    rcases Nat.lt_or_ge m r.length with h' | h'
    · exact hd.1 _ (fmap_lt r nx m hl.2 h').1 h
    · have := fmap_ge r nx m h'; omega
  | x :: r, nx, hd, hl, n + 1, 0, h => by
    simp only [distincts] at hd
    simp only [allLt] at hl
    simp only [fmap] at h
    exfalso
    rcases Nat.lt_or_ge n r.length with h' | h'
    · exact hd.1 _ (fmap_lt r nx n hl.2 h').1 h.symm
    · have := fmap_ge r nx n h'; omega

noncomputable def finv (f : Nat → Nat) (N : Nat → Prop) (m : Nat) : Option Nat := open Classical in if h : ∃ n, N n ∧ f n = m then some (Classical.choose h) else none
theorem finv_of {f : Nat → Nat} {N : Nat → Prop} (hf : ∀ n m, f n = f m → n = m) {n : Nat} (hn : N n) : finv f N (f n) = some n := by
  unfold finv
  have h : ∃ m, N m ∧ f m = f n := ⟨n, hn, rfl⟩
  rw [dif_pos h]
  rw [hf _ _ (Classical.choose_spec h).2]
theorem finv_some {f : Nat → Nat} {N : Nat → Prop} {m n : Nat} (h : finv f N m = some n) : N n ∧ f n = m := by
  unfold finv at h
  split at h
  · rename_i h'
    injection h with h
    rw [← h]; exact Classical.choose_spec h'
  · cases h

def hpSub (imp : Bool) (f : Nat → Nat) (hp : List (Nat × TypeId × List SV)) : List (Nat × TypeId × List SV) → Prop
  | [] => True
  | (n, T, ls) :: r => (match hfind hp (f n) with | some (T', ls') => T = T' ∧ WL imp f ls ls' | none => False) ∧ hpSub imp f hp r
def tkSub (f : Nat → Nat) (tk : List Nat) : List Nat → Prop
  | [] => True
  | τ :: r => tkMem tk (f τ) = true ∧ tkSub f tk r
def rsFind : List (Nat × Res) → Nat → Option Res
  | [], _ => none
  | (m, R) :: r, n => if m = n then some R else rsFind r n
def rsSub (f : Nat → Nat) (rs : List (Nat × Res)) : List (Nat × Res) → Prop
  | [] => True
  | (n, R) :: r => rsFind rs (f n) = some R ∧ rsSub f rs r

theorem rsFind_mem : ∀ (l : List (Nat × Res)) (n : Nat) (R : Res), rsFind l n = some R → (n, R) ∈ l
  | [], n, R, h => by simp [rsFind] at h
  | (m, R') :: r, n, R, h => by
    simp only [rsFind] at h
    split at h
    · rename_i e; subst e; injection h with h; subst h; simp
    · exact List.mem_cons_of_mem _ (rsFind_mem r n R h)

theorem hpSub_find {imp : Bool} {f : Nat → Nat} {hp : List (Nat × TypeId × List SV)} : ∀ {l : List (Nat × TypeId × List SV)}, hpSub imp f hp l → ∀ n T ls, hfind l n = some (T, ls) → ∃ ls', hfind hp (f n) = some (T, ls') ∧ WL imp f ls ls'
  | [], _, n, T, ls, e => by simp [hfind] at e
  | (m, T', ls') :: r, h, n, T, ls, e => by
    simp only [hpSub] at h
    simp only [hfind] at e
    split at e
    · rename_i hm
      subst hm
      simp only [Option.some.injEq, Prod.mk.injEq] at e
      obtain ⟨rfl, rfl⟩ := e
      obtain ⟨h1, -⟩ := h
      split at h1
      · rename_i T2 l2 e2
        obtain ⟨rfl, h1⟩ := h1
        exact ⟨l2, e2, h1⟩
      · exact h1.elim
    · exact hpSub_find h.2 n T ls e
theorem tkSub_mem {f : Nat → Nat} {tk : List Nat} : ∀ {l : List Nat}, tkSub f tk l → ∀ τ, τ ∈ l → f τ ∈ tk
  | [], _, τ, h => by simp at h
  | x :: r, h, τ, hτ => by
    simp only [tkSub] at h
    rcases List.mem_cons.1 hτ with rfl | hτ
    · exact tkMem_sound _ _ h.1
    · exact tkSub_mem h.2 τ hτ
theorem rsSub_mem {f : Nat → Nat} {rs : List (Nat × Res)} : ∀ {l : List (Nat × Res)}, rsSub f rs l → ∀ r R, (r, R) ∈ l → (f r, R) ∈ rs
  | [], _, r, R, h => by simp at h
  | (m, R') :: l, h, r, R, hr => by
    simp only [rsSub] at h
    rcases List.mem_cons.1 hr with e | hr
    · simp only [Prod.mk.injEq] at e
      obtain ⟨rfl, rfl⟩ := e
      exact rsFind_mem _ _ _ h.1
    · exact rsSub_mem h.2 r R hr

def Key.name : Key → Nat
  | .blk n => n
  | .tok n => n
  | .res n => n
def Key.ren (g : Nat → Option Nat) : Key → Option Key
  | .blk n => (g n).map .blk
  | .tok n => (g n).map .tok
  | .res n => (g n).map .res

theorem Owns.pull {imp : Bool} {f : Nat → Nat} (hf : ∀ n m, f n = f m → n = m) {E E' : Env} (hp : Pull imp f E E') {s t : SS} {w : World} {κ : Nat → Option Key} (h : Owns E s w κ)
    (h1 : hpSub imp f s.hp t.hp) (h2 : tkSub f s.tk t.tk) (h3 : rsSub f s.rs t.rs) (N : Nat → Prop) (hN1 : ∀ n T ls, hfind t.hp n = some (T, ls) → N n) (hN2 : ∀ τ, τ ∈ t.tk → N τ) (hN3 : ∀ r R, (r, R) ∈ t.rs → N r)
    (hm : ∀ b key n, κ b = some key → key.name = f n → N n → Mut E b → Mut E' b) :
    Owns E' t w (fun b => (κ b).bind (Key.ren (finv f N))) := by
  refine ⟨?_, ?_, ?_, ?_, ?_⟩
  · intro n T ls e
    obtain ⟨ls', q1, q2⟩ := hpSub_find h1 n T ls e
    obtain ⟨b, cs, k1, k2, k3, k4, k5⟩ := h.hp _ _ _ q1
    exact ⟨b, cs, by rw [hp.ρ]; exact k1, k2, WL_den hp _ _ _ q2 k3, by simp [k4, Key.ren, finv_of hf (hN1 n T ls e)], hm b _ n k4 rfl (hN1 n T ls e) k5⟩
  · intro τ hτ
    obtain ⟨sz, a, len, cap, k1, k2, k3⟩ := h.tk _ (tkSub_mem h2 τ hτ)
    refine ⟨sz, a, len, cap, by rw [hp.θ]; exact k1, k2, ?_⟩
    rcases k3 with k3 | ⟨b, off, T, cs, k4, k5, k6, k7, k8, k9⟩
    · exact .inl k3
    · exact .inr ⟨b, off, T, cs, k4, by simp [k5, Key.ren, finv_of hf (hN2 τ hτ)], hm b _ τ k5 rfl (hN2 τ hτ) k6, k7, k8, by rw [hp.μ]; exact k9⟩
  · intro r R hr
    obtain ⟨F, k1, k2⟩ := h.rs _ _ (rsSub_mem h3 r R hr)
    exact ⟨F, by rw [hp.μ]; exact k1, fun b hb => ⟨(k2 b hb).1, by simp [(k2 b hb).2.1, Key.ren, finv_of hf (hN3 r R hr)], hm b _ r (k2 b hb).2.1 rfl (hN3 r R hr) (k2 b hb).2.2⟩⟩
  · intro a v e
    rw [hp.μ] at e
    have k1 := h.mu a v e
    intro n e'
    cases hk : κ a.block with
    | none => simp [hk] at e'
    | some key =>
      cases key with
      | blk m => exact k1 m hk
      | tok m => simp [hk, Key.ren] at e'
      | res m => simp [hk, Key.ren] at e'
  · intro b k e
    cases hk : κ b with
    | none => simp [hk] at e
    | some key =>
      refine ⟨(h.dom b key hk).1, ?_⟩
      rw [hk] at e
      simp only [Option.bind_some] at e
      have : ∃ n, N n ∧ key.name = f n := by
        cases key <;> simp only [Key.ren, Option.map_eq_some_iff] at e <;> obtain ⟨n, h1, _⟩ := e <;> exact ⟨n, (finv_some h1).1, (finv_some h1).2.symm⟩
      obtain ⟨n, h1, h2⟩ := this
      exact hm b key n hk h2 h1 (h.dom b key hk).2

/-- The same world, under other names; less is said. -/
theorem Good.pull {f : Nat → Nat} (hf : ∀ n m, f n = f m → n = m) {E : Env} {s t : SS} {w : World} (h : Good E s w) (hk : t.k = s.k) (hkx : t.k ≤ t.nx) (hn : ∀ n, t.nx ≤ n → s.nx ≤ f n)
    (h1 : hpSub false f s.hp t.hp) (h2 : tkSub f s.tk t.tk) (h3 : rsSub f s.rs t.rs) :
    ∃ E', Pull false f E E' ∧ E'.w0 = E.w0 ∧ (E'.S0 = E.S0 ∧ E'.Z = E.Z) ∧ E'.k = E.k ∧ Good E' t w := by
  have hp : Pull false f E { E with ρ := fun n => E.ρ (f n), θ := fun n => E.θ (f n) } := ⟨fun _ => rfl, fun _ => rfl, rfl, fun _ _ h => h⟩
  refine ⟨_, hp, rfl, ⟨rfl, rfl⟩, rfl, ?_⟩
  obtain ⟨κ, ho⟩ := h.own
  exact ⟨h.k.trans hk.symm, hkx, h.os, h.tape, h.output, h.size, h.old, h.mu, fun n hn' => h.nxρ _ (hn n hn'), fun n hn' => h.nxθ _ (hn n hn'), _, ho.pull hf hp h1 h2 h3 (fun _ => True) (fun _ _ _ _ => trivial) (fun _ _ => trivial) (fun _ _ _ => trivial) (fun _ _ _ _ _ _ h => h)⟩

/-- Less is said of the same, names by a list: the names that came in stay. -/
theorem Sub.of {s t : SS} (im : List Nat) (hd : distincts im) (hl : allLt s.nx im) (hlen : im.length ≤ t.nx) (hk : t.k = s.k) (hkx : t.k ≤ t.nx) (hid : ∀ n, n < s.k → fmap im s.nx n = n) (hdf : t.df = s.df)
    (hfr : WL false (fmap im s.nx) t.fr s.fr) (h1 : hpSub false (fmap im s.nx) s.hp t.hp) (h2 : tkSub (fmap im s.nx) s.tk t.tk) (h3 : rsSub (fmap im s.nx) s.rs t.rs) : Sub s t := by
  intro E a w hf hw
  obtain ⟨E', q1, q2, q3, q4, q5⟩ := hw.pull (t := t) (fmap_inj im s.nx hd hl) hk hkx (fun n hn => by rw [fmap_ge im s.nx n (by omega)]; omega) h1 h2 h3
  refine ⟨E', ⟨q4, fun n hn => ?_, fun n hn => ?_, q2, q3.1, fun a v e => by rw [q1.μ]; exact e, fun a v e => .inl (by rw [q1.μ] at e; exact e), q3.2⟩, ⟨WL_den q1 _ _ _ hfr hf.tmps, by rw [hdf]; exact hf.defers⟩, q5⟩
  · rw [q1.ρ, hid n (by rw [← hw.k]; exact hn)]
  · rw [q1.θ, hid n (by rw [← hw.k]; exact hn)]
end Go.Eng
