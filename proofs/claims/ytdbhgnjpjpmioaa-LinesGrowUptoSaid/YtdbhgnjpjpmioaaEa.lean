/- The engine, part A: symbolic values, what they denote in a world, and that more knowledge keeps what is known. -/
import Derived.Tactics
import Derived.Below
import Derived.WalkKit
import Derived.StillTail
import Derived.Deep.LoopGhost
namespace Go.Eng
open Go
set_option linter.unusedVariables false

/-- What is known of where a slice lies: nothing; in memory made since the call began; it is the nil slice; it is the very slice of token τ (whose spare room is owned). -/
inductive Tag where
  | old | new | nil | tok (τ : Nat) (fresh : Bool)

inductive SV where
  | i (k : IntKind) (n : Int)
  | b (c : Bool)
  | s (x : ByteArray)
  | ptr (n off : Nat)
  | nilp
  | ints (k : IntKind) (tg : Tag) (l : List Int)
  | sl (sz : Nat) (tg : Tag) (n : Nat) (el : Nat → Nat → SV)
  | ep (n : Nat) (get : Nat → SV)
  | agg (l : List SV)
  | tup (l : List SV)
  | nili
  | ifc (t : TypeId) (x : SV)
  | fn (f : Fn) (first cap : List SV)
  | nilf
  | raw (x : Value)
  | cnd (g : Bool) (x : SV)
  | any

/-- The names' meaning: w0: the world when the call began; S0: old blocks that the call may write; ρ: named blocks; θ: the slices of the tokens; μ: cells that stay as they are; k: how many names came in. -/
structure Env where
  w0 : World
  S0 : Nat → Prop
  ρ : Nat → Option Nat
  θ : Nat → Option (Nat × Value)
  μ : Addr → Option Value
  k : Nat
  Z : Nat → Prop
  hZ : ∀ b, w0.heap.size ≤ b → Z b

/-- Blocks that the call may write: its own, and those handed to it for that. -/
def Mut (E : Env) (b : Nat) : Prop := E.w0.heap.size ≤ b ∨ E.S0 b

structure Env.Le (E E' : Env) : Prop where
  k : E'.k = E.k
  w0 : E'.w0 = E.w0
  S0 : E'.S0 = E.S0
  ρ : ∀ n b, E.ρ n = some b → E'.ρ n = some b
  θ : ∀ n v, E.θ n = some v → E'.θ n = some v
  μ : ∀ a v, E.μ a = some v → E'.μ a = some v
  μnew : ∀ a v, E'.μ a = some v → E.μ a = some v ∨ Mut E a.block
  ρk : ∀ n, n < E.k → E'.ρ n = E.ρ n
  θk : ∀ n, n < E.k → E'.θ n = E.θ n
  Z : E'.Z = E.Z

/-- What a later state of knowledge keeps, names apart. -/
structure Env.Ext (E E' : Env) : Prop where
  k : E'.k = E.k
  ρ : ∀ n, n < E.k → E'.ρ n = E.ρ n
  θ : ∀ n, n < E.k → E'.θ n = E.θ n
  w0 : E'.w0 = E.w0
  S0 : E'.S0 = E.S0
  μ : ∀ a v, E.μ a = some v → E'.μ a = some v
  μnew : ∀ a v, E'.μ a = some v → E.μ a = some v ∨ Mut E a.block
  Z : E'.Z = E.Z

theorem Env.Le.refl (E : Env) : E.Le E := ⟨rfl, rfl, rfl, fun _ _ h => h, fun _ _ h => h, fun _ _ h => h, fun _ _ h => .inl h, fun _ _ => rfl, fun _ _ => rfl, rfl⟩
theorem Mut.le {E E' : Env} (h : E.Le E') {b : Nat} : Mut E b ↔ Mut E' b := by unfold Mut; rw [h.w0, h.S0]
theorem Env.Le.trans {A B C : Env} (h : A.Le B) (k : B.Le C) : A.Le C :=
  ⟨k.k.trans h.k, k.w0.trans h.w0, k.S0.trans h.S0, fun n b e => k.ρ n b (h.ρ n b e), fun n b e => k.θ n b (h.θ n b e), fun a v e => k.μ a v (h.μ a v e), fun a v e => by
    rcases k.μnew a v e with e' | e'
    · exact h.μnew a v e'
    · exact .inr ((Mut.le h).2 e'), fun n hn => (k.ρk n (by rw [h.k]; exact hn)).trans (h.ρk n hn), fun n hn => (k.θk n (by rw [h.k]; exact hn)).trans (h.θk n hn), k.Z.trans h.Z⟩

theorem Env.Le.ext {E E' : Env} (h : E.Le E') : E.Ext E' := ⟨h.k, h.ρk, h.θk, h.w0, h.S0, h.μ, h.μnew, h.Z⟩
theorem Env.Ext.refl (E : Env) : E.Ext E := (Env.Le.refl E).ext
theorem Mut.ext {E E' : Env} (h : E.Ext E') {b : Nat} : Mut E b ↔ Mut E' b := by unfold Mut; rw [h.w0, h.S0]
theorem Env.Ext.trans {A B C : Env} (h : A.Ext B) (k : B.Ext C) : A.Ext C :=
  ⟨k.k.trans h.k, fun n hn => (k.ρ n (by rw [h.k]; exact hn)).trans (h.ρ n hn), fun n hn => (k.θ n (by rw [h.k]; exact hn)).trans (h.θ n hn), k.w0.trans h.w0, k.S0.trans h.S0, fun a v e => k.μ a v (h.μ a v e), fun a v e => by
    rcases k.μnew a v e with e' | e'
    · exact h.μnew a v e'
    · exact .inr ((Mut.ext h).2 e'), k.Z.trans h.Z⟩

/-- The slice, or what is left of it behind its first j elements. -/
def TokV (x : Option (Nat × Value)) (sz : Nat) (v : Value) : Prop :=
  ∃ a n c j p, x = some (sz, .slice a n c) ∧ n ≤ c ∧ j ≤ n ∧ v = .slice p (n - j) (c - j) ∧ (c = j ∨ p = a.map (·.add (j * sz)))
theorem TokV.self {sz : Nat} {a : Option Addr} {n c : Nat} (h : n ≤ c) : TokV (some (sz, .slice a n c)) sz (.slice a n c) :=
  ⟨a, n, c, 0, a, rfl, h, Nat.zero_le _, by simp, .inr (by cases a <;> simp [Addr.add])⟩
theorem Addr_add_add (x : Addr) (i j : Nat) : (x.add i).add j = x.add (i + j) := by
  unfold Addr.add
  by_cases h1 : i = 0 <;> by_cases h2 : j = 0 <;> simp [h1, h2, Nat.add_assoc]
theorem TokV.cut {x : Option (Nat × Value)} {sz : Nat} {p : Option Addr} {n cap a : Nat} (h : TokV x sz (.slice p n cap)) (ha : a ≤ n) : TokV x sz (.slice (if cap = a then p else p.map (·.add (a * sz))) (n - a) (cap - a)) := by
  obtain ⟨a0, n0, c0, j, p', e, h0, h1, h2, h3⟩ := h
  simp only [Value.slice.injEq] at h2
  obtain ⟨rfl, rfl, rfl⟩ := h2
  refine ⟨a0, n0, c0, j + a, if c0 - j = a then p else p.map (·.add (a * sz)), e, h0, by omega, ?_, ?_⟩
  · simp only [Value.slice.injEq, true_and]; exact ⟨by omega, by omega⟩
  · by_cases hc : c0 - j = a
    · left; omega
    · right
      rw [if_neg hc]
      rcases h3 with h3 | h3
      · omega
      · rw [h3]
        cases a0 with
        | none => rfl
        | some ad => simp [Addr_add_add, Nat.add_mul]
theorem TokV.of {E E' : Env} (h : ∀ n v, E.θ n = some v → E'.θ n = some v) {τ sz : Nat} {v : Value} : TokV (E.θ τ) sz v → TokV (E'.θ τ) sz v
  | ⟨a, n, c, j, p, e, k⟩ => ⟨a, n, c, j, p, h _ _ e, k⟩
theorem TokV.to {x y : Option (Nat × Value)} (h : ∀ v, x = some v → y = some v) {sz : Nat} {v : Value} : TokV x sz v → TokV y sz v
  | ⟨a, n, c, j, p, e, k⟩ => ⟨a, n, c, j, p, h _ e, k⟩
def TagOK (E : Env) (sz : Nat) (v : Value) : Tag → Prop
  | .old => True
  | .new => ∀ a n c, v = .slice (some a) n c → E.Z a.block
  | .nil => v = .slice none 0 0
  | .tok τ b => TokV (E.θ τ) sz v ∧ (b = true → ∀ a n c, v = .slice (some a) n c → E.Z a.block)

theorem TagOK.mono {E E' : Env} (h : E.Le E') {sz : Nat} {v : Value} : ∀ {t : Tag}, TagOK E sz v t → TagOK E' sz v t
  | .old, _ => trivial
  | .new, k => fun a n c e => by rw [h.Z]; exact k a n c e
  | .nil, k => k
  | .tok τ b, k => ⟨TokV.of h.θ k.1, fun hb a n c e => by rw [h.Z]; exact k.2 hb a n c e⟩

/-- A slice of whole numbers of kind k that reads l, in cells that stay. -/
def IsInts (E : Env) (k : IntKind) (tg : Tag) (l : List Int) (v : Value) : Prop :=
  ∃ (a : Option Addr) (cap : Nat), v = .slice a l.length cap ∧ l.length ≤ cap ∧ cap ≤ 9223372036854775807 ∧
    (∀ i x, l[i]? = some x → ∃ b off, a = some ⟨b, off, none⟩ ∧ E.μ ⟨b, off + i, none⟩ = some (.int k x)) ∧ TagOK E 1 v tg

theorem IsInts.mono {E E' : Env} (h : E.Le E') {k : IntKind} {tg : Tag} {l : List Int} {v : Value} : IsInts E k tg l v → IsInts E' k tg l v
  | ⟨a, cap, h1, h2, h3, h4, h5⟩ => ⟨a, cap, h1, h2, h3, fun i x e => let ⟨b, off, p, q⟩ := h4 i x e; ⟨b, off, p, h.μ _ _ q⟩, h5.mono h⟩

mutual
def Den (E : Env) : SV → Value → Prop
  | .i k n, v => v = .int k n
  | .b c, v => v = .bool c
  | .s x, v => v = .string x
  | .ptr n off, v => ∃ b, E.ρ n = some b ∧ v = .pointer (some ⟨b, off, none⟩)
  | .nilp, v => v = .pointer none
  | .ints k tg l, v => IsInts E k tg l v
  | .sl sz tg n el, v => ∃ (a : Option Addr) (cap : Nat), v = .slice a n cap ∧ n ≤ cap ∧ cap ≤ 9223372036854775807 ∧
      (∀ i, i < n → ∃ b off, a = some ⟨b, off, none⟩ ∧ ∀ j, j < sz → ∃ x, E.μ ⟨b, off + i * sz + j, none⟩ = some x ∧ Den E (el i j) x) ∧ TagOK E sz v tg
  | .ep n get, v => ∃ b off, v = .pointer (some ⟨b, off, none⟩) ∧ ∀ d, d < n → ∃ x, E.μ ⟨b, off + d, none⟩ = some x ∧ Den E (get d) x
  | .agg l, v => ∃ cs : List Value, v = .agg cs.toArray ∧ DenL E l cs
  | .tup l, v => ∃ cs : List Value, v = .tuple cs.toArray ∧ DenL E l cs
  | .nili, v => v = .nilIface
  | .ifc t x, v => ∃ y, v = .iface t y ∧ Den E x y
  | .fn f first cap, v => ∃ fs cs : List Value, v = .func f fs.toArray cs.toArray ∧ DenL E first fs ∧ DenL E cap cs
  | .nilf, v => v = .nilFunc
  | .raw x, v => v = x
  | .cnd g x, v => (g = true → Den E x v) ∧ (g = false → v = undef)
  | .any, _ => True
def DenL (E : Env) : List SV → List Value → Prop
  | [], [] => True
  | x :: xs, v :: vs => Den E x v ∧ DenL E xs vs
  | [], _ :: _ => False
  | _ :: _, [] => False
end

mutual
theorem Den.mono {E E' : Env} (h : E.Le E') : ∀ (x : SV) (v : Value), Den E x v → Den E' x v
  | .i k n, v, hd => by simpa only [Den] using hd
  | .b c, v, hd => by simpa only [Den] using hd
  | .s x, v, hd => by simpa only [Den] using hd
  | .ptr n off, v, hd => by
      simp only [Den] at hd ⊢
      obtain ⟨b, h1, h2⟩ := hd
      exact ⟨b, h.ρ _ _ h1, h2⟩
  | .nilp, v, hd => by simpa only [Den] using hd
  | .ints k tg l, v, hd => by
      simp only [Den] at hd ⊢
      exact hd.mono h
  | .sl sz tg n el, v, hd => by
      simp only [Den] at hd ⊢
      obtain ⟨a, cap, h1, h2, h3, h4, h5⟩ := hd
      refine ⟨a, cap, h1, h2, h3, fun i hi => ?_, h5.mono h⟩
      obtain ⟨b, off, p, q⟩ := h4 i hi
      refine ⟨b, off, p, fun j hj => ?_⟩
      obtain ⟨x, r, s⟩ := q j hj
      exact ⟨x, h.μ _ _ r, Den.mono h (el i j) x s⟩
  | .ep n get, v, hd => by
      simp only [Den] at hd ⊢
      obtain ⟨b, off, p, q⟩ := hd
      refine ⟨b, off, p, fun d hd => ?_⟩
      obtain ⟨x, r, s⟩ := q d hd
      exact ⟨x, h.μ _ _ r, Den.mono h (get d) x s⟩
  | .agg l, v, hd => by
      simp only [Den] at hd ⊢
      obtain ⟨cs, p, q⟩ := hd
      exact ⟨cs, p, DenL.mono h l cs q⟩
  | .tup l, v, hd => by
      simp only [Den] at hd ⊢
      obtain ⟨cs, p, q⟩ := hd
      exact ⟨cs, p, DenL.mono h l cs q⟩
  | .nili, v, hd => by simpa only [Den] using hd
  | .ifc t x, v, hd => by
      simp only [Den] at hd ⊢
      obtain ⟨y, p, q⟩ := hd
      exact ⟨y, p, Den.mono h x y q⟩
  | .fn f first cap, v, hd => by
      simp only [Den] at hd ⊢
      obtain ⟨fs, cs, p, q, r⟩ := hd
      exact ⟨fs, cs, p, DenL.mono h first fs q, DenL.mono h cap cs r⟩
  | .nilf, v, hd => by simpa only [Den] using hd
  | .raw x, v, hd => by simpa only [Den] using hd
  | .cnd g x, v, hd => by
      simp only [Den] at hd ⊢
      exact ⟨fun e => Den.mono h x v (hd.1 e), hd.2⟩
  | .any, v, hd => by simp only [Den]
theorem DenL.mono {E E' : Env} (h : E.Le E') : ∀ (l : List SV) (cs : List Value), DenL E l cs → DenL E' l cs
  | [], [], _ => by simp only [DenL]
  | x :: xs, v :: vs, hd => by
      simp only [DenL] at hd ⊢
      exact ⟨Den.mono h x v hd.1, DenL.mono h xs vs hd.2⟩
  | [], _ :: _, hd => by simp only [DenL] at hd
  | _ :: _, [], hd => by simp only [DenL] at hd
end
end Go.Eng
