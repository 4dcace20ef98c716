/- Texts joined, in order: Ea, Eb, Ec, Ed, Ee, Ef, Eg, Mp, Eh, Ei, Ej, Ga, Gc. -/
import Derived.Tactics
import Derived.Below
import Derived.WalkKit
import Derived.StillTail
import Derived.Deep.LoopGhost
import Derived.Laws.BytesString
import Derived.MapKept
import Derived.Laws.CopyRow
import Derived.Laws.AppendOwn
/- The engine, part A: symbolic values, what they denote in a world, and that more knowledge keeps what is known. -/
namespace Go.Eng
open Go
set_option linter.unusedVariables false

/-- What is known of where a slice lies: nothing; in memory made since the call began; it is the nil slice; it is the very slice of token τ (whose spare room is owned). -/
inductive Tag where
  | old | new | nil | tok (τ : Nat) (fresh : Bool)

inductive SV where
  | i (k : IntKind) (n : Int)
  | b (c : Bool)
  | s (x : ByteArray)
  | ptr (n off : Nat)
  | nilp
  | ints (k : IntKind) (tg : Tag) (l : List Int)
  | sl (sz : Nat) (tg : Tag) (n : Nat) (el : Nat → Nat → SV)
  | ep (n : Nat) (get : Nat → SV)
  | agg (l : List SV)
  | tup (l : List SV)
  | nili
  | ifc (t : TypeId) (x : SV)
  | fn (f : Fn) (first cap : List SV)
  | nilf
  | raw (x : Value)
  | cnd (g : Bool) (x : SV)
  | mp (n : Nat)
  | any

/-- The names' meaning: w0: the world when the call began; S0: old blocks that the call may write; ρ: named blocks; θ: the slices of the tokens; μ: cells that stay as they are; k: how many names came in. -/
structure Env where
  w0 : World
  S0 : Nat → Prop
  ρ : Nat → Option Nat
  θ : Nat → Option (Nat × Value)
  μ : Addr → Option Value
  k : Nat
  Z : Nat → Prop
  hZ : ∀ b, w0.heap.size ≤ b → Z b

/-- Blocks that the call may write: its own, and those handed to it for that. -/
def Mut (E : Env) (b : Nat) : Prop := E.w0.heap.size ≤ b ∨ E.S0 b

structure Env.Le (E E' : Env) : Prop where
  k : E'.k = E.k
  w0 : E'.w0 = E.w0
  S0 : E'.S0 = E.S0
  ρ : ∀ n b, E.ρ n = some b → E'.ρ n = some b
  θ : ∀ n v, E.θ n = some v → E'.θ n = some v
  μ : ∀ a v, E.μ a = some v → E'.μ a = some v
  μnew : ∀ a v, E'.μ a = some v → E.μ a = some v ∨ Mut E a.block
  ρk : ∀ n, n < E.k → E'.ρ n = E.ρ n
  θk : ∀ n, n < E.k → E'.θ n = E.θ n
  Z : E'.Z = E.Z

/-- What a later state of knowledge keeps, names apart. -/
structure Env.Ext (E E' : Env) : Prop where
  k : E'.k = E.k
  ρ : ∀ n, n < E.k → E'.ρ n = E.ρ n
  θ : ∀ n, n < E.k → E'.θ n = E.θ n
  w0 : E'.w0 = E.w0
  S0 : E'.S0 = E.S0
  μ : ∀ a v, E.μ a = some v → E'.μ a = some v
  μnew : ∀ a v, E'.μ a = some v → E.μ a = some v ∨ Mut E a.block
  Z : E'.Z = E.Z

theorem Env.Le.refl (E : Env) : E.Le E := ⟨rfl, rfl, rfl, fun _ _ h => h, fun _ _ h => h, fun _ _ h => h, fun _ _ h => .inl h, fun _ _ => rfl, fun _ _ => rfl, rfl⟩
theorem Mut.le {E E' : Env} (h : E.Le E') {b : Nat} : Mut E b ↔ Mut E' b := by unfold Mut; rw [h.w0, h.S0]
theorem Env.Le.trans {A B C : Env} (h : A.Le B) (k : B.Le C) : A.Le C :=
  ⟨k.k.trans h.k, k.w0.trans h.w0, k.S0.trans h.S0, fun n b e => k.ρ n b (h.ρ n b e), fun n b e => k.θ n b (h.θ n b e), fun a v e => k.μ a v (h.μ a v e), fun a v e => by
    rcases k.μnew a v e with e' | e'
    · exact h.μnew a v e'
    · exact .inr ((Mut.le h).2 e'), fun n hn => (k.ρk n (by rw [h.k]; exact hn)).trans (h.ρk n hn), fun n hn => (k.θk n (by rw [h.k]; exact hn)).trans (h.θk n hn), k.Z.trans h.Z⟩

theorem Env.Le.ext {E E' : Env} (h : E.Le E') : E.Ext E' := ⟨h.k, h.ρk, h.θk, h.w0, h.S0, h.μ, h.μnew, h.Z⟩
theorem Env.Ext.refl (E : Env) : E.Ext E := (Env.Le.refl E).ext
theorem Mut.ext {E E' : Env} (h : E.Ext E') {b : Nat} : Mut E b ↔ Mut E' b := by unfold Mut; rw [h.w0, h.S0]
theorem Env.Ext.trans {A B C : Env} (h : A.Ext B) (k : B.Ext C) : A.Ext C :=
  ⟨k.k.trans h.k, fun n hn => (k.ρ n (by rw [h.k]; exact hn)).trans (h.ρ n hn), fun n hn => (k.θ n (by rw [h.k]; exact hn)).trans (h.θ n hn), k.w0.trans h.w0, k.S0.trans h.S0, fun a v e => k.μ a v (h.μ a v e), fun a v e => by
    rcases k.μnew a v e with e' | e'
    · exact h.μnew a v e'
    · exact .inr ((Mut.ext h).2 e'), k.Z.trans h.Z⟩

/-- The slice, or what is left of it behind its first j elements. -/
def TokV (x : Option (Nat × Value)) (sz : Nat) (v : Value) : Prop :=
  ∃ a n c j p, x = some (sz, .slice a n c) ∧ n ≤ c ∧ j ≤ n ∧ v = .slice p (n - j) (c - j) ∧ (c = j ∨ p = a.map (·.add (j * sz)))
theorem TokV.self {sz : Nat} {a : Option Addr} {n c : Nat} (h : n ≤ c) : TokV (some (sz, .slice a n c)) sz (.slice a n c) :=
  ⟨a, n, c, 0, a, rfl, h, Nat.zero_le _, by simp, .inr (by cases a <;> simp [Addr.add])⟩
theorem Addr_add_add (x : Addr) (i j : Nat) : (x.add i).add j = x.add (i + j) := by
  unfold Addr.add
  by_cases h1 : i = 0 <;> by_cases h2 : j = 0 <;> simp [h1, h2, Nat.add_assoc]
theorem TokV.cut {x : Option (Nat × Value)} {sz : Nat} {p : Option Addr} {n cap a : Nat} (h : TokV x sz (.slice p n cap)) (ha : a ≤ n) : TokV x sz (.slice (if cap = a then p else p.map (·.add (a * sz))) (n - a) (cap - a)) := by
  obtain ⟨a0, n0, c0, j, p', e, h0, h1, h2, h3⟩ := h
  simp only [Value.slice.injEq] at h2
  obtain ⟨rfl, rfl, rfl⟩ := h2
  refine ⟨a0, n0, c0, j + a, if c0 - j = a then p else p.map (·.add (a * sz)), e, h0, by omega, ?_, ?_⟩
  · simp only [Value.slice.injEq, true_and]; exact ⟨by omega, by omega⟩
  · by_cases hc : c0 - j = a
    · left; omega
    · right
      rw [if_neg hc]
      rcases h3 with h3 | h3
      · omega
      · rw [h3]
        cases a0 with
        | none => rfl
        | some ad => simp [Addr_add_add, Nat.add_mul]
theorem TokV.of {E E' : Env} (h : ∀ n v, E.θ n = some v → E'.θ n = some v) {τ sz : Nat} {v : Value} : TokV (E.θ τ) sz v → TokV (E'.θ τ) sz v
  | ⟨a, n, c, j, p, e, k⟩ => ⟨a, n, c, j, p, h _ _ e, k⟩
theorem TokV.to {x y : Option (Nat × Value)} (h : ∀ v, x = some v → y = some v) {sz : Nat} {v : Value} : TokV x sz v → TokV y sz v
  | ⟨a, n, c, j, p, e, k⟩ => ⟨a, n, c, j, p, h _ e, k⟩
def TagOK (E : Env) (sz : Nat) (v : Value) : Tag → Prop
  | .old => True
  | .new => ∀ a n c, v = .slice (some a) n c → E.Z a.block
  | .nil => v = .slice none 0 0
  | .tok τ b => TokV (E.θ τ) sz v ∧ (b = true → ∀ a n c, v = .slice (some a) n c → E.Z a.block)

theorem TagOK.mono {E E' : Env} (h : E.Le E') {sz : Nat} {v : Value} : ∀ {t : Tag}, TagOK E sz v t → TagOK E' sz v t
  | .old, _ => trivial
  | .new, k => fun a n c e => by rw [h.Z]; exact k a n c e
  | .nil, k => k
  | .tok τ b, k => ⟨TokV.of h.θ k.1, fun hb a n c e => by rw [h.Z]; exact k.2 hb a n c e⟩

/-- A slice of whole numbers of kind k that reads l, in cells that stay. -/
def IsInts (E : Env) (k : IntKind) (tg : Tag) (l : List Int) (v : Value) : Prop :=
  ∃ (a : Option Addr) (cap : Nat), v = .slice a l.length cap ∧ l.length ≤ cap ∧ cap ≤ 9223372036854775807 ∧
    (∀ i x, l[i]? = some x → ∃ b off, a = some ⟨b, off, none⟩ ∧ E.μ ⟨b, off + i, none⟩ = some (.int k x)) ∧ TagOK E 1 v tg

theorem IsInts.mono {E E' : Env} (h : E.Le E') {k : IntKind} {tg : Tag} {l : List Int} {v : Value} : IsInts E k tg l v → IsInts E' k tg l v
  | ⟨a, cap, h1, h2, h3, h4, h5⟩ => ⟨a, cap, h1, h2, h3, fun i x e => let ⟨b, off, p, q⟩ := h4 i x e; ⟨b, off, p, h.μ _ _ q⟩, h5.mono h⟩

mutual
def Den (E : Env) : SV → Value → Prop
  | .i k n, v => v = .int k n
  | .b c, v => v = .bool c
  | .s x, v => v = .string x
  | .ptr n off, v => ∃ b, E.ρ n = some b ∧ v = .pointer (some ⟨b, off, none⟩)
  | .nilp, v => v = .pointer none
  | .ints k tg l, v => IsInts E k tg l v
  | .sl sz tg n el, v => ∃ (a : Option Addr) (cap : Nat), v = .slice a n cap ∧ n ≤ cap ∧ cap ≤ 9223372036854775807 ∧
      (∀ i, i < n → ∃ b off, a = some ⟨b, off, none⟩ ∧ ∀ j, j < sz → ∃ x, E.μ ⟨b, off + i * sz + j, none⟩ = some x ∧ Den E (el i j) x) ∧ TagOK E sz v tg
  | .ep n get, v => ∃ b off, v = .pointer (some ⟨b, off, none⟩) ∧ ∀ d, d < n → ∃ x, E.μ ⟨b, off + d, none⟩ = some x ∧ Den E (get d) x
  | .agg l, v => ∃ cs : List Value, v = .agg cs.toArray ∧ DenL E l cs
  | .tup l, v => ∃ cs : List Value, v = .tuple cs.toArray ∧ DenL E l cs
  | .nili, v => v = .nilIface
  | .ifc t x, v => ∃ y, v = .iface t y ∧ Den E x y
  | .fn f first cap, v => ∃ fs cs : List Value, v = .func f fs.toArray cs.toArray ∧ DenL E first fs ∧ DenL E cap cs
  | .nilf, v => v = .nilFunc
  | .raw x, v => v = x
  | .cnd g x, v => (g = true → Den E x v) ∧ (g = false → v = undef)
  | .mp n, v => ∃ b, E.ρ n = some b ∧ v = .map (some b)
  | .any, _ => True
def DenL (E : Env) : List SV → List Value → Prop
  | [], [] => True
  | x :: xs, v :: vs => Den E x v ∧ DenL E xs vs
  | [], _ :: _ => False
  | _ :: _, [] => False
end

mutual
theorem Den.mono {E E' : Env} (h : E.Le E') : ∀ (x : SV) (v : Value), Den E x v → Den E' x v
  | .i k n, v, hd => by simpa only [Den] using hd
  | .b c, v, hd => by simpa only [Den] using hd
  | .s x, v, hd => by simpa only [Den] using hd
  | .ptr n off, v, hd => by
      simp only [Den] at hd ⊢
      obtain ⟨b, h1, h2⟩ := hd
      exact ⟨b, h.ρ _ _ h1, h2⟩
  | .nilp, v, hd => by simpa only [Den] using hd
  | .ints k tg l, v, hd => by
      simp only [Den] at hd ⊢
      exact hd.mono h
  | .sl sz tg n el, v, hd => by
      simp only [Den] at hd ⊢
      obtain ⟨a, cap, h1, h2, h3, h4, h5⟩ := hd
      refine ⟨a, cap, h1, h2, h3, fun i hi => ?_, h5.mono h⟩
      obtain ⟨b, off, p, q⟩ := h4 i hi
      refine ⟨b, off, p, fun j hj => ?_⟩
      obtain ⟨x, r, s⟩ := q j hj
      exact ⟨x, h.μ _ _ r, Den.mono h (el i j) x s⟩
  | .ep n get, v, hd => by
      simp only [Den] at hd ⊢
      obtain ⟨b, off, p, q⟩ := hd
      refine ⟨b, off, p, fun d hd => ?_⟩
      obtain ⟨x, r, s⟩ := q d hd
      exact ⟨x, h.μ _ _ r, Den.mono h (get d) x s⟩
  | .agg l, v, hd => by
      simp only [Den] at hd ⊢
      obtain ⟨cs, p, q⟩ := hd
      exact ⟨cs, p, DenL.mono h l cs q⟩
  | .tup l, v, hd => by
      simp only [Den] at hd ⊢
      obtain ⟨cs, p, q⟩ := hd
      exact ⟨cs, p, DenL.mono h l cs q⟩
  | .nili, v, hd => by simpa only [Den] using hd
  | .ifc t x, v, hd => by
      simp only [Den] at hd ⊢
      obtain ⟨y, p, q⟩ := hd
      exact ⟨y, p, Den.mono h x y q⟩
  | .fn f first cap, v, hd => by
      simp only [Den] at hd ⊢
      obtain ⟨fs, cs, p, q, r⟩ := hd
      exact ⟨fs, cs, p, DenL.mono h first fs q, DenL.mono h cap cs r⟩
  | .nilf, v, hd => by simpa only [Den] using hd
  | .raw x, v, hd => by simpa only [Den] using hd
  | .cnd g x, v, hd => by
      simp only [Den] at hd ⊢
      exact ⟨fun e => Den.mono h x v (hd.1 e), hd.2⟩
  | .mp n, v, hd => by
      simp only [Den] at hd ⊢
      obtain ⟨b, h1, h2⟩ := hd
      exact ⟨b, h.ρ _ _ h1, h2⟩
  | .any, v, hd => by simp only [Den]
theorem DenL.mono {E E' : Env} (h : E.Le E') : ∀ (l : List SV) (cs : List Value), DenL E l cs → DenL E' l cs
  | [], [], _ => by simp only [DenL]
  | x :: xs, v :: vs, hd => by
      simp only [DenL] at hd ⊢
      exact ⟨Den.mono h x v hd.1, DenL.mono h xs vs hd.2⟩
  | [], _ :: _, hd => by simp only [DenL] at hd
  | _ :: _, [], hd => by simp only [DenL] at hd
end
end Go.Eng
/- The engine, part B: symbolic states, the table of types, what a good world is; values of operands. -/
namespace Go.Eng
open Go
set_option linter.unusedVariables false

/-- A row's end has been marked. -/
def Marked (w w' : World) (b : Nat) : Prop := ∃ cs T fz fz', w.heap[b]? = some (.cells cs T fz) ∧ w'.heap[b]? = some (.cells cs T fz') ∧ ((fz = (0, 0) ∨ cs.size ≤ fz.1) → cs.size ≤ fz'.1)
/-- A block is as it was, or, where cells of it stay, has been marked. -/
def Kept (μ : Addr → Option Value) (w w' : World) (b : Nat) : Prop := w'.heap[b]? = w.heap[b]? ∨ ((∃ a v, μ a = some v ∧ a.block = b) ∧ Marked w w' b)
/-- An assertion on the blocks of F alone. -/
structure Res where
  holds : (Addr → Option Value) → (Nat → Prop) → World → Prop
  next : ∀ μ μ' F w w', holds μ F w → (∀ b, F b → Kept μ w w' b) → (∀ a v, μ a = some v → μ' a = some v) → (∀ a v, μ' a = some v → μ a = some v ∨ ¬ F a.block) → holds μ' F w'
theorem Res.loc (R : Res) {μ : Addr → Option Value} {F : Nat → Prop} {w w' : World} (h : R.holds μ F w) (k : ∀ b, F b → w'.heap[b]? = w.heap[b]?) : R.holds μ F w' :=
  R.next μ μ F w w' h (fun b hb => .inl (k b hb)) (fun _ _ h => h) (fun _ _ h => .inl h)

/-- An object of the machine's own, at its place. -/
def RObj (b : Nat) (o : Obj) : Res where
  holds μ F w := F b ∧ w.heap[b]? = some o ∧ ∀ a v, μ a = some v → a.block ≠ b
  next μ μ' F w w' h k _ j := ⟨h.1, by
    rcases k b h.1 with e | ⟨⟨a, v, e, e'⟩, _⟩
    · rw [e]; exact h.2.1
    · exact absurd e' (h.2.2 a v e), fun a v e => by
    rcases j a v e with e | e
    · exact h.2.2 a v e
    · rintro rfl; exact e h.1⟩

structure SS where
  fr : List SV
  hp : List (Nat × TypeId × List SV)
  tk : List Nat
  rs : List (Nat × Res)
  nx : Nat
  k : Nat
  df : List Nat := []

inductive TD where
  | none | int (k : IntKind) | bool | str | struct (fs : List (Nat × TypeId)) | slice (e : TypeId) | arr (n : Nat) (e : TypeId) | ptr (e : TypeId) | iface | func | map (k e : TypeId)

structure TI where
  d : TD
  size : Nat
  bytes : Nat
  zero : List Value

def TD.ok : TD → Option TypeDesc → Prop
  | .none, _ => True
  | .int k, d => d = some (.int k)
  | .bool, d => d = some .bool
  | .str, d => d = some .string
  | .struct fs, d => ∃ fields, d = some (.struct fields) ∧ fields.toList.map (fun f => (f.offset, f.type)) = fs
  | .slice e, d => d = some (.slice e)
  | .arr n e, d => d = some (.array n e)
  | .ptr e, d => d = some (.pointer e)
  | .iface, d => ∃ ms, d = some (.interface ms)
  | .func, d => ∃ a b c, d = some (.func a b c)
  | .map k e, d => d = some (.map k e)

def TD.plain : TD → Bool
  | .struct _ => false
  | .arr _ _ => false
  | .none => false
  | _ => true
def TD.lay : TD → Bool
  | .struct _ => true
  | .arr _ _ => true
  | _ => false
structure TIok (P : Program) (t : TypeId) (ti : TI) : Prop where
  und : ti.d.ok (P.underlying t)
  lz : ti.d.plain = true → ∀ i z, P.info? t = some i → i.zero = some z → ∀ cs, z ≠ .agg cs
  az : ti.d.lay = true → ∀ i z, P.info? t = some i → i.zero = some z → ∃ cs, z = .agg cs
  info : ti.d = .none ∨ ∃ i z, P.info? t = some i ∧ i.size = ti.size ∧ i.bytes = ti.bytes ∧ i.zero = some z ∧ z.cells.toList = ti.zero

abbrev Tab := TypeId → TI
def Tab.ok (Γ : Tab) (P : Program) : Prop := ∀ t, TIok P t (Γ t)

def TD.agg : TD → Bool
  | .struct _ => true
  | .arr _ _ => true
  | _ => false

def hfind : List (Nat × TypeId × List SV) → Nat → Option (TypeId × List SV)
  | [], _ => none
  | (m, t, l) :: r, n => if m = n then some (t, l) else hfind r n
def hset : List (Nat × TypeId × List SV) → Nat → List SV → List (Nat × TypeId × List SV)
  | [], _, _ => []
  | (m, t, l) :: r, n, l' => if m = n then (m, t, l') :: r else (m, t, l) :: hset r n l'

inductive Key where
  | blk (n : Nat) | tok (τ : Nat) | res (r : Nat)

/-- A row, no cell of which is frozen. -/
def Row (w : World) (b : Nat) (cs : Array Value) (T : TypeId) : Prop := ∃ fz : Nat × Nat, w.heap[b]? = some (.cells cs T fz) ∧ (fz = (0, 0) ∨ cs.size ≤ fz.1)
theorem Row.congr {w w' : World} {b : Nat} {cs : Array Value} {T : TypeId} (h : w'.heap[b]? = w.heap[b]?) : Row w b cs T → Row w' b cs T
  | ⟨fz, h1, h2⟩ => ⟨fz, h.trans h1, h2⟩

/-- The token's slice has no spare room, or owns it. -/
def TokOK (E : Env) (w : World) (κ : Nat → Option Key) (τ : Nat) : Prop :=
  ∃ sz a len cap, E.θ τ = some (sz, .slice a len cap) ∧ len ≤ cap ∧ ((cap = len ∧ a = none) ∨ ∃ b off T cs, a = some ⟨b, off, none⟩ ∧ κ b = some (.tok τ) ∧
    Mut E b ∧ Row w b cs T ∧ off + cap * sz ≤ cs.size ∧ ∀ ad v, E.μ ad = some v → ad.block = b → ad.off < off + len * sz)

/-- A map's entries, key and value in turn. -/
def entsOf : List Value → Nat → List MapEntry
  | k :: v :: r, i => ⟨k, v, i⟩ :: entsOf r (i + 1)
  | _, _ => []
/-- What a named block is: cells; a map, where the type is the mark. -/
def natOf : Value → Nat
  | .int _ k => k.toNat
  | _ => 0
/-- A walk over a map: the map, how many entries it has, those that were handed out. -/
def iterOf : List Value → Obj
  | .map (some m) :: .int _ n :: seen => .mapIter (some m) n.toNat (seen.map natOf).toArray n.toNat
  | _ => .mapIter none 0 #[] 0
def objOf (T : TypeId) (cs : Array Value) : Obj := if T = 1000000 then .map (entsOf cs.toList 0).toArray (cs.size / 2) else if T = 1000001 then iterOf cs.toList else .cells cs T (0, 0)
theorem objOf_cells {T : TypeId} {cs : Array Value} (h : T < 1000000) : objOf T cs = .cells cs T (0, 0) := by
  unfold objOf
  rw [if_neg (fun e => by rw [e] at h; exact absurd h (by decide)), if_neg (fun e => by rw [e] at h; exact absurd h (by decide))]
theorem objOf_iter {cs : Array Value} : objOf 1000001 cs = iterOf cs.toList := rfl
theorem objOf_map {cs : Array Value} : objOf 1000000 cs = .map (entsOf cs.toList 0).toArray (cs.size / 2) := if_pos rfl

structure Owns (E : Env) (st : SS) (w : World) (κ : Nat → Option Key) : Prop where
  hp : ∀ n T ls, hfind st.hp n = some (T, ls) → ∃ b cs, E.ρ n = some b ∧ w.heap[b]? = some (objOf T cs) ∧ DenL E ls cs.toList ∧ κ b = some (.blk n) ∧ Mut E b
  tk : ∀ τ, τ ∈ st.tk → TokOK E w κ τ
  rs : ∀ r R, (r, R) ∈ st.rs → ∃ F, R.holds E.μ F w ∧ ∀ b, F b → b < w.heap.size ∧ κ b = some (.res r) ∧ Mut E b
  mu : ∀ a v, E.μ a = some v → ∀ n, κ a.block ≠ some (.blk n)
  dom : ∀ b k, κ b = some k → b < w.heap.size ∧ Mut E b

structure Good (E : Env) (st : SS) (w : World) : Prop where
  k : E.k = st.k
  kx : st.k ≤ st.nx
  os : w.os = E.w0.os
  tape : w.tape = E.w0.tape
  output : w.output = E.w0.output
  size : E.w0.heap.size ≤ w.heap.size
  old : ∀ b, b < E.w0.heap.size → ¬ E.S0 b → w.heap[b]? = E.w0.heap[b]?
  mu : ∀ a v, E.μ a = some v → w.cell? a = some v
  nxρ : ∀ n, st.nx ≤ n → E.ρ n = none
  nxθ : ∀ n, st.nx ≤ n → E.θ n = none
  own : ∃ κ, Owns E st w κ

def ofLeaf : Value → SV
  | .int k n => .i k n
  | .bool c => .b c
  | .string x => .s x
  | .slice none 0 0 => .ints .u8 .nil []
  | .nilIface => .nili
  | .nilFunc => .nilf
  | .pointer none => .nilp
  | v => .raw v
def ofV : Value → SV
  | .agg cs => .agg (cs.toList.map ofLeaf)
  | .tuple cs => .tup (cs.toList.map ofLeaf)
  | v => ofLeaf v

theorem den_ofLeaf (E : Env) (v : Value) : Den E (ofLeaf v) v := by
  unfold ofLeaf
  split <;> simp only [Den]
  refine ⟨none, 0, rfl, Nat.le_refl _, by omega, fun i x h => by simp at h, rfl⟩

theorem denL_ofLeaf (E : Env) : ∀ cs : List Value, DenL E (cs.map ofLeaf) cs
  | [] => by simp only [List.map_nil, DenL]
  | v :: vs => by simp only [List.map_cons, DenL]; exact ⟨den_ofLeaf E v, denL_ofLeaf E vs⟩

theorem den_ofV (E : Env) (v : Value) : Den E (ofV v) v := by
  unfold ofV
  split
  · simp only [Den]; exact ⟨_, rfl, denL_ofLeaf E _⟩
  · simp only [Den]; exact ⟨_, rfl, denL_ofLeaf E _⟩
  · exact den_ofLeaf E v

def lget : List SV → Nat → SV
  | [], _ => .any
  | v :: _, 0 => v
  | _ :: r, n + 1 => lget r n
def lset : List SV → Nat → SV → List SV
  | [], _, _ => []
  | _ :: r, 0, v => v :: r
  | x :: r, n + 1, v => x :: lset r n v

def SS.eval (s : SS) : Operand → SV
  | .tmp t => lget s.fr t
  | .const v => ofV v
  | .global g => .raw (.pointer (some ⟨g, 0, none⟩))
  | .func f => .fn (.func f) [] []

def SS.put (s : SS) (d : Option Nat) (v : SV) : SS :=
  match d with
  | none => s
  | some d => { s with fr := lset s.fr d v }

theorem denL_get {E : Env} : ∀ (l : List SV) (cs : List Value) (n : Nat) (u : Value), DenL E l cs → Den E (lget l n) (cs[n]?.getD u)
  | [], _, n, u, _ => by simp only [lget, Den]
  | x :: xs, v :: vs, 0, u, h => by simp only [DenL] at h; simpa [lget] using h.1
  | x :: xs, v :: vs, n + 1, u, h => by simp only [DenL] at h; simpa [lget] using denL_get xs vs n u h.2
  | x :: xs, [], n, u, h => by simp only [DenL] at h

theorem denL_set {E : Env} : ∀ (l : List SV) (cs : List Value) (n : Nat) (x : SV) (v : Value), DenL E l cs → Den E x v → DenL E (lset l n x) (cs.set n v)
  | [], [], n, x, v, h, _ => by simp only [lset, List.set_nil, DenL]
  | y :: ys, w :: ws, 0, x, v, h, hx => by simp only [lset, List.set_cons_zero, DenL] at h ⊢; exact ⟨hx, h.2⟩
  | y :: ys, w :: ws, n + 1, x, v, h, hx => by simp only [lset, List.set_cons_succ, DenL] at h ⊢; exact ⟨h.1, denL_set ys ws n x v h.2 hx⟩
  | [], _ :: _, n, x, v, h, _ => by simp only [DenL] at h
  | _ :: _, [], n, x, v, h, _ => by simp only [DenL] at h

theorem denL_length {E : Env} : ∀ (l : List SV) (cs : List Value), DenL E l cs → cs.length = l.length
  | [], [], _ => rfl
  | _ :: xs, _ :: vs, h => by simp only [DenL] at h; simp [denL_length xs vs h.2]
  | [], _ :: _, h => by simp only [DenL] at h
  | _ :: _, [], h => by simp only [DenL] at h

theorem denL_drop {E : Env} : ∀ (l : List SV) (cs : List Value) (n : Nat), DenL E l cs → DenL E (l.drop n) (cs.drop n)
  | l, cs, 0, h => by simpa using h
  | [], [], n + 1, h => by simp only [List.drop_nil, DenL]
  | _ :: xs, _ :: vs, n + 1, h => by simp only [DenL] at h; simpa using denL_drop xs vs n h.2
  | [], _ :: _, n + 1, h => by simp only [DenL] at h
  | _ :: _, [], n + 1, h => by simp only [DenL] at h

theorem denL_take {E : Env} : ∀ (l : List SV) (cs : List Value) (n : Nat), DenL E l cs → DenL E (l.take n) (cs.take n)
  | l, cs, 0, h => by simp only [List.take_zero, DenL]
  | [], [], n + 1, h => by simp only [List.take_nil, DenL]
  | _ :: xs, _ :: vs, n + 1, h => by simp only [DenL] at h; simp only [List.take_succ_cons, DenL]; exact ⟨h.1, denL_take xs vs n h.2⟩
  | [], _ :: _, n + 1, h => by simp only [DenL] at h
  | _ :: _, [], n + 1, h => by simp only [DenL] at h

theorem denL_getElem {E : Env} : ∀ (l : List SV) (cs : List Value) (n : Nat) (x : SV), DenL E l cs → l[n]? = some x → ∃ v, cs[n]? = some v ∧ Den E x v
  | x :: xs, v :: vs, 0, y, h, e => by simp only [DenL] at h; simp at e; subst e; exact ⟨v, by simp, h.1⟩
  | x :: xs, v :: vs, n + 1, y, h, e => by simp only [DenL] at h; simpa using denL_getElem xs vs n y h.2 (by simpa using e)
  | [], [], n, y, h, e => by simp at e
  | [], _ :: _, n, y, h, e => by simp at e
  | _ :: _, [], n, y, h, e => by simp only [DenL] at h

theorem denL_append {E : Env} : ∀ (l m : List SV) (cs ds : List Value), DenL E l cs → DenL E m ds → DenL E (l ++ m) (cs ++ ds)
  | [], m, [], ds, _, k => by simpa using k
  | x :: xs, m, v :: vs, ds, h, k => by simp only [DenL] at h; simp only [List.cons_append, DenL]; exact ⟨h.1, denL_append xs m vs ds h.2 k⟩
  | [], _, _ :: _, _, h, _ => by simp only [DenL] at h
  | _ :: _, _, [], _, h, _ => by simp only [DenL] at h

theorem denL_map {E : Env} {f : Operand → SV} {g : Operand → Value} : ∀ (xs : List Operand), (∀ x, x ∈ xs → Den E (f x) (g x)) → DenL E (xs.map f) (xs.map g)
  | [], _ => by simp only [List.map_nil, DenL]
  | x :: xs, h => by simp only [List.map_cons, DenL]; exact ⟨h x (by simp), denL_map xs (fun y hy => h y (by simp [hy]))⟩

/-- The frame: the temporaries denote; nothing is deferred. -/
def mkD (D : Nat) : Deferred := { target := .collected D, args := #[] }
structure Fr (E : Env) (st : SS) (a : Act) : Prop where
  tmps : DenL E st.fr a.tmps.toList
  defers : a.defers = st.df.map mkD

theorem Fr.eval {E : Env} {st : SS} {a : Act} (h : Fr E st a) (x : Operand) : Den E (st.eval x) (a.eval x) := by
  cases x with
  | tmp t =>
    have := denL_get st.fr a.tmps.toList t undef h.tmps
    simpa [SS.eval, Act.eval, Array.getD_eq_getD_getElem?] using this
  | const v => exact den_ofV E v
  | global g => simp [SS.eval, Act.eval, Den]
  | func f => simp only [SS.eval, Act.eval, Den]; exact ⟨[], [], rfl, by simp [DenL], by simp [DenL]⟩

theorem Fr.put {E : Env} {st : SS} {a : Act} (h : Fr E st a) (d : Option Tmp) {x : SV} {v : Value} (hx : Den E x v) : Fr E (st.put d x) (a.put d v) := by
  cases d with
  | none => exact h
  | some d =>
    refine ⟨?_, h.defers⟩
    have := denL_set st.fr a.tmps.toList d x v h.tmps hx
    simpa [SS.put, Act.put, Array.toList_setIfInBounds] using this

theorem Fr.mono {E E' : Env} {st : SS} {a : Act} (h : Fr E st a) (hl : E.Le E') : Fr E' st a := ⟨DenL.mono hl _ _ h.tmps, h.defers⟩

/-- A guarded value's core, and what must be known for it to be there. -/
def core : SV → SV
  | .cnd _ x => x
  | x => x
def vcg (g : Bool) : SV → Prop
  | .cnd g' _ => g = true → g' = true
  | _ => True

theorem den_core {E : Env} {x : SV} {v : Value} {g : Bool} (h : Den E x v) (hv : vcg g x) (hg : g = true) : Den E (core x) v := by
  unfold core
  split
  · rename_i g' y
    simp only [Den] at h
    simp only [vcg] at hv
    exact h.1 (hv hg)
  · exact h

theorem Good.put {E : Env} {st : SS} {w : World} (h : Good E st w) (d : Option Nat) (x : SV) : Good E (st.put d x) w := by
  cases d with
  | none => exact h
  | some d => exact ⟨h.k, h.kx, h.os, h.tape, h.output, h.size, h.old, h.mu, h.nxρ, h.nxθ, let ⟨κ, k⟩ := h.own; ⟨κ, k.hp, k.tk, k.rs, k.mu, k.dom⟩⟩

/-- A world with the same blocks is as good. -/
theorem Good.congr {E : Env} {st : SS} {w w' : World} (h : Good E st w) (hh : w'.heap = w.heap) (ho : w'.os = w.os) (ht : w'.tape = w.tape) (hp : w'.output = w.output) : Good E st w' := by
  refine ⟨h.k, h.kx, ho.trans h.os, ht.trans h.tape, hp.trans h.output, by rw [hh]; exact h.size, by rw [hh]; exact h.old, fun a v e => ?_, h.nxρ, h.nxθ, ?_⟩
  · rw [← h.mu a v e]; simp only [World.cell?, hh]
  · obtain ⟨κ, k⟩ := h.own
    refine ⟨κ, by rw [hh]; exact k.hp, fun τ hτ => ?_, fun r R hr => ?_, k.mu, by rw [hh]; exact k.dom⟩
    · have := k.tk τ hτ; unfold TokOK Row at this ⊢; rw [hh]; exact this
    · obtain ⟨F, h1, h2⟩ := k.rs r R hr
      exact ⟨F, R.loc h1 (fun b _ => by rw [hh]), by rw [hh]; exact h2⟩
end Go.Eng
/- The engine, part C: operations that leave the world alone. -/
namespace Go.Eng
open Go
set_option linter.unusedVariables false
set_option linter.unusedSimpArgs false

def andI (k : IntKind) (a b : Int) : Int := k.wrap ((BitVec.ofInt k.bits a &&& BitVec.ofInt k.bits b).toNat : Int)
def orI (k : IntKind) (a b : Int) : Int := k.wrap ((BitVec.ofInt k.bits a ||| BitVec.ofInt k.bits b).toNat : Int)
def xorI (k : IntKind) (a b : Int) : Int := k.wrap ((BitVec.ofInt k.bits a ^^^ BitVec.ofInt k.bits b).toNat : Int)
def andNotI (k : IntKind) (a b : Int) : Int := k.wrap ((BitVec.ofInt k.bits a &&& ~~~BitVec.ofInt k.bits b).toNat : Int)
def shlI (k : IntKind) (a b : Int) : Int := k.wrap (a * 2 ^ min b.toNat k.bits)
def shrI (k : IntKind) (a b : Int) : Int := a.fdiv (2 ^ min b.toNat k.bits)
def byteAt (x : ByteArray) (i : Int) : Int := (((x[i.toNat]?).getD 0).toNat : Int)
def strOf (l : List Int) : ByteArray := ⟨(l.map fun n => UInt8.ofNat n.toNat).toArray⟩
def minI (a b : Int) : Int := if b < a then b else a
def maxI (a b : Int) : Int := if a < b then b else a

def binI (op : BinOp) (k : IntKind) (a b : Int) : Option (SV × Prop) :=
  match op with
  | .add => some (.i k (k.wrap (a + b)), True)
  | .sub => some (.i k (k.wrap (a - b)), True)
  | .mul => some (.i k (k.wrap (a * b)), True)
  | .quo => some (.i k (k.wrap (a.tdiv b)), b ≠ 0)
  | .rem => some (.i k (a.tmod b), b ≠ 0)
  | .and => some (.i k (andI k a b), True)
  | .or => some (.i k (orI k a b), True)
  | .xor => some (.i k (xorI k a b), True)
  | .andNot => some (.i k (andNotI k a b), True)
  | .eql => some (.b (a == b), True)
  | .neq => some (.b (a != b), True)
  | .lss => some (.b (decide (a < b)), True)
  | .leq => some (.b (decide (a ≤ b)), True)
  | .gtr => some (.b (decide (b < a)), True)
  | .geq => some (.b (decide (b ≤ a)), True)
  | .shl => none
  | .shr => none

theorem binI_sound (P : Program) (w : World) (op : BinOp) (t : TypeId) (k : IntKind) (a b : Int) (x y : Operand) (r : SV) (vc : Prop) (E : Env)
    (h : binI op k a b = some (r, vc)) (hv : vc) :
    ∃ v, (do eqGuard op t x y (.int k a) (.int k b); binOp op t (.int k a) (.int k b) : Sem Value).run P w = .ok v w ∧ Den E r v := by
  cases op <;> simp only [binI, Option.some.injEq, Prod.mk.injEq, reduceCtorEq] at h
  all_goals (obtain ⟨rfl, rfl⟩ := h)
  all_goals simp only [Den]
  all_goals refine ⟨_, ?_, rfl⟩
  all_goals simp [eqGuard, binOp, Op.intArith, Op.intDiv, hv, Op.intBits, Op.intCmp, andI, orI, xorI, andNotI]

def binS (op : BinOp) (a b : ByteArray) : Option (SV × Prop) :=
  match op with
  | .add => some (.s (a ++ b), a.size + b.size ≤ 9223372036854775807)
  | .eql => some (.b (a.toList == b.toList), True)
  | .neq => some (.b (!(a.toList == b.toList)), True)
  | .lss => some (.b (Op.bytesLess a.toList b.toList), True)
  | .leq => some (.b (Op.bytesLess a.toList b.toList || a.toList == b.toList), True)
  | .gtr => some (.b (!(Op.bytesLess a.toList b.toList || a.toList == b.toList)), True)
  | .geq => some (.b (!Op.bytesLess a.toList b.toList), True)
  | _ => none

theorem binS_sound (P : Program) (w : World) (op : BinOp) (t : TypeId) (a b : ByteArray) (x y : Operand) (r : SV) (vc : Prop) (E : Env)
    (h : binS op a b = some (r, vc)) (hv : vc) :
    ∃ v, (do eqGuard op t x y (.string a) (.string b); binOp op t (.string a) (.string b) : Sem Value).run P w = .ok v w ∧ Den E r v := by
  cases op <;> simp only [binS, Option.some.injEq, Prod.mk.injEq, reduceCtorEq] at h
  all_goals (obtain ⟨rfl, rfl⟩ := h)
  · refine ⟨.string (a ++ b), ?_, by simp only [Den]⟩
    simp [eqGuard, binOp, Op.stringOp]
    omega
  · exact ⟨_, by simp [eqGuard, binOp, Op.stringOp]; rfl, by simp only [Den]⟩
  · exact ⟨_, by simp [eqGuard, binOp, Op.stringOp]; rfl, by simp only [Den]⟩
  · exact ⟨.bool (Op.bytesLess a.toList b.toList), by simp [eqGuard, binOp, Op.stringOp], by simp only [Den]⟩
  · exact ⟨.bool (Op.bytesLess a.toList b.toList || a.toList == b.toList), by simp [eqGuard, binOp, Op.stringOp], by simp only [Den]⟩
  · exact ⟨.bool (!(Op.bytesLess a.toList b.toList || a.toList == b.toList)), by simp [eqGuard, binOp, Op.stringOp], by simp only [Den]⟩
  · exact ⟨.bool (!Op.bytesLess a.toList b.toList), by simp [eqGuard, binOp, Op.stringOp], by simp only [Den]⟩

def isC : Operand → Bool
  | .const _ => true
  | _ => false

theorem equal_of {P : Program} {w : World} {t : TypeId} {x y : Value} {b : Bool} (h : ∀ d, (Op.equalIn (d + 1) t x y).run P w = .ok b w) : (Op.equal t x y).run P w = .ok b w := h 9999
theorem eql_of {P : Program} {w : World} {t : TypeId} {x y : Value} {b : Bool} (hx : ∀ k n, x ≠ .int k n) (hx2 : ∀ s, x ≠ .string s) (hx3 : ∀ k n, x ≠ .float k n) (hx4 : ∀ k a b, x ≠ .complex k a b)
    (h : ∀ d, (Op.equalIn (d + 1) t x y).run P w = .ok b w) : (binOp .eql t x y).run P w = .ok (.bool b) w := by
  have := equal_of h
  cases x <;> simp_all [binOp]
theorem neq_of {P : Program} {w : World} {t : TypeId} {x y : Value} {b : Bool} (hx : ∀ k n, x ≠ .int k n) (hx2 : ∀ s, x ≠ .string s) (hx3 : ∀ k n, x ≠ .float k n) (hx4 : ∀ k a b, x ≠ .complex k a b)
    (h : ∀ d, (Op.equalIn (d + 1) t x y).run P w = .ok b w) : (binOp .neq t x y).run P w = .ok (.bool (!b)) w := by
  have := equal_of h
  cases x <;> simp_all [binOp]

/-- A comparison of pointers, functions, interface values with nil, and of bools. -/
def binE (d : TD) (c : Bool) (op : BinOp) (x y : SV) : Option (SV × Prop) :=
  match op, d, x, y with
  | .eql, .bool, .b a, .b b => some (.b (a == b), True)
  | .neq, .bool, .b a, .b b => some (.b (!(a == b)), True)
  | .eql, .ptr _, .ptr _ _, .nilp => some (.b false, True)
  | .neq, .ptr _, .ptr _ _, .nilp => some (.b true, True)
  | .eql, .ptr _, .ep _ _, .nilp => some (.b false, True)
  | .neq, .ptr _, .ep _ _, .nilp => some (.b true, True)
  | .eql, .ptr _, .raw (.pointer (some _)), .nilp => some (.b false, True)
  | .neq, .ptr _, .raw (.pointer (some _)), .nilp => some (.b true, True)
  | .eql, .ptr _, .nilp, .nilp => some (.b true, True)
  | .neq, .ptr _, .nilp, .nilp => some (.b false, True)
  | .eql, .iface, .ifc _ _, .nili => some (.b false, True)
  | .neq, .iface, .ifc _ _, .nili => some (.b true, True)
  | .eql, .iface, .nili, .nili => some (.b true, c = true)
  | .neq, .iface, .nili, .nili => some (.b false, c = true)
  | .eql, .func, .fn _ _ _, .nilf => some (.b false, True)
  | .neq, .func, .fn _ _ _, .nilf => some (.b true, True)
  | .eql, .func, .nilf, .nilf => some (.b true, True)
  | .neq, .func, .nilf, .nilf => some (.b false, True)
  | _, _, _, _ => none

theorem eqGuard_nil {P : Program} {w : World} {op : BinOp} {t : TypeId} {x y : Operand} (h : (isC x || isC y) = true) : (eqGuard op t x y .nilIface .nilIface).run P w = .ok () w := by
  revert h
  cases x <;> cases y <;> cases op <;> simp [isC, eqGuard]

theorem binE_sound (P : Program) (w : World) (op : BinOp) (t : TypeId) (d : TD) (hd : d.ok (P.underlying t)) (x y : Operand) (r : SV) (vc : Prop) (E : Env) (sx sy : SV) (vx vy : Value)
    (hx : Den E sx vx) (hy : Den E sy vy)
    (h : binE d (isC x || isC y) op sx sy = some (r, vc)) (hv : vc) :
    ∃ v, (do eqGuard op t x y vx vy; binOp op t vx vy : Sem Value).run P w = .ok v w ∧ Den E r v := by
  unfold binE at h
  split at h <;> simp only [Option.some.injEq, Prod.mk.injEq, reduceCtorEq] at h
  all_goals (obtain ⟨rfl, rfl⟩ := h)
  all_goals simp only [TD.ok] at hd
  all_goals simp only [Den] at hx hy
  all_goals (refine ⟨.bool _, ?_, by simp only [Den]; rfl⟩)
  · subst hx hy; simp [eqGuard]; refine eql_of (by simp) (by simp) (by simp) (by simp) fun d => ?_; simp [Op.equalIn, run_underlying hd]
  · subst hx hy; simp [eqGuard]; refine neq_of (by simp) (by simp) (by simp) (by simp) fun d => ?_; simp [Op.equalIn, run_underlying hd]
  · obtain ⟨b, _, rfl⟩ := hx; subst hy; simp [eqGuard]; refine eql_of (by simp) (by simp) (by simp) (by simp) fun d => ?_; simp [Op.equalIn, run_underlying hd]
  · obtain ⟨b, _, rfl⟩ := hx; subst hy; simp [eqGuard]; refine neq_of (b := false) (by simp) (by simp) (by simp) (by simp) fun d => ?_; simp [Op.equalIn, run_underlying hd]
  · obtain ⟨b, o, rfl, _⟩ := hx; subst hy; simp [eqGuard]; refine eql_of (by simp) (by simp) (by simp) (by simp) fun d => ?_; simp [Op.equalIn, run_underlying hd]
  · obtain ⟨b, o, rfl, _⟩ := hx; subst hy; simp [eqGuard]; refine neq_of (b := false) (by simp) (by simp) (by simp) (by simp) fun d => ?_; simp [Op.equalIn, run_underlying hd]
  · subst hx hy; simp [eqGuard]; refine eql_of (by simp) (by simp) (by simp) (by simp) fun d => ?_; simp [Op.equalIn, run_underlying hd]
  · subst hx hy; simp [eqGuard]; refine neq_of (b := false) (by simp) (by simp) (by simp) (by simp) fun d => ?_; simp [Op.equalIn, run_underlying hd]
  · subst hx hy; simp [eqGuard]; refine eql_of (by simp) (by simp) (by simp) (by simp) fun d => ?_; simp [Op.equalIn, run_underlying hd]
  · subst hx hy; simp [eqGuard]; refine neq_of (b := true) (by simp) (by simp) (by simp) (by simp) fun d => ?_; simp [Op.equalIn, run_underlying hd]
  · obtain ⟨b, rfl, _⟩ := hx; subst hy; obtain ⟨ms, hd⟩ := hd; simp [eqGuard]; refine eql_of (by simp) (by simp) (by simp) (by simp) fun d => ?_; simp [Op.equalIn, run_underlying hd]
  · obtain ⟨b, rfl, _⟩ := hx; subst hy; obtain ⟨ms, hd⟩ := hd; simp [eqGuard]; refine neq_of (b := false) (by simp) (by simp) (by simp) (by simp) fun d => ?_; simp [Op.equalIn, run_underlying hd]
  · subst hx hy; obtain ⟨ms, hd⟩ := hd
    rw [Sem.run_bind, eqGuard_nil hv]; simp only [Result.andThen_ok]; refine eql_of (by simp) (by simp) (by simp) (by simp) fun d => ?_; simp [Op.equalIn, run_underlying hd]
  · subst hx hy; obtain ⟨ms, hd⟩ := hd
    rw [Sem.run_bind, eqGuard_nil hv]; simp only [Result.andThen_ok]; refine neq_of (b := true) (by simp) (by simp) (by simp) (by simp) fun d => ?_; simp [Op.equalIn, run_underlying hd]
  · obtain ⟨fs, cs, rfl, _⟩ := hx; subst hy; obtain ⟨a1, a2, a3, hd⟩ := hd; simp [eqGuard]; refine eql_of (by simp) (by simp) (by simp) (by simp) fun d => ?_; simp [Op.equalIn, run_underlying hd]
  · obtain ⟨fs, cs, rfl, _⟩ := hx; subst hy; obtain ⟨a1, a2, a3, hd⟩ := hd; simp [eqGuard]; refine neq_of (b := false) (by simp) (by simp) (by simp) (by simp) fun d => ?_; simp [Op.equalIn, run_underlying hd]
  · subst hx hy; obtain ⟨a1, a2, a3, hd⟩ := hd; simp [eqGuard]; refine eql_of (by simp) (by simp) (by simp) (by simp) fun d => ?_; simp [Op.equalIn, run_underlying hd]
  · subst hx hy; obtain ⟨a1, a2, a3, hd⟩ := hd; simp [eqGuard]; refine neq_of (b := true) (by simp) (by simp) (by simp) (by simp) fun d => ?_; simp [Op.equalIn, run_underlying hd]

def bin (d : TD) (c : Bool) (op : BinOp) (x y : SV) : Option (SV × Prop) :=
  match x, y with
  | .i k a, .i k' b =>
    match op with
    | .shl => some (.i k (shlI k a b), 0 ≤ b)
    | .shr => some (.i k (shrI k a b), 0 ≤ b)
    | _ => if k = k' then binI op k a b else none
  | .s a, .s b => binS op a b
  | _, _ => binE d c op x y

theorem bin_sound (P : Program) (w : World) (op : BinOp) (t : TypeId) (d : TD) (hd : d.ok (P.underlying t)) (x y : Operand) (r : SV) (vc : Prop) (E : Env) (sx sy : SV) (vx vy : Value)
    (hx : Den E sx vx) (hy : Den E sy vy)
    (h : bin d (isC x || isC y) op sx sy = some (r, vc)) (hv : vc) :
    ∃ v, (do eqGuard op t x y vx vy; binOp op t vx vy : Sem Value).run P w = .ok v w ∧ Den E r v := by
  unfold bin at h
  split at h
  · rename_i k a k' b
    simp only [Den] at hx hy
    subst hx hy
    split at h
    · simp only [Option.some.injEq, Prod.mk.injEq] at h
      obtain ⟨rfl, rfl⟩ := h
      have : ¬ b < 0 := by omega
      exact ⟨_, by simp [eqGuard, binOp, Op.shift, this]; rfl, by simp only [Den, shlI]⟩
    · simp only [Option.some.injEq, Prod.mk.injEq] at h
      obtain ⟨rfl, rfl⟩ := h
      have : ¬ b < 0 := by omega
      exact ⟨_, by simp [eqGuard, binOp, Op.shift, this]; rfl, by simp only [Den, shrI]⟩
    · split at h
      · rename_i hk; subst hk; exact binI_sound P w op t k a b x y r vc E h hv
      · cases h
  · simp only [Den] at hx hy
    subst hx hy
    exact binS_sound P w op t _ _ x y r vc E h hv
  · exact binE_sound P w op t d hd x y r vc E sx sy vx vy hx hy h hv
end Go.Eng
/- The engine, part D: the value of an operation that leaves the world alone. -/
namespace Go.Eng
open Go
set_option linter.unusedVariables false
set_option linter.unusedSimpArgs false

def opd (st : SS) (x : Operand) : SV := core (st.eval x)
def ovc (st : SS) (g : Bool) (x : Operand) : Prop := vcg g (st.eval x)

theorem opd_den {E : Env} {st : SS} {a : Act} {g : Bool} (h : Fr E st a) (hg : g = true) {x : Operand} (hv : ovc st g x) : Den E (opd st x) (a.eval x) := den_core (h.eval x) hv hg

def slTag : Tag → Tag
  | .old => .old
  | .nil => .nil
  | .new => .new
  | .tok _ true => .new
  | .tok _ false => .old

/-- Where a piece lies: what goes to the end keeps the token. -/
def cutTag (hi : Bool) (t : Tag) : Tag :=
  match hi, t with
  | false, .tok τ b => .tok τ b
  | _, t => slTag t
/-- A piece of a slice. -/
def cut (hi lo : Option SV) (n : Nat) : Option (Nat × Nat × Prop) :=
  match lo, hi with
  | none, none => some (0, n, True)
  | some (.i _ a), none => some (a.toNat, n, 0 ≤ a ∧ a ≤ n)
  | none, some (.i _ b) => some (0, b.toNat, 0 ≤ b ∧ b ≤ n)
  | some (.i _ a), some (.i _ b) => some (a.toNat, b.toNat, 0 ≤ a ∧ a ≤ b ∧ b ≤ n)
  | _, _ => none

def cutL (lo hi : Bool) (a b : Nat) (l : List Int) : List Int :=
  match lo, hi with
  | false, false => l
  | true, false => l.drop a
  | false, true => l.take b
  | true, true => (l.take b).drop a

theorem cut_run (P : Program) (w : World) (lo hi : Option SV) (vlo vhi : Option Value) (n cap : Nat) (E : Env) (a b : Nat) (vc : Prop) (s : Bool)
    (hlo : ∀ x, lo = some x → ∃ v, vlo = some v ∧ Den E x v) (hlo' : lo = none → vlo = none) (hhi : ∀ x, hi = some x → ∃ v, vhi = some v ∧ Den E x v) (hhi' : hi = none → vhi = none)
    (hc : n ≤ cap) (h : cut hi lo n = some (a, b, vc)) (hv : vc) : (Instr.sliceBounds s n cap vlo vhi none).run P w = .ok (a, b, cap) w ∧ a ≤ b ∧ b ≤ n := by
  unfold cut at h
  split at h <;> simp only [Option.some.injEq, Prod.mk.injEq, reduceCtorEq] at h <;> obtain ⟨rfl, rfl, rfl⟩ := h
  · rw [hlo' rfl, hhi' rfl]; exact ⟨by simp [Instr.sliceBounds], by omega, by omega⟩
  · obtain ⟨v, rfl, hd⟩ := hlo _ rfl
    simp only [Den] at hd
    rw [hhi' rfl, hd]
    obtain ⟨h0, h1⟩ := hv
    refine ⟨?_, by omega, by omega⟩
    simp [Instr.sliceBounds]
    rw [run_sliceBound _ _ _ _ _ h0 h1]
    simp
  · rename_i k b
    obtain ⟨v, rfl, hd⟩ := hhi _ rfl
    simp only [Den] at hd
    rw [hlo' rfl, hd]
    obtain ⟨h0, h1⟩ := hv
    have e1 := fun code => run_sliceBound (P := P) w k b cap code h0 (by omega)
    exact ⟨by simp [Instr.sliceBounds, e1], by omega, by omega⟩
  · rename_i k a k' b
    obtain ⟨v, rfl, hd⟩ := hlo _ rfl
    obtain ⟨v', rfl, hd'⟩ := hhi _ rfl
    simp only [Den] at hd hd'
    rw [hd, hd']
    obtain ⟨h0, h1, h2⟩ := hv
    have e1 := fun code => run_sliceBound (P := P) w k' b cap code (by omega) (by omega)
    have e2 := fun code => run_sliceBound (P := P) w k a b.toNat code h0 (by omega)
    exact ⟨by simp [Instr.sliceBounds, e1, e2], by omega, by omega⟩

/-- A piece of a slice of numbers. -/
theorem ints_cut {E : Env} {k : IntKind} {tg : Tag} {l : List Int} {p : Option Addr} {n cap : Nat} (h : IsInts E k tg l (.slice p n cap)) {a b : Nat} (ha : a ≤ b) (hb : b ≤ n) :
    IsInts E k (slTag tg) ((l.take b).drop a) (.slice (if cap = a then p else p.map (·.add a)) (b - a) (cap - a)) := by
  obtain ⟨p', cap', e, h1, h2, h3, h4⟩ := h
  simp only [Value.slice.injEq] at e
  obtain ⟨rfl, rfl, rfl⟩ := e
  have hlen : ((l.take b).drop a).length = b - a := by simp; omega
  refine ⟨_, _, by rw [hlen], by rw [hlen]; omega, by omega, fun i x hx => ?_, ?_⟩
  · have hi : i < b - a := by
      rcases Nat.lt_or_ge i (b - a) with h' | h'
      · exact h'
      · rw [List.getElem?_eq_none (by omega)] at hx; cases hx
    have hx' : l[a + i]? = some x := by
      rw [List.getElem?_drop, List.getElem?_take] at hx
      rw [if_pos (by omega)] at hx
      exact hx
    obtain ⟨blk, off, rfl, hm⟩ := h3 _ _ hx'
    rw [if_neg (by omega)]
    refine ⟨blk, off + a, ?_, by rw [Nat.add_assoc]; exact hm⟩
    simp only [Option.map_some, Addr.add]
    split
    · rename_i h0; subst h0; rfl
    · rfl
  · cases tg with
    | old => trivial
    | new =>
      intro q m c e
      simp only [Value.slice.injEq] at e
      obtain ⟨e, -, -⟩ := e
      split at e
      · exact h4 q _ _ (by rw [e])
      · cases p with
        | none => simp at e
        | some q' =>
          simp only [Option.map_some, Option.some.injEq] at e
          have := h4 q' _ _ rfl
          rw [← e]
          simp only [Addr.add]; split <;> exact this
    | nil =>
      simp only [TagOK, Value.slice.injEq] at h4
      obtain ⟨rfl, h5, rfl⟩ := h4
      have : b = 0 := by omega
      subst this
      have : a = 0 := by omega
      subst this
      simp [slTag, TagOK]
    | tok τ b =>
      cases b with
      | false => trivial
      | true =>
      intro q m c e
      simp only [Value.slice.injEq] at e
      obtain ⟨e, -, -⟩ := e
      split at e
      · exact h4.2 rfl q _ _ (by rw [e])
      · cases p with
        | none => simp at e
        | some q' =>
          simp only [Option.map_some, Option.some.injEq] at e
          have := h4.2 rfl q' _ _ rfl
          rw [← e]
          simp only [Addr.add]; split <;> exact this

theorem cutTag_ok {E : Env} {sz : Nat} {tg : Tag} {p : Option Addr} {n cap a : Nat} (ha : a ≤ n) (h : TagOK E sz (.slice p n cap) tg) (k : TagOK E sz (.slice (if cap = a then p else p.map (·.add (a * sz))) (n - a) (cap - a)) (slTag tg)) :
    TagOK E sz (.slice (if cap = a then p else p.map (·.add (a * sz))) (n - a) (cap - a)) (cutTag false tg) := by
  cases tg with
  | old => exact k
  | new => exact k
  | nil => exact k
  | tok τ b =>
    refine ⟨h.1.cut ha, fun hb => ?_⟩
    subst hb
    exact k
theorem ints_cutT {E : Env} {k : IntKind} {tg : Tag} {l : List Int} {p : Option Addr} {n cap : Nat} (hi : Bool) (h : IsInts E k tg l (.slice p n cap)) {a b : Nat} (ha : a ≤ b) (hb : b ≤ n) (hh : hi = false → b = n) :
    IsInts E k (cutTag hi tg) ((l.take b).drop a) (.slice (if cap = a then p else p.map (·.add a)) (b - a) (cap - a)) := by
  have h0 := ints_cut h ha hb
  cases hi with
  | true =>
    have : cutTag true tg = slTag tg := by cases tg <;> rfl
    rw [this]; exact h0
  | false =>
    obtain rfl := hh rfl
    obtain ⟨p', cap', e, h1, h2, h3, h4⟩ := h
    obtain ⟨q, c, f, k1, k2, k3, k4⟩ := h0
    refine ⟨q, c, f, k1, k2, k3, ?_⟩
    have e1 : ∀ x : Option Addr, x.map (·.add a) = x.map (·.add (a * 1)) := fun x => by rw [Nat.mul_one]
    rw [e1] at k4 ⊢
    exact cutTag_ok (by omega) h4 k4

theorem slTag_ok {E : Env} {sz : Nat} {tg : Tag} {p : Option Addr} {n cap a b : Nat} (ha : a ≤ b) (hb : b ≤ n) (h4 : TagOK E sz (.slice p n cap) tg) : TagOK E sz (.slice (if cap = a then p else p.map (·.add (a * sz))) (b - a) (cap - a)) (slTag tg) := by
  cases tg with
  | old => trivial
  | new =>
    intro q m c e
    simp only [Value.slice.injEq] at e
    obtain ⟨e, -, -⟩ := e
    split at e
    · exact h4 q _ _ (by rw [e])
    · cases p with
      | none => simp at e
      | some q' =>
        simp only [Option.map_some, Option.some.injEq] at e
        have := h4 q' _ _ rfl
        rw [← e]
        simp only [Addr.add]; split <;> exact this
  | nil =>
    simp only [TagOK, Value.slice.injEq] at h4
    obtain ⟨rfl, h5, rfl⟩ := h4
    have : b = 0 := by omega
    subst this
    have : a = 0 := by omega
    subst this
    simp [slTag, TagOK]
  | tok τ b =>
    cases b with
    | false => trivial
    | true =>
    intro q m c e
    simp only [Value.slice.injEq] at e
    obtain ⟨e, -, -⟩ := e
    split at e
    · exact h4.2 rfl q _ _ (by rw [e])
    · cases p with
      | none => simp at e
      | some q' =>
        simp only [Option.map_some, Option.some.injEq] at e
        have := h4.2 rfl q' _ _ rfl
        rw [← e]
        simp only [Addr.add]; split <;> exact this
/-- A piece of a slice of elements. -/
theorem sl_cut {E : Env} {sz : Nat} {tg : Tag} {n : Nat} {el : Nat → Nat → SV} {p : Option Addr} {n' cap : Nat} (hi : Bool) (h : Den E (.sl sz tg n el) (.slice p n' cap)) {a b : Nat} (ha : a ≤ b) (hb : b ≤ n) (hh : hi = false → b = n) :
    Den E (.sl sz (cutTag hi tg) (b - a) (fun i j => el (a + i) j)) (.slice (if cap = a then p else p.map (·.add (a * sz))) (b - a) (cap - a)) := by
  simp only [Den] at h ⊢
  obtain ⟨p', cap', e, h1, h2, h3, h4⟩ := h
  simp only [Value.slice.injEq] at e
  obtain ⟨rfl, rfl, rfl⟩ := e
  have ht := slTag_ok ha hb h4
  refine ⟨_, _, rfl, by omega, by omega, fun i hi => ?_, ?_⟩
  · obtain ⟨blk, off, rfl, hm⟩ := h3 (a + i) (by omega)
    rw [if_neg (by omega)]
    refine ⟨blk, off + a * sz, ?_, fun j hj => ?_⟩
    · simp only [Option.map_some, Addr.add]
      split
      · rename_i h0; simp [h0]
      · rfl
    · obtain ⟨x, q1, q2⟩ := hm j hj
      exact ⟨x, by rw [← q1, Nat.add_mul]; congr 2; omega, q2⟩
  · cases hi with
    | true =>
      have : cutTag true tg = slTag tg := by cases tg <;> rfl
      rw [this]; exact ht
    | false =>
      obtain rfl := hh rfl
      exact cutTag_ok (by omega) h4 ht

theorem run_isAgg {P : Program} {t : TypeId} {d : TD} (hd : d.ok (P.underlying t)) (hn : d ≠ .none) (w : World) : (isAgg t).run P w = .ok d.agg w := by
  unfold isAgg
  cases d <;> simp only [TD.ok] at hd
  · exact absurd rfl hn
  all_goals first
    | (simp [run_underlying hd, TD.agg]; done)
    | (obtain ⟨f, hd, _⟩ := hd; simp [run_underlying hd, TD.agg]; done)
    | (obtain ⟨f, hd⟩ := hd; simp [run_underlying hd, TD.agg]; done)
    | (obtain ⟨f, g, h, hd⟩ := hd; simp [run_underlying hd, TD.agg]; done)

theorem run_sizeOf' {P : Program} {t : TypeId} {i : TypeInfo} (h : P.info? t = some i) (w : World) : (sizeOf t).run P w = .ok i.size w := by
  simp [sizeOf, typeInfo, h]

theorem Tab.info {Γ : Tab} {P : Program} (h : Γ.ok P) (t : TypeId) (hn : (Γ t).d ≠ .none) : ∃ i z, P.info? t = some i ∧ i.size = (Γ t).size ∧ i.bytes = (Γ t).bytes ∧ i.zero = some z ∧ z.cells.toList = (Γ t).zero := by
  rcases (h t).info with h' | h'
  · exact absurd h' hn
  · exact h'

/-- A load of a row of cells that are known. -/
theorem run_loadVar_of {P : Program} {Γ : Tab} (hΓ : Γ.ok P) {t : TypeId} (hn : (Γ t).d ≠ .none) {w : World} {a : Addr} (cs : List Value)
    (hc : ∀ j v, cs[j]? = some v → w.cell? (a.add j) = some v) (hl : if (Γ t).d.agg then cs.length = (Γ t).size else cs.length = 1) :
    (loadVar t a).run P w = .ok (if (Γ t).d.agg then .agg cs.toArray else cs.getD 0 undef) w := by
  obtain ⟨i, z, hi, hs, -⟩ := Tab.info hΓ t hn
  unfold loadVar
  rw [Sem.run_bind, run_isAgg (hΓ t).und hn]
  simp only [Result.andThen_ok]
  by_cases hg : (Γ t).d.agg = true
  · rw [if_pos hg] at hl ⊢
    rw [if_pos hg]
    rw [Sem.run_bind, run_sizeOf' hi]
    simp only [Result.andThen_ok]
    rw [hs, ← hl, Sem.run_bind, run_loadCells_list w a cs hc]
    simp
  · rw [if_neg hg] at hl ⊢
    rw [if_neg hg]
    obtain ⟨v, rfl⟩ : ∃ v, cs = [v] := by
      match cs, hl with
      | [v], _ => exact ⟨v, rfl⟩
    have := hc 0 v (by simp)
    simp only [Addr.add, if_true] at this
    simp [run_load, this]
end Go.Eng
/- The engine, part E: what an operation that leaves the world alone comes to, and that it does. -/
namespace Go.Eng
open Go
set_option linter.unusedVariables false
set_option linter.unusedSimpArgs false

def nth {α : Type} : List α → Nat → Option α
  | [], _ => none
  | x :: _, 0 => some x
  | _ :: r, n + 1 => nth r n
theorem nth_eq {α : Type} : ∀ (l : List α) (n : Nat), nth l n = l[n]?
  | [], n => by simp [nth]
  | x :: r, 0 => by simp [nth]
  | x :: r, n + 1 => by simp [nth, nth_eq r n]

def ovcL (st : SS) (g : Bool) : List Operand → Prop
  | [] => True
  | x :: r => ovc st g x ∧ ovcL st g r
theorem ovcL_mem {st : SS} {g : Bool} : ∀ {l : List Operand}, ovcL st g l → ∀ x, x ∈ l → ovc st g x
  | [], _, x, h => by simp at h
  | y :: r, hv, x, h => by
    simp only [ovcL] at hv
    rcases List.mem_cons.1 h with rfl | h
    · exact hv.1
    · exact ovcL_mem hv.2 x h

def spl : List SV → Nat → List SV → List SV
  | [], _, _ => []
  | x :: r, n + 1, ls => x :: spl r n ls
  | x :: r, 0, [] => x :: r
  | _ :: r, 0, y :: ys => y :: spl r 0 ys
def fieldOf (d : TD) (f : Nat) : Option (Nat × TypeId) :=
  match d with
  | .struct fs => nth fs f
  | _ => none

def NilOK (P : Program) (name : String) (x : SV) : Prop :=
  ∀ E v, Den E x v → ∃ t y, v = .iface t y ∧ ∀ w, (nilAhead (P.types.size + Made.depth) t y name).run P w = .ok (some false) w

def isT : Operand → Bool
  | .const (.bool true) => true
  | _ => false
def isF : Operand → Bool
  | .const (.bool false) => true
  | _ => false

def evPick (st : SS) (g : Bool) (c x y : Operand) : Option (SV × Prop) :=
  match isT x, isF y with
  | true, _ =>
    match opd st c, opd st y with
    | .b t, .b u => some (.b (t || u), ovc st g c ∧ ovc st (g && !t) y)
    | _, _ => none
  | false, true =>
    match opd st c, opd st x with
    | .b t, .b u => some (.b (t && u), ovc st g c ∧ ovc st (g && t) x)
    | _, _ => none
  | _, _ => none

theorem evPick_sound {P : Program} {E : Env} {st : SS} {a : Act} {w : World} {g : Bool} (hf : Fr E st a) (hg : g = true) {c x y : Operand} {r : SV} {vc : Prop}
    (h : evPick st g c x y = some (r, vc)) (hv : vc) : ∃ v, (do pure (if ← asBool (a.eval c) then a.eval x else a.eval y) : Sem Value).run P w = .ok v w ∧ Den E r v := by
  unfold evPick at h
  split at h
  · rename_i hx
    split at h
    · rename_i t u e1 e2
      simp only [Option.some.injEq, Prod.mk.injEq] at h
      obtain ⟨rfl, rfl⟩ := h
      have hc := opd_den hf hg hv.1
      rw [e1] at hc
      simp only [Den] at hc
      have hxe : a.eval x = .bool true := by
        unfold isT at hx; split at hx
        · rfl
        · cases hx
      cases t with
      | true => exact ⟨.bool true, by simp [hc, asBool, hxe], by simp only [Den, Bool.true_or]⟩
      | false =>
        have hy := opd_den hf (g := g && !false) (by simp [hg]) hv.2
        rw [e2] at hy
        simp only [Den] at hy
        exact ⟨.bool u, by simp [hc, asBool, hy], by simp only [Den, Bool.false_or]⟩
    · cases h
  · rename_i hx hy'
    split at h
    · rename_i t u e1 e2
      simp only [Option.some.injEq, Prod.mk.injEq] at h
      obtain ⟨rfl, rfl⟩ := h
      have hc := opd_den hf hg hv.1
      rw [e1] at hc
      simp only [Den] at hc
      have hye : a.eval y = .bool false := by
        unfold isF at hy'; split at hy'
        · rfl
        · cases hy'
      cases t with
      | false => exact ⟨.bool false, by simp [hc, asBool, hye], by simp only [Den, Bool.false_and]⟩
      | true =>
        have hx := opd_den hf (g := g && true) (by simp [hg]) hv.2
        rw [e2] at hx
        simp only [Den] at hx
        exact ⟨.bool u, by simp [hc, asBool, hx], by simp only [Den, Bool.true_and]⟩
    · cases h
  · cases h

def evNil (P : Program) (st : SS) (g : Bool) (x : Operand) : Option (SV × Prop) :=
  match opd st x with
  | .ptr n o => some (.ptr n o, ovc st g x)
  | .ep n o => some (.ep n o, ovc st g x)
  | .fn (.func f) a b => some (.fn (.func f) a b, ovc st g x)
  | .fn (.method m) [r] b => some (.fn (.method m) [r] b, ovc st g x ∧ NilOK P m r)
  | _ => none

theorem evNil_sound {P : Program} {E : Env} {st : SS} {a : Act} {w : World} {g : Bool} (hf : Fr E st a) (hg : g = true) {x : Operand} {r : SV} {vc : Prop} (o : Oper) (ho : o.op = .nilCheck x)
    (h : evNil P st g x = some (r, vc)) (hv : vc) : ∃ v, (execOp a.eval o).run P w = .ok (.value v) w ∧ Den E r v := by
  unfold evNil at h
  split at h <;> simp only [Option.some.injEq, Prod.mk.injEq, reduceCtorEq] at h <;> obtain ⟨rfl, rfl⟩ := h <;> rename_i e1
  · have hd := opd_den hf hg hv
    rw [e1] at hd
    simp only [Den] at hd
    obtain ⟨b, hb, e⟩ := hd
    exact ⟨_, by simp [execOp, ho, e]; rfl, by simp only [Den]; exact ⟨b, hb, rfl⟩⟩
  · have hd := opd_den hf hg hv
    rw [e1] at hd
    have hd' := hd
    simp only [Den] at hd
    obtain ⟨b, off, e, q⟩ := hd
    exact ⟨_, by simp [execOp, ho, e]; rfl, by rw [e] at hd'; exact hd'⟩
  · have hd := opd_den hf hg hv
    rw [e1] at hd
    have hd' := hd
    simp only [Den] at hd
    obtain ⟨fs, cs, e, q⟩ := hd
    exact ⟨_, by simp [execOp, ho, e]; rfl, by rw [e] at hd'; exact hd'⟩
  · have hd := opd_den hf hg hv.1
    rw [e1] at hd
    have hd' := hd
    simp only [Den] at hd
    obtain ⟨fs, cs, e, q, q2⟩ := hd
    rw [e] at hd'
    obtain ⟨v1, rfl⟩ : ∃ v1, fs = [v1] := by
      match fs, q with
      | [v1], _ => exact ⟨v1, rfl⟩
      | [], q => simp only [DenL] at q
      | _ :: _ :: _, q => simp only [DenL] at q; exact q.2.elim
    simp only [DenL] at q
    obtain ⟨t, y, rfl, hn⟩ := hv.2 E v1 q.1
    refine ⟨_, ?_, hd'⟩
    simp [execOp, ho, e, hn]

def evField (Γ : Tab) (st : SS) (g : Bool) (t : TypeId) (x : Operand) (f : Nat) : Option (SV × Prop) :=
  match opd st x, fieldOf (Γ t).d f with
  | .ptr n o, some (off, ft) => some (.ptr n (o + off), ovc st g x ∧ (Γ ft).size ≠ 0 ∧ (Γ ft).d ≠ .none)
  | .ep n get, some (off, ft) => some (.ep (n - off) (fun d => get (off + d)), ovc st g x ∧ (Γ ft).size ≠ 0 ∧ (Γ ft).d ≠ .none)
  | _, _ => none

theorem fieldOf_run {P : Program} {Γ : Tab} (hΓ : Γ.ok P) {t : TypeId} {f off : Nat} {ft : TypeId} (h : fieldOf (Γ t).d f = some (off, ft)) :
    ∃ fields fd, P.underlying t = some (.struct fields) ∧ fields[f]? = some fd ∧ fd.offset = off ∧ fd.type = ft := by
  have hd := (hΓ t).und
  unfold fieldOf at h
  split at h
  · rename_i fs e
    rw [e] at hd
    obtain ⟨fields, h1, h2⟩ := hd
    rw [nth_eq, ← h2] at h
    simp only [List.getElem?_map, Option.map_eq_some_iff, Prod.mk.injEq] at h
    obtain ⟨fd, h3, h4, h5⟩ := h
    exact ⟨fields, fd, h1, by simpa using h3, h4, h5⟩
  · cases h

theorem addr_add (b off n : Nat) : (⟨b, off, none⟩ : Addr).add n = ⟨b, off + n, none⟩ := by
  unfold Addr.add; split
  · rename_i h; subst h; rfl
  · rfl

theorem run_fieldPlace {P : Program} {Γ : Tab} (hΓ : Γ.ok P) {fd : Field} (hs : (Γ fd.type).size ≠ 0) (hn : (Γ fd.type).d ≠ .none) (w : World) (ad : Addr) :
    (fieldPlace ad fd).run P w = .ok (ad.add fd.offset) w := by
  obtain ⟨i, z, hi, h1, -⟩ := Tab.info hΓ _ hn
  simp [fieldPlace, run_sizeOf' hi, h1, hs]

theorem evField_sound {P : Program} {Γ : Tab} (hΓ : Γ.ok P) {E : Env} {st : SS} {a : Act} {w : World} {g : Bool} (hf : Fr E st a) (hg : g = true) {t : TypeId} {x : Operand} {f : Nat} {r : SV} {vc : Prop}
    (h : evField Γ st g t x f = some (r, vc)) (hv : vc) : ∃ v, (Instr.fieldAt t (a.eval x) f).run P w = .ok v w ∧ Den E r v := by
  unfold evField at h
  split at h <;> simp only [Option.some.injEq, Prod.mk.injEq, reduceCtorEq] at h <;> obtain ⟨rfl, rfl⟩ := h <;> rename_i e1 e2
  · obtain ⟨fields, fd, h1, h2, rfl, rfl⟩ := fieldOf_run hΓ e2
    have hd := opd_den hf hg hv.1
    rw [e1] at hd
    simp only [Den] at hd
    obtain ⟨b, hb, e⟩ := hd
    refine ⟨.pointer (some ⟨b, _, none⟩), ?_, by simp only [Den]; exact ⟨b, hb, rfl⟩⟩
    simp [Instr.fieldAt, run_underlying h1, h2, e, Instr.sureAddr, run_fieldPlace hΓ hv.2.1 hv.2.2, addr_add]
  · obtain ⟨fields, fd, h1, h2, rfl, rfl⟩ := fieldOf_run hΓ e2
    have hd := opd_den hf hg hv.1
    rw [e1] at hd
    simp only [Den] at hd
    obtain ⟨b, off, e, q⟩ := hd
    refine ⟨.pointer (some ⟨b, off + fd.offset, none⟩), ?_, ?_⟩
    · simp [Instr.fieldAt, run_underlying h1, h2, e, Instr.sureAddr, run_fieldPlace hΓ hv.2.1 hv.2.2, addr_add]
    · simp only [Den]
      refine ⟨b, _, rfl, fun d hd => ?_⟩
      obtain ⟨x', p, q⟩ := q (fd.offset + d) (by omega)
      exact ⟨x', by rw [Nat.add_assoc]; exact p, q⟩

def evIndexAddr (Γ : Tab) (st : SS) (g : Bool) (t : TypeId) (x ix : Operand) : Option (SV × Prop) :=
  match opd st x, opd st ix, (Γ t).d with
  | .ints k tg l, .i _ i, .slice e => some (.ep 1 (fun _ => .i k (l.getD i.toNat 0)), ovc st g x ∧ ovc st g ix ∧ 0 ≤ i ∧ i < l.length ∧ (Γ e).size = 1 ∧ (Γ e).d ≠ .none)
  | .sl sz tg n el, .i _ i, .slice e => some (.ep sz (el i.toNat), ovc st g x ∧ ovc st g ix ∧ 0 ≤ i ∧ i < n ∧ (Γ e).size = sz ∧ (Γ e).d ≠ .none)
  | .ptr n o, .i _ i, .arr len e => some (.ptr n (o + i.toNat * (Γ e).size), ovc st g x ∧ ovc st g ix ∧ 0 ≤ i ∧ i < len ∧ (Γ e).d ≠ .none)
  | .raw (.slice p n _), .i _ i, .slice e => some (.raw (.pointer (p.map (·.add (if (Γ e).size = 1 then i.toNat else i.toNat * (Γ e).size)))), ovc st g x ∧ ovc st g ix ∧ 0 ≤ i ∧ i < n ∧ p ≠ none ∧ (Γ e).d ≠ .none)
  | _, _, _ => none

theorem evIndexAddr_sound {P : Program} {Γ : Tab} (hΓ : Γ.ok P) {E : Env} {st : SS} {a : Act} {w : World} {g : Bool} (hf : Fr E st a) (hg : g = true) {t : TypeId} {x ix : Operand} {r : SV} {vc : Prop}
    (h : evIndexAddr Γ st g t x ix = some (r, vc)) (hv : vc) : ∃ v, (Instr.indexAt t (a.eval x) (a.eval ix)).run P w = .ok v w ∧ Den E r v := by
  unfold evIndexAddr at h
  have hd := (hΓ t).und
  split at h <;> simp only [Option.some.injEq, Prod.mk.injEq, reduceCtorEq] at h <;> obtain ⟨rfl, rfl⟩ := h <;> rename_i e1 e2 e3 <;> rw [e3] at hd <;> simp only [TD.ok] at hd
  · rename_i k tg l k' i el
    obtain ⟨v1, v2, h0, h1, h2, h3⟩ := hv
    have hx := opd_den hf hg v1
    have hi := opd_den hf hg v2
    rw [e1] at hx; rw [e2] at hi
    simp only [Den] at hx hi
    obtain ⟨p, cap, e, _, _, q, _⟩ := hx
    have hlt : i.toNat < l.length := by omega
    obtain ⟨b, off, rfl, hm⟩ := q i.toNat _ (List.getElem?_eq_getElem hlt)
    obtain ⟨i', z, hi', h4, -⟩ := Tab.info hΓ _ h3
    refine ⟨.pointer (some ⟨b, off + i.toNat, none⟩), ?_, ?_⟩
    · simp [Instr.indexAt, e, hi, asIntOf, run_underlying hd, h0, h1, run_sizeOf' hi', h4, h2, addr_add]
    · simp only [Den]
      refine ⟨b, _, rfl, fun d hd => ?_⟩
      obtain rfl : d = 0 := by omega
      exact ⟨_, hm, by simp [hlt]⟩
  · rename_i sz tg n el k' i el'
    obtain ⟨v1, v2, h0, h1, h2, h3⟩ := hv
    have hx := opd_den hf hg v1
    have hi := opd_den hf hg v2
    rw [e1] at hx; rw [e2] at hi
    simp only [Den] at hx hi
    obtain ⟨p, cap, e, _, _, q, _⟩ := hx
    have hlt : i.toNat < n := by omega
    obtain ⟨b, off, rfl, hm⟩ := q i.toNat hlt
    obtain ⟨i', z, hi', h4, -⟩ := Tab.info hΓ _ h3
    refine ⟨.pointer (some ⟨b, off + i.toNat * sz, none⟩), ?_, ?_⟩
    · simp [Instr.indexAt, e, hi, asIntOf, run_underlying hd, h0, h1, run_sizeOf' hi', h4, h2, addr_add]
    · simp only [Den]
      exact ⟨b, _, rfl, fun d hd => hm d hd⟩
  · obtain ⟨v1, v2, h0, h1, h3⟩ := hv
    have hx := opd_den hf hg v1
    have hi := opd_den hf hg v2
    rw [e1] at hx; rw [e2] at hi
    simp only [Den] at hx hi
    obtain ⟨b, hb, e⟩ := hx
    obtain ⟨i', z, hi', h4, -⟩ := Tab.info hΓ _ h3
    refine ⟨_, ?_, by simp only [Den]; exact ⟨b, hb, rfl⟩⟩
    simp [Instr.indexAt, e, hi, asIntOf, run_underlying hd, h0, h1, run_sizeOf' hi', h4, addr_add, Instr.sureAddr]
  · rename_i p n cc k' i el'
    obtain ⟨v1, v2, h0, h1, hp, h3⟩ := hv
    have hx := opd_den hf hg v1
    have hi := opd_den hf hg v2
    rw [e1] at hx; rw [e2] at hi
    simp only [Den] at hx hi
    have he : (if (Γ el').size = 1 then i.toNat else i.toNat * (Γ el').size) = i.toNat * (Γ el').size := by
      split
      · rename_i hs; rw [hs, Nat.mul_one]
      · rfl
    rw [he]
    obtain ⟨i', z, hi', h4, -⟩ := Tab.info hΓ _ h3
    cases p with
    | none => exact absurd rfl hp
    | some ad =>
      refine ⟨_, ?_, by simp only [Den]; rfl⟩
      simp [Instr.indexAt, hx, hi, asIntOf, run_underlying hd, h0, h1, run_sizeOf' hi', h4]
end Go.Eng
/- The engine, part F: loads, conversions, slices, aggregates; all operations that leave the world alone. -/
namespace Go.Eng
open Go
set_option linter.unusedVariables false
set_option linter.unusedSimpArgs false

def evLoad (Γ : Tab) (st : SS) (g : Bool) (t : TypeId) (x : Operand) : Option (SV × Prop) :=
  match opd st x with
  | .ptr n o =>
    match hfind st.hp n with
    | some (T, l) =>
      match (Γ t).d.agg with
      | true => some (.agg ((l.drop o).take (Γ t).size), ovc st g x ∧ (Γ t).d ≠ .none ∧ o + (Γ t).size ≤ l.length ∧ T < 1000000)
      | false => match nth l o with
        | some v => some (v, ovc st g x ∧ (Γ t).d ≠ .none ∧ T < 1000000)
        | none => none
    | none => none
  | .ep n get =>
    match (Γ t).d.agg with
    | true => some (.agg ((List.range (Γ t).size).map get), ovc st g x ∧ (Γ t).d ≠ .none ∧ (Γ t).size ≤ n)
    | false => some (get 0, ovc st g x ∧ (Γ t).d ≠ .none ∧ 0 < n)
  | _ => none

theorem denL_get_of {E : Env} : ∀ (l : List SV) (f : Nat → Option Value), (∀ j x, l[j]? = some x → ∃ v, f j = some v ∧ Den E x v) → ∃ cs : List Value, DenL E l cs ∧ ∀ j v, cs[j]? = some v → f j = some v
  | [], f, _ => ⟨[], by simp only [DenL], fun j v h => by simp at h⟩
  | x :: xs, f, h => by
    obtain ⟨v, h1, h2⟩ := h 0 x (by simp)
    obtain ⟨cs, h3, h4⟩ := denL_get_of xs (fun j => f (j + 1)) (fun j y hy => h (j + 1) y (by simpa using hy))
    refine ⟨v :: cs, by simp only [DenL]; exact ⟨h2, h3⟩, fun j u hu => ?_⟩
    cases j with
    | zero => simp at hu; subst hu; exact h1
    | succ j => exact h4 j u (by simpa using hu)

theorem evLoad_sound {P : Program} {Γ : Tab} (hΓ : Γ.ok P) {E : Env} {st : SS} {a : Act} {w : World} {g : Bool} (hf : Fr E st a) (hw : Good E st w) (hg : g = true) {t : TypeId} {x : Operand} {r : SV} {vc : Prop}
    (h : evLoad Γ st g t x = some (r, vc)) (hv : vc) : ∃ v, (Instr.loadAt t (a.eval x)).run P w = .ok v w ∧ Den E r v := by
  unfold evLoad at h
  split at h
  · rename_i n o e1
    split at h
    · rename_i T l e2
      obtain ⟨κ, hk⟩ := hw.own
      obtain ⟨b, cs, hb, hblk, hden, -, -⟩ := hk.hp _ _ _ e2
      have hcell : T < 1000000 → ∀ j v, cs[j]? = some v → w.cell? ⟨b, j, none⟩ = some v := fun hT j v e => by simp [World.cell?, hblk, objOf_cells hT, e]
      split at h
      · rename_i hagg
        simp only [Option.some.injEq, Prod.mk.injEq] at h
        obtain ⟨rfl, rfl⟩ := h
        have hx := opd_den hf hg hv.1
        rw [e1] at hx
        simp only [Den] at hx
        obtain ⟨b', hb', e⟩ := hx
        obtain rfl : b' = b := by rw [hb] at hb'; injection hb' with e; exact e.symm
        have hlen := denL_length _ _ hden
        have hcs : ∀ j v, ((cs.toList.drop o).take (Γ t).size)[j]? = some v → w.cell? ((⟨b', o, none⟩ : Addr).add j) = some v := fun j v e => by
          rw [addr_add]
          refine hcell hv.2.2.2 _ _ ?_
          rw [List.getElem?_take, List.getElem?_drop] at e
          split at e
          · simpa using e
          · cases e
        have hrun := run_loadVar_of hΓ hv.2.1 (w := w) (a := ⟨b', o, none⟩) _ hcs (by
          rw [hagg]; simp only [if_true, List.length_take, List.length_drop, hlen]; omega)
        refine ⟨.agg ((cs.toList.drop o).take (Γ t).size).toArray, ?_, ?_⟩
        · rw [e]
          simp only [Instr.loadAt, Instr.sureAddr, Sem.run_bind, Sem.run_pure, Result.andThen_ok, hrun, hagg, if_true]
        · simp only [Den]
          exact ⟨_, rfl, denL_take _ _ _ (denL_drop _ _ _ hden)⟩
      · rename_i hagg
        split at h
        · rename_i v e3
          simp only [Option.some.injEq, Prod.mk.injEq] at h
          obtain ⟨rfl, rfl⟩ := h
          have hx := opd_den hf hg hv.1
          rw [e1] at hx
          simp only [Den] at hx
          obtain ⟨b', hb', e⟩ := hx
          obtain rfl : b' = b := by rw [hb] at hb'; injection hb' with e; exact e.symm
          rw [nth_eq] at e3
          obtain ⟨u, hu, hdu⟩ := denL_getElem _ _ _ _ hden e3
          have hrun := run_loadVar_of hΓ hv.2.1 (w := w) (a := ⟨b', o, none⟩) [u] (fun j y hy => by
            cases j with
            | zero => simp at hy; subst hy; rw [addr_add]; exact hcell hv.2.2 _ _ (by simpa using hu)
            | succ j => simp at hy) (by rw [hagg]; simp)
          refine ⟨u, ?_, hdu⟩
          rw [e]
          simp [Instr.loadAt, Instr.sureAddr, hrun, hagg]
        · cases h
    · cases h
  · rename_i n get e1
    split at h
    · rename_i hagg
      simp only [Option.some.injEq, Prod.mk.injEq] at h
      obtain ⟨rfl, rfl⟩ := h
      have hx := opd_den hf hg hv.1
      rw [e1] at hx
      simp only [Den] at hx
      obtain ⟨b, off, e, q⟩ := hx
      obtain ⟨cs, h1, h2⟩ := denL_get_of ((List.range (Γ t).size).map get) (fun j => E.μ ⟨b, off + j, none⟩) (fun j y hy => by
        simp only [List.getElem?_map, Option.map_eq_some_iff] at hy
        obtain ⟨j', hj, rfl⟩ := hy
        have hj' : j < (Γ t).size := by
          rcases Nat.lt_or_ge j (Γ t).size with h' | h'
          · exact h'
          · rw [List.getElem?_eq_none (by simpa using h')] at hj; cases hj
        rw [List.getElem?_range hj'] at hj
        injection hj with hj
        subst hj
        have := hv.2.2
        exact q _ (by omega))
      have hrun := run_loadVar_of hΓ hv.2.1 (w := w) (a := ⟨b, off, none⟩) cs (fun j v e => by rw [addr_add]; exact hw.mu _ _ (h2 j v e)) (by
        rw [hagg, denL_length _ _ h1]; simp)
      refine ⟨.agg cs.toArray, ?_, by simp only [Den]; exact ⟨cs, rfl, h1⟩⟩
      rw [e]
      simp [Instr.loadAt, Instr.sureAddr, hrun, hagg]
    · rename_i hagg
      simp only [Option.some.injEq, Prod.mk.injEq] at h
      obtain ⟨rfl, rfl⟩ := h
      have hx := opd_den hf hg hv.1
      rw [e1] at hx
      simp only [Den] at hx
      obtain ⟨b, off, e, q⟩ := hx
      obtain ⟨u, hu, hdu⟩ := q 0 hv.2.2
      have hrun := run_loadVar_of hΓ hv.2.1 (w := w) (a := ⟨b, off, none⟩) [u] (fun j y hy => by
        cases j with
        | zero => simp at hy; subst hy; rw [addr_add]; exact hw.mu _ _ hu
        | succ j => simp at hy) (by rw [hagg]; simp)
      refine ⟨u, ?_, hdu⟩
      rw [e]
      simp [Instr.loadAt, Instr.sureAddr, hrun, hagg]
  · cases h

def evUn (op : UnOp) (x : SV) : Option SV :=
  match op, x with
  | .not, .b c => some (.b (!c))
  | .neg, .i k n => some (.i k (k.wrap (0 - n)))
  | .xor, .i k n => some (.i k (xorI k (if k.signed then -1 else k.max) n))
  | _, _ => none

theorem evUn_sound {P : Program} {E : Env} {w : World} {op : UnOp} {x r : SV} {v : Value} (h : evUn op x = some r) (hx : Den E x v) : ∃ v', (Op.unary op v).run P w = .ok v' w ∧ Den E r v' := by
  unfold evUn at h
  split at h <;> simp only [Option.some.injEq, reduceCtorEq] at h <;> subst h <;> simp only [Den] at hx <;> subst hx <;> simp only [Den]
  · exact ⟨_, by simp [Op.unary], rfl⟩
  · exact ⟨_, by simp [Op.unary, Op.intArith], rfl⟩
  · exact ⟨_, by simp [Op.unary, Op.intBits]; rfl, rfl⟩

def evConv (Γ : Tab) (s d : TypeId) (x : SV) : Option (SV × Prop) :=
  match x, (Γ s).d, (Γ d).d with
  | .i _ n, .int _, .int k => some (.i k (k.wrap n), True)
  | .i _ n, .int _, .str => some (.s (Utf8.encode n), True)
  | .s y, .str, .str => some (.s y, True)
  | .ints .u8 _ l, .slice e, .str => some (.s (strOf l), (Γ e).d = .int .u8)
  | _, _, _ => none

theorem foldl_push (l : List Int) : ∀ (acc : ByteArray), l.foldl (fun r n => r.push (UInt8.ofNat n.toNat)) acc = acc ++ strOf l := by
  induction l with
  | nil => intro acc; apply ByteArray.ext; simp [strOf]
  | cons x xs ih =>
    intro acc
    rw [List.foldl_cons, ih]
    apply ByteArray.ext
    simp [strOf, ByteArray.push, ByteArray.append_eq, ByteArray.data_append]

theorem evConv_sound {P : Program} {Γ : Tab} (hΓ : Γ.ok P) {E : Env} {st : SS} {w : World} (hw : Good E st w) {s d : TypeId} {x r : SV} {vc : Prop} {v : Value} (h : evConv Γ s d x = some (r, vc)) (hv : vc)
    (hx : Den E x v) : ∃ v', (convert s d v).run P w = .ok v' w ∧ Den E r v' := by
  unfold evConv at h
  have hs := (hΓ s).und
  have hd := (hΓ d).und
  split at h <;> simp only [Option.some.injEq, Prod.mk.injEq, reduceCtorEq] at h <;> obtain ⟨rfl, rfl⟩ := h <;> rename_i e2 e3 <;> rw [e2] at hs <;> rw [e3] at hd <;> simp only [TD.ok] at hs hd <;> simp only [Den] at hx ⊢
  · subst hx
    exact ⟨_, by simp [convert, run_underlying hs, run_underlying hd, Conv.intToInt], rfl⟩
  · subst hx
    exact ⟨_, by simp [convert, run_underlying hs, run_underlying hd, Conv.intToString], rfl⟩
  · subst hx
    exact ⟨_, by simp [convert, run_underlying hs, run_underlying hd], rfl⟩
  · rename_i tg l e
    obtain ⟨p, cap, rfl, hc, _, q, _⟩ := hx
    have hu := (hΓ e).und
    rw [hv] at hu
    simp only [TD.ok] at hu
    refine ⟨.string (strOf l), ?_, rfl⟩
    cases p with
    | none =>
      have : l = [] := by
        cases l with
        | nil => rfl
        | cons y ys => obtain ⟨b, off, e, _⟩ := q 0 y (by simp); cases e
      subst this
      simp [convert, run_underlying hs, run_underlying hd, run_underlying hu, Conv.bytesToString, strOf]
      rfl
    | some ad =>
      have hl := run_loadCells_list (P := P) w ad (l.map (Value.int .u8)) (fun j v hj => by
        simp only [List.getElem?_map, Option.map_eq_some_iff] at hj
        obtain ⟨n, hj, rfl⟩ := hj
        obtain ⟨b, off, e, hm⟩ := q j n hj
        injection e with e
        rw [e, addr_add]
        exact hw.mu _ _ hm)
      rw [List.length_map] at hl
      have := run_bytesToString (P := P) w ad l.length cap l hl
      simp [convert, run_underlying hs, run_underlying hd, run_underlying hu, this, foldl_push]
end Go.Eng
/- The engine, part G: the rest of the operations that leave the world alone, and all of them in one. -/
namespace Go.Eng
open Go
set_option linter.unusedVariables false
set_option linter.unusedSimpArgs false

theorem denL_ops {E : Env} {st : SS} {a : Act} {g : Bool} (hf : Fr E st a) (hg : g = true) : ∀ (l : List Operand), ovcL st g l → DenL E (l.map (opd st)) (l.map a.eval)
  | [], _ => by simp only [List.map_nil, DenL]
  | x :: r, h => by
    simp only [ovcL] at h
    simp only [List.map_cons, DenL]
    exact ⟨opd_den hf hg h.1, denL_ops hf hg r h.2⟩

def evFieldV (Γ : Tab) (t : TypeId) (x : SV) (f : Nat) : Option (SV × Prop) :=
  match x, fieldOf (Γ t).d f with
  | .agg l, some (off, ft) =>
    match (Γ ft).d.agg with
    | true => some (.agg ((l.drop off).take (Γ ft).size), (Γ ft).d ≠ .none)
    | false => match nth l off with
      | some v => some (v, (Γ ft).d ≠ .none)
      | none => none
  | _, _ => none

theorem evFieldV_sound {P : Program} {Γ : Tab} (hΓ : Γ.ok P) {E : Env} {w : World} {t : TypeId} {x : SV} {f : Nat} {r : SV} {vc : Prop} {v : Value}
    (h : evFieldV Γ t x f = some (r, vc)) (hv : vc) (hx : Den E x v) : ∃ v', (Instr.field t v f).run P w = .ok v' w ∧ Den E r v' := by
  unfold evFieldV at h
  split at h
  · rename_i l off ft e2
    obtain ⟨fields, fd, h1, h2, rfl, rfl⟩ := fieldOf_run hΓ e2
    simp only [Den] at hx
    obtain ⟨cs, rfl, hden⟩ := hx
    split at h
    · rename_i hagg
      simp only [Option.some.injEq, Prod.mk.injEq] at h
      obtain ⟨rfl, rfl⟩ := h
      obtain ⟨i, z, hi, hs, -⟩ := Tab.info hΓ _ hv
      refine ⟨.agg ((cs.drop fd.offset).take (Γ fd.type).size).toArray, ?_, by simp only [Den]; exact ⟨_, rfl, denL_take _ _ _ (denL_drop _ _ _ hden)⟩⟩
      simp [Instr.field, run_underlying h1, h2, part, run_isAgg (hΓ _).und hv, hagg, run_sizeOf' hi, hs, asAgg, List.drop_take, Nat.add_sub_cancel_left]
    · rename_i hagg
      split at h
      · rename_i y e3
        simp only [Option.some.injEq, Prod.mk.injEq] at h
        obtain ⟨rfl, rfl⟩ := h
        rw [nth_eq] at e3
        obtain ⟨u, hu, hdu⟩ := denL_getElem _ _ _ _ hden e3
        refine ⟨u, ?_, hdu⟩
        simp [Instr.field, run_underlying h1, h2, part, run_isAgg (hΓ _).und hv, hagg, hu, asAgg]
      · cases h
  · cases h

def evIndex (Γ : Tab) (t : TypeId) (x ix : SV) : Option (SV × Prop) :=
  match x, ix, (Γ t).d with
  | .s y, .i _ i, .str => some (.i .u8 (byteAt y i), 0 ≤ i ∧ i < y.size)
  | .agg l, .i _ i, .arr len e =>
    match nth l i.toNat with
    | some v => some (v, 0 ≤ i ∧ i < len ∧ (Γ e).d.agg = false ∧ (Γ e).d ≠ .none ∧ (Γ e).size = 1)
    | none => none
  | _, _, _ => none

theorem evIndex_sound {P : Program} {Γ : Tab} (hΓ : Γ.ok P) {E : Env} {w : World} {t : TypeId} {x ix : SV} {r : SV} {vc : Prop} {v vi : Value}
    (h : evIndex Γ t x ix = some (r, vc)) (hv : vc) (hx : Den E x v) (hi : Den E ix vi) : ∃ v', (Instr.index t v vi).run P w = .ok v' w ∧ Den E r v' := by
  unfold evIndex at h
  have hd := (hΓ t).und
  split at h
  · simp only [Option.some.injEq, Prod.mk.injEq, reduceCtorEq] at h
    rename_i y k i e
    obtain ⟨rfl, rfl⟩ := h
    rw [e] at hd
    simp only [TD.ok] at hd
    simp only [Den] at hx hi ⊢
    subst hx hi
    obtain ⟨h0, h1⟩ := hv
    have hlt : i.toNat < y.size := by omega
    refine ⟨_, ?_, rfl⟩
    simp [Instr.index, asIntOf, run_underlying hd, h0, byteAt, getElem?_pos y i.toNat hlt]
  · rename_i l k i len e2 e
    split at h
    · rename_i u e3
      simp only [Option.some.injEq, Prod.mk.injEq] at h
      obtain ⟨rfl, rfl⟩ := h
      rw [e] at hd
      simp only [TD.ok] at hd
      simp only [Den] at hx hi
      subst hi
      obtain ⟨cs, rfl, hden⟩ := hx
      obtain ⟨h0, h1, hagg, hn, hsz⟩ := hv
      rw [nth_eq] at e3
      obtain ⟨y, hy, hdy⟩ := denL_getElem _ _ _ _ hden e3
      obtain ⟨inf, z, hinf, his, -⟩ := Tab.info hΓ _ hn
      refine ⟨y, ?_, hdy⟩
      simp [Instr.index, asIntOf, run_underlying hd, h0, h1, part, run_isAgg (hΓ _).und hn, hagg, run_sizeOf' hinf, his, hsz, hy]
    · cases h
  · cases h

/-- Where a piece of a slice begins. -/
def cutp (p : Option Addr) (c a : Nat) : Option Addr := if c = a then p else p.map (·.add a)
theorem cutp_zero (p : Option Addr) (c : Nat) : cutp p c 0 = p := by
  unfold cutp
  split
  · rfl
  · cases p <;> simp [Addr.add]
/-- A row's first elements, as many as there is room for. -/
def upTo : Option SV → Option SV → Option Int
  | none, some (.i _ b) => some b
  | _, _ => none
def evSlice (Γ : Tab) (t : TypeId) (x : SV) (lo hi : Option SV) : Option (SV × Prop) :=
  match x, (Γ t).d with
  | .ints k tg l, .slice e =>
    match cut hi lo l.length with
    | some (a, b, vc) => some (.ints k (cutTag hi.isSome tg) (cutL lo.isSome hi.isSome a b l), vc ∧ (Γ e).d ≠ .none ∧ (Γ e).size = 1)
    | none => none
  | .s y, .str =>
    match cut hi lo y.size with
    | some (a, b, vc) => some (.s (y.extract a b), vc)
    | none => none
  | .sl sz tg n el, .slice e =>
    match cut hi lo n with
    | some (a, b, vc) => some (.sl sz (cutTag hi.isSome tg) (b - a) (fun i j => el (a + i) j), vc ∧ (Γ e).d ≠ .none ∧ (Γ e).size = sz)
    | none => none
  | .raw (.slice p n c), .slice e =>
    match upTo lo hi with
    | some b => some (.raw (.slice p b.toNat c), (0 ≤ b ∧ b ≤ c) ∧ (Γ e).d ≠ .none ∧ (Γ e).size = 1)
    | none =>
      match cut hi lo n with
      | some (a, b, vc) => some (.raw (.slice (cutp p c a) (b - a) (c - a)), vc ∧ n ≤ c ∧ (Γ e).d ≠ .none ∧ (Γ e).size = 1)
      | none => none
  | _, _ => none

theorem cutL_eq {lo hi : Option SV} {a b : Nat} {l : List Int} {vc : Prop} (h : cut hi lo l.length = some (a, b, vc)) : cutL lo.isSome hi.isSome a b l = (l.take b).drop a := by
  unfold cut at h
  split at h <;> simp only [Option.some.injEq, Prod.mk.injEq, reduceCtorEq] at h <;> obtain ⟨rfl, rfl, rfl⟩ := h <;> simp [cutL]

theorem cut_end {lo hi : Option SV} {n a b : Nat} {vc : Prop} (h : cut hi lo n = some (a, b, vc)) (hh : hi.isSome = false) (hv : vc) : b = n := by
  unfold cut at h
  split at h <;> simp only [Option.some.injEq, Prod.mk.injEq, reduceCtorEq] at h <;> obtain ⟨rfl, rfl, rfl⟩ := h <;> simp at hh ⊢

theorem evSlice_sound {P : Program} {Γ : Tab} (hΓ : Γ.ok P) {E : Env} {w : World} {t : TypeId} {x : SV} {lo hi : Option SV} {r : SV} {vc : Prop} {v : Value} {vlo vhi : Option Value}
    (h : evSlice Γ t x lo hi = some (r, vc)) (hv : vc) (hx : Den E x v)
    (hlo : ∀ x, lo = some x → ∃ v, vlo = some v ∧ Den E x v) (hlo' : lo = none → vlo = none) (hhi : ∀ x, hi = some x → ∃ v, vhi = some v ∧ Den E x v) (hhi' : hi = none → vhi = none) :
    ∃ v', (Instr.sliceAt t v vlo vhi none).run P w = .ok v' w ∧ Den E r v' := by
  unfold evSlice at h
  have hd := (hΓ t).und
  split at h
  · rename_i k tg l e e2
    rw [e2] at hd
    simp only [TD.ok] at hd
    split at h
    · rename_i a b vc' e3
      simp only [Option.some.injEq, Prod.mk.injEq] at h
      obtain ⟨rfl, rfl⟩ := h
      simp only [Den] at hx ⊢
      have hx' := hx
      obtain ⟨p, cap, rfl, hc, _, q, _⟩ := hx
      obtain ⟨hrun, hab, hbn⟩ := cut_run P w lo hi vlo vhi l.length cap E a b vc' true hlo hlo' hhi hhi' hc e3 hv.1
      obtain ⟨i, z, hi', hs, -⟩ := Tab.info hΓ _ hv.2.1
      refine ⟨_, ?_, by rw [cutL_eq e3]; exact ints_cutT _ hx' hab hbn (fun hh => cut_end e3 hh hv.1)⟩
      simp [Instr.sliceAt, Instr.slice, run_underlying hd, hrun, run_sizeOf' hi', hs, hv.2.2]
    · cases h
  · rename_i y e2
    rw [e2] at hd
    simp only [TD.ok] at hd
    split at h
    · rename_i a b vc' e3
      simp only [Option.some.injEq, Prod.mk.injEq] at h
      obtain ⟨rfl, rfl⟩ := h
      simp only [Den] at hx ⊢
      subst hx
      obtain ⟨hrun, hab, hbn⟩ := cut_run P w lo hi vlo vhi y.size y.size E a b vc' false hlo hlo' hhi hhi' (Nat.le_refl _) e3 hv
      refine ⟨_, ?_, rfl⟩
      simp [Instr.sliceAt, Instr.slice, run_underlying hd, hrun]
    · cases h
  · rename_i sz tg n el e e2
    rw [e2] at hd
    simp only [TD.ok] at hd
    split at h
    · rename_i a b vc' e3
      simp only [Option.some.injEq, Prod.mk.injEq] at h
      obtain ⟨rfl, rfl⟩ := h
      have hx' := hx
      simp only [Den] at hx
      obtain ⟨p, cap, rfl, hc, _, q, _⟩ := hx
      obtain ⟨hrun, hab, hbn⟩ := cut_run P w lo hi vlo vhi n cap E a b vc' true hlo hlo' hhi hhi' hc e3 hv.1
      obtain ⟨i, z, hi', hs, -⟩ := Tab.info hΓ _ hv.2.1
      refine ⟨_, ?_, sl_cut _ hx' hab hbn (fun hh => cut_end e3 hh hv.1)⟩
      simp [Instr.sliceAt, Instr.slice, run_underlying hd, hrun, run_sizeOf' hi', hs, hv.2.2]
    · cases h
  · rename_i p n c e e2
    rw [e2] at hd
    simp only [TD.ok] at hd
    split at h
    · rename_i b e3
      simp only [Option.some.injEq, Prod.mk.injEq] at h
      obtain ⟨rfl, rfl⟩ := h
      unfold upTo at e3
      split at e3
      · rename_i k b'
        injection e3 with e3
        subst e3
        simp only [Den] at hx ⊢
        subst hx
        obtain ⟨v, rfl, hd'⟩ := hhi _ rfl
        simp only [Den] at hd'
        rw [hlo' rfl, hd']
        obtain ⟨⟨h0, h1⟩, h2, h3⟩ := hv
        have e1 := fun code => run_sliceBound (P := P) w k b' c code h0 h1
        obtain ⟨i, z, hi', hs, -⟩ := Tab.info hΓ _ h2
        refine ⟨_, ?_, rfl⟩
        simp [Instr.sliceAt, Instr.slice, run_underlying hd, Instr.sliceBounds, e1, run_sizeOf' hi', hs, h3]
        intro _
        cases p <;> simp [Addr.add]
      · cases e3
    split at h
    · rename_i a b vc' e3
      simp only [Option.some.injEq, Prod.mk.injEq] at h
      obtain ⟨rfl, rfl⟩ := h
      simp only [Den] at hx ⊢
      subst hx
      obtain ⟨hrun, hab, hbn⟩ := cut_run P w lo hi vlo vhi n c E a b vc' true hlo hlo' hhi hhi' hv.2.1 e3 hv.1
      obtain ⟨i, z, hi', hs, -⟩ := Tab.info hΓ _ hv.2.2.1
      refine ⟨_, ?_, rfl⟩
      simp [Instr.sliceAt, Instr.slice, run_underlying hd, hrun, run_sizeOf' hi', hs, hv.2.2.2, cutp]
    · cases h
  · cases h

def evBuiltin (Γ : Tab) (b : Builtin) (ts : List TypeId) (xs : List SV) : Option (SV × Prop) :=
  match b, ts, xs with
  | .len, t :: _, [x] =>
    match x, (Γ t).d with
    | .s y, .str => some (.i .i64 y.size, True)
    | .ints _ _ l, .slice _ => some (.i .i64 l.length, True)
    | .sl _ _ n _, .slice _ => some (.i .i64 n, True)
    | .raw (.slice _ n _), .slice _ => some (.i .i64 n, True)
    | _, _ => none
  | .cap, t :: _, [x] =>
    match x, (Γ t).d with
    | .raw (.slice _ _ c), .slice _ => some (.i .i64 c, True)
    | _, _ => none
  | .min, _, [.i k a, .i _ b] => some (.i k (minI a b), True)
  | .max, _, [.i k a, .i _ b] => some (.i k (maxI a b), True)
  | _, _, _ => none

theorem denL_one {E : Env} {x : SV} {vs : List Value} (h : DenL E [x] vs) : ∃ v, vs = [v] ∧ Den E x v := by
  match vs, h with
  | [v], h => simp only [DenL] at h; exact ⟨v, rfl, h.1⟩
  | [], h => simp only [DenL] at h
  | _ :: _ :: _, h => simp only [DenL] at h; exact h.2.elim
theorem denL_two {E : Env} {x y : SV} {vs : List Value} (h : DenL E [x, y] vs) : ∃ v u, vs = [v, u] ∧ Den E x v ∧ Den E y u := by
  match vs, h with
  | v :: us, h =>
    simp only [DenL] at h
    obtain ⟨h1, h2⟩ := h
    obtain ⟨u, rfl, h3⟩ := denL_one (by simpa only [DenL] using h2)
    exact ⟨v, u, rfl, h1, h3⟩
  | [], h => simp only [DenL] at h

theorem evBuiltin_sound {P : Program} {Γ : Tab} (hΓ : Γ.ok P) {E : Env} {w : World} {b : Builtin} {ts : List TypeId} {xs : List SV} {r : SV} {vc : Prop} {vs : List Value} {ty : TypeId} {cs : Array Bool}
    (h : evBuiltin Γ b ts xs = some (r, vc)) (hv : vc) (hx : DenL E xs vs) : ∃ v', (builtin b ts.toArray ty cs vs.toArray).run P w = .ok (.value v') w ∧ Den E r v' := by
  unfold evBuiltin at h
  split at h
  · rename_i t tr x
    have hd := (hΓ t).und
    obtain ⟨v, rfl, hx1⟩ := denL_one hx
    clear hx
    split at h <;> simp only [Option.some.injEq, Prod.mk.injEq, reduceCtorEq] at h <;> obtain ⟨rfl, rfl⟩ := h <;> rename_i e2 <;> rw [e2] at hd <;> simp only [TD.ok] at hd <;> simp only [Den] at hx1 ⊢
    · subst hx1
      exact ⟨_, by simp [builtin, Builtin.len_, run_underlying hd, goInt], rfl⟩
    · obtain ⟨p, cap, rfl, _⟩ := hx1
      exact ⟨_, by simp [builtin, Builtin.len_, run_underlying hd, goInt], rfl⟩
    · obtain ⟨p, cap, rfl, _⟩ := hx1
      exact ⟨_, by simp [builtin, Builtin.len_, run_underlying hd, goInt], rfl⟩
    · subst hx1
      exact ⟨_, by simp [builtin, Builtin.len_, run_underlying hd, goInt], rfl⟩
  · rename_i t tr x
    have hd := (hΓ t).und
    obtain ⟨v, rfl, hx1⟩ := denL_one hx
    clear hx
    split at h <;> simp only [Option.some.injEq, Prod.mk.injEq, reduceCtorEq] at h <;> obtain ⟨rfl, rfl⟩ := h <;> rename_i e2 <;> rw [e2] at hd <;> simp only [TD.ok] at hd <;> simp only [Den] at hx1 ⊢
    subst hx1
    exact ⟨_, by simp [builtin, Builtin.cap_, run_underlying hd, goInt], rfl⟩
  · simp only [Option.some.injEq, Prod.mk.injEq, reduceCtorEq] at h
    obtain ⟨rfl, rfl⟩ := h
    obtain ⟨v, u, rfl, h1, h2⟩ := denL_two hx
    simp only [Den] at h1 h2 ⊢
    subst h1 h2
    exact ⟨_, by simp [builtin, Builtin.min_, Builtin.min2, minI], rfl⟩
  · simp only [Option.some.injEq, Prod.mk.injEq, reduceCtorEq] at h
    obtain ⟨rfl, rfl⟩ := h
    obtain ⟨v, u, rfl, h1, h2⟩ := denL_two hx
    simp only [Den] at h1 h2 ⊢
    subst h1 h2
    exact ⟨_, by simp [builtin, Builtin.max_, Builtin.max2, maxI], rfl⟩
  · cases h

def leaves : SV → Option (List SV)
  | .agg l => some l
  | .raw v => match v with
    | .slice a b c => some [.raw (.slice a b c)]
    | .pointer q => some [.raw (.pointer q)]
    | _ => none
  | .any => none
  | .cnd _ _ => none
  | .tup _ => none
  | v => some [v]

theorem denL_leaves {E : Env} {x : SV} {l : List SV} {v : Value} (h : Den E x v) (hl : leaves x = some l) : DenL E l v.cells.toList := by
  by_cases hraw : ∃ u, x = .raw u
  · obtain ⟨u, rfl⟩ := hraw
    have h' := h
    simp only [Den] at h
    subst h
    simp only [leaves] at hl
    split at hl <;> simp only [Option.some.injEq, reduceCtorEq] at hl <;> subst hl <;> simp only [Value.cells, DenL] <;> exact ⟨h', trivial⟩
  cases x <;> simp only [leaves, Option.some.injEq, reduceCtorEq] at hl <;> try subst hl
  case raw v => exact absurd ⟨_, rfl⟩ hraw
  case agg l => simp only [Den] at h; obtain ⟨cs, rfl, h⟩ := h; simpa [Value.cells] using h
  all_goals (have h' := h; simp only [Den] at h)
  case i => subst h; simp only [Value.cells, DenL]; exact ⟨h', trivial⟩
  case b => subst h; simp only [Value.cells, DenL]; exact ⟨h', trivial⟩
  case s => subst h; simp only [Value.cells, DenL]; exact ⟨h', trivial⟩
  case ptr => obtain ⟨b, hb, rfl⟩ := h; simp only [Value.cells, DenL]; exact ⟨h', trivial⟩
  case nilp => subst h; simp only [Value.cells, DenL]; exact ⟨h', trivial⟩
  case mp => obtain ⟨b, hb, rfl⟩ := h; simp only [Value.cells, DenL]; exact ⟨h', trivial⟩
  case ints => obtain ⟨p, c, rfl, _⟩ := h; simp only [Value.cells, DenL]; exact ⟨h', trivial⟩
  case sl => obtain ⟨p, c, rfl, _⟩ := h; simp only [Value.cells, DenL]; exact ⟨h', trivial⟩
  case ep => obtain ⟨p, c, rfl, _⟩ := h; simp only [Value.cells, DenL]; exact ⟨h', trivial⟩
  case nili => subst h; simp only [Value.cells, DenL]; exact ⟨h', trivial⟩
  case ifc => obtain ⟨y, rfl, _⟩ := h; simp only [Value.cells, DenL]; exact ⟨h', trivial⟩
  case fn => obtain ⟨fs, cs, rfl, _⟩ := h; simp only [Value.cells, DenL]; exact ⟨h', trivial⟩
  case nilf => subst h; simp only [Value.cells, DenL]; exact ⟨h', trivial⟩

theorem leaves_one {E : Env} {x : SV} {l : List SV} {v : Value} (h : Den E x v) (hl : leaves x = some l) : v.cells.toList.length = l.length := denL_length _ _ (denL_leaves h hl)

/-- Parts laid into an aggregate. -/
def placeOf (Γ : Tab) (d : TD) (i : Nat) : Option (Nat × TypeId) :=
  match d with
  | .struct fs => nth fs i
  | .arr _ e => some (i * (Γ e).size, e)
  | _ => none

def evParts (Γ : Tab) (d : TD) : List (Nat × SV) → List SV → Option (List SV × Prop)
  | [], l => some (l, True)
  | (i, x) :: r, l =>
    match placeOf Γ d i with
    | some (off, ft) =>
      match leaves x with
      | some ls =>
        match evParts Γ d r (spl l off ls) with
        | some (m, vc) => some (m, vc ∧ ls.length = (Γ ft).size ∧ off + ls.length ≤ l.length ∧ (Γ ft).d ≠ .none)
        | none => none
      | none => none
    | none => none

theorem spl_length : ∀ (l : List SV) (n : Nat) (ls : List SV), (spl l n ls).length = l.length
  | [], n, ls => by simp [spl]
  | x :: r, n + 1, ls => by simp [spl, spl_length r n ls]
  | x :: r, 0, [] => by simp [spl]
  | x :: r, 0, y :: ys => by simp [spl, spl_length r 0 ys]

/-- Cells laid into cells. -/
def splV : List Value → Nat → List Value → List Value
  | [], _, _ => []
  | x :: r, n + 1, ls => x :: splV r n ls
  | x :: r, 0, [] => x :: r
  | _ :: r, 0, y :: ys => y :: splV r 0 ys

theorem denL_spl {E : Env} : ∀ (l : List SV) (cs : List Value) (n : Nat) (ls : List SV) (vs : List Value), DenL E l cs → DenL E ls vs → DenL E (spl l n ls) (splV cs n vs)
  | [], [], n, ls, vs, _, _ => by simp only [spl, splV, DenL]
  | x :: r, v :: cs, n + 1, ls, vs, h, k => by simp only [spl, splV, DenL] at h ⊢; exact ⟨h.1, denL_spl r cs n ls vs h.2 k⟩
  | x :: r, v :: cs, 0, [], [], h, k => by simpa only [spl, splV] using h
  | x :: r, v :: cs, 0, y :: ys, u :: us, h, k => by simp only [spl, splV, DenL] at h k ⊢; exact ⟨k.1, denL_spl r cs 0 ys us h.2 k.2⟩
  | _, _, _, [], _ :: _, _, k => by simp only [DenL] at k
  | _, _, _, _ :: _, [], _, k => by simp only [DenL] at k
  | [], _ :: _, _, _, _, h, _ => by simp only [DenL] at h
  | _ :: _, [], _, _, _, h, _ => by simp only [DenL] at h

theorem splV_getElem : ∀ (cs : List Value) (n : Nat) (vs : List Value) (j : Nat), (splV cs n vs)[j]? = if n ≤ j ∧ j < n + vs.length ∧ j < cs.length then vs[j - n]? else cs[j]?
  | [], n, vs, j => by simp [splV]
  | x :: r, n + 1, vs, 0 => by simp [splV]
  | x :: r, n + 1, vs, j + 1 => by
    simp only [splV, List.getElem?_cons_succ, splV_getElem r n vs j, List.length_cons]
    have e1 : (n + 1 ≤ j + 1 ∧ j + 1 < n + 1 + vs.length ∧ j + 1 < r.length + 1) ↔ (n ≤ j ∧ j < n + vs.length ∧ j < r.length) := by omega
    simp only [e1, Nat.add_sub_add_right]
  | x :: r, 0, [], j => by
    rw [if_neg (by simp)]
    simp [splV]
  | x :: r, 0, y :: ys, 0 => by simp [splV]
  | x :: r, 0, y :: ys, j + 1 => by
    simp only [splV, List.getElem?_cons_succ, splV_getElem r 0 ys j, List.length_cons]
    have e1 : (0 ≤ j + 1 ∧ j + 1 < 0 + (ys.length + 1) ∧ j + 1 < r.length + 1) ↔ (0 ≤ j ∧ j < 0 + ys.length ∧ j < r.length) := by omega
    simp only [e1]
    simp

theorem foldl_set (vs : List Value) : ∀ (k off : Nat) (cs : Array Value), (List.foldl (fun (cs : Array Value) (p : Value × Nat) => cs.setIfInBounds (off + p.2) p.1) cs (vs.zipIdx k)) = (splV cs.toList (off + k) vs).toArray := by
  induction vs with
  | nil =>
    intro k off cs
    apply Array.ext'
    apply List.ext_getElem?
    intro j
    simp [splV_getElem]
    intro h1 h2 h3
    omega
  | cons v vs ih =>
    intro k off cs
    rw [List.zipIdx_cons, List.foldl_cons, ih]
    apply Array.ext'
    apply List.ext_getElem?
    intro j
    simp only [splV_getElem, Array.toList_setIfInBounds, List.length_set, List.length_cons, List.getElem?_set]
    by_cases h1 : j = off + k
    · subst h1
      rw [if_neg (by omega), if_pos rfl]
      by_cases h : off + k < cs.toList.length
      · rw [if_pos h, if_pos ⟨by omega, by omega, h⟩]; simp
      · rw [if_neg h, if_neg (by omega), List.getElem?_eq_none (by omega)]
    · by_cases h2 : off + (k + 1) ≤ j ∧ j < off + (k + 1) + vs.length ∧ j < cs.toList.length
      · rw [if_pos h2, if_pos (by omega)]
        rw [show j - (off + k) = (j - (off + (k + 1))) + 1 by omega, List.getElem?_cons_succ]
      · rw [if_neg h2, if_neg (by omega), if_neg (by omega)]

theorem evParts_sound {P : Program} {Γ : Tab} (hΓ : Γ.ok P) {E : Env} {d : TD} (place : Nat → Option (Nat × Nat)) (hp : ∀ i off ft, placeOf Γ d i = some (off, ft) → (Γ ft).d ≠ .none → place i = some (off, (Γ ft).size)) :
    ∀ (ps : List (Nat × SV)) (vs : List (Nat × Value)) (l : List SV) (cs : Array Value) (m : List SV) (vc : Prop),
      vs.map (·.1) = ps.map (·.1) → DenL E (ps.map (·.2)) (vs.map (·.2)) → DenL E l cs.toList → evParts Γ d ps l = some (m, vc) → vc →
      ∃ cs' : Array Value, Instr.fill place cs vs = some cs' ∧ DenL E m cs'.toList
  | [], [], l, cs, m, vc, _, _, hl, h, hv => by
    simp only [evParts, Option.some.injEq, Prod.mk.injEq] at h
    obtain ⟨rfl, rfl⟩ := h
    exact ⟨cs, by simp [Instr.fill], hl⟩
  | (i, x) :: r, (i', v) :: vr, l, cs, m, vc, hi, hd, hl, h, hv => by
    simp only [List.map_cons, List.cons.injEq] at hi
    obtain ⟨rfl, hi⟩ := hi
    simp only [List.map_cons, DenL] at hd
    simp only [evParts] at h
    split at h
    · rename_i off ft e1
      split at h
      · rename_i ls e2
        split at h
        · rename_i m' vc' e3
          simp only [Option.some.injEq, Prod.mk.injEq] at h
          obtain ⟨rfl, rfl⟩ := h
          obtain ⟨h1, h2, h3, h4⟩ := hv
          have hlv := denL_leaves hd.1 e2
          have hlen := leaves_one hd.1 e2
          have hlen' : v.cells.size = ls.length := by rw [← hlen]; simp
          have hcs := denL_length _ _ hl
          have hsz : cs.size = l.length := by rw [← hcs]; simp
          obtain ⟨cs', k1, k2⟩ := evParts_sound hΓ place hp r vr (spl l off ls) (splV cs.toList off v.cells.toList).toArray m' vc' hi hd.2 (by
            simpa using denL_spl _ _ off _ _ hl hlv) e3 h1
          refine ⟨cs', ?_, k2⟩
          simp only [Instr.fill, hp _ _ _ e1 h4]
          rw [if_neg (by simp only [Bool.or_eq_true, decide_eq_true_eq, not_or]; exact ⟨by rw [hlen', h2]; simp, by rw [hlen', hsz]; omega⟩)]
          rw [← k1]
          congr 1
          have := foldl_set v.cells.toList 0 off cs
          rw [Nat.add_zero] at this
          rw [← this, ← Array.foldl_toList, Array.toList_zipIdx]
        · cases h
      · cases h
    · cases h
  | [], _ :: _, _, _, _, _, hi, _, _, _, _ => by simp at hi
  | _ :: _, [], _, _, _, _, hi, _, _, _, _ => by simp at hi
end Go.Eng
/- The engine, part MP: maps and type assertions: what they come to. -/
namespace Go.Eng
open Go Go.MapKept
set_option linter.unusedVariables false
set_option linter.unusedSimpArgs false

/-- Is it a key of that type, told by its value? -/
def keyB (d : TD) (x : SV) : Bool :=
  match d, x with
  | .int k, .i k' _ => decide (k = k')
  | .str, .s _ => true
  | _, _ => false
def keysB (d : TD) : List SV → Bool
  | [] => true
  | k :: r => match r with
    | [] => false
    | _ :: r => keyB d k && keysB d r
def keyEq : SV → SV → Bool
  | .i _ a, .i _ b => decide (a = b)
  | .s x, .s y => decide (x = y)
  | _, _ => false
def findE (key : SV) : List SV → Nat → Option (Nat × SV)
  | [], _ => none
  | k :: r, j => match r with
    | [] => none
    | v :: r => if keyEq key k then some (j, v) else findE key r (j + 1)
def keyVal : SV → Value
  | .i k n => .int k n
  | .s x => .string x
  | _ => undef
theorem keyB_den {E : Env} {P : Program} {d : TD} {kt : TypeId} {desc : TypeDesc} (hd : d.ok (P.underlying kt)) (hu : P.underlying kt = some desc) {x : SV} {v : Value} (h : keyB d x = true) (hv : Den E x v) : IsKey desc v ∧ v = keyVal x := by
  unfold keyB at h
  split at h
  · simp only [decide_eq_true_eq] at h
    subst h
    simp only [TD.ok] at hd
    rw [hu] at hd
    injection hd with hd
    subst hd
    simp only [Den] at hv
    subst hv
    exact ⟨by simp [IsKey], rfl⟩
  · simp only [TD.ok] at hd
    rw [hu] at hd
    injection hd with hd
    subst hd
    simp only [Den] at hv
    subst hv
    exact ⟨by simp [IsKey], rfl⟩
  · cases h
theorem keyEq_iff {d : TD} {x y : SV} (hx : keyB d x = true) (hy : keyB d y = true) : keyEq x y = true ↔ keyVal x = keyVal y := by
  unfold keyB at hx
  split at hx
  · unfold keyB at hy
    split at hy
    · rename_i k k1 n e1 k2 k3 m e2
      injection e2 with e2
      subst e2
      simp only [decide_eq_true_eq] at hx hy
      subst hx
      subst hy
      simp [keyEq, keyVal]
    · rename_i e1; cases e1
    · cases hy
  · unfold keyB at hy
    split at hy
    · rename_i e1; cases e1
    · simp [keyEq, keyVal]
    · cases hy
  · cases hx
theorem keyB_some {P : Program} {d : TD} {kt : TypeId} {x : SV} (hd : d.ok (P.underlying kt)) (h : keyB d x = true) : ∃ desc, P.underlying kt = some desc := by
  unfold keyB at h
  split at h
  · exact ⟨_, hd⟩
  · exact ⟨_, hd⟩
  · cases h

/-- The entries' values. -/
theorem ents_keys {E : Env} {P : Program} {d : TD} {kt : TypeId} {desc : TypeDesc} (hd : d.ok (P.underlying kt)) (hu : P.underlying kt = some desc) : ∀ (l : List SV) (cs : List Value) (i : Nat), DenL E l cs → keysB d l = true → ∀ x ∈ entsOf cs i, IsKey desc x.key
  | [], [], i, _, _, x, hx => by simp [entsOf] at hx
  | k :: v :: r, a :: b :: cs, i, hl, hk, x, hx => by
    simp only [DenL] at hl
    simp only [keysB, Bool.and_eq_true] at hk
    simp only [entsOf, List.mem_cons] at hx
    rcases hx with rfl | hx
    · exact (keyB_den hd hu hk.1 hl.1).1
    · exact ents_keys hd hu r cs (i + 1) hl.2.2 hk.2 x hx
  | [k], [a], i, _, hk, x, hx => by simp [keysB] at hk
  | [], _ :: _, _, hl, _, _, _ => by simp only [DenL] at hl
  | _ :: _, [], _, hl, _, _, _ => by simp only [DenL] at hl
  | [_], _ :: _ :: _, _, hl, _, _, _ => by simp only [DenL] at hl; exact hl.2.elim
  | _ :: _ :: _, [_], _, hl, _, _, _ => by simp only [DenL] at hl; exact hl.2.elim
theorem findNow_ents {E : Env} {P : Program} {d : TD} {kt : TypeId} {desc : TypeDesc} (hd : d.ok (P.underlying kt)) (hu : P.underlying kt = some desc) {key : SV} {kv : Value} (hk : keyB d key = true) (hkv : Den E key kv) : ∀ (l : List SV) (cs : List Value) (i j : Nat), DenL E l cs → keysB d l = true →
    (findE key l j = none ∧ Instr.findNow desc kv (entsOf cs i) j = some none) ∨ ∃ m x v, findE key l j = some (j + m, x) ∧ Instr.findNow desc kv (entsOf cs i) j = some (some (j + m, v)) ∧ Den E x v ∧ l[2 * m + 1]? = some x ∧ cs[2 * m + 1]? = some v ∧ cs[2 * m]? = some kv ∧ 2 * m + 1 < l.length
  | [], [], i, j, _, _ => .inl ⟨rfl, rfl⟩
  | k :: v :: r, a :: b :: cs, i, j, hl, hks => by
    simp only [DenL] at hl
    simp only [keysB, Bool.and_eq_true] at hks
    have h1 := keyB_den hd hu hk hkv
    have h2 := keyB_den hd hu hks.1 hl.1
    obtain ⟨r0, q1, q2⟩ := sameNow_of_keys h1.1 h2.1
    by_cases he : keyEq key k = true
    · have e := (keyEq_iff hk hks.1).1 he
      have : r0 = true := q2.2 (by rw [h1.2, h2.2, e])
      subst this
      refine .inr ⟨0, v, b, by simp [findE, he], by simp [entsOf, Instr.findNow, q1], hl.2.1, by simp, by simp, by simp [h1.2, h2.2, e], by simp⟩
    · have : r0 = false := by
        cases r0 with
        | false => rfl
        | true => exact absurd ((keyEq_iff hk hks.1).2 (by rw [← h1.2, ← h2.2]; exact q2.1 rfl)) he
      subst this
      rcases findNow_ents hd hu hk hkv r cs (i + 1) (j + 1) hl.2.2 hks.2 with ⟨p1, p2⟩ | ⟨m, x, u, p1, p2, p3, p4, p5, p6, p7⟩
      · exact .inl ⟨by simp [findE, he, p1], by simp [entsOf, Instr.findNow, q1, p2]⟩
      · refine .inr ⟨m + 1, x, u, by simp [findE, he, p1]; omega, by simp [entsOf, Instr.findNow, q1, p2]; omega, p3, ?_, ?_, ?_, by simp; omega⟩
        · rw [show 2 * (m + 1) + 1 = 2 * m + 1 + 1 + 1 by omega]; simpa using p4
        · rw [show 2 * (m + 1) + 1 = 2 * m + 1 + 1 + 1 by omega]; simpa using p5
        · rw [show 2 * (m + 1) = 2 * m + 1 + 1 by omega]; simpa using p6
  | [k], [a], i, j, _, hk => by simp [keysB] at hk
  | [], _ :: _, _, _, hl, _ => by simp only [DenL] at hl
  | _ :: _, [], _, _, hl, _ => by simp only [DenL] at hl
  | [_], _ :: _ :: _, _, _, hl, _ => by simp only [DenL] at hl; exact hl.2.elim
  | _ :: _ :: _, [_], _, _, hl, _ => by simp only [DenL] at hl; exact hl.2.elim

def oneZ : List Value → Option SV
  | [z] => some (ofLeaf z)
  | _ => none
def evLookup (Γ : Tab) (st : SS) (g : Bool) (t : TypeId) (x i : Operand) (ok : Bool) : Option (SV × Prop) :=
  match opd st x, (Γ t).d with
  | .mp n, .map kt et =>
    match hfind st.hp n with
    | some (T, l) =>
      match findE (opd st i) l 0, oneZ (Γ et).zero with
      | some (_, y), _ => match ok with
        | true => some (.tup [y, .b true], ovc st g x ∧ ovc st g i ∧ T = 1000000 ∧ keyB (Γ kt).d (opd st i) = true ∧ keysB (Γ kt).d l = true)
        | false => some (y, ovc st g x ∧ ovc st g i ∧ T = 1000000 ∧ keyB (Γ kt).d (opd st i) = true ∧ keysB (Γ kt).d l = true)
      | none, some z => match ok with
        | true => some (.tup [z, .b false], ovc st g x ∧ ovc st g i ∧ T = 1000000 ∧ keyB (Γ kt).d (opd st i) = true ∧ keysB (Γ kt).d l = true ∧ (Γ et).d.plain = true)
        | false => some (z, ovc st g x ∧ ovc st g i ∧ T = 1000000 ∧ keyB (Γ kt).d (opd st i) = true ∧ keysB (Γ kt).d l = true ∧ (Γ et).d.plain = true)
      | none, none => none
    | none => none
  | _, _ => none
theorem den_pair {E : Env} {x : SV} {v : Value} {b : Bool} (h : Den E x v) : Den E (.tup [x, .b b]) (.tuple #[v, .bool b]) := by
  rw [Den]
  exact ⟨[v, .bool b], rfl, by simp only [DenL, Den]; exact ⟨h, trivial, trivial⟩⟩
theorem zero_one {P : Program} {Γ : Tab} (hΓ : Γ.ok P) {et : TypeId} {z : SV} (h1 : oneZ (Γ et).zero = some z) (h2 : (Γ et).d.plain = true) (E : Env) (w : World) : ∃ v, (zeroValue et).run P w = .ok v w ∧ Den E z v := by
  have hne : (Γ et).d ≠ .none := by intro e; rw [e] at h2; cases h2
  obtain ⟨i, zv, hi, his, hib, hiz, hzc⟩ := Tab.info hΓ et hne
  unfold oneZ at h1
  split at h1
  · rename_i y e
    simp only [Option.some.injEq] at h1
    subst h1
    rw [e] at hzc
    have hl := (hΓ et).lz h2 i zv hi hiz
    refine ⟨zv, by simp [zeroValue, typeInfo, hi, hiz], ?_⟩
    have hnag : zv = y := by
      cases zv <;> simp [Value.cells] at hzc <;> try exact hzc
      rename_i cs
      exact absurd rfl (hl cs)
    rw [hnag]
    have := denL_ofLeaf E [y]
    simpa only [List.map_cons, List.map_nil, DenL, and_true] using this
  · cases h1
theorem evLookup_sound {P : Program} {Γ : Tab} (hΓ : Γ.ok P) {E : Env} {st : SS} {a : Act} {w : World} {g : Bool} (hf : Fr E st a) (hw : Good E st w) (hg : g = true) {t : TypeId} {x i : Operand} {ok : Bool} {r : SV} {vc : Prop}
    (h : evLookup Γ st g t x i ok = some (r, vc)) (hv : vc) : ∃ v, (Instr.lookup t (a.eval x) (a.eval i) ok).run P w = .ok v w ∧ Den E r v := by
  unfold evLookup at h
  split at h
  case h_2 => cases h
  rename_i n kt et e1 e2
  split at h
  case h_2 => cases h
  rename_i T l e3
  have hm := (hΓ t).und
  rw [e2] at hm
  simp only [TD.ok] at hm
  have main : ovc st g x → ovc st g i → T = 1000000 → keyB (Γ kt).d (opd st i) = true → keysB (Γ kt).d l = true →
      ∃ b cs desc, a.eval x = .map (some b) ∧ w.heap[b]? = some (.map (entsOf cs 0).toArray (cs.length / 2)) ∧ DenL E l cs ∧ P.underlying kt = some desc ∧ IsKey desc (a.eval i) := by
    intro h1 h2 h3 h4 h5
    subst h3
    have hx := opd_den hf hg h1
    rw [e1] at hx
    simp only [Den] at hx
    obtain ⟨b, hb, ex⟩ := hx
    obtain ⟨κ, hk⟩ := hw.own
    obtain ⟨b', cs, hb', hblk, hden, -, -⟩ := hk.hp _ _ _ e3
    rw [hb] at hb'
    injection hb' with hb'
    subst hb'
    obtain ⟨desc, hu⟩ := keyB_some (hΓ kt).und h4
    rw [objOf_map] at hblk
    exact ⟨b, cs.toList, desc, ex, by simpa using hblk, hden, hu, (keyB_den (hΓ kt).und hu h4 (opd_den hf hg h2)).1⟩
  split at h
  · rename_i m y e4
    have key : (ovc st g x ∧ ovc st g i ∧ T = 1000000 ∧ keyB (Γ kt).d (opd st i) = true ∧ keysB (Γ kt).d l = true) → ∃ v, (∀ ok : Bool, (Instr.lookup t (a.eval x) (a.eval i) ok).run P w = .ok (if ok then .tuple #[v, .bool true] else v) w) ∧ Den E y v := by
      rintro ⟨h1, h2, h3, h4, h5⟩
      obtain ⟨b, cs, desc, q1, q2, q3, q4, q5⟩ := main h1 h2 h3 h4 h5
      rcases findNow_ents (hΓ kt).und q4 h4 (opd_den hf hg h2) l cs 0 0 q3 h5 with ⟨p1, p2⟩ | ⟨m, x', v, p1, p2, p3, _⟩
      · rw [e4] at p1; cases p1
      · rw [e4] at p1
        simp only [Option.some.injEq, Prod.mk.injEq] at p1
        obtain ⟨-, rfl⟩ := p1
        refine ⟨v, fun ok => ?_, p3⟩
        rw [q1]
        simp [Instr.lookup, run_underlying hm, Go.MapKept.run_getObj_map q2, Go.MapKept.run_checkKey q4 q5, Go.MapKept.run_findKey q4 p2, Result.andThen]
    split at h <;> simp only [Option.some.injEq, Prod.mk.injEq] at h <;> obtain ⟨rfl, rfl⟩ := h
    · obtain ⟨v, k1, k2⟩ := key hv
      exact ⟨_, k1 true, den_pair k2⟩
    · obtain ⟨v, k1, k2⟩ := key hv
      exact ⟨_, k1 false, k2⟩
  · rename_i z e4 e5
    have key : (ovc st g x ∧ ovc st g i ∧ T = 1000000 ∧ keyB (Γ kt).d (opd st i) = true ∧ keysB (Γ kt).d l = true ∧ (Γ et).d.plain = true) → ∃ v, (∀ ok : Bool, (Instr.lookup t (a.eval x) (a.eval i) ok).run P w = .ok (if ok then .tuple #[v, .bool false] else v) w) ∧ Den E z v := by
      rintro ⟨h1, h2, h3, h4, h5, h6⟩
      obtain ⟨b, cs, desc, q1, q2, q3, q4, q5⟩ := main h1 h2 h3 h4 h5
      obtain ⟨v, z1, z2⟩ := zero_one hΓ e5 h6 E w
      rcases findNow_ents (hΓ kt).und q4 h4 (opd_den hf hg h2) l cs 0 0 q3 h5 with ⟨p1, p2⟩ | ⟨m, x', v, p1, p2, p3, _⟩
      · refine ⟨v, fun ok => ?_, z2⟩
        rw [q1]
        simp [Instr.lookup, run_underlying hm, Go.MapKept.run_getObj_map q2, Go.MapKept.run_checkKey q4 q5, Go.MapKept.run_findKey q4 p2, z1, Result.andThen]
      · rw [e4] at p1; cases p1
    split at h <;> simp only [Option.some.injEq, Prod.mk.injEq] at h <;> obtain ⟨rfl, rfl⟩ := h
    · obtain ⟨v, k1, k2⟩ := key hv
      exact ⟨_, k1 true, den_pair k2⟩
    · obtain ⟨v, k1, k2⟩ := key hv
      exact ⟨_, k1 false, k2⟩
  · cases h

/-- The number of a map's entries. -/
def pairsN : List SV → Nat
  | [] => 0
  | _ :: r => match r with
    | [] => 0
    | _ :: r => pairsN r + 1
def evLenM (st : SS) (g : Bool) (x : Operand) : Option (SV × Prop) :=
  match opd st x with
  | .mp n => match hfind st.hp n with
    | some (T, l) => some (.i .i64 ((pairsN l : Nat) : Int), ovc st g x ∧ T = 1000000)
    | none => none
  | _ => none
theorem evLenM_sound {P : Program} {Γ : Tab} (hΓ : Γ.ok P) {E : Env} {st : SS} {a : Act} {w : World} {g : Bool} (hf : Fr E st a) (hw : Good E st w) (hg : g = true) {t ty : TypeId} {x : Operand} {r : SV} {vc : Prop} {kt et : TypeId} (hd : (Γ t).d = .map kt et)
    (h : evLenM st g x = some (r, vc)) (hv : vc) : ∃ v, (Builtin.len_ #[t] ty #[a.eval x]).run P w = .ok v w ∧ Den E r v := by
  unfold evLenM at h
  split at h
  case h_2 => cases h
  rename_i n e1
  split at h
  case h_2 => cases h
  rename_i T l e3
  simp only [Option.some.injEq, Prod.mk.injEq] at h
  obtain ⟨rfl, rfl⟩ := h
  obtain ⟨h1, rfl⟩ := hv
  have hm := (hΓ t).und
  rw [hd] at hm
  simp only [TD.ok] at hm
  have hx := opd_den hf hg h1
  rw [e1] at hx
  simp only [Den] at hx
  obtain ⟨b, hb, ex⟩ := hx
  obtain ⟨κ, hk⟩ := hw.own
  obtain ⟨b', cs, hb', hblk, hden, -, -⟩ := hk.hp _ _ _ e3
  rw [hb] at hb'
  injection hb' with hb'
  subst hb'
  rw [objOf_map] at hblk
  have hn : ∀ (l : List SV) (cs : List Value) (i : Nat), DenL E l cs → (entsOf cs i).length = pairsN l := by
    intro l
    induction l using pairsN.induct with
    | case1 => intro cs i hl; cases cs with
      | nil => rfl
      | cons _ _ => simp only [DenL] at hl
    | case2 x => intro cs i hl; match cs, hl with
      | [c], _ => rfl
      | [], hl => simp only [DenL] at hl
      | _ :: _ :: _, hl => simp only [DenL] at hl; exact hl.2.elim
    | case3 x y r ih => intro cs i hl; match cs, hl with
      | [], hl => simp only [DenL] at hl
      | [_], hl => simp only [DenL] at hl; exact hl.2.elim
      | _ :: _ :: cs, hl =>
        simp only [DenL] at hl
        simp only [entsOf, List.length_cons, pairsN]
        rw [ih cs (i + 1) hl.2.2]
  rw [ex]
  refine ⟨.int .i64 ((pairsN l : Nat) : Int), ?_, by simp only [Den]⟩
  rw [← hn l cs.toList 0 hden]
  simp [Builtin.len_, run_underlying hm, Go.MapKept.run_getObj_map hblk, goInt, Result.andThen]

/-- Is a value of an interface of that very type? -/
def evAssert (Γ : Tab) (t : TypeId) (x : SV) (ok : Bool) : Option (SV × Prop) :=
  match (Γ t).d, x with
  | .iface, _ => none
  | .none, _ => none
  | _, .ifc t' y =>
    match decide (t' = t), ok with
    | true, true => some (.tup [y, .b true], True)
    | true, false => some (y, True)
    | false, true =>
      match (Γ t).d.plain, oneZ (Γ t).zero with
      | true, some z => some (.tup [z, .b false], True)
      | _, _ => match (Γ t).d.lay with
        | true => some (.tup [.agg ((Γ t).zero.map ofLeaf), .b false], True)
        | false => none
    | false, false => none
  | _, _ => none
theorem evAssert_sound {P : Program} {Γ : Tab} (hΓ : Γ.ok P) {E : Env} {w : World} {t xt : TypeId} {x : SV} {vx : Value} {ok : Bool} {r : SV} {vc : Prop} (h : evAssert Γ t x ok = some (r, vc)) (hv : vc) (hx : Den E x vx) : ∃ v, (Instr.typeAssert vx xt t ok).run P w = .ok v w ∧ Den E r v := by
  unfold evAssert at h
  split at h
  · cases h
  · cases h
  · rename_i t' y hni hnn
    have hne : (Γ t).d ≠ .none := fun e => hnn e
    have hni' : (Γ t).d ≠ .iface := fun e => hni e
    simp only [Den] at hx
    obtain ⟨vy, rfl, hy⟩ := hx
    obtain ⟨i, zv, hi, his, hib, hiz, hzc⟩ := Tab.info hΓ t hne
    have hd := (hΓ t).und
    have hund : ∃ desc, P.underlying t = some desc ∧ ∀ ms, desc ≠ .interface ms := by
      cases hd' : (Γ t).d <;> rw [hd'] at hd hne hni' <;> simp only [TD.ok] at hd
      · exact absurd rfl hne
      case iface => exact absurd rfl hni'
      case struct => obtain ⟨f, hd, _⟩ := hd; exact ⟨_, hd, fun ms e => by cases e⟩
      case func => obtain ⟨f, g, h, hd⟩ := hd; exact ⟨_, hd, fun ms e => by cases e⟩
      all_goals exact ⟨_, hd, fun ms e => by cases e⟩
    obtain ⟨desc, hu, hdi⟩ := hund
    have run : (Instr.typeAssert (.iface t' vy) xt t ok).run P w = (if t' = t then (.ok (if ok then .tuple #[vy, .bool true] else vy) w : Result Value) else (if ok then (.ok (.tuple #[zv, .bool false]) w : Result Value) else (Instr.typeAssert (.iface t' vy) xt t ok).run P w)) := by
      split
      · rename_i e
        subst e
        cases desc <;> first | exact absurd rfl (hdi _) | (simp [Instr.typeAssert, run_underlying hu, Result.andThen])
      · rename_i e
        split
        · rename_i e2
          subst e2
          cases desc <;> first | exact absurd rfl (hdi _) | (simp [Instr.typeAssert, run_underlying hu, Result.andThen, e, zeroValue, typeInfo, hi, hiz])
        · rfl
    rw [run]
    split at h <;> rename_i e1
    · simp only [Option.some.injEq, Prod.mk.injEq] at h
      obtain ⟨rfl, rfl⟩ := h
      simp only [decide_eq_true_eq] at e1
      rw [if_pos e1]
      exact ⟨_, rfl, den_pair hy⟩
    · simp only [Option.some.injEq, Prod.mk.injEq] at h
      obtain ⟨rfl, rfl⟩ := h
      simp only [decide_eq_true_eq] at e1
      rw [if_pos e1]
      exact ⟨_, rfl, hy⟩
    · simp only [decide_eq_false_iff_not] at e1
      rw [if_neg e1]
      split at h
      · rename_i z e2 e3
        simp only [Option.some.injEq, Prod.mk.injEq] at h
        obtain ⟨rfl, rfl⟩ := h
        obtain ⟨v, k1, k2⟩ := zero_one hΓ e3 e2 E w
        have : v = zv := by
          have k3 : (zeroValue t).run P w = .ok zv w := by simp [zeroValue, typeInfo, hi, hiz]
          rw [k3] at k1
          injection k1 with k1
          exact k1.symm
        subst this
        exact ⟨_, rfl, den_pair k2⟩
      · split at h
        · rename_i hlay
          simp only [Option.some.injEq, Prod.mk.injEq] at h
          obtain ⟨rfl, rfl⟩ := h
          obtain ⟨cs, rfl⟩ := (hΓ t).az hlay i zv hi hiz
          refine ⟨_, rfl, den_pair ?_⟩
          simp only [Den]
          exact ⟨cs.toList, by simp, by rw [← hzc]; exact denL_ofLeaf E _⟩
        · cases h
    · cases h
  · cases h
end Go.Eng
/- The engine, part H: all operations that leave the world alone, in one. -/
namespace Go.Eng
open Go
set_option linter.unusedVariables false
set_option linter.unusedSimpArgs false

def allT (Γ : Tab) : List (Nat × TypeId) → Prop
  | [] => True
  | (_, t) :: r => (Γ t).d ≠ .none ∧ allT Γ r
def tdT (Γ : Tab) : TD → Prop
  | .struct fs => allT Γ fs
  | .arr _ e => (Γ e).d ≠ .none
  | _ => False

theorem allT_mem {Γ : Tab} : ∀ {l : List (Nat × TypeId)}, allT Γ l → ∀ p, p ∈ l → (Γ p.2).d ≠ .none
  | [], _, p, h => by simp at h
  | (o, t) :: r, h, p, hp => by
    simp only [allT] at h
    rcases List.mem_cons.1 hp with rfl | hp
    · exact h.1
    · exact allT_mem h.2 p hp

theorem run_mapM_list {α β : Type} {P : Program} {w : World} (f : α → Sem β) (g : α → β) : ∀ (l : List α), (∀ x, x ∈ l → (f x).run P w = .ok (g x) w) → (l.mapM f).run P w = .ok (l.map g) w
  | [], _ => by simp
  | x :: r, h => by
    rw [List.mapM_cons]
    simp [h x (by simp), run_mapM_list f g r (fun y hy => h y (by simp [hy]))]

theorem run_mapM_arr {α β : Type} {P : Program} {w : World} (f : α → Sem β) (g : α → β) (l : Array α) (h : ∀ x, x ∈ l.toList → (f x).run P w = .ok (g x) w) : (l.mapM f).run P w = .ok (l.map g) w := by
  rw [Array.mapM_eq_mapM_toList]
  simp [run_mapM_list f g l.toList h]
  apply Array.ext'; simp

def evBuild (Γ : Tab) (st : SS) (g : Bool) (t : TypeId) (parts : List (Nat × Operand)) : Option (SV × Prop) :=
  match evParts Γ (Γ t).d (parts.map fun p => (p.1, opd st p.2)) ((Γ t).zero.map ofLeaf) with
  | some (m, vc) => some (.agg m, vc ∧ ovcL st g (parts.map (·.2)) ∧ tdT Γ (Γ t).d)
  | none => none

theorem evBuild_sound {P : Program} {Γ : Tab} (hΓ : Γ.ok P) {E : Env} {st : SS} {a : Act} {w : World} {g : Bool} (hf : Fr E st a) (hg : g = true) {t : TypeId} {parts : Array (Nat × Operand)} {r : SV} {vc : Prop}
    (h : evBuild Γ st g t parts.toList = some (r, vc)) (hv : vc) : ∃ v, (Instr.build t (parts.map fun (i, x) => (i, a.eval x))).run P w = .ok v w ∧ Den E r v := by
  unfold evBuild at h
  split at h
  · rename_i m vc' e1
    simp only [Option.some.injEq, Prod.mk.injEq] at h
    obtain ⟨rfl, rfl⟩ := h
    obtain ⟨h1, h2, h3⟩ := hv
    have hn : (Γ t).d ≠ .none := by intro e; rw [e] at h3; exact h3
    obtain ⟨i, z, hi, hs, -, hz, hzc⟩ := Tab.info hΓ _ hn
    have hd := (hΓ t).und
    have hden := denL_ops hf hg _ h2
    have hzero : (zeroValue t).run P w = .ok z w := by simp [zeroValue, typeInfo, hi, hz]
    have hparts : (parts.map fun (p : Nat × Operand) => (p.1, a.eval p.2)).toList = parts.toList.map fun p => (p.1, a.eval p.2) := by simp
    have key : ∀ place : Nat → Option (Nat × Nat), (∀ i off ft, placeOf Γ (Γ t).d i = some (off, ft) → (Γ ft).d ≠ .none → place i = some (off, (Γ ft).size)) →
        ∃ cs', Instr.fill place z.cells (parts.toList.map fun p => (p.1, a.eval p.2)) = some cs' ∧ DenL E m cs'.toList := by
      intro place hp
      exact evParts_sound hΓ place hp _ _ _ z.cells m vc' (by simp [Function.comp_def]) (by simpa [Function.comp_def] using hden) (by rw [hzc]; exact denL_ofLeaf E _) e1 h1
    cases hd' : (Γ t).d with
    | struct fs =>
      rw [hd'] at hd h3
      simp only [tdT] at h3
      obtain ⟨fields, hd, hfs⟩ := hd
      have hmap := run_mapM_arr (P := P) (w := w) (fun f : Field => do pure (f.offset, ← sizeOf f.type)) (fun f => (f.offset, (Γ f.type).size)) fields (fun f hf => by
        have hn' : (Γ f.type).d ≠ .none := by
          have : (f.offset, f.type) ∈ fs := by rw [← hfs]; exact List.mem_map_of_mem hf
          exact allT_mem h3 _ this
        obtain ⟨i', z', hi', hs', -⟩ := Tab.info hΓ _ hn'
        simp [run_sizeOf' hi', hs'])
      obtain ⟨cs', k1, k2⟩ := key (fun i => ((fields.map fun f => (f.offset, (Γ f.type).size))[i]?)) (fun i off ft hpl hne => by
        rw [hd'] at hpl
        simp only [placeOf, nth_eq] at hpl
        rw [← hfs] at hpl
        simp only [List.getElem?_map, Option.map_eq_some_iff, Prod.mk.injEq] at hpl
        obtain ⟨fd, h5, rfl, rfl⟩ := hpl
        have : fields[i]? = some fd := by simpa using h5
        simp [this])
      refine ⟨.agg cs', ?_, by simp only [Den]; exact ⟨cs'.toList, by simp, k2⟩⟩
      simp only [Instr.build, Sem.run_bind, hzero, Result.andThen_ok, run_underlying hd, hmap]
      rw [hparts, k1]
      rfl
    | arr n e =>
      rw [hd'] at hd h3
      simp only [tdT] at h3
      simp only [TD.ok] at hd
      obtain ⟨i', z', hi', hs', -⟩ := Tab.info hΓ _ h3
      obtain ⟨cs', k1, k2⟩ := key (fun i => some (i * (Γ e).size, (Γ e).size)) (fun i off ft hpl hne => by
        rw [hd'] at hpl
        simp only [placeOf, Option.some.injEq, Prod.mk.injEq] at hpl
        obtain ⟨rfl, rfl⟩ := hpl
        rfl)
      refine ⟨.agg cs', ?_, by simp only [Den]; exact ⟨cs'.toList, by simp, k2⟩⟩
      simp only [Instr.build, Sem.run_bind, hzero, Result.andThen_ok, run_underlying hd, run_sizeOf' hi', hs']
      rw [hparts, k1]
      rfl
    | _ => rw [hd'] at h3; exact h3.elim
  · cases h

/-- What an operation that leaves the world alone comes to. -/
def evalP (P : Program) (Γ : Tab) (st : SS) (g : Bool) (o : Op) : Option (SV × Prop) :=
  match o with
  | .move x => some (opd st x, ovc st g x)
  | .assign x => some (opd st x, ovc st g x)
  | .pick c x y => evPick st g c x y
  | .nilCheck x => evNil P st g x
  | .fieldAddr t x f => evField Γ st g t x f
  | .indexAddr t x i => evIndexAddr Γ st g t x i
  | .load t x => evLoad Γ st g t x
  | .binOp op t x y _ =>
    match bin (Γ t).d (isC x || isC y) op (opd st x) (opd st y) with
    | some (r, vc) => some (r, vc ∧ ovc st g x ∧ ovc st g y)
    | none => none
  | .unOp op _ x =>
    match evUn op (opd st x) with
    | some r => some (r, ovc st g x)
    | none => none
  | .convert s d x =>
    match evConv Γ s d (opd st x) with
    | some (r, vc) => some (r, vc ∧ ovc st g x)
    | none => none
  | .makeInterface t x => some (.ifc t (opd st x), ovc st g x ∧ (Γ t).d ≠ .none ∧ (Γ t).d ≠ .iface)
  | .makeFunc f first cap => some (.fn f (first.toList.map (opd st)) (cap.toList.map (opd st)), ovcL st g first.toList ∧ ovcL st g cap.toList)
  | .extract x n =>
    match opd st x with
    | .tup l => match nth l n with
      | some r => some (r, ovc st g x)
      | none => none
    | _ => none
  | .field t x f =>
    match evFieldV Γ t (opd st x) f with
    | some (r, vc) => some (r, vc ∧ ovc st g x)
    | none => none
  | .index t x i =>
    match evIndex Γ t (opd st x) (opd st i) with
    | some (r, vc) => some (r, vc ∧ ovc st g x ∧ ovc st g i)
    | none => none
  | .slice t x lo hi mx =>
    match mx with
    | none => match evSlice Γ t (opd st x) (lo.map (opd st)) (hi.map (opd st)) with
      | some (r, vc) => some (r, vc ∧ ovc st g x ∧ ovcL st g lo.toList ∧ ovcL st g hi.toList)
      | none => none
    | some _ => none
  | .build t parts => evBuild Γ st g t parts.toList
  | .lookup t x i ok => evLookup Γ st g t x i ok
  | .typeAssert x _ t ok =>
    match evAssert Γ t (opd st x) ok with
    | some (r, vc) => some (r, vc ∧ ovc st g x)
    | none => none
  | .call c =>
    match c.callee with
    | .builtin b => match evBuiltin Γ b c.argTypes.toList (c.args.toList.map (opd st)) with
      | some (r, vc) => some (r, vc ∧ ovcL st g c.args.toList)
      | none => none
    | _ => none
  | _ => none

theorem evalP_sound {P : Program} {Γ : Tab} (hΓ : Γ.ok P) {E : Env} {st : SS} {a : Act} {w : World} {g : Bool} (hf : Fr E st a) (hw : Good E st w) (hg : g = true) {o : Oper} {r : SV} {vc : Prop}
    (h : evalP P Γ st g o.op = some (r, vc)) (hv : vc) : ∃ v, (execOp a.eval o).run P w = .ok (.value v) w ∧ Den E r v := by
  have fin : ∀ {s : Sem Value} {v : Value}, s.run P w = .ok v w → ((do pure (Next.value (← s)) : Sem Next)).run P w = .ok (.value v) w := fun h => by simp [h]
  cases ho : o.op <;> rw [ho] at h <;> simp only [evalP, reduceCtorEq] at h
  case move x =>
    simp only [Option.some.injEq, Prod.mk.injEq] at h
    obtain ⟨rfl, rfl⟩ := h
    exact ⟨a.eval x, by simp [execOp, ho], opd_den hf hg hv⟩
  case assign x =>
    simp only [Option.some.injEq, Prod.mk.injEq] at h
    obtain ⟨rfl, rfl⟩ := h
    exact ⟨a.eval x, by simp [execOp, ho], opd_den hf hg hv⟩
  case pick c x y =>
    obtain ⟨v, h1, h2⟩ := evPick_sound (P := P) (w := w) hf hg h hv
    refine ⟨v, ?_, h2⟩
    have := fin h1
    simp only [execOp, ho]
    simpa using this
  case nilCheck x => exact evNil_sound hf hg o ho h hv
  case fieldAddr t x f =>
    obtain ⟨v, h1, h2⟩ := evField_sound (w := w) hΓ hf hg h hv
    exact ⟨v, by simp only [execOp, ho]; exact fin h1, h2⟩
  case indexAddr t x i =>
    obtain ⟨v, h1, h2⟩ := evIndexAddr_sound (w := w) hΓ hf hg h hv
    exact ⟨v, by simp only [execOp, ho]; exact fin h1, h2⟩
  case load t x =>
    obtain ⟨v, h1, h2⟩ := evLoad_sound hΓ hf hw hg h hv
    exact ⟨v, by simp only [execOp, ho]; exact fin h1, h2⟩
  case binOp op t x y ty =>
    split at h
    · rename_i r' vc' e1
      simp only [Option.some.injEq, Prod.mk.injEq] at h
      obtain ⟨rfl, rfl⟩ := h
      obtain ⟨v, h1, h2⟩ := bin_sound P w op t (Γ t).d (hΓ t).und x y _ _ E _ _ _ _ (opd_den hf hg hv.2.1) (opd_den hf hg hv.2.2) e1 hv.1
      exact ⟨v, by simp only [execOp, ho]; exact fin h1, h2⟩
    · cases h
  case unOp op t x =>
    split at h
    · rename_i r' e1
      simp only [Option.some.injEq, Prod.mk.injEq] at h
      obtain ⟨rfl, rfl⟩ := h
      obtain ⟨v, h1, h2⟩ := evUn_sound (P := P) (w := w) e1 (opd_den hf hg hv)
      exact ⟨v, by simp only [execOp, ho]; exact fin h1, h2⟩
    · cases h
  case convert s d x =>
    split at h
    · rename_i r' vc' e1
      simp only [Option.some.injEq, Prod.mk.injEq] at h
      obtain ⟨rfl, rfl⟩ := h
      obtain ⟨v, h1, h2⟩ := evConv_sound hΓ hw e1 hv.1 (opd_den hf hg hv.2)
      exact ⟨v, by simp only [execOp, ho]; exact fin h1, h2⟩
    · cases h
  case makeInterface t x =>
    simp only [Option.some.injEq, Prod.mk.injEq] at h
    obtain ⟨rfl, rfl⟩ := h
    obtain ⟨h1, h2, h3⟩ := hv
    refine ⟨.iface t (a.eval x), ?_, by simp only [Den]; exact ⟨_, rfl, opd_den hf hg h1⟩⟩
    have hd := (hΓ t).und
    have : (Instr.makeInterface t (a.eval x)).run P w = .ok (.iface t (a.eval x)) w := by
      cases hd' : (Γ t).d <;> rw [hd'] at hd h2 h3 <;> simp only [TD.ok] at hd
      · exact absurd rfl h2
      case iface => exact absurd rfl h3
      case struct => obtain ⟨f, hd, _⟩ := hd; simp [Instr.makeInterface, run_underlying hd]
      case func => obtain ⟨f, g, h, hd⟩ := hd; simp [Instr.makeInterface, run_underlying hd]
      all_goals simp [Instr.makeInterface, run_underlying hd]
    simp only [execOp, ho]; exact fin this
  case makeFunc f first cap =>
    simp only [Option.some.injEq, Prod.mk.injEq] at h
    obtain ⟨rfl, rfl⟩ := h
    refine ⟨.func f (first.map a.eval) (cap.map a.eval), ?_, ?_⟩
    · simp [execOp, ho, Instr.makeFunc]
    · simp only [Den]
      exact ⟨_, _, by congr 1 <;> (apply Array.ext'; simp), denL_ops hf hg _ hv.1, denL_ops hf hg _ hv.2⟩
  case extract x n =>
    split at h
    · rename_i l e1
      split at h
      · rename_i r' e2
        simp only [Option.some.injEq, Prod.mk.injEq] at h
        obtain ⟨rfl, rfl⟩ := h
        have hd := opd_den hf hg hv
        rw [e1] at hd
        simp only [Den] at hd
        obtain ⟨cs, e, hd⟩ := hd
        rw [nth_eq] at e2
        obtain ⟨v, h1, h2⟩ := denL_getElem _ _ _ _ hd e2
        exact ⟨v, by simp [execOp, ho, Instr.extract, e, h1], h2⟩
      · cases h
    · cases h
  case field t x f =>
    split at h
    · rename_i r' vc' e1
      simp only [Option.some.injEq, Prod.mk.injEq] at h
      obtain ⟨rfl, rfl⟩ := h
      obtain ⟨v, h1, h2⟩ := evFieldV_sound (w := w) hΓ e1 hv.1 (opd_den hf hg hv.2)
      exact ⟨v, by simp only [execOp, ho]; exact fin h1, h2⟩
    · cases h
  case index t x i =>
    split at h
    · rename_i r' vc' e1
      simp only [Option.some.injEq, Prod.mk.injEq] at h
      obtain ⟨rfl, rfl⟩ := h
      obtain ⟨v, h1, h2⟩ := evIndex_sound (w := w) hΓ e1 hv.1 (opd_den hf hg hv.2.1) (opd_den hf hg hv.2.2)
      exact ⟨v, by simp only [execOp, ho]; exact fin h1, h2⟩
    · cases h
  case slice t x lo hi mx =>
    split at h
    · split at h
      · rename_i r' vc' e1
        simp only [Option.some.injEq, Prod.mk.injEq] at h
        obtain ⟨rfl, rfl⟩ := h
        obtain ⟨h1, h2, h3, h4⟩ := hv
        obtain ⟨v, k1, k2⟩ := evSlice_sound (w := w) hΓ (vlo := lo.map a.eval) (vhi := hi.map a.eval) e1 h1 (opd_den hf hg h2)
          (fun y hy => by
            cases lo with
            | none => simp at hy
            | some l => simp at hy; subst hy; exact ⟨_, rfl, opd_den hf hg (by simp only [Option.toList, ovcL] at h3; exact h3.1)⟩)
          (fun hy => by cases lo with
            | none => rfl
            | some l => simp at hy)
          (fun y hy => by
            cases hi with
            | none => simp at hy
            | some l => simp at hy; subst hy; exact ⟨_, rfl, opd_den hf hg (by simp only [Option.toList, ovcL] at h4; exact h4.1)⟩)
          (fun hy => by cases hi with
            | none => rfl
            | some l => simp at hy)
        exact ⟨v, by simp only [execOp, ho]; exact fin k1, k2⟩
      · cases h
    · cases h
  case build t parts =>
    obtain ⟨v, h1, h2⟩ := evBuild_sound (w := w) hΓ hf hg h hv
    exact ⟨v, by simp only [execOp, ho]; exact fin h1, h2⟩
  case lookup t x i ok =>
    obtain ⟨v, h1, h2⟩ := evLookup_sound hΓ hf hw hg h hv
    exact ⟨v, by simp only [execOp, ho]; exact fin h1, h2⟩
  case typeAssert x xt t ok =>
    split at h
    · rename_i r' vc' e1
      simp only [Option.some.injEq, Prod.mk.injEq] at h
      obtain ⟨rfl, rfl⟩ := h
      obtain ⟨v, h1, h2⟩ := evAssert_sound (w := w) (xt := xt) hΓ e1 hv.1 (opd_den hf hg hv.2)
      exact ⟨v, by simp only [execOp, ho]; exact fin h1, h2⟩
    · cases h
  case call c =>
    split at h
    · rename_i b e1
      split at h
      · rename_i r' vc' e2
        simp only [Option.some.injEq, Prod.mk.injEq] at h
        obtain ⟨rfl, rfl⟩ := h
        have e3 : (List.map a.eval c.args.toList).toArray = c.args.map a.eval := by apply Array.ext'; simp
        simp only [execOp, ho, resolve, e1, Sem.run_bind, Sem.run_pure, Result.andThen_ok, invoke]
        rw [← e3]
        exact evBuiltin_sound (P := P) (w := w) (ty := o.type) hΓ e2 hv.1 (denL_ops hf hg _ hv.2)
      · cases h
    · cases h
end Go.Eng
/- The engine, part I: what stays good when memory is made or written. -/
namespace Go.Eng
open Go
set_option linter.unusedVariables false
set_option linter.unusedSimpArgs false

def upd {α : Type} (f : Nat → α) (n : Nat) (v : α) (m : Nat) : α := if m = n then v else f m
theorem upd_same {α : Type} (f : Nat → α) (n : Nat) (v : α) : upd f n v n = v := by simp [upd]
theorem upd_ne {α : Type} {f : Nat → α} {n : Nat} {v : α} {m : Nat} (h : m ≠ n) : upd f n v m = f m := by simp [upd, h]
theorem heap_alloc_new' (w : World) (o : Obj) : (w.alloc o).heap[w.heap.size]? = some o := by
  show (w.heap.push o)[w.heap.size]? = some o
  simp
theorem heap_alloc_old (w : World) (o : Obj) {b : Nat} (h : b < w.heap.size) : (w.alloc o).heap[b]? = w.heap[b]? := by
  simp only [World.alloc]; rw [Array.getElem?_push, if_neg (by omega)]
theorem cell_alloc_some {w : World} {o : Obj} {a : Addr} {v : Value} (h : w.cell? a = some v) : (w.alloc o).cell? a = some v := by
  rw [World.cell?_alloc_lt w o a (World.block_lt_of_cell? w a h)]; exact h
theorem size_alloc' (w : World) (o : Obj) : (w.alloc o).heap.size = w.heap.size + 1 := World.size_alloc w o

/-- A named block is made. -/
theorem Good.alloc_named {E : Env} {st : SS} {w : World} (h : Good E st w) {ls : List SV} {cs : Array Value} (T : TypeId) (hd : DenL E ls cs.toList) :
    ∃ E', E.Le E' ∧ E'.ρ st.nx = some w.heap.size ∧ Good E' { st with hp := (st.nx, T, ls) :: st.hp, nx := st.nx + 1 } (w.alloc (objOf T cs)) := by
  have hle : E.Le { E with ρ := upd E.ρ st.nx (some w.heap.size) } :=
    ⟨rfl, rfl, rfl, fun n b e => by
      have : n ≠ st.nx := by rintro rfl; rw [h.nxρ _ (Nat.le_refl _)] at e; cases e
      exact (upd_ne this).trans e, fun _ _ e => e, fun _ _ e => e, fun _ _ e => .inl e, fun n hn => (upd_ne (by have := h.k; have := h.kx; omega)), fun _ _ => rfl, rfl⟩
  refine ⟨_, hle, upd_same _ _ _, ?_⟩
  obtain ⟨κ, hk⟩ := h.own
  have hkn : κ w.heap.size = none := by
    cases e : κ w.heap.size with
    | none => rfl
    | some k => exact absurd (hk.dom _ _ e).1 (by omega)
  refine ⟨h.k, Nat.le_succ_of_le h.kx, h.os, h.tape, h.output, by rw [size_alloc']; exact Nat.le_succ_of_le h.size, fun b hb hs => ?_, fun a v e => cell_alloc_some (h.mu a v e), fun n hn => ?_, fun n hn => h.nxθ n (by simp at hn; omega), ?_⟩
  · rw [heap_alloc_old _ _ (Nat.lt_of_lt_of_le hb h.size)]; exact h.old b hb hs
  · simp only at hn
    exact (upd_ne (by omega)).trans (h.nxρ n (by omega))
  · refine ⟨upd κ w.heap.size (some (.blk st.nx)), ?_, ?_, ?_, ?_, ?_⟩
    · intro n T' ls' e
      simp only [hfind] at e
      by_cases hn : st.nx = n
      · rw [if_pos hn] at e
        simp only [Option.some.injEq, Prod.mk.injEq] at e
        obtain ⟨rfl, rfl⟩ := e
        subst hn
        exact ⟨w.heap.size, cs, upd_same _ _ _, heap_alloc_new' w _, DenL.mono hle _ _ hd, upd_same _ _ _, .inl h.size⟩
      · rw [if_neg hn] at e
        obtain ⟨b, cs', h1, h2, h3, h4, h5⟩ := hk.hp _ _ _ e
        have hb : b < w.heap.size := (hk.dom _ _ h4).1
        exact ⟨b, cs', hle.ρ _ _ h1, by rw [heap_alloc_old _ _ hb]; exact h2, DenL.mono hle _ _ h3, (upd_ne (by omega)).trans h4, h5⟩
    · intro τ hτ
      obtain ⟨sz, a, len, cap, h1, h2, h3⟩ := hk.tk τ hτ
      refine ⟨sz, a, len, cap, h1, h2, ?_⟩
      rcases h3 with h3 | ⟨b, off, T', cs', h4, h5, h6, h7, h8, h9⟩
      · exact .inl h3
      · have hb : b < w.heap.size := (hk.dom _ _ h5).1
        exact .inr ⟨b, off, T', cs', h4, (upd_ne (by omega)).trans h5, h6, h7.congr (heap_alloc_old _ _ hb), h8, h9⟩
    · intro r R hr
      obtain ⟨F, h1, h2⟩ := hk.rs r R hr
      exact ⟨F, R.loc h1 (fun b hb => heap_alloc_old _ _ (h2 b hb).1), fun b hb => ⟨by rw [size_alloc']; exact Nat.lt_succ_of_lt (h2 b hb).1, (upd_ne (by have := (h2 b hb).1; omega)).trans (h2 b hb).2.1, (h2 b hb).2.2⟩⟩
    · intro a v e
      have hb : a.block < w.heap.size := World.block_lt_of_cell? w a (h.mu a v e)
      rw [upd_ne (by omega)]
      exact hk.mu a v e
    · intro b k e
      rw [size_alloc']
      by_cases hb : b = w.heap.size
      · exact ⟨by omega, .inl (by rw [hb]; exact h.size)⟩
      · rw [upd_ne hb] at e; exact ⟨Nat.lt_succ_of_lt (hk.dom b k e).1, (hk.dom b k e).2⟩

def Env.withTok (E : Env) (n : Nat) (x : Option (Nat × Value)) (μ : Addr → Option Value) : Env := { E with θ := upd E.θ n x, μ := μ }

/-- A row that stays is made; its slice has a token. -/
theorem Good.alloc_tok {E : Env} {st : SS} {w : World} (h : Good E st w) (cs : Array Value) (T : TypeId) (sz n cap : Nat) (hn : n ≤ cap) (hc : cap * sz ≤ cs.size) (fz : Nat × Nat := (0, 0)) (hfz : fz = (0, 0) ∨ cs.size ≤ fz.1 := by exact .inl rfl) :
    ∃ E', E.Le E' ∧ E'.θ st.nx = some (sz, .slice (some ⟨w.heap.size, 0, none⟩) n cap) ∧ (∀ i x, i < n * sz → cs[i]? = some x → E'.μ ⟨w.heap.size, i, none⟩ = some x) ∧
      E'.Z w.heap.size ∧ Good E' { st with tk := st.nx :: st.tk, nx := st.nx + 1 } (w.alloc (.cells cs T fz)) := by
  have hnew : ∀ a v, E.μ a = some v → a.block < w.heap.size := fun a v e => World.block_lt_of_cell? w a (h.mu a v e)
  have hle : E.Le (E.withTok st.nx (some (sz, .slice (some ⟨w.heap.size, 0, none⟩) n cap))
      (fun a => if a.block = w.heap.size then (if a.spot.isSome then none else if a.off < n * sz then cs[a.off]? else none) else E.μ a)) :=
    ⟨rfl, rfl, rfl, fun _ _ e => e, fun m v e => by
      have : m ≠ st.nx := by rintro rfl; rw [h.nxθ _ (Nat.le_refl _)] at e; cases e
      exact (upd_ne this).trans e, fun a v e => by
      have := hnew a v e
      have : a.block ≠ w.heap.size := by omega
      simp [Env.withTok, this, e], fun a v e => by
      simp only [Env.withTok] at e
      by_cases hb : a.block = w.heap.size
      · exact .inr (.inl (by rw [hb]; exact h.size))
      · rw [if_neg hb] at e; exact .inl e, fun _ _ => rfl, fun n hn => (upd_ne (by have := h.k; have := h.kx; omega)), rfl⟩
  refine ⟨_, hle, upd_same _ _ _, fun i x hi e => by simp [Env.withTok, hi, e], E.hZ _ h.size, ?_⟩
  obtain ⟨κ, hk⟩ := h.own
  refine ⟨h.k, Nat.le_succ_of_le h.kx, h.os, h.tape, h.output, by rw [size_alloc']; exact Nat.le_succ_of_le h.size, fun b hb hs => ?_, fun a v e => ?_, fun m hm => h.nxρ m (by simp at hm; omega), fun m hm => ?_, ?_⟩
  · rw [heap_alloc_old _ _ (Nat.lt_of_lt_of_le hb h.size)]; exact h.old b hb hs
  · simp only [Env.withTok] at e
    by_cases hb : a.block = w.heap.size
    · rw [if_pos hb] at e
      by_cases hs : a.spot.isSome = true
      · rw [if_pos hs] at e; cases e
      · rw [if_neg hs] at e
        split at e
        · simp only [World.cell?, hb, heap_alloc_new', if_neg hs]; exact e
        · cases e
    · rw [if_neg hb] at e; exact cell_alloc_some (h.mu a v e)
  · simp only at hm
    exact (upd_ne (by omega)).trans (h.nxθ m (by omega))
  · refine ⟨upd κ w.heap.size (some (.tok st.nx)), ?_, ?_, ?_, ?_, ?_⟩
    · intro m T' ls' e
      obtain ⟨b, cs', h1, h2, h3, h4, h5⟩ := hk.hp _ _ _ e
      have hb : b < w.heap.size := (hk.dom _ _ h4).1
      exact ⟨b, cs', h1, by rw [heap_alloc_old _ _ hb]; exact h2, DenL.mono hle _ _ h3, (upd_ne (by omega)).trans h4, h5⟩
    · intro τ hτ
      rcases List.mem_cons.1 hτ with rfl | hτ
      · refine ⟨sz, _, n, cap, upd_same _ _ _, hn, .inr ⟨w.heap.size, 0, T, cs, rfl, upd_same _ _ _, .inl h.size, ⟨fz, heap_alloc_new' w _, hfz⟩, by simpa using hc, fun ad v e hb => ?_⟩⟩
        simp only [Env.withTok, hb, if_true] at e
        split at e
        · cases e
        · split at e
          · omega
          · cases e
      · obtain ⟨sz', a, len, cap', h1, h2, h3⟩ := hk.tk τ hτ
        refine ⟨sz', a, len, cap', hle.θ _ _ h1, h2, ?_⟩
        rcases h3 with h3 | ⟨b, off, T', cs', h4, h5, h6, h7, h8, h9⟩
        · exact .inl h3
        · have hb : b < w.heap.size := (hk.dom _ _ h5).1
          refine .inr ⟨b, off, T', cs', h4, (upd_ne (by omega)).trans h5, h6, h7.congr (heap_alloc_old _ _ hb), h8, fun ad v e hab => ?_⟩
          simp only [Env.withTok] at e
          rw [if_neg (by omega)] at e
          exact h9 ad v e hab
    · intro r R hr
      obtain ⟨F, h1, h2⟩ := hk.rs r R hr
      exact ⟨F, R.next _ _ F _ _ h1 (fun b hb => .inl (heap_alloc_old _ _ (h2 b hb).1)) hle.μ (fun a v e => by
        simp only [Env.withTok] at e
        by_cases hb : a.block = w.heap.size
        · exact .inr (fun hF => by have := (h2 _ hF).1; omega)
        · rw [if_neg hb] at e; exact .inl e), fun b hb => ⟨by rw [size_alloc']; exact Nat.lt_succ_of_lt (h2 b hb).1, (upd_ne (by have := (h2 b hb).1; omega)).trans (h2 b hb).2.1, (h2 b hb).2.2⟩⟩
    · intro a v e
      simp only [Env.withTok] at e
      by_cases hb : a.block = w.heap.size
      · rw [hb, upd_same]; exact fun n => by simp
      · rw [if_neg hb] at e
        rw [upd_ne hb]
        exact hk.mu a v e
    · intro b k e
      rw [size_alloc']
      by_cases hb : b = w.heap.size
      · exact ⟨by omega, .inl (by rw [hb]; exact h.size)⟩
      · rw [upd_ne hb] at e; exact ⟨Nat.lt_succ_of_lt (hk.dom b k e).1, (hk.dom b k e).2⟩

def tkDel : List Nat → Nat → List Nat
  | [], _ => []
  | m :: r, n => if m = n then tkDel r n else m :: tkDel r n
theorem tkDel_mem : ∀ (l : List Nat) (n x : Nat), x ∈ tkDel l n → x ∈ l ∧ x ≠ n
  | [], n, x, h => by simp [tkDel] at h
  | m :: r, n, x, h => by
    simp only [tkDel] at h
    split at h
    · have := tkDel_mem r n x h; exact ⟨List.mem_cons_of_mem _ this.1, this.2⟩
    · rename_i hm
      rcases List.mem_cons.1 h with rfl | h
      · exact ⟨by simp, hm⟩
      · have := tkDel_mem r n x h; exact ⟨List.mem_cons_of_mem _ this.1, this.2⟩

/-- A token whose slice has no spare room. -/
theorem Good.tok_none {E : Env} {st : SS} {w : World} (h : Good E st w) (sz : Nat) (a : Option Addr) (n : Nat) (ha : a = none := by rfl) :
    ∃ E', E.Le E' ∧ E'.θ st.nx = some (sz, .slice a n n) ∧ E'.μ = E.μ ∧ E'.w0 = E.w0 ∧ Good E' { st with tk := st.nx :: st.tk, nx := st.nx + 1 } w := by
  have hle : E.Le { E with θ := upd E.θ st.nx (some (sz, .slice a n n)) } :=
    ⟨rfl, rfl, rfl, fun _ _ e => e, fun m v e => by
      have : m ≠ st.nx := by rintro rfl; rw [h.nxθ _ (Nat.le_refl _)] at e; cases e
      exact (upd_ne this).trans e, fun _ _ e => e, fun _ _ e => .inl e, fun _ _ => rfl, fun n hn => (upd_ne (by have := h.k; have := h.kx; omega)), rfl⟩
  refine ⟨_, hle, upd_same _ _ _, rfl, rfl, ?_⟩
  obtain ⟨κ, hk⟩ := h.own
  refine ⟨h.k, Nat.le_succ_of_le h.kx, h.os, h.tape, h.output, h.size, h.old, h.mu, fun m hm => h.nxρ m (by simp at hm; omega), fun m hm => ?_, κ, ?_, ?_, hk.rs, hk.mu, hk.dom⟩
  · simp only at hm
    exact (upd_ne (by omega)).trans (h.nxθ m (by omega))
  · intro m T' ls' e
    obtain ⟨b, cs', h1, h2, h3, h4, h5⟩ := hk.hp _ _ _ e
    exact ⟨b, cs', h1, h2, DenL.mono hle _ _ h3, h4, h5⟩
  · intro τ hτ
    rcases List.mem_cons.1 hτ with rfl | hτ
    · exact ⟨sz, a, n, n, upd_same _ _ _, Nat.le_refl _, .inl ⟨rfl, ha⟩⟩
    · obtain ⟨sz', a', len, cap', h1, h2, h3⟩ := hk.tk τ hτ
      exact ⟨sz', a', len, cap', hle.θ _ _ h1, h2, h3⟩

/-- Cells written in a row, the frozen ones of which lie behind it. -/
theorem run_storeCells_T (P : Program) (g o : Nat) (t : TypeId) (fz : Nat × Nat) : ∀ (vs : List Value) (i : Nat) (cur : Array Value) (w : World), w.heap[g]? = some (.cells cur t fz) → (fz = (0, 0) ∨ cur.size ≤ fz.1) → o + i + vs.length ≤ cur.size → (∀ v ∈ vs, v.oneCell' = true) →
    (storeCells ⟨g, o, none⟩ vs i).run P w = .ok () (w.setRow g (cur.toList.take (o + i) ++ vs ++ cur.toList.drop (o + i + vs.length)).toArray)
  | [], i, cur, w, hg, _, _, _ => by
    simp only [storeCells, List.append_nil, List.length_nil, Nat.add_zero, List.take_append_drop, Array.toArray_toList]
    rw [setRow_self w g cur t fz hg]
    rfl
  | v :: rest, i, cur, w, hg, hfz, hl, h1 => by
    have hi : o + i < cur.size := by simp at hl; omega
    have hadd : (⟨g, o, none⟩ : Addr).add i = ⟨g, o + i, none⟩ := by unfold Addr.add; split <;> simp_all
    have hcell : w.cell? ⟨g, o + i, none⟩ = some cur[o + i] := by simp [World.cell?, hg, hi]
    have hfro : w.frozen? ⟨g, o + i, none⟩ = false := by
      obtain ⟨lo, hi'⟩ := fz
      simp only [World.frozen?, hg, Bool.and_eq_false_iff, decide_eq_false_iff_not]
      rcases hfz with hfz | hfz
      · right
        injection hfz with h1 h2
        omega
      · left
        simp only at hfz
        omega
    have hst : (store ((⟨g, o, none⟩ : Addr).add i) v).run P w = .ok () (w.setRow g (cur.setIfInBounds (o + i) v)) := by
      rw [hadd, run_store P w _ v _ (h1 v (by simp)), hcell]
      simp [hfro, setCell_eq_setRow w g (o + i) cur t fz v hg]
    have ih := run_storeCells_T P g o t fz rest (i + 1) (cur.setIfInBounds (o + i) v) (w.setRow g (cur.setIfInBounds (o + i) v)) (setRow_heap w g cur _ t _ hg) (by simpa using hfz) (by simp at hl ⊢; omega) (fun x hx => h1 x (by simp [hx]))
    simp only [storeCells, Sem.run_bind, hst, Result.andThen_ok, ih, setRow_setRow]
    congr 3
    have e := list_seg_step cur.toList (o + i) v rest (by simp at hl ⊢; omega)
    simpa [Array.toList_setIfInBounds, Nat.add_assoc] using e

/-- A token's slice grows where it lies: its spare room is written. -/
theorem Good.grow {E : Env} {st : SS} {w : World} (h : Good E st w) {τ : Nat} (hτ : τ ∈ st.tk) {sz : Nat} {a : Option Addr} {len cap : Nat} (hθ : E.θ τ = some (sz, .slice a len cap)) (vs : List Value) (m : Nat) (hvs : vs.length = m * sz) (hroom : len + m ≤ cap) (hsz : 0 < sz)
    (P : Program) (h1 : ∀ v ∈ vs, v.oneCell' = true) :
    ∃ E' w', E.Le E' ∧ (∀ b, Mut E b ↔ Mut E' b) ∧ E'.θ st.nx = some (sz, .slice a (len + m) cap) ∧ Good E' { st with tk := st.nx :: tkDel st.tk τ, nx := st.nx + 1 } w' ∧
      (match a with | some ad => (storeCells (ad.add (len * sz)) vs).run P w = .ok () w' | none => w' = w ∧ m = 0) ∧
      (∀ j x, vs[j]? = some x → ∃ b off, a = some ⟨b, off, none⟩ ∧ E'.μ ⟨b, off + len * sz + j, none⟩ = some x) := by
  obtain ⟨κ, hk⟩ := h.own
  obtain ⟨sz', a', len', cap', e1, hle0, h3⟩ := hk.tk τ hτ
  rw [hθ] at e1
  simp only [Option.some.injEq, Prod.mk.injEq, Value.slice.injEq] at e1
  obtain ⟨rfl, rfl, rfl, rfl⟩ := e1
  by_cases hm : m = 0
  · subst hm
    have hvs0 : vs = [] := by simpa using hvs
    subst hvs0
    have hle : E.Le { E with θ := upd E.θ st.nx (some (sz, .slice a len cap)) } :=
      ⟨rfl, rfl, rfl, fun _ _ e => e, fun m v e => by
        have : m ≠ st.nx := by rintro rfl; rw [h.nxθ _ (Nat.le_refl _)] at e; cases e
        exact (upd_ne this).trans e, fun _ _ e => e, fun _ _ e => .inl e, fun _ _ => rfl, fun n hn => (upd_ne (by have := h.k; have := h.kx; omega)), rfl⟩
    have hne : τ ≠ st.nx := by rintro rfl; rw [h.nxθ _ (Nat.le_refl _)] at hθ; cases hθ
    refine ⟨_, w, hle, fun _ => Mut.le hle, upd_same _ _ _, ?_, ?_, fun j x e => by simp at e⟩
    · refine ⟨h.k, Nat.le_succ_of_le h.kx, h.os, h.tape, h.output, h.size, h.old, h.mu, fun m hm => h.nxρ m (by simp at hm; omega), fun m hm => ?_, fun b => match κ b with | some (.tok x) => if x = τ then some (.tok st.nx) else κ b | _ => κ b, ?_, ?_, ?_, ?_, ?_⟩
      · simp only at hm
        exact (upd_ne (by omega)).trans (h.nxθ m (by omega))
      · intro n T' ls' e
        obtain ⟨b, cs', k1, k2, k3, k4, k5⟩ := hk.hp _ _ _ e
        exact ⟨b, cs', k1, k2, DenL.mono hle _ _ k3, by simp [k4], k5⟩
      · intro x hx
        rcases List.mem_cons.1 hx with rfl | hx
        · refine ⟨sz, a, len, cap, upd_same _ _ _, hle0, ?_⟩
          rcases h3 with h3 | ⟨b, off, T', cs', k4, k5, k6, k7, k8, k9⟩
          · exact .inl h3
          · exact .inr ⟨b, off, T', cs', k4, by simp [k5], k6, k7, k8, k9⟩
        · obtain ⟨hx, hxne⟩ := tkDel_mem _ _ _ hx
          obtain ⟨sz', a', len', cap', k1, k2, k3⟩ := hk.tk x hx
          refine ⟨sz', a', len', cap', hle.θ _ _ k1, k2, ?_⟩
          rcases k3 with k3 | ⟨b, off, T', cs', k4, k5, k6, k7, k8, k9⟩
          · exact .inl k3
          · exact .inr ⟨b, off, T', cs', k4, by simp [k5, hxne], k6, k7, k8, k9⟩
      · intro r R hr
        obtain ⟨F, k1, k2⟩ := hk.rs r R hr
        exact ⟨F, k1, fun b hb => ⟨(k2 b hb).1, by simp [(k2 b hb).2.1], (k2 b hb).2.2⟩⟩
      · intro ad v e
        have k1 := hk.mu ad v e
        intro n e'; split at e'
        · split at e'
          · cases e'
          · exact k1 n e'
        · exact k1 n e'
      · intro b k e
        split at e
        · rename_i x hx; exact hk.dom b _ hx
        · exact hk.dom b _ e
    · cases a with
      | none => exact ⟨rfl, rfl⟩
      | some ad => rfl
  · rcases h3 with h3 | ⟨b, off, T, cs, rfl, k5, k6, k7, k8, k9⟩
    · have := h3.1; omega
    · have hb : b < w.heap.size := (hk.dom _ _ k5).1
      have hlen : vs.length = m * sz := hvs
      have hmul : (len + m) * sz = len * sz + m * sz := Nat.add_mul _ _ _
      have hcap : (len + m) * sz ≤ cap * sz := Nat.mul_le_mul_right _ hroom
      obtain ⟨fz, k7, hfz⟩ := k7
      have hrun := run_storeCells_T P b (off + len * sz) T fz vs 0 cs w k7 hfz (by omega) h1
      rw [Nat.add_zero] at hrun
      generalize hcs2 : (cs.toList.take (off + len * sz) ++ vs ++ cs.toList.drop (off + len * sz + vs.length)).toArray = cs2 at hrun
      have hsz2 : cs2.size = cs.size := by rw [← hcs2]; simp; omega
      have hlow : ∀ j, j < off + len * sz → cs2[j]? = cs[j]? := fun j hj => by
        rw [← hcs2]
        simp only [List.getElem?_toArray, List.append_assoc]
        rw [List.getElem?_append_left (by simp; omega), List.getElem?_take, if_pos hj]
        simp
      have hmid : ∀ j, j < vs.length → cs2[off + len * sz + j]? = vs[j]? := fun j hj => by
        rw [← hcs2]
        simp only [List.getElem?_toArray, List.append_assoc]
        rw [List.getElem?_append_right (by simp; omega), List.getElem?_append_left (by simp; omega)]
        congr 1
        simp; omega
      have hle : E.Le (E.withTok st.nx (some (sz, .slice (some ⟨b, off, none⟩) (len + m) cap))
          (fun ad => if ad.block = b ∧ ad.spot.isSome = false ∧ off + len * sz ≤ ad.off ∧ ad.off < off + (len + m) * sz then vs[ad.off - (off + len * sz)]? else E.μ ad)) :=
        ⟨rfl, rfl, rfl, fun _ _ e => e, fun m v e => by
          have : m ≠ st.nx := by rintro rfl; rw [h.nxθ _ (Nat.le_refl _)] at e; cases e
          exact (upd_ne this).trans e, fun ad v e => by
          simp only [Env.withTok]
          rw [if_neg]
          · exact e
          · rintro ⟨h1, h2, h3, h4⟩
            have := k9 ad v e h1
            omega, fun ad v e => by
          simp only [Env.withTok] at e
          split at e
          · rename_i hc; exact .inr (by rw [hc.1]; exact k6)
          · exact .inl e, fun _ _ => rfl, fun n hn => (upd_ne (by have := h.k; have := h.kx; omega)), rfl⟩
      have hcell : ∀ ad v, E.μ ad = some v → (w.setRow b cs2).cell? ad = some v := fun ad v e => by
        by_cases hab : ad.block = b
        · have hlt := k9 ad v e hab
          have hc := h.mu ad v e
          rw [← hc]
          simp only [World.cell?, hab, setRow_heap w b cs cs2 T fz k7, k7, hlow _ hlt]
        · rw [cell_setRow_other w b cs2 ad hab]; exact h.mu ad v e
      refine ⟨_, w.setRow b cs2, hle, fun _ => Mut.le hle, upd_same _ _ _, ?_, ?_, ?_⟩
      · refine ⟨h.k, Nat.le_succ_of_le h.kx, h.os, h.tape, h.output, by rw [setRow_size]; exact h.size, fun b' hb' hs => ?_, fun ad v e => ?_, fun m hm => h.nxρ m (by simp at hm; omega), fun m hm => ?_, upd κ b (some (.tok st.nx)), ?_, ?_, ?_, ?_, ?_⟩
        · have : b' ≠ b := by
            rintro rfl
            have hb'' : b' < E.w0.heap.size := hb'
            rcases k6 with k | k
            · omega
            · exact hs k
          rw [setRow_other w b b' cs2 this]; exact h.old b' hb' hs
        · simp only [Env.withTok] at e
          split at e
          · rename_i hc
            obtain ⟨h1, h2, h3, h4⟩ := hc
            simp only [World.cell?, h1, setRow_heap w b cs cs2 T fz k7, h2]
            have := hmid (ad.off - (off + len * sz)) (by omega)
            rw [show off + len * sz + (ad.off - (off + len * sz)) = ad.off by omega] at this
            simpa [this] using e
          · exact hcell ad v e
        · simp only at hm
          exact (upd_ne (by omega)).trans (h.nxθ m (by omega))
        · intro n T' ls' e
          obtain ⟨b1, cs', q1, q2, q3, q4, q5⟩ := hk.hp _ _ _ e
          have hne : b1 ≠ b := by rintro rfl; rw [k5] at q4; cases q4
          exact ⟨b1, cs', q1, by rw [setRow_other w b b1 cs2 hne]; exact q2, DenL.mono hle _ _ q3, (upd_ne hne).trans q4, q5⟩
        · intro x hx
          rcases List.mem_cons.1 hx with rfl | hx
          · refine ⟨sz, _, len + m, cap, upd_same _ _ _, hroom, .inr ⟨b, off, T, cs2, rfl, upd_same _ _ _, k6, ⟨fz, setRow_heap w b cs cs2 T fz k7, by rw [hsz2]; exact hfz⟩, by rw [hsz2]; exact k8, fun ad v e hab => ?_⟩⟩
            simp only [Env.withTok] at e
            split at e
            · rename_i hc; exact hc.2.2.2
            · have := k9 ad v e hab; omega
          · obtain ⟨hx, hxne⟩ := tkDel_mem _ _ _ hx
            obtain ⟨sz', a', len', cap', q1, q2, q3⟩ := hk.tk x hx
            refine ⟨sz', a', len', cap', hle.θ _ _ q1, q2, ?_⟩
            rcases q3 with q3 | ⟨b1, off1, T', cs', q4, q5, q6, q7, q8, q9⟩
            · exact .inl q3
            · have hne : b1 ≠ b := by rintro rfl; rw [k5] at q5; injection q5 with q5; injection q5 with q5; exact hxne q5.symm
              refine .inr ⟨b1, off1, T', cs', q4, (upd_ne hne).trans q5, q6, q7.congr (setRow_other w b b1 cs2 hne), q8, fun ad v e hab => ?_⟩
              simp only [Env.withTok] at e
              rw [if_neg (by rintro ⟨e1, -⟩; exact hne (hab.symm.trans e1))] at e
              exact q9 ad v e hab
        · intro r R hr
          obtain ⟨F, q1, q2⟩ := hk.rs r R hr
          have hne : ∀ b1, F b1 → b1 ≠ b := by rintro b1 hF rfl; have := (q2 _ hF).2.1; rw [k5] at this; cases this
          exact ⟨F, R.next _ _ F _ _ q1 (fun b1 hF => .inl (setRow_other w b b1 cs2 (hne b1 hF))) hle.μ (fun ad v e => by
            simp only [Env.withTok] at e
            split at e
            · rename_i hc; exact .inr (fun hF => hne _ hF hc.1)
            · exact .inl e), fun b1 hF => ⟨by rw [setRow_size]; exact (q2 b1 hF).1, (upd_ne (hne b1 hF)).trans (q2 b1 hF).2.1, (q2 b1 hF).2.2⟩⟩
        · intro ad v e
          by_cases hab : ad.block = b
          · rw [hab, upd_same]; exact fun n => by simp
          · rw [upd_ne hab]
            simp only [Env.withTok] at e
            rw [if_neg (by rintro ⟨e1, -⟩; exact hab e1)] at e
            exact hk.mu ad v e
        · intro b1 k e
          rw [setRow_size]
          by_cases hb1 : b1 = b
          · rw [hb1]; exact ⟨hb, k6⟩
          · rw [upd_ne hb1] at e; exact hk.dom b1 k e
      · show (storeCells ((⟨b, off, none⟩ : Addr).add (len * sz)) vs).run P w = _
        rw [addr_add]; exact hrun
      · intro j x e
        have hj : j < vs.length := by
          rcases Nat.lt_or_ge j vs.length with h' | h'
          · exact h'
          · rw [List.getElem?_eq_none h'] at e; cases e
        refine ⟨b, off, rfl, ?_⟩
        simp only [Env.withTok]
        rw [if_pos ⟨trivial, rfl, by omega, by omega⟩]
        rw [show off + len * sz + j - (off + len * sz) = j by omega]
        exact e

theorem hfind_hset_same (hp : List (Nat × TypeId × List SV)) (m : Nat) (T : TypeId) (l l' : List SV) (hn : hfind hp m = some (T, l)) : hfind (hset hp m l') m = some (T, l') := by
  induction hp with
  | nil => simp [hfind] at hn
  | cons x r ih =>
    obtain ⟨m', T', l1⟩ := x
    simp only [hfind] at hn
    by_cases e : m' = m
    · rw [if_pos e] at hn
      simp only [Option.some.injEq, Prod.mk.injEq] at hn
      simp [hset, e, hfind, hn.1]
    · rw [if_neg e] at hn
      simp [hset, e, hfind, ih hn]
theorem hfind_hset_ne (hp : List (Nat × TypeId × List SV)) (n m : Nat) (l' : List SV) (hm : ¬ m = n) : hfind (hset hp n l') m = hfind hp m := by
  induction hp with
  | nil => rfl
  | cons x r ih =>
    obtain ⟨m', T', l1⟩ := x
    by_cases e : m' = n
    · have : ¬ n = m := fun h => hm h.symm
      simp [hset, e, hfind, this]
    · by_cases e2 : m' = m <;> simp [hset, e, hm, hfind, e2, ih]

/-- A cell of a named block is written. -/
theorem Good.store {E : Env} {st : SS} {w : World} (h : Good E st w) {n : Nat} {T : TypeId} {l : List SV} (hn : hfind st.hp n = some (T, l)) (off : Nat) {ls : List SV} {vs : List Value} (hd : DenL E ls vs) (hlen : off + ls.length ≤ l.length)
    (P : Program) (h1 : ∀ v ∈ vs, v.oneCell' = true) (hT : T < 1000000) :
    ∃ b w', E.ρ n = some b ∧ (storeCells ⟨b, off, none⟩ vs).run P w = .ok () w' ∧ Good E { st with hp := hset st.hp n (spl l off ls) } w' := by
  obtain ⟨κ, hk⟩ := h.own
  obtain ⟨b, cs, hb, hblk, hden, hκ, hmut⟩ := hk.hp _ _ _ hn
  rw [objOf_cells hT] at hblk
  have hl1 := denL_length _ _ hden
  have hl2 := denL_length _ _ hd
  have hsz : cs.size = l.length := by rw [← hl1]; simp
  have hrun := run_storeCells_at P b off T vs 0 cs w hblk (by omega) h1
  rw [Nat.add_zero] at hrun
  have hspl : (cs.toList.take off ++ vs ++ cs.toList.drop (off + vs.length)) = splV cs.toList off vs := by
    apply List.ext_getElem?
    intro j
    rw [splV_getElem]
    by_cases h2 : j < off
    · rw [if_neg (by omega), List.append_assoc, List.getElem?_append_left (by simp; omega), List.getElem?_take, if_pos h2]
    · by_cases h3 : j < off + vs.length
      · rw [if_pos ⟨by omega, h3, by simp; omega⟩, List.append_assoc, List.getElem?_append_right (by simp; omega), List.getElem?_append_left (by simp; omega)]
        congr 1; simp; omega
      · rw [if_neg (by omega), List.getElem?_append_right (by simp; omega), List.getElem?_drop]
        congr 1; simp; omega
  rw [hspl] at hrun
  have hother : ∀ b', b' ≠ b → (w.setRow b (splV cs.toList off vs).toArray).heap[b']? = w.heap[b']? := fun b' hb' => setRow_other w b b' _ hb'
  refine ⟨b, _, hb, hrun, ?_⟩
  refine ⟨h.k, h.kx, h.os, h.tape, h.output, by rw [setRow_size]; exact h.size, fun b' hb' hs => ?_, fun ad v e => ?_, h.nxρ, h.nxθ, κ, ?_, ?_, ?_, hk.mu, ?_⟩
  · rw [hother b']
    · exact h.old b' hb' hs
    · rintro rfl
      rcases hmut with hm | hm
      · omega
      · exact hs hm
  · have : ad.block ≠ b := by
      intro e'
      exact hk.mu ad v e n (by rw [e']; exact hκ)
    rw [cell_setRow_other w b _ ad this]; exact h.mu ad v e
  · intro m T' ls' e
    by_cases hm : m = n
    · subst hm
      have := hfind_hset_same st.hp m T l (spl l off ls) hn
      rw [this] at e
      simp only [Option.some.injEq, Prod.mk.injEq] at e
      obtain ⟨rfl, rfl⟩ := e
      exact ⟨b, _, hb, (by rw [objOf_cells hT]; exact setRow_heap w b cs _ T (0, 0) hblk), by simpa using denL_spl _ _ off _ _ hden hd, hκ, hmut⟩
    · have := hfind_hset_ne st.hp n m (spl l off ls) hm
      rw [this] at e
      obtain ⟨b1, cs', q1, q2, q3, q4, q5⟩ := hk.hp _ _ _ e
      have hne : b1 ≠ b := by rintro rfl; rw [hκ] at q4; injection q4 with q4; injection q4 with q4; exact hm q4.symm
      exact ⟨b1, cs', q1, by rw [hother b1 hne]; exact q2, q3, q4, q5⟩
  · intro x hx
    obtain ⟨sz', a', len', cap', q1, q2, q3⟩ := hk.tk x hx
    refine ⟨sz', a', len', cap', q1, q2, ?_⟩
    rcases q3 with q3 | ⟨b1, off1, T', cs', q4, q5, q6, q7, q8, q9⟩
    · exact .inl q3
    · have hne : b1 ≠ b := by rintro rfl; rw [hκ] at q5; cases q5
      exact .inr ⟨b1, off1, T', cs', q4, q5, q6, q7.congr (hother b1 hne), q8, q9⟩
  · intro r R hr
    obtain ⟨F, q1, q2⟩ := hk.rs r R hr
    have hne : ∀ b1, F b1 → b1 ≠ b := by rintro b1 hF rfl; have := (q2 _ hF).2.1; rw [hκ] at this; cases this
    exact ⟨F, R.loc q1 (fun b1 hF => hother b1 (hne b1 hF)), fun b1 hF => ⟨by rw [setRow_size]; exact (q2 b1 hF).1, (q2 b1 hF).2⟩⟩
  · intro b1 k e
    rw [setRow_size]; exact hk.dom b1 k e

theorem Good.alloc_res {E : Env} {st : SS} {w : World} (h : Good E st w) (o : Obj) : Good E { st with rs := (st.nx, RObj w.heap.size o) :: st.rs, nx := st.nx + 1 } (w.alloc o) := by
  obtain ⟨κ, hk⟩ := h.own
  refine ⟨h.k, Nat.le_succ_of_le h.kx, h.os, h.tape, h.output, by rw [size_alloc']; exact Nat.le_succ_of_le h.size, fun b hb hs => ?_, fun a v e => cell_alloc_some (h.mu a v e), fun n hn => h.nxρ n (by simp at hn; omega), fun n hn => h.nxθ n (by simp at hn; omega), ?_⟩
  · rw [heap_alloc_old _ _ (Nat.lt_of_lt_of_le hb h.size)]; exact h.old b hb hs
  · refine ⟨upd κ w.heap.size (some (.res st.nx)), ?_, ?_, ?_, ?_, ?_⟩
    · intro n T' ls' e
      obtain ⟨b, cs', h1, h2, h3, h4, h5⟩ := hk.hp _ _ _ e
      have hb : b < w.heap.size := (hk.dom _ _ h4).1
      exact ⟨b, cs', h1, by rw [heap_alloc_old _ _ hb]; exact h2, h3, (upd_ne (by omega)).trans h4, h5⟩
    · intro τ hτ
      obtain ⟨sz, a, len, cap, h1, h2, h3⟩ := hk.tk τ hτ
      refine ⟨sz, a, len, cap, h1, h2, ?_⟩
      rcases h3 with h3 | ⟨b, off, T', cs', h4, h5, h6, h7, h8, h9⟩
      · exact .inl h3
      · have hb : b < w.heap.size := (hk.dom _ _ h5).1
        exact .inr ⟨b, off, T', cs', h4, (upd_ne (by omega)).trans h5, h6, h7.congr (heap_alloc_old _ _ hb), h8, h9⟩
    · intro r R hr
      rcases List.mem_cons.1 hr with hr | hr
      · injection hr with h1 h2
        subst h1; subst h2
        exact ⟨fun c => c = w.heap.size, ⟨rfl, heap_alloc_new' w o, fun a v e => by have := World.block_lt_of_cell? w a (h.mu a v e); omega⟩, fun c hc => by subst hc; exact ⟨by rw [size_alloc']; omega, upd_same _ _ _, .inl h.size⟩⟩
      · obtain ⟨F, h1, h2⟩ := hk.rs r R hr
        exact ⟨F, R.loc h1 (fun b hb => heap_alloc_old _ _ (h2 b hb).1), fun b hb => ⟨by rw [size_alloc']; exact Nat.lt_succ_of_lt (h2 b hb).1, (upd_ne (by have := (h2 b hb).1; omega)).trans (h2 b hb).2.1, (h2 b hb).2.2⟩⟩
    · intro a v e
      have hb : a.block < w.heap.size := World.block_lt_of_cell? w a (h.mu a v e)
      rw [upd_ne (by omega)]
      exact hk.mu a v e
    · intro b k e
      rw [size_alloc']
      by_cases hb : b = w.heap.size
      · exact ⟨by omega, .inl (by rw [hb]; exact h.size)⟩
      · rw [upd_ne hb] at e; exact ⟨Nat.lt_succ_of_lt (hk.dom b k e).1, (hk.dom b k e).2⟩

end Go.Eng
/- The engine, part J: operations that make or write memory, and calls. -/
namespace Go.Eng
open Go
set_option linter.unusedVariables false
set_option linter.unusedSimpArgs false

def one : SV → Bool
  | .agg _ => false
  | .tup _ => false
  | .raw v => match v with
    | .slice _ _ _ => true
    | .pointer _ => true
    | _ => false
  | .any => false
  | .cnd _ _ => false
  | _ => true
def allOne : List SV → Bool
  | [] => true
  | x :: r => one x && allOne r

theorem one_sound {E : Env} {x : SV} {v : Value} (h : Den E x v) (h1 : one x = true) : v.oneCell' = true := by
  by_cases hraw : ∃ u, x = .raw u
  · obtain ⟨u, rfl⟩ := hraw
    simp only [Den] at h
    subst h
    simp only [one] at h1
    split at h1 <;> first | rfl | cases h1
  cases x <;> simp only [one, reduceCtorEq, Bool.false_eq_true] at h1 <;> simp only [Den] at h
  case raw v => exact absurd ⟨_, rfl⟩ hraw
  case i => subst h; rfl
  case b => subst h; rfl
  case s => subst h; rfl
  case ptr => obtain ⟨b, _, rfl⟩ := h; rfl
  case nilp => subst h; rfl
  case mp => obtain ⟨b, _, rfl⟩ := h; rfl
  case ints => obtain ⟨p, c, rfl, _⟩ := h; rfl
  case sl => obtain ⟨p, c, rfl, _⟩ := h; rfl
  case ep => obtain ⟨p, c, rfl, _⟩ := h; rfl
  case nili => subst h; rfl
  case ifc => obtain ⟨y, rfl, _⟩ := h; rfl
  case fn => obtain ⟨fs, cs, rfl, _⟩ := h; rfl
  case nilf => subst h; rfl

theorem allOne_sound {E : Env} : ∀ {l : List SV} {vs : List Value}, DenL E l vs → allOne l = true → ∀ v ∈ vs, v.oneCell' = true
  | [], [], _, _, v, hv => by simp at hv
  | x :: xs, v :: vs, h, h1, u, hu => by
    simp only [DenL] at h
    simp only [allOne, Bool.and_eq_true] at h1
    rcases List.mem_cons.1 hu with rfl | hu
    · exact one_sound h.1 h1.1
    · exact allOne_sound h.2 h1.2 u hu
  | [], _ :: _, h, _, _, _ => by simp only [DenL] at h
  | _ :: _, [], h, _, _, _ => by simp only [DenL] at h

/-- The end of a row is marked, as the model does where bytes come of a text. -/
theorem Good.mark {E : Env} {st : SS} {w : World} (h : Good E st w) (P : Program) {b off : Nat} (hmut : Mut E b) {ad : Addr} {x : Value} (hμ : E.μ ad = some x) (hb : ad.block = b) :
    ∃ w', (markStringish ⟨b, off, none⟩).run P w = .ok () w' ∧ Good E st w' := by
  obtain ⟨κ, hk⟩ := h.own
  have hc := h.mu ad x hμ
  obtain ⟨c, el, fz, hcell⟩ : ∃ c el fz, w.heap[b]? = some (.cells c el fz) := by
    unfold World.cell? at hc
    rw [hb] at hc
    split at hc
    · rename_i c el fz e; exact ⟨c, el, fz, e⟩
    · cases hc
  obtain ⟨lo, hi⟩ := fz
  let fz' : Nat × Nat := if lo == hi then (c.size, c.size + 1) else (min lo c.size, max hi (c.size + 1))
  have hlt : b < w.heap.size := (Array.getElem?_eq_some_iff.1 hcell).1
  have hrun : (markStringish ⟨b, off, none⟩).run P w = .ok () (w.freeze ⟨b, c.size, none⟩ 1) := by
    simp [markStringish, World.shape?, hcell]
  have hsame : (w.freeze ⟨b, c.size, none⟩ 1).heap[b]? = some (.cells c el fz') := by
    obtain ⟨h1, h2⟩ := Array.getElem?_eq_some_iff.1 hcell
    simp only [World.freeze]
    rw [if_neg (by decide)]
    simp only
    rw [Array.getElem?_eq_getElem (by simpa using h1), Array.getElem_modify_self, h2]
  have hother : ∀ d, d ≠ b → (w.freeze ⟨b, c.size, none⟩ 1).heap[d]? = w.heap[d]? := fun d hd => by
    simp only [World.freeze]
    rw [if_neg (by decide)]
    simp only
    rw [Array.getElem?_modify, if_neg (Ne.symm hd)]
  have hsz : (w.freeze ⟨b, c.size, none⟩ 1).heap.size = w.heap.size := by
    simp only [World.freeze]
    rw [if_neg (by decide)]
    simp
  have hcells : ∀ a v, w.cell? a = some v → (w.freeze ⟨b, c.size, none⟩ 1).cell? a = some v := fun a v e => by
    by_cases hd : a.block = b
    · unfold World.cell? at e ⊢
      rw [hd] at e ⊢
      rw [hsame]; rw [hcell] at e; exact e
    · rw [World.cell?_of_block (hother _ hd)]; exact e
  have hnb : ∀ n, κ b ≠ some (.blk n) := fun n => by have := hk.mu ad x hμ n; rwa [hb] at this
  have e1 : (w.freeze ⟨b, c.size, none⟩ 1).os = w.os := by simp only [World.freeze]; rw [if_neg (by decide)]
  have e2 : (w.freeze ⟨b, c.size, none⟩ 1).tape = w.tape := by simp only [World.freeze]; rw [if_neg (by decide)]
  have e3 : (w.freeze ⟨b, c.size, none⟩ 1).output = w.output := by simp only [World.freeze]; rw [if_neg (by decide)]
  refine ⟨_, hrun, h.k, h.kx, e1.trans h.os, e2.trans h.tape, e3.trans h.output, by rw [hsz]; exact h.size, fun d hd hs => ?_, fun a v e => hcells a v (h.mu a v e), h.nxρ, h.nxθ, κ, fun n T ls e => ?_, fun τ hτ => ?_, fun r R hr => ?_, hk.mu, fun d k e => by rw [hsz]; exact hk.dom d k e⟩
  · rw [hother d]
    · exact h.old d hd hs
    · rintro rfl
      rcases hmut with hm | hm
      · omega
      · exact hs hm
  · obtain ⟨d, cs, q1, q2, q3, q4, q5⟩ := hk.hp n T ls e
    have hne : d ≠ b := by rintro rfl; exact hnb _ q4
    exact ⟨d, cs, q1, by rw [hother d hne]; exact q2, q3, q4, q5⟩
  · obtain ⟨sz, a, len, cap, q1, q2, q3⟩ := hk.tk τ hτ
    refine ⟨sz, a, len, cap, q1, q2, ?_⟩
    rcases q3 with q3 | ⟨d, o, T, cs, q4, q5, q6, ⟨fz2, q7, q7'⟩, q8, q9⟩
    · exact .inl q3
    · by_cases hd : d = b
      · subst hd
        rw [hcell] at q7
        injection q7 with q7
        injection q7 with i1 i2 i3
        subst i1 i2 i3
        refine .inr ⟨d, o, el, c, q4, q5, q6, ⟨fz', hsame, .inr ?_⟩, q8, q9⟩
        show c.size ≤ (if lo == hi then (c.size, c.size + 1) else (min lo c.size, max hi (c.size + 1))).1
        rcases q7' with q7' | q7'
        · injection q7' with j1 j2
          subst j1 j2
          simp
        · simp only at q7'
          split
          · simp
          · simp only; omega
      · exact .inr ⟨d, o, T, cs, q4, q5, q6, ⟨fz2, by rw [hother d hd]; exact q7, q7'⟩, q8, q9⟩
  · obtain ⟨F, p1, p2⟩ := hk.rs r R hr
    refine ⟨F, R.next _ _ F _ _ p1 (fun d hd => ?_) (fun _ _ h => h) (fun _ _ h => .inl h), fun d hd => ⟨by rw [hsz]; exact (p2 d hd).1, (p2 d hd).2⟩⟩
    by_cases hdb : d = b
    · subst hdb
      refine .inr ⟨⟨ad, x, hμ, hb⟩, c, el, _, fz', hcell, hsame, fun q7' => ?_⟩
      show c.size ≤ (if lo == hi then (c.size, c.size + 1) else (min lo c.size, max hi (c.size + 1))).1
      rcases q7' with q7' | q7'
      · injection q7' with j1 j2
        subst j1 j2
        simp
      · simp only at q7'
        split
        · simp
        · simp only; omega
    · exact .inl (hother d hdb)

/-- What a call comes to: of any caller's good world. -/
structure CallPost (E : Env) (st : SS) (K : SV → SS → Prop) (e : Ending) (w' : World) : Prop where
  out : ∃ v E' st' sv, e = .returned v ∧ E.Le E' ∧ Good E' st' w' ∧ Den E' sv v ∧ (st'.fr = st.fr ∧ st'.df = st.df) ∧ K sv st'

/-- What a function without a body answers, of its arguments alone. -/
def ExtPure (P : Program) (f : FuncId) (args : List SV) (sv : SV) : Prop :=
  ∀ E w vs, DenL E args vs → ∃ v, (callFunc f vs.toArray).run P w = .ok (.value v) w ∧ Den E sv v
def CallEnt (P : Program) (f : FuncId) (args : List SV) (st : SS) (K : SV → SS → Prop) : Prop :=
  ∀ E w vs, Good E st w → DenL E args vs → (callFunc f vs.toArray).run P w = .ok (.enter f vs.toArray) w ∧ Calls P f vs.toArray w (CallPost E st K)
def CallOK (P : Program) (f : FuncId) (args : List SV) (st : SS) (K : SV → SS → Prop) : Prop :=
  CallEnt P f args st K ∨ ∃ sv, ExtPure P f args sv ∧ K sv st

/-- A call of a method through an interface value. -/
def InvOK (P : Program) (recv : SV) (name : String) (args : List SV) (st : SS) (K : SV → SS → Prop) : Prop :=
  ∀ E w r vs, Good E st w → Den E recv r → DenL E args vs → ∃ f ars, (callMethod r name vs.toArray).run P w = .ok (.enter f ars) w ∧ Calls P f ars w (CallPost E st K)

/-- What a function without a body answers. -/
def ExtOK (P : Program) (f : FuncId) (args : List SV) (st : SS) (K : SV → SS → Prop) : Prop :=
  ∀ E w vs, Good E st w → DenL E args vs → ∃ v E' st' sv w', (callFunc f vs.toArray).run P w = .ok (.value v) w' ∧ E.Le E' ∧ Good E' st' w' ∧ Den E' sv v ∧ (st'.fr = st.fr ∧ st'.df = st.df) ∧ K sv st'

def SS.addBlk (st : SS) (T : TypeId) (ls : List SV) : SS := { st with hp := (st.nx, T, ls) :: st.hp, nx := st.nx + 1 }
def SS.addTok (st : SS) : SS := { st with tk := st.nx :: st.tk, nx := st.nx + 1 }
def SS.reTok (st : SS) (τ : Nat) : SS := { st with tk := st.nx :: tkDel st.tk τ, nx := st.nx + 1 }
def SS.setBlk (st : SS) (n : Nat) (l : List SV) : SS := { st with hp := hset st.hp n l }

def tkMem : List Nat → Nat → Bool
  | [], _ => false
  | m :: r, n => if m = n then true else tkMem r n
theorem tkMem_sound : ∀ (l : List Nat) (n : Nat), tkMem l n = true → n ∈ l
  | [], n, h => by simp [tkMem] at h
  | m :: r, n, h => by
    simp only [tkMem] at h
    split at h
    · rename_i e; simp [e]
    · exact List.mem_cons_of_mem _ (tkMem_sound r n h)

def intsOf (k : IntKind) : List (Nat × SV) → Nat → Option (List Int)
  | [], _ => some []
  | (i, .i k' n) :: r, j =>
    if i = j ∧ k' = k then
      match intsOf k r (j + 1) with
      | some l => some (n :: l)
      | none => none
    else none
  | _ :: _, _ => none

/-- The bytes or numbers that are appended. -/
def appd (k : IntKind) : SV → Option (List Int)
  | .ints k' _ l => if k = k' then some l else none
  | .s x => if k = .u8 then some (x.data.toList.map fun b => (b.toNat : Int)) else none
  | _ => none

def evAppend (Γ : Tab) (st : SS) (dst : Option Tmp) (t : TypeId) (t2 : TypeId) (s x : SV) (K : SS → Prop) : Prop :=
  match (Γ t).d with
  | .slice e =>
    match (Γ e).d with
    | .int k =>
      match s, appd k x with
      | .ints k' (.tok τ b) l, some m =>
        if k = k' ∧ tkMem st.tk τ = true then (Γ e).size = 1 ∧ ((Γ t2).d = .slice e ∨ (Γ t2).d = .str) ∧ (l.length + m.length) * (Γ e).bytes ≤ 140737488355328 ∧ 0 < (Γ e).bytes ∧ (Γ e).zero.length = 1 ∧ K (({ st with tk := st.nx :: tkDel st.tk τ, nx := st.nx + 1 } : SS).put dst (.ints k (.tok st.nx b) (l ++ m)))
        else False
      | .ints _ .nil [], some m => (Γ e).size = 1 ∧ ((Γ t2).d = .slice e ∨ (Γ t2).d = .str) ∧ m.length * (Γ e).bytes ≤ 140737488355328 ∧ 0 < (Γ e).bytes ∧ (Γ e).zero.length = 1 ∧ K (({ st with tk := st.nx :: st.tk, nx := st.nx + 1 } : SS).put dst (.ints k (.tok st.nx true) m))
      | _, _ => False
    | _ => False
  | _ => False

theorem Good.drewN {E : Env} {st : SS} {w : World} (h : Good E st w) : Good E st w.drew := h.congr rfl rfl rfl rfl

theorem run_lenOf_slice {P : Program} {w : World} (p : Option Addr) (n c : Nat) : (Builtin.lenOf (.slice p n c)).run P w = .ok n w := by simp [Builtin.lenOf]

/-- The cells of what is appended. -/
theorem appd_run {P : Program} {Γ : Tab} (hΓ : Γ.ok P) {E : Env} {k : IntKind} {x : SV} {m : List Int} {v : Value} (h : appd k x = some m) (hx : Den E x v) {w : World} (hmu : ∀ a v, E.μ a = some v → w.cell? a = some v) :
    (Builtin.lenOf v).run P w = .ok m.length w ∧ (Builtin.firstCells 1 m.length v).run P w = .ok (m.map (Value.int k)).toArray w := by
  unfold appd at h
  split at h
  · split at h
    · rename_i k' tg l hk
      subst hk
      simp only [Option.some.injEq] at h
      subst h
      simp only [Den] at hx
      obtain ⟨p, cap, rfl, hc, hc2, q, ht⟩ := hx
      refine ⟨run_lenOf_slice _ _ _, ?_⟩
      cases p with
      | none =>
        have : l = [] := by
          cases l with
          | nil => rfl
          | cons y ys => obtain ⟨b, off, e, _⟩ := q 0 y (by simp); cases e
        subst this
        simp [Builtin.firstCells]
      | some ad =>
        have hl := run_loadCells_list (P := P) w ad (l.map (Value.int k)) (fun j v hj => by
          simp only [List.getElem?_map, Option.map_eq_some_iff] at hj
          obtain ⟨n, hj, rfl⟩ := hj
          obtain ⟨b, off, e, hm⟩ := q j n hj
          injection e with e
          rw [e, addr_add]
          exact hmu _ _ hm)
        rw [List.length_map] at hl
        simp [Builtin.firstCells, hl]
    · cases h
  · split at h
    · rename_i y hk
      subst hk
      simp only [Option.some.injEq] at h
      subst h
      simp only [Den] at hx
      subst hx
      have hsz : (y.data.toList.map fun b => (b.toNat : Int)).length = y.size := by simp
      rw [hsz]
      refine ⟨by simp [Builtin.lenOf], ?_⟩
      simp [Builtin.firstCells]
      apply Array.ext'
      simp
    · cases h
  · cases h
theorem run_grow {P : Program} {w : World} {t t2 ty e : TypeId} {i : TypeInfo} {z : Value} {d2 : TypeDesc} (ht : P.underlying t = some (.slice e)) (ht2 : P.underlying t2 = some d2) (hd2 : ∀ k, d2 ≠ .int k) (hi : P.info? e = some i) (hz : i.zero = some z) (h1 : i.size = 1)
    {base : Option Addr} {sLen sCap n : Nat} {x : Value} {olds news : List Value} (hx : (Builtin.lenOf x).run P w = .ok n w) (ho : (Builtin.firstCells 1 sLen (.slice base sLen sCap)).run P w.drew = .ok olds.toArray w.drew) (hn : (Builtin.firstCells 1 n x).run P w.drew = .ok news.toArray w.drew)
    (hg : sCap < sLen + n) (h63 : ((sLen + n : Nat) : Int) ≤ 9223372036854775807) (hb : (sLen + n) * i.bytes ≤ 140737488355328) (hb0 : 0 < i.bytes) :
    (Builtin.append_ #[t, t2] ty #[.slice base sLen sCap, x]).run P w = .ok (.slice (some ⟨w.heap.size, 0, none⟩) (sLen + n) (grownCap w (sLen + n) sCap e))
      (w.drew.alloc (.cells ((olds ++ news).toArray ++ Builtin.zeroCells z.cells (grownCap w (sLen + n) sCap e - (sLen + n))) e)) := by
  have hn' : ¬ (sLen + n ≤ sCap) := by omega
  have h63' : ¬ (9223372036854775807 < ((sLen : Int) + (n : Int))) := by omega
  have h48 := growslice_fits (need := sLen + n) (old := sCap) hg hb
  have h48' : ¬ (281474976710656 < Builtin.nextslicecap (sLen + n) sCap * i.bytes) := by omega
  have hm : (match d2 with | .int _ => true | _ => false) = false := by
    cases d2 <;> first | rfl | exact absurd rfl (hd2 _)
  have hb1 : i.bytes ≠ 0 := by omega
  simp [Builtin.append_, run_underlying ht, run_underlying ht2, sizeOf, typeInfo, zeroValue, hi, hz, h1, hx, hm, hn', h63', h48', Question.forced, ho, hn, newRow, grownCap, hb1]
  cases d2 <;> first | exact absurd rfl (hd2 _) | (simp [hx, hn', h63', h48', ho, hn]; congr 2; apply Array.ext'; simp; done) | (simp_all; congr 2; apply Array.ext'; simp; done)

theorem run_room {P : Program} {w w' : World} {t t2 ty e : TypeId} {i : TypeInfo} {d2 : TypeDesc} (ht : P.underlying t = some (.slice e)) (ht2 : P.underlying t2 = some d2) (hd2 : ∀ k, d2 ≠ .int k) (hi : P.info? e = some i) (h1 : i.size = 1)
    {base : Option Addr} {sLen sCap n : Nat} {x : Value} {news : List Value} (hx : (Builtin.lenOf x).run P w = .ok n w) (hn : (Builtin.firstCells 1 n x).run P w = .ok news.toArray w)
    (hg : sLen + n ≤ sCap) (hst : match base with | some ad => (storeCells (ad.add (sLen * 1)) news).run P w = .ok () w' | none => w' = w) :
    (Builtin.append_ #[t, t2] ty #[.slice base sLen sCap, x]).run P w = .ok (.slice base (sLen + n) sCap) w' := by
  cases base with
  | none =>
    simp only at hst
    subst hst
    simp [Builtin.append_, run_underlying ht, run_underlying ht2, sizeOf, typeInfo, hi, h1]
    cases d2 <;> first | exact absurd rfl (hd2 _) | (simp [hx, hg, hn]; done)
  | some ad =>
    simp only [Nat.mul_one] at hst
    simp [Builtin.append_, run_underlying ht, run_underlying ht2, sizeOf, typeInfo, hi, h1]
    cases d2 <;> first | exact absurd rfl (hd2 _) | (simp [hx, hg, hn, hst]; done)

theorem Good.fewerTok {E : Env} {st : SS} {w : World} (h : Good E st w) {tk : List Nat} (ht : ∀ x, x ∈ tk → x ∈ st.tk) : Good E { st with tk := tk } w := by
  obtain ⟨κ, k⟩ := h.own
  exact ⟨h.k, h.kx, h.os, h.tape, h.output, h.size, h.old, h.mu, h.nxρ, h.nxθ, κ, k.hp, fun τ hτ => k.tk τ (ht τ hτ), k.rs, k.mu, k.dom⟩

theorem map_get (k : IntKind) (l : List Int) (i : Nat) (x : Int) (h : l[i]? = some x) : (l.map (Value.int k))[i]? = some (.int k x) := by simp [h]

theorem td_slice_str {Γ : Tab} {P : Program} (hΓ : Γ.ok P) {t2 e : TypeId} (h : (Γ t2).d = .slice e ∨ (Γ t2).d = .str) : ∃ d2, P.underlying t2 = some d2 ∧ ∀ k, d2 ≠ .int k := by
  have := (hΓ t2).und
  rcases h with h | h <;> rw [h] at this <;> simp only [TD.ok] at this <;> exact ⟨_, this, by simp⟩

/-- What a new row of numbers with a token comes to. -/
theorem new_ints {E : Env} {st : SS} {w : World} (h : Good E st w) (k : IntKind) (T : TypeId) (l : List Int) (zs : Array Value) (cap : Nat) (hc : l.length ≤ cap) (hz : cap ≤ l.length + zs.size) (h63 : cap ≤ 9223372036854775807) (fz : Nat × Nat := (0, 0)) (hfz : fz = (0, 0) ∨ l.length + zs.size ≤ fz.1 := by exact .inl rfl) :
    ∃ E', E.Le E' ∧ Good E' { st with tk := st.nx :: st.tk, nx := st.nx + 1 } (w.alloc (.cells ((l.map (Value.int k)).toArray ++ zs) T fz)) ∧ Den E' (.ints k (.tok st.nx true) l) (.slice (some ⟨w.heap.size, 0, none⟩) l.length cap) := by
  obtain ⟨E', h1, h2, h3, h4, h5⟩ := h.alloc_tok ((l.map (Value.int k)).toArray ++ zs) T 1 l.length cap hc (by simp; omega) fz (by simpa using hfz)
  refine ⟨E', h1, h5, ?_⟩
  simp only [Den]
  refine ⟨_, cap, rfl, hc, h63, fun i x hx => ⟨_, 0, rfl, ?_⟩, by rw [h2]; exact TokV.self hc, fun _ a n c e => ?_⟩
  · have hi : i < l.length := by
      rcases Nat.lt_or_ge i l.length with h' | h'
      · exact h'
      · rw [List.getElem?_eq_none h'] at hx; cases hx
    rw [Nat.zero_add]
    refine h3 i _ (by omega) ?_
    rw [Array.getElem?_append_left (by simpa using hi)]
    simpa using map_get k l i x hx
  · simp only [Value.slice.injEq, Option.some.injEq] at e
    rw [← e.1]
    exact h4

theorem tok_weak {E : Env} {k : IntKind} {τ : Nat} {l : List Int} {v : Value} (b : Bool) (h : Den E (.ints k (.tok τ true) l) v) : Den E (.ints k (.tok τ b) l) v := by
  simp only [Den] at h ⊢
  obtain ⟨a, c, h1, h2, h3, h4, h5, h6⟩ := h
  exact ⟨a, c, h1, h2, h3, h4, h5, fun _ => h6 rfl⟩

theorem evAppend_sound {P : Program} {Γ : Tab} (hΓ : Γ.ok P) {E : Env} {st : SS} {w : World} (hw : Good E st w) {dst : Option Tmp} {t t2 ty : TypeId} {s x : SV} {vs vx : Value} (hs : Den E s vs) (hx : ∀ k m, appd k x = some m → ∀ w', w'.heap = w.heap → (Builtin.lenOf vx).run P w' = .ok m.length w' ∧ (Builtin.firstCells 1 m.length vx).run P w' = .ok (m.map (Value.int k)).toArray w') {K : SS → Prop}
    (h : evAppend Γ st dst t t2 s x K) : ∃ v w' E' st' sv, (Builtin.append_ #[t, t2] ty #[vs, vx]).run P w = .ok v w' ∧ E.Le E' ∧ Good E' st' w' ∧ Den E' sv v ∧ (st'.fr = st.fr ∧ st'.df = st.df) ∧ K (st'.put dst sv) := by
  unfold evAppend at h
  split at h
  · rename_i e e1
    have hd := (hΓ t).und
    rw [e1] at hd
    simp only [TD.ok] at hd
    split at h
    · rename_i k e2
      split at h
      · rename_i k' τ b l m e3
        split at h
        · rename_i hk
          obtain ⟨rfl, hmem⟩ := hk
          obtain ⟨h1, h2, h3, h4, h5, hK⟩ := h
          obtain ⟨i, z, hi, his, hib, hiz, hzc⟩ := Tab.info hΓ e (by rw [e2]; simp)
          obtain ⟨d2, hd2, hd2'⟩ := td_slice_str hΓ h2
          have hτ := tkMem_sound _ _ hmem
          have hs' := hs
          simp only [Den] at hs
          obtain ⟨p, cap, rfl, hc, hc63, q, hθ, hfresh⟩ := hs
          obtain ⟨r1, r2⟩ := hx _ _ e3 w rfl
          obtain ⟨a0, n0, c0, j0, p', hθ, hnc, hj0, hv0, hp0⟩ := hθ
          simp only [Value.slice.injEq] at hv0
          obtain ⟨rfl, hn0, hc0⟩ := hv0
          by_cases hg : l.length + m.length ≤ cap
          · obtain ⟨E', w', k1, k2, k3, k4, k5, k6⟩ := hw.grow hτ hθ (m.map (Value.int k)) m.length (by simp) (by omega) (by omega) P (by
              intro v hv; simp only [List.mem_map] at hv; obtain ⟨n, _, rfl⟩ := hv; rfl)
            refine ⟨_, w', E', { st with tk := st.nx :: tkDel st.tk τ, nx := st.nx + 1 }, _, run_room hd hd2 hd2' hi (his.trans h1) r1 r2 hg ?_, k1, k4, ?_, ⟨rfl, rfl⟩, hK⟩
            · rcases hp0 with hp0 | rfl
              · have hm0 : m = [] := by
                  have : m.length = 0 := by omega
                  simpa using this
                subst hm0
                have hw' : w' = w := by
                  cases a0 with
                  | none => exact k5.1
                  | some ad =>
                    simp only [List.map_nil, storeCells, Sem.run_pure, Result.ok.injEq] at k5
                    exact k5.2.symm
                cases p with
                | none => exact hw'
                | some ad => simp only [List.map_nil, storeCells, Sem.run_pure]; rw [hw']
              · cases a0 with
                | none => exact k5.1
                | some ad =>
                  simp only [Option.map_some]
                  rw [Addr_add_add, ← Nat.add_mul, show j0 + l.length = n0 by omega]
                  exact k5
            · simp only [Den]
              refine ⟨p, cap, by rw [List.length_append], by rw [List.length_append]; exact hg, hc63, fun j y hy => ?_, ⟨a0, n0 + m.length, c0, j0, p, k3, by omega, by omega, by simp only [Value.slice.injEq]; exact ⟨trivial, by omega, by omega⟩, hp0⟩, fun hb a n c ee => ?_⟩
              · rcases Nat.lt_or_ge j l.length with hj | hj
                · rw [List.getElem?_append_left hj] at hy
                  obtain ⟨b', off, e5, e6⟩ := q j y hy
                  exact ⟨b', off, e5, k1.μ _ _ e6⟩
                · rw [List.getElem?_append_right hj] at hy
                  obtain ⟨b', off, e5, e6⟩ := k6 (j - l.length) _ (map_get k m _ y hy)
                  have hjm : j - l.length < m.length := by
                    rcases Nat.lt_or_ge (j - l.length) m.length with h' | h'
                    · exact h'
                    · rw [List.getElem?_eq_none h'] at hy; cases hy
                  rcases hp0 with hp0 | rfl
                  · omega
                  · subst e5
                    refine ⟨b', off + j0, ?_, ?_⟩
                    · simp only [Option.map_some, Addr.add]
                      split
                      · rename_i hj; simp [hj]
                      · simp
                    · rw [show off + n0 * 1 + (j - l.length) = off + j0 + j by omega] at e6
                      exact e6
              · simp only [Value.slice.injEq] at ee
                rw [k1.Z]; exact hfresh hb a _ _ (by rw [ee.1])
          · obtain ⟨r1', r2'⟩ := hx _ _ e3 w.drew rfl
            have ho := (appd_run (P := P) (k := k) (x := .ints k (.tok τ b) l) (m := l) (w := w.drew) hΓ (by simp [appd]) hs' (fun a v e => hw.mu a v e)).2
            have hbound : l.length + m.length ≤ 140737488355328 := by
              have : (l.length + m.length) * 1 ≤ (l.length + m.length) * (Γ e).bytes := Nat.mul_le_mul_left _ h4
              omega
            have hrun := run_grow (ty := ty) hd hd2 hd2' hi hiz (his.trans h1) (base := p) (sLen := l.length) (sCap := cap) r1 ho r2' (by omega) (by omega) (by rw [hib]; exact h3) (by rw [hib]; exact h4)
            have hgc1 := grownCap_ge w (l.length + m.length) cap e
            have hgc2 := grownCap_le_maxLen w (l.length + m.length) cap e (by unfold maxLen; omega)
            obtain ⟨E', k1, k2, k3⟩ := new_ints hw.drewN k e (l ++ m) (Builtin.zeroCells z.cells (grownCap w (l.length + m.length) cap e - (l.length + m.length))) (grownCap w (l.length + m.length) cap e)
              (by rw [List.length_append]; exact hgc1) (by
                rw [List.length_append, size_zeroCells]
                have : z.cells.size = 1 := by rw [← Array.length_toList, hzc, h5]
                rw [this]; omega) (by unfold maxLen at hgc2; omega)
            refine ⟨_, _, E', { st with tk := st.nx :: tkDel st.tk τ, nx := st.nx + 1 }, _, hrun, k1, ?_, by rw [List.length_append] at k3; exact tok_weak b k3, ⟨rfl, rfl⟩, hK⟩
            rw [← List.map_append]
            exact k2.fewerTok (st := { st with tk := st.nx :: st.tk, nx := st.nx + 1 }) (fun y hy => by
              rcases List.mem_cons.1 hy with rfl | hy
              · simp
              · exact List.mem_cons_of_mem _ (tkDel_mem _ _ _ hy).1)
        · exact h.elim
      · rename_i k' m e3
        obtain ⟨h1, h2, h3, h4, h5, hK⟩ := h
        obtain ⟨i, z, hi, his, hib, hiz, hzc⟩ := Tab.info hΓ e (by rw [e2]; simp)
        obtain ⟨d2, hd2, hd2'⟩ := td_slice_str hΓ h2
        have hs' := hs
        simp only [Den] at hs
        obtain ⟨p, cap, _, hc, hc63, q, hnil⟩ := hs
        simp only [TagOK] at hnil
        subst hnil
        obtain ⟨r1, r2⟩ := hx _ _ e3 w rfl
        by_cases hm : m = []
        · subst hm
          obtain ⟨E', k1, k2, k3, k4, k5⟩ := hw.tok_none 1 none 0
          refine ⟨_, w, E', { st with tk := st.nx :: st.tk, nx := st.nx + 1 }, _, run_room hd hd2 hd2' hi (his.trans h1) (base := none) (sLen := 0) (sCap := 0) r1 r2 (by simp) rfl, k1, k5, ?_, ⟨rfl, rfl⟩, hK⟩
          simp only [Den]
          exact ⟨none, 0, rfl, by simp, by omega, fun i x hx => by simp at hx, by rw [k2]; exact TokV.self (Nat.le_refl _), fun _ a n c e => by simp at e⟩
        · have hpos : 0 < m.length := List.length_pos_iff.2 hm
          obtain ⟨r1', r2'⟩ := hx _ _ e3 w.drew rfl
          have hbound : m.length ≤ 140737488355328 := by
            have : m.length * 1 ≤ m.length * (Γ e).bytes := Nat.mul_le_mul_left _ h4
            omega
          have hrun := run_grow (ty := ty) (olds := []) hd hd2 hd2' hi hiz (his.trans h1) (base := none) (sLen := 0) (sCap := 0) r1 (by simp [Builtin.firstCells]) r2' (by omega) (by omega) (by rw [hib, Nat.zero_add]; exact h3) (by rw [hib]; exact h4)
          simp only [Nat.zero_add, List.nil_append] at hrun
          have hgc1 := grownCap_ge w m.length 0 e
          have hgc2 := grownCap_le_maxLen w m.length 0 e (by unfold maxLen; omega)
          obtain ⟨E', k1, k2, k3⟩ := new_ints hw.drewN k e m (Builtin.zeroCells z.cells (grownCap w m.length 0 e - m.length)) (grownCap w m.length 0 e) hgc1 (by
              rw [size_zeroCells]
              have : z.cells.size = 1 := by rw [← Array.length_toList, hzc, h5]
              rw [this]; omega) (by unfold maxLen at hgc2; omega)
          exact ⟨_, _, E', { st with tk := st.nx :: st.tk, nx := st.nx + 1 }, _, hrun, k1, k2, k3, ⟨rfl, rfl⟩, hK⟩
      · exact h.elim
    · exact h.elim
  · exact h.elim
end Go.Eng
/- The engine, part GA: rows that are written: raw slices whose cells are one's own. -/
namespace Go.Eng
open Go
set_option linter.unusedVariables false
set_option linter.unusedSimpArgs false

def rsSet : List (Nat × Res) → Nat → Res → List (Nat × Res)
  | [], _, _ => []
  | (m, Q) :: t, r, R => (if m = r then (m, R) else (m, Q)) :: rsSet t r R
theorem rsSet_mem {r : Nat} {R : Res} : ∀ {l : List (Nat × Res)} {m : Nat} {Q : Res}, (m, Q) ∈ rsSet l r R → (m = r ∧ Q = R) ∨ (m ≠ r ∧ (m, Q) ∈ l)
  | (n, S) :: t, m, Q, h => by
    simp only [rsSet] at h
    rcases List.mem_cons.1 h with h | h
    · split at h
      · rename_i e
        injection h with h1 h2
        exact .inl ⟨h1.trans e, h2⟩
      · rename_i e
        injection h with h1 h2
        exact .inr ⟨by rw [h1]; exact e, by rw [h1, h2]; exact List.mem_cons_self⟩
    · rcases rsSet_mem h with h | h
      · exact .inl h
      · exact .inr ⟨h.1, List.mem_cons_of_mem _ h.2⟩

theorem rsSet_here {r : Nat} {R Q : Res} : ∀ {l : List (Nat × Res)}, (r, Q) ∈ l → (r, R) ∈ rsSet l r R
  | (n, S) :: t, h => by
    simp only [rsSet]
    rcases List.mem_cons.1 h with h | h
    · injection h with h1 h2
      rw [if_pos h1.symm, h1]; exact List.mem_cons_self
    · exact List.mem_cons_of_mem _ (rsSet_here h)
theorem rsSet_twice {r : Nat} {R Q : Res} : ∀ (l : List (Nat × Res)), rsSet (rsSet l r Q) r R = rsSet l r R
  | [] => rfl
  | (n, S) :: t => by
    simp only [rsSet]
    by_cases h : n = r
    · rw [if_pos h]; simp only [rsSet, if_pos h, rsSet_twice t]
    · rw [if_neg h]; simp only [rsSet, if_neg h, rsSet_twice t]

/-- A slice's row, owned alone: what it reads. -/
def RowR (k : IntKind) (p : Option Addr) (c : Nat) (l : List Int) : Res where
  holds μ F w := l.length ≤ c ∧ c ≤ 9223372036854775807 ∧ (c = 0 ∨ ∃ b off T cs, p = some ⟨b, off, none⟩ ∧ F b ∧ Row w b cs T ∧ off + c ≤ cs.size ∧ (∀ i x, l[i]? = some x → cs[off + i]? = some (.int k x)) ∧ ∀ a v, μ a = some v → a.block ≠ b)
  next μ μ' F w w' := by
    rintro ⟨h0, h1, h⟩ hk hμ hn
    refine ⟨h0, h1, h.imp id ?_⟩
    rintro ⟨b, off, T, cs, e1, e2, e3, e4, e5, e6⟩
    refine ⟨b, off, T, cs, e1, e2, e3.congr ?_, e4, e5, fun a v e => ?_⟩
    · rcases hk b e2 with e | ⟨⟨a, v, e, e'⟩, _⟩
      · exact e
      · exact absurd e' (e6 a v e)
    · rcases hn a v e with e | e
      · exact e6 a v e
      · rintro rfl; exact e e2

/-- A row in its world; what stands there may be another. -/
theorem Good.rowOf {E : Env} {st : SS} {w : World} (h : Good E st w) {r : Nat} {k : IntKind} {p : Option Addr} {c : Nat} {l : List Int} (hr : (r, RowR k p c l) ∈ st.rs) :
    l.length ≤ c ∧ c ≤ 9223372036854775807 ∧ (c = 0 ∨ ∃ b off T cs, p = some ⟨b, off, none⟩ ∧ Row w b cs T ∧ off + c ≤ cs.size ∧ (∀ i x, l[i]? = some x → cs[off + i]? = some (.int k x)) ∧ (∀ a v, E.μ a = some v → a.block ≠ b) ∧
      ∀ w' : World, (∀ c, c ≠ b → w'.heap[c]? = w.heap[c]?) → w'.heap.size = w.heap.size → w'.os = w.os → w'.tape = w.tape → w'.output = w.output → ∀ Q : Res, Q.holds E.μ (fun x => x = b) w' → Good E { st with rs := rsSet st.rs r Q } w') := by
  obtain ⟨κ, hk⟩ := h.own
  obtain ⟨F, ⟨h0, h1, hp⟩, hF2⟩ := hk.rs _ _ hr
  refine ⟨h0, h1, hp.imp id ?_⟩
  rintro ⟨b, off, T, cs, e1, hF, e3, e4, e5, hμb⟩
  obtain ⟨hlt, hκ, hmut⟩ := hF2 b hF
  refine ⟨b, off, T, cs, e1, e3, e4, e5, hμb, fun w' hother hsz hos htape hout Q hQ => ?_⟩
  have cell : ∀ ad v, E.μ ad = some v → w'.cell? ad = some v := fun ad v e => by
    have : ad.block ≠ b := hμb ad v e
    rw [World.cell?_of_block (hother _ this)]; exact h.mu ad v e
  have old : ∀ c, c < E.w0.heap.size → ¬ E.S0 c → w'.heap[c]? = E.w0.heap[c]? := fun c hc hs => by
    rw [hother c]
    · exact h.old c hc hs
    · rintro rfl
      rcases hmut with hm | hm
      · omega
      · exact hs hm
  refine ⟨h.k, h.kx, hos.trans h.os, htape.trans h.tape, hout.trans h.output, by rw [hsz]; exact h.size, old, cell, h.nxρ, h.nxθ, κ, fun n T ls e => ?_, fun τ hτ => ?_, fun m R hm => ?_, hk.mu, fun c k e => by rw [hsz]; exact hk.dom c k e⟩
  · obtain ⟨c, cs, q1, q2, q3, q4, q5⟩ := hk.hp n T ls e
    have hne : c ≠ b := by rintro rfl; rw [hκ] at q4; cases q4
    exact ⟨c, cs, q1, by rw [hother c hne]; exact q2, q3, q4, q5⟩
  · obtain ⟨sz, a, len, cap, q1, q2, q3⟩ := hk.tk τ hτ
    refine ⟨sz, a, len, cap, q1, q2, ?_⟩
    rcases q3 with q3 | ⟨c, off, T, cs, q4, q5, q6, q7, q8, q9⟩
    · exact .inl q3
    · have hne : c ≠ b := by rintro rfl; rw [hκ] at q5; cases q5
      exact .inr ⟨c, off, T, cs, q4, q5, q6, q7.congr (hother c hne), q8, q9⟩
  · rcases rsSet_mem hm with ⟨rfl, rfl⟩ | ⟨q1, q2⟩
    · exact ⟨fun c => c = b, hQ, fun c hc => by subst hc; exact ⟨by rw [hsz]; exact hlt, hκ, hmut⟩⟩
    · obtain ⟨G, p1, p2⟩ := hk.rs m R q2
      have hne : ∀ c, G c → c ≠ b := by rintro c hG rfl; have := (p2 _ hG).2.1; rw [hκ] at this; injection this with this; injection this with this; exact q1 this.symm
      exact ⟨G, R.loc p1 (fun c hc => hother c (hne c hc)), fun c hc => ⟨by rw [hsz]; exact (p2 c hc).1, (p2 c hc).2⟩⟩

/-- A resource has moved to a new row. -/
theorem Good.newrow {E : Env} {st : SS} {w : World} (h : Good E st w) (r : Nat) (o : Obj) (Q : Res) (hQ : Q.holds E.μ (fun x => x = w.heap.size) (w.alloc o)) : Good E { st with rs := rsSet st.rs r Q } (w.alloc o) := by
  obtain ⟨κ, hk⟩ := h.own
  refine ⟨h.k, h.kx, h.os, h.tape, h.output, by rw [size_alloc']; exact Nat.le_succ_of_le h.size, fun b hb hs => ?_, fun a v e => cell_alloc_some (h.mu a v e), h.nxρ, h.nxθ, upd κ w.heap.size (some (.res r)), ?_, ?_, ?_, ?_, ?_⟩
  · rw [heap_alloc_old _ _ (Nat.lt_of_lt_of_le hb h.size)]; exact h.old b hb hs
  · intro n T' ls' e
    obtain ⟨b, cs', h1, h2, h3, h4, h5⟩ := hk.hp _ _ _ e
    have hb : b < w.heap.size := (hk.dom _ _ h4).1
    exact ⟨b, cs', h1, by rw [heap_alloc_old _ _ hb]; exact h2, h3, (upd_ne (by omega)).trans h4, h5⟩
  · intro τ hτ
    obtain ⟨sz, a, len, cap, h1, h2, h3⟩ := hk.tk τ hτ
    refine ⟨sz, a, len, cap, h1, h2, ?_⟩
    rcases h3 with h3 | ⟨b, off, T', cs', h4, h5, h6, h7, h8, h9⟩
    · exact .inl h3
    · have hb : b < w.heap.size := (hk.dom _ _ h5).1
      exact .inr ⟨b, off, T', cs', h4, (upd_ne (by omega)).trans h5, h6, h7.congr (heap_alloc_old _ _ hb), h8, h9⟩
  · intro m R hm
    rcases rsSet_mem hm with ⟨rfl, rfl⟩ | ⟨q1, q2⟩
    · exact ⟨fun c => c = w.heap.size, hQ, fun c hc => by subst hc; exact ⟨by rw [size_alloc']; omega, upd_same _ _ _, .inl h.size⟩⟩
    · obtain ⟨F, h1, h2⟩ := hk.rs m R q2
      exact ⟨F, R.loc h1 (fun b hb => heap_alloc_old _ _ (h2 b hb).1), fun b hb => ⟨by rw [size_alloc']; exact Nat.lt_succ_of_lt (h2 b hb).1, (upd_ne (by have := (h2 b hb).1; omega)).trans (h2 b hb).2.1, (h2 b hb).2.2⟩⟩
  · intro a v e
    have hb : a.block < w.heap.size := World.block_lt_of_cell? w a (h.mu a v e)
    rw [upd_ne (by omega)]
    exact hk.mu a v e
  · intro b k e
    rw [size_alloc']
    by_cases hb : b = w.heap.size
    · exact ⟨by omega, .inl (by rw [hb]; exact h.size)⟩
    · rw [upd_ne hb] at e; exact ⟨Nat.lt_succ_of_lt (hk.dom b k e).1, (hk.dom b k e).2⟩

/-- A resource is said otherwise. -/
theorem Good.resay {E : Env} {st : SS} {w : World} (h : Good E st w) {r : Nat} {R Q : Res} (hr : (r, R) ∈ st.rs) (hQ : ∀ F, R.holds E.μ F w → Q.holds E.μ F w) : Good E { st with rs := rsSet st.rs r Q } w := by
  obtain ⟨κ, hk⟩ := h.own
  refine ⟨h.k, h.kx, h.os, h.tape, h.output, h.size, h.old, h.mu, h.nxρ, h.nxθ, κ, hk.hp, hk.tk, fun m R' hm => ?_, hk.mu, hk.dom⟩
  rcases rsSet_mem hm with ⟨rfl, rfl⟩ | ⟨q1, q2⟩
  · obtain ⟨F, h1, h2⟩ := hk.rs _ _ hr
    exact ⟨F, hQ F h1, h2⟩
  · exact hk.rs _ _ q2

/-- A row from its first cell on, of type T, no cell frozen: what it reads; or nil. -/
def RowZ (T : TypeId) (k : IntKind) (p : Option Addr) (c : Nat) (l : List Int) : Res where
  holds μ F w := l.length ≤ c ∧ c ≤ 9223372036854775807 ∧ ((p = none ∧ c = 0) ∨ ∃ (b : Nat) (cs : Array Value), p = some ⟨b, 0, none⟩ ∧ F b ∧ w.heap[b]? = some (.cells cs T (0, 0)) ∧ cs.size = c ∧ (∀ (i : Nat) (x : Int), l[i]? = some x → cs[i]? = some (Value.int k x)) ∧ ∀ a v, μ a = some v → a.block ≠ b)
  next μ μ' F w w' := by
    rintro ⟨h0, h1, h⟩ hk hμ hn
    refine ⟨h0, h1, h.imp id ?_⟩
    rintro ⟨b, cs, e1, e2, e3, e4, e5, e6⟩
    refine ⟨b, cs, e1, e2, ?_, e4, e5, fun a v e => ?_⟩
    · rcases hk b e2 with e | ⟨⟨a, v, e, e'⟩, _⟩
      · exact e.trans e3
      · exact absurd e' (e6 a v e)
    · rcases hn a v e with e | e
      · exact e6 a v e
      · rintro rfl; exact e e2
theorem RowZ.row {T : TypeId} {k : IntKind} {p : Option Addr} {c : Nat} {l : List Int} {μ : Addr → Option Value} {F : Nat → Prop} {w : World} (h : (RowZ T k p c l).holds μ F w) : (RowR k p c l).holds μ F w := by
  obtain ⟨h0, h1, h⟩ := h
  rcases h with ⟨_, h⟩ | ⟨b, cs, e1, e2, e3, e4, e5, e6⟩
  · exact ⟨h0, h1, .inl h⟩
  · exact ⟨h0, h1, .inr ⟨b, 0, T, cs, e1, e2, ⟨(0, 0), e3, .inl rfl⟩, by omega, fun i x hx => by rw [Nat.zero_add]; exact e5 i x hx, e6⟩⟩
/-- What may be written like a row. -/
inductive RowLike (k : IntKind) (p : Option Addr) (c : Nat) : (List Int → Res) → Prop where
  | r : RowLike k p c (RowR k p c)
  | z (T : TypeId) : RowLike k p c (RowZ T k p c)

theorem add_none (b o i : Nat) : (⟨b, o, none⟩ : Addr).add i = ⟨b, o + i, none⟩ := by unfold Addr.add; split <;> simp_all

/-- What of a row a slice shows: from element i on, n of them. -/
def Shows (p : Option Addr) (n : Nat) (p0 : Option Addr) (l0 : List Int) (i : Nat) : Prop := i + n ≤ l0.length ∧ (n = 0 ∨ p = p0.map (·.add i))

/-- The same, of what there is room for. -/
def ShowsIn (p : Option Addr) (n : Nat) (p0 : Option Addr) (l0 : List Int) (c0 : Nat) (i : Nat) : Prop := i ≤ l0.length ∧ i + n ≤ c0 ∧ (n = 0 ∨ p = p0.map (·.add i))
theorem Shows.within {p : Option Addr} {n : Nat} {p0 : Option Addr} {l0 : List Int} {i c0 : Nat} (h : Shows p n p0 l0 i) (hc : l0.length ≤ c0) : ShowsIn p n p0 l0 c0 i := ⟨by have := h.1; omega, by have := h.1; omega, h.2⟩

/-- A piece of a row is read. -/
def RdOK (rs : List (Nat × Res)) (k : IntKind) (p : Option Addr) (n : Nat) (m : List Int) : Prop :=
  ∃ r p0 c0 l0 i, (r, RowR k p0 c0 l0) ∈ rs ∧ Shows p n p0 l0 i ∧ m = (l0.drop i).take n

theorem cell_heap {w w' : World} (h : w'.heap = w.heap) (a : Addr) : w'.cell? a = w.cell? a := by simp only [World.cell?, h]

theorem firstCells_zero {P : Program} {w : World} (p : Option Addr) (n c : Nat) : (Builtin.firstCells 1 0 (.slice p n c)).run P w = .ok #[] w := by
  cases p with
  | none => simp [Builtin.firstCells]
  | some a => simpa [Builtin.firstCells] using run_loadCells_list (P := P) w a [] (by simp)

theorem RdOK.run {E : Env} {st : SS} {w : World} (hw : Good E st w) {k : IntKind} {p : Option Addr} {n : Nat} {m : List Int} (h : RdOK st.rs k p n m) (P : Program) (c : Nat) :
    m.length = n ∧ ∀ w', w'.heap = w.heap → (Builtin.firstCells 1 m.length (.slice p n c)).run P w' = .ok (m.map (Value.int k)).toArray w' := by
  obtain ⟨r, p0, c0, l0, i, hr, ⟨hi, hp⟩, rfl⟩ := h
  obtain ⟨h0, h1, h2⟩ := hw.rowOf hr
  have hm : ((l0.drop i).take n).length = n := by simp; omega
  refine ⟨hm, fun w' hh => ?_⟩
  by_cases hn : n = 0
  · subst hn
    simp only [List.take_zero, List.length_nil, List.map_nil]
    exact firstCells_zero _ _ _
  · rcases hp with hp | rfl
    · exact absurd hp hn
    rcases h2 with rfl | ⟨b, off, T, cs, rfl, hrow, hsz, hcs, _⟩
    · have : l0.length = 0 := by omega
      omega
    obtain ⟨fz, hb, _⟩ := hrow
    have hl := run_loadCells_list (P := P) w' ⟨b, off + i, none⟩ (((l0.drop i).take n).map (Value.int k)) (fun j v hj => by
      simp only [List.getElem?_map, Option.map_eq_some_iff] at hj
      obtain ⟨x, hj, rfl⟩ := hj
      rw [List.getElem?_take] at hj
      split at hj
      · rw [List.getElem?_drop] at hj
        have := hcs _ _ hj
        rw [add_none, cell_heap hh]
        simp only [World.cell?, hb]
        rw [Nat.add_assoc]
        exact this
      · cases hj)
    rw [List.length_map] at hl
    simp only [Option.map_some, add_none, Builtin.firstCells, Nat.mul_one]
    exact hl

theorem spliceGet (k : IntKind) {cs : List Value} {l m : List Int} {off i : Nat} (hi : i ≤ l.length) (hcs : ∀ j x, l[j]? = some x → cs[off + j]? = some (Value.int k x)) (hsz : off + l.length ≤ cs.length) (hm : off + i + m.length ≤ cs.length) (j : Nat) (x : Int)
    (hx : (l.take i ++ m ++ l.drop (i + m.length))[j]? = some x) : (cs.take (off + i) ++ m.map (Value.int k) ++ cs.drop (off + i + m.length))[off + j]? = some (Value.int k x) := by
  rw [List.append_assoc] at hx ⊢
  have hl1 : (l.take i).length = i := by simp; omega
  have hc1 : (cs.take (off + i)).length = off + i := by simp; omega
  by_cases h1 : j < i
  · rw [List.getElem?_append_left (by omega), List.getElem?_take, if_pos h1] at hx
    rw [List.getElem?_append_left (by omega), List.getElem?_take, if_pos (by omega)]
    exact hcs j x hx
  · rw [List.getElem?_append_right (by omega), hl1] at hx
    rw [List.getElem?_append_right (by omega), hc1, show off + j - (off + i) = j - i by omega]
    by_cases h2 : j - i < m.length
    · rw [List.getElem?_append_left h2] at hx
      rw [List.getElem?_append_left (by simpa using h2), List.getElem?_map, hx]
      rfl
    · rw [List.getElem?_append_right (by omega), List.getElem?_drop] at hx
      rw [List.getElem?_append_right (by simp; omega), List.getElem?_drop, List.length_map]
      rw [show i + m.length + (j - i - m.length) = j by omega] at hx
      rw [show off + i + m.length + (j - i - m.length) = off + j by omega]
      exact hcs j x hx

/-- Numbers are written into a row. -/
theorem Good.rowStore {E : Env} {st : SS} {w : World} (hw : Good E st w) {r : Nat} {k : IntKind} {p0 : Option Addr} {c0 : Nat} {l0 : List Int} (hr : (r, RowR k p0 c0 l0) ∈ st.rs) (P : Program) (i : Nat) (m : List Int) (hi : i ≤ l0.length) (hm : i + m.length ≤ c0) (hne : m ≠ []) :
    ∃ a w', p0.map (·.add i) = some a ∧ (storeCells a (m.map (Value.int k))).run P w = .ok () w' ∧ Good E { st with rs := rsSet st.rs r (RowR k p0 c0 (l0.take i ++ m ++ l0.drop (i + m.length))) } w' := by
  obtain ⟨h0, h1, h2⟩ := hw.rowOf hr
  have hpos := List.length_pos_iff.2 hne
  rcases h2 with rfl | ⟨b, off, T, cs, rfl, ⟨fz, hb, hfz⟩, hsz, hcs, hμ, hset⟩
  · omega
  have hrun := run_storeCells_T P b (off + i) T fz (m.map (Value.int k)) 0 cs w hb hfz (by simp; omega) (by
    intro v hv; simp only [List.mem_map] at hv; obtain ⟨n, _, rfl⟩ := hv; rfl)
  rw [Nat.add_zero, List.length_map] at hrun
  refine ⟨⟨b, off + i, none⟩, _, by simp [add_none], hrun, ?_⟩
  refine hset _ (fun c hc => setRow_other w b c _ hc) (setRow_size w b _) rfl rfl rfl _ ?_
  refine ⟨by simp; omega, h1, .inr ⟨b, off, T, _, rfl, rfl, ⟨fz, setRow_heap w b cs _ T fz hb, ?_⟩, by simp; omega, fun j x hx => ?_, hμ⟩⟩
  · rcases hfz with hfz | hfz
    · exact .inl hfz
    · exact .inr (by simp; omega)
  · have := spliceGet k (cs := cs.toList) (l := l0) (m := m) (off := off) (i := i) hi (fun j x hx => by simpa using hcs j x hx) (by simp; omega) (by simp; omega) j x hx
    simpa using this

/-- Cells are written into a row of which nothing is known. -/
theorem Good.cellsStore {E : Env} {st : SS} {w : World} (hw : Good E st w) {r : Nat} {k : IntKind} {p0 : Option Addr} {c0 : Nat} (hr : (r, RowR k p0 c0 []) ∈ st.rs) (P : Program) (i : Nat) (vs : List Value) (hm : i + vs.length ≤ c0) (hne : vs ≠ []) (hone : ∀ v ∈ vs, v.oneCell' = true) :
    ∃ a w', p0.map (·.add i) = some a ∧ (storeCells a vs).run P w = .ok () w' ∧ Good E { st with rs := rsSet st.rs r (RowR k p0 c0 []) } w' := by
  obtain ⟨h0, h1, h2⟩ := hw.rowOf hr
  have hpos := List.length_pos_iff.2 hne
  rcases h2 with rfl | ⟨b, off, T, cs, rfl, ⟨fz, hb, hfz⟩, hsz, hcs, hμ, hset⟩
  · omega
  have hrun := run_storeCells_T P b (off + i) T fz vs 0 cs w hb hfz (by omega) hone
  rw [Nat.add_zero] at hrun
  refine ⟨⟨b, off + i, none⟩, _, by simp [add_none], hrun, ?_⟩
  refine hset _ (fun c hc => setRow_other w b c _ hc) (setRow_size w b _) rfl rfl rfl _ ?_
  refine ⟨by simp, h1, .inr ⟨b, off, T, _, rfl, rfl, ⟨fz, setRow_heap w b cs _ T fz hb, ?_⟩, by simp; omega, fun j x hx => by simp at hx, hμ⟩⟩
  rcases hfz with hfz | hfz
  · exact .inl hfz
  · exact .inr (by simp; omega)

/-- Numbers are written into a whole row. -/
theorem Good.rowStoreZ {E : Env} {st : SS} {w : World} (hw : Good E st w) {r : Nat} {T : TypeId} {k : IntKind} {p0 : Option Addr} {c0 : Nat} {l0 : List Int} (hr : (r, RowZ T k p0 c0 l0) ∈ st.rs) (P : Program) (i : Nat) (m : List Int) (hi : i ≤ l0.length) (hm : i + m.length ≤ c0) (hne : m ≠ []) :
    ∃ a w', p0.map (·.add i) = some a ∧ (storeCells a (m.map (Value.int k))).run P w = .ok () w' ∧ Good E { st with rs := rsSet st.rs r (RowZ T k p0 c0 (l0.take i ++ m ++ l0.drop (i + m.length))) } w' := by
  have hg := hw.resay hr (Q := RowR k p0 c0 l0) (fun F hF => RowZ.row hF)
  obtain ⟨κ, hk⟩ := hw.own
  obtain ⟨F, ⟨h0, h1, hz⟩, hF2⟩ := hk.rs _ _ hr
  have hpos := List.length_pos_iff.2 hne
  rcases hz with ⟨_, hz⟩ | ⟨b, cs, rfl, hF, e3, e4, e5, e6⟩
  · omega
  have hrun := run_storeCells_T P b i T (0, 0) (m.map (Value.int k)) 0 cs w e3 (.inl rfl) (by simp; omega) (by
    intro v hv; simp only [List.mem_map] at hv; obtain ⟨n, _, rfl⟩ := hv; rfl)
  rw [Nat.add_zero, List.length_map] at hrun
  have hmem : (r, RowR k (some ⟨b, 0, none⟩) c0 l0) ∈ rsSet st.rs r (RowR k (some ⟨b, 0, none⟩) c0 l0) := rsSet_here hr
  obtain ⟨q0, q1, q2⟩ := hg.rowOf hmem
  rcases q2 with hc | ⟨b', off, T', cs', e1', hrow, hsz, hcs, hμ, hset⟩
  · omega
  have hb' : b' = b := by injection e1' with e; injection e with e _ _; exact e.symm
  subst hb'
  refine ⟨⟨b', i, none⟩, _, by simp [add_none], hrun, ?_⟩
  rw [← rsSet_twice (r := r) (Q := RowR k (some ⟨b', 0, none⟩) c0 l0) st.rs]
  refine hset _ (fun c hc => setRow_other w b' c _ hc) (setRow_size w b' _) rfl rfl rfl _ ?_
  refine ⟨by simp; omega, h1, .inr ⟨b', _, rfl, rfl, setRow_heap w b' cs _ T (0, 0) e3, by simp; omega, fun j x hx => ?_, hμ⟩⟩
  · have := spliceGet k (cs := cs.toList) (l := l0) (m := m) (off := 0) (i := i) hi (fun j x hx => by rw [Nat.zero_add]; simpa using e5 j x hx) (by simp; omega) (by simp; omega) j x hx
    simpa using this

theorem run_roomZ {P : Program} {w w' : World} {t t2 ty e : TypeId} {i : TypeInfo} {z : Value} {k2 : IntKind} (ht : P.underlying t = some (.slice e)) (ht2 : P.underlying t2 = some (.int k2)) (hi : P.info? e = some i) (hz : i.zero = some z) (h1 : i.size = 1)
    {base : Option Addr} {sLen sCap : Nat} {kx : IntKind} {q : Int} {news : List Value} (h0 : 0 ≤ q) (hq : q ≤ 140737488355328) (hqb : q * i.bytes ≤ 140737488355328) (hnews : (Builtin.zeroCells z.cells q.toNat).toList = news)
    (hg : sLen + q.toNat ≤ sCap) (hst : match base with | some ad => (storeCells (ad.add (sLen * 1)) news).run P w = .ok () w' | none => w' = w) :
    (Builtin.append_ #[t, t2] ty #[.slice base sLen sCap, .int kx q]).run P w = .ok (.slice base (sLen + q.toNat) sCap) w' := by
  have hw : IntKind.i64.wrap q = q := by rw [IntKind.wrap_i64]; omega
  have hneg : ¬ q < 0 := by omega
  have hbig : ¬ 281474976710656 < q * i.bytes := by omega
  have hz0 : q = 0 → news = [] := by rintro rfl; rw [← hnews]; simp [Builtin.zeroCells, Array.range]
  by_cases hq0 : q = 0
  · have hn := hz0 hq0
    subst hq0
    cases base with
    | none =>
      simp only at hst
      subst hst
      have hg' : sLen ≤ sCap := by simpa using hg
      simp [Builtin.append_, run_underlying ht, run_underlying ht2, sizeOf, typeInfo, hi, h1, asInt, asIntOf, hw, hneg, hbig, hg']
    | some ad =>
      rw [hn] at hst
      simp only [Nat.mul_one] at hst
      have hg' : sLen ≤ sCap := by simpa using hg
      simp [Builtin.append_, run_underlying ht, run_underlying ht2, sizeOf, typeInfo, hi, h1, asInt, asIntOf, hw, hneg, hbig, hg', hst]
  · have hqn : q.toNat ≠ 0 := by omega
    cases base with
    | none =>
      simp only at hst
      subst hst
      simp [Builtin.append_, run_underlying ht, run_underlying ht2, sizeOf, typeInfo, zeroValue, hi, hz, h1, asInt, asIntOf, hw, hneg, hbig, hqn, hg]
    | some ad =>
      simp only [Nat.mul_one] at hst
      simp [Builtin.append_, run_underlying ht, run_underlying ht2, sizeOf, typeInfo, zeroValue, hi, hz, h1, asInt, asIntOf, hw, hneg, hbig, hqn, hg, hnews, hst]

theorem run_growZ {P : Program} {w : World} {t t2 ty e : TypeId} {i : TypeInfo} {z : Value} {k2 : IntKind} (ht : P.underlying t = some (.slice e)) (ht2 : P.underlying t2 = some (.int k2)) (hi : P.info? e = some i) (hz : i.zero = some z) (h1 : i.size = 1)
    {base : Option Addr} {sLen sCap : Nat} {kx : IntKind} {q : Int} {olds : List Value} (h0 : 0 ≤ q) (hq : q ≤ 140737488355328) (hqb : q * i.bytes ≤ 140737488355328) (ho : (Builtin.firstCells 1 sLen (.slice base sLen sCap)).run P w.drew = .ok olds.toArray w.drew)
    (hq0 : ¬ q.toNat = 0) (hg : sCap < sLen + q.toNat) (h63 : ((sLen + q.toNat : Nat) : Int) ≤ 9223372036854775807) (hb : (sLen + q.toNat) * i.bytes ≤ 140737488355328) (hb0 : 0 < i.bytes) :
    (Builtin.append_ #[t, t2] ty #[.slice base sLen sCap, .int kx q]).run P w = .ok (.slice (some ⟨w.heap.size, 0, none⟩) (sLen + q.toNat) (grownCap w (sLen + q.toNat) sCap e))
      (w.drew.alloc (.cells ((olds ++ (Builtin.zeroCells z.cells q.toNat).toList).toArray ++ Builtin.zeroCells z.cells (grownCap w (sLen + q.toNat) sCap e - (sLen + q.toNat))) e)) := by
  have hw : IntKind.i64.wrap q = q := by rw [IntKind.wrap_i64]; omega
  have hneg : ¬ q < 0 := by omega
  have hbig : ¬ 281474976710656 < q * i.bytes := by omega
  have hn' : ¬ (sLen + q.toNat ≤ sCap) := by omega
  have h63' : ¬ (9223372036854775807 < ((sLen : Int) + (q.toNat : Int))) := by omega
  have h48 := growslice_fits (need := sLen + q.toNat) (old := sCap) hg hb
  have h48' : ¬ (281474976710656 < Builtin.nextslicecap (sLen + q.toNat) sCap * i.bytes) := by omega
  have hb1 : i.bytes ≠ 0 := by omega
  have h63'' : ¬ (9223372036854775807 < ((sLen : Int) + max q 0)) := by omega
  simp [Builtin.append_, run_underlying ht, run_underlying ht2, sizeOf, typeInfo, zeroValue, hi, hz, h1, asInt, asIntOf, hw, hneg, hbig, hn', h63', h63'', h48', Question.forced, ho, newRow, grownCap, hb1, hq0]
  try (congr 2; apply Array.ext'; simp)

/-- The core of an append to a row. -/
theorem row_core {P : Program} {E : Env} {st : SS} {w : World} (hw : Good E st w) {t t2 ty e : TypeId} {r : Nat} {k : IntKind} {p : Option Addr} {c : Nat} {l m : List Int} {vx : Value} {zc : Array Value} (hzc : zc.size = 1) (hr : (r, RowR k p c l) ∈ st.rs) (hsz : l.length + m.length ≤ 140737488355328)
    (room : ∀ w', l.length + m.length ≤ c → (match p with | some ad => (storeCells (ad.add (l.length * 1)) (m.map (Value.int k))).run P w = .ok () w' | none => w' = w) → (Builtin.append_ #[t, t2] ty #[.slice p l.length c, vx]).run P w = .ok (.slice p (l.length + m.length) c) w')
    (grow : c < l.length + m.length → (Builtin.firstCells 1 l.length (.slice p l.length c)).run P w.drew = .ok (l.map (Value.int k)).toArray w.drew → (Builtin.append_ #[t, t2] ty #[.slice p l.length c, vx]).run P w = .ok (.slice (some ⟨w.heap.size, 0, none⟩) (l.length + m.length) (grownCap w (l.length + m.length) c e))
      (w.drew.alloc (.cells ((l.map (Value.int k) ++ m.map (Value.int k)).toArray ++ Builtin.zeroCells zc (grownCap w (l.length + m.length) c e - (l.length + m.length))) e))) :
    ∃ p' c' w', (Builtin.append_ #[t, t2] ty #[.slice p l.length c, vx]).run P w = .ok (.slice p' (l.length + m.length) c') w' ∧ Good E { st with rs := rsSet st.rs r (RowR k p' c' (l ++ m)) } w' := by
  obtain ⟨q0, q1, q2⟩ := hw.rowOf hr
  by_cases hg : l.length + m.length ≤ c
  · by_cases hm : m = []
    · subst hm
      exact ⟨p, c, w, room w hg (by
        cases p with
        | none => rfl
        | some ad => simp only [List.map_nil, storeCells, Sem.run_pure]), hw.resay hr (Q := RowR k p c (l ++ [])) (fun F hF => by rw [List.append_nil]; exact hF)⟩
    · obtain ⟨a, w', k1, k2, k3⟩ := hw.rowStore hr P l.length m (Nat.le_refl _) hg hm
      rw [List.take_length, List.drop_of_length_le (by omega), List.append_nil] at k3
      exact ⟨p, c, w', room w' hg (by
        cases p with
        | none => cases k1
        | some ad =>
          simp only [Option.map_some, Option.some.injEq] at k1
          simp only [Nat.mul_one, k1]
          exact k2), k3⟩
  · have hrd : RdOK st.rs k p l.length l := ⟨r, p, c, l, 0, hr, ⟨by omega, .inr (by cases p <;> simp [Addr.add])⟩, by simp⟩
    have ho := ((hrd.run hw P c).2 w.drew rfl)
    have hgc1 := grownCap_ge w (l.length + m.length) c e
    have hgc2 := grownCap_le_maxLen w (l.length + m.length) c e (by unfold maxLen; omega)
    refine ⟨_, _, _, grow (by omega) ho, hw.drewN.newrow r _ (RowR k (some ⟨w.heap.size, 0, none⟩) (grownCap w (l.length + m.length) c e) (l ++ m)) ?_⟩
    refine ⟨by simpa using hgc1, by unfold maxLen at hgc2; omega, .inr ⟨_, 0, e, _, rfl, rfl, ⟨(0, 0), heap_alloc_new' _ _, .inl rfl⟩, ?_, fun j x hx => ?_, fun a v e => ?_⟩⟩
    · simp only [Array.size_append, List.size_toArray, List.length_append, List.length_map, size_zeroCells]
      rw [hzc]; omega
    · have hj : j < (l ++ m).length := by
        rcases Nat.lt_or_ge j (l ++ m).length with h' | h'
        · exact h'
        · rw [List.getElem?_eq_none h'] at hx; cases hx
      rw [← List.map_append, Nat.zero_add, Array.getElem?_append_left (by simpa using hj)]
      simpa using map_get k _ j x hx
    · have : a.block < w.heap.size := World.block_lt_of_cell? w a (hw.mu a v e)
      have h0 : w.drew.heap.size = w.heap.size := rfl
      omega

/-- A row of one's own is appended to. -/
def rowApp (Γ : Tab) (st : SS) (dst : Option Tmp) (t t2 : TypeId) (p : Option Addr) (n c : Nat) (x : SV) (K : SS → Prop) : Prop :=
  match (Γ t).d with
  | .slice e =>
    match x with
    | .i _ q => ∃ r k l k2, (r, RowR k p c l) ∈ st.rs ∧ l.length = n ∧ (Γ t2).d = .int k2 ∧ (Γ e).size = 1 ∧ 0 ≤ q ∧ (n + q.toNat) * (Γ e).bytes ≤ 140737488355328 ∧ 0 < (Γ e).bytes ∧ (Γ e).zero = [Value.int k 0] ∧ (Γ e).d ≠ .none ∧
        ∀ p' c', K (({ st with rs := rsSet st.rs r (RowR k p' c' (l ++ List.replicate q.toNat 0)) } : SS).put dst (.raw (.slice p' (n + q.toNat) c')))
    | x => ∃ r k l m, (r, RowR k p c l) ∈ st.rs ∧ l.length = n ∧ (Γ e).d = .int k ∧ appd k x = some m ∧ (Γ e).size = 1 ∧ ((Γ t2).d = .slice e ∨ (Γ t2).d = .str) ∧ (n + m.length) * (Γ e).bytes ≤ 140737488355328 ∧ 0 < (Γ e).bytes ∧ (Γ e).zero.length = 1 ∧
        ∀ p' c', K (({ st with rs := rsSet st.rs r (RowR k p' c' (l ++ m)) } : SS).put dst (.raw (.slice p' (n + m.length) c')))
  | _ => False

theorem rowApp_sound {P : Program} {Γ : Tab} (hΓ : Γ.ok P) {E : Env} {st : SS} {w : World} (hw : Good E st w) {dst : Option Tmp} {t t2 ty : TypeId} {p : Option Addr} {n c : Nat} {x : SV} {vx : Value} (hx : Den E x vx) {K : SS → Prop}
    (h : rowApp Γ st dst t t2 p n c x K) : ∃ v w' E' st' sv, (Builtin.append_ #[t, t2] ty #[.slice p n c, vx]).run P w = .ok v w' ∧ E.Le E' ∧ Good E' st' w' ∧ Den E' sv v ∧ (st'.fr = st.fr ∧ st'.df = st.df) ∧ K (st'.put dst sv) := by
  unfold rowApp at h
  split at h
  · rename_i e e1
    have hd := (hΓ t).und
    rw [e1] at hd
    simp only [TD.ok] at hd
    split at h
    · rename_i kx q
      obtain ⟨r, k, l, k2, hr, rfl, h2, h1, h0, h3, h4, h5, h6, hK⟩ := h
      obtain ⟨i, z, hi, his, hib, hiz, hzc⟩ := Tab.info hΓ e h6
      have hd2 := (hΓ t2).und
      rw [h2] at hd2
      simp only [TD.ok] at hd2
      simp only [Den] at hx
      subst hx
      have hz1 : z.cells = #[Value.int k 0] := by apply Array.ext'; rw [hzc, h5]
      have hzs : z.cells.size = 1 := by rw [hz1]; rfl
      have hnews : (Builtin.zeroCells z.cells q.toNat).toList = (List.replicate q.toNat (0 : Int)).map (Value.int k) := by
        rw [hz1]
        apply List.ext_getElem
        · simp [Builtin.zeroCells]
        · intro j h1 h2
          simp [Builtin.zeroCells, Nat.mod_one]
      have hlen : (List.replicate q.toNat (0 : Int)).length = q.toNat := by simp
      have hbound : l.length + q.toNat ≤ 140737488355328 := by
        have : (l.length + q.toNat) * 1 ≤ (l.length + q.toNat) * (Γ e).bytes := Nat.mul_le_mul_left _ h4
        omega
      have hqb : q * i.bytes ≤ 140737488355328 := by
        have : q.toNat * i.bytes ≤ (l.length + q.toNat) * i.bytes := Nat.mul_le_mul_right _ (by omega)
        rw [hib] at this ⊢
        have e2 : q * ((Γ e).bytes : Int) = ((q.toNat * (Γ e).bytes : Nat) : Int) := by
          rw [Int.natCast_mul, Int.toNat_of_nonneg h0]
        rw [e2]; omega
      obtain ⟨p', c', w', k1, k2'⟩ := row_core (ty := ty) (t := t) (t2 := t2) (e := e) (m := List.replicate q.toNat 0) (vx := .int kx q) hw hzs hr (by rw [hlen]; exact hbound)
        (fun w' hg hst => by
          rw [hlen] at hg ⊢
          exact run_roomZ hd hd2 hi hiz (his.trans h1) h0 (by omega) hqb hnews hg hst)
        (fun hg ho => by
          rw [hlen] at hg ⊢
          rw [← hnews]
          exact run_growZ hd hd2 hi hiz (his.trans h1) h0 (by omega) hqb ho (by have := (hw.rowOf hr).1; omega) hg (by omega) (by rw [hib]; exact h3) (by rw [hib]; exact h4))
      rw [hlen] at k1
      exact ⟨_, w', E, _, _, k1, Env.Le.refl E, k2', by simp only [Den], ⟨rfl, rfl⟩, hK p' c'⟩
    · obtain ⟨r, k, l, m, hr, rfl, e2, e3, h1, h2, h3, h4, h5, hK⟩ := h
      obtain ⟨i, z, hi, his, hib, hiz, hzc⟩ := Tab.info hΓ e (by rw [e2]; simp)
      obtain ⟨d2, hd2, hd2'⟩ := td_slice_str hΓ h2
      obtain ⟨r1, r2⟩ := appd_run (P := P) hΓ e3 hx hw.mu
      obtain ⟨r1', r2'⟩ := appd_run (P := P) (w := w.drew) hΓ e3 hx (fun a v e => hw.mu a v e)
      have hzs : z.cells.size = 1 := by rw [← Array.length_toList, hzc, h5]
      have hbound : l.length + m.length ≤ 140737488355328 := by
        have : (l.length + m.length) * 1 ≤ (l.length + m.length) * (Γ e).bytes := Nat.mul_le_mul_left _ h4
        omega
      obtain ⟨p', c', w', k1, k2'⟩ := row_core (ty := ty) (t := t) (t2 := t2) (e := e) (m := m) (vx := vx) hw hzs hr hbound
        (fun w' hg hst => run_room hd hd2 hd2' hi (his.trans h1) r1 r2 hg hst)
        (fun hg ho => run_grow hd hd2 hd2' hi hiz (his.trans h1) r1 ho r2' hg (by omega) (by rw [hib]; exact h3) (by rw [hib]; exact h4))
      exact ⟨_, w', E, _, _, k1, Env.Le.refl E, k2', by simp only [Den], ⟨rfl, rfl⟩, hK p' c'⟩
  · exact h.elim

/-- What a row shows is appended to numbers. -/
def appRow (Γ : Tab) (st : SS) (dst : Option Tmp) (t t2 : TypeId) (s : SV) (p : Option Addr) (n : Nat) (K : SS → Prop) : Prop :=
  ∃ k m, RdOK st.rs k p n m ∧ evAppend Γ st dst t t2 s (.ints k .old m) K

theorem appRow_sound {P : Program} {Γ : Tab} (hΓ : Γ.ok P) {E : Env} {st : SS} {w : World} (hw : Good E st w) {dst : Option Tmp} {t t2 ty : TypeId} {s : SV} {vs : Value} {p : Option Addr} {n c : Nat} (hs : Den E s vs) {K : SS → Prop}
    (h : appRow Γ st dst t t2 s p n K) : ∃ v w' E' st' sv, (Builtin.append_ #[t, t2] ty #[vs, .slice p n c]).run P w = .ok v w' ∧ E.Le E' ∧ Good E' st' w' ∧ Den E' sv v ∧ (st'.fr = st.fr ∧ st'.df = st.df) ∧ K (st'.put dst sv) := by
  obtain ⟨k, m, h1, h2⟩ := h
  obtain ⟨q1, q2⟩ := h1.run hw P c
  refine evAppend_sound hΓ hw hs (fun k' m' e w' hh => ?_) h2
  simp only [appd] at e
  split at e
  · rename_i hk
    subst hk
    simp only [Option.some.injEq] at e
    subst e
    exact ⟨by rw [q1]; exact run_lenOf_slice _ _ _, q2 w' hh⟩
  · cases e

/-- Numbers are copied into a row. -/
def rowCopy (Γ : Tab) (st : SS) (dst : Option Tmp) (t : TypeId) (p : Option Addr) (n : Nat) (x : SV) (K : SS → Prop) : Prop :=
  match (Γ t).d with
  | .slice e => ∃ r k p0 c0 l0 i m, ∃ Q : List Int → Res, RowLike k p0 c0 Q ∧ (r, Q l0) ∈ st.rs ∧ ShowsIn p n p0 l0 c0 i ∧ (Γ e).d = .int k ∧ appd k x = some m ∧ (Γ e).size = 1 ∧
      K (({ st with rs := rsSet st.rs r (Q (l0.take i ++ m.take n ++ l0.drop (i + (m.take n).length))) } : SS).put dst (.i .i64 ((m.take n).length : Nat)))
  | _ => False

theorem take_firstCells {P : Program} {Γ : Tab} (hΓ : Γ.ok P) {E : Env} {k : IntKind} {x : SV} {m : List Int} {v : Value} (h : appd k x = some m) (hx : Den E x v) {w : World} (hmu : ∀ a v, E.μ a = some v → w.cell? a = some v) (q : Nat) (hq : q ≤ m.length) :
    (Builtin.firstCells 1 q v).run P w = .ok ((m.take q).map (Value.int k)).toArray w := by
  unfold appd at h
  split at h
  · split at h
    · rename_i k' tg l hk
      subst hk
      simp only [Option.some.injEq] at h
      subst h
      simp only [Den] at hx
      obtain ⟨p, cap, rfl, hc, hc2, qq, ht⟩ := hx
      cases p with
      | none =>
        have : l = [] := by
          cases l with
          | nil => rfl
          | cons y ys => obtain ⟨b, off, e, _⟩ := qq 0 y (by simp); cases e
        subst this
        simp [Builtin.firstCells]
      | some ad =>
        have hl := run_loadCells_list (P := P) w ad ((l.take q).map (Value.int k)) (fun j v hj => by
          simp only [List.getElem?_map, Option.map_eq_some_iff] at hj
          obtain ⟨n, hj, rfl⟩ := hj
          rw [List.getElem?_take] at hj
          split at hj
          · obtain ⟨b, off, e, hm⟩ := qq j n hj
            injection e with e
            rw [e, addr_add]
            exact hmu _ _ hm
          · cases hj)
        rw [List.length_map, List.length_take, Nat.min_eq_left hq] at hl
        simp only [Builtin.firstCells, Nat.mul_one]
        exact hl
    · cases h
  · split at h
    · rename_i y hk
      subst hk
      simp only [Option.some.injEq] at h
      subst h
      simp only [Den] at hx
      subst hx
      have hy : q ≤ y.size := by simpa using hq
      simp only [Builtin.firstCells, Sem.run_pure, Result.ok.injEq, and_true]
      apply Array.ext'
      simp [Function.comp_def, List.map_take]
    · cases h
  · cases h

theorem rowCopy_sound {P : Program} {Γ : Tab} (hΓ : Γ.ok P) {E : Env} {st : SS} {w : World} (hw : Good E st w) {dst : Option Tmp} {t t2 ty : TypeId} {p : Option Addr} {n c : Nat} {x : SV} {vx : Value} (hx : Den E x vx) {K : SS → Prop}
    (h : rowCopy Γ st dst t p n x K) : ∃ v w' E' st' sv, (Builtin.copy_ #[t, t2] ty #[.slice p n c, vx]).run P w = .ok v w' ∧ E.Le E' ∧ Good E' st' w' ∧ Den E' sv v ∧ (st'.fr = st.fr ∧ st'.df = st.df) ∧ K (st'.put dst sv) := by
  unfold rowCopy at h
  split at h
  · rename_i e e1
    obtain ⟨r, k, p0, c0, l0, i, m, Q, hQ, hr, ⟨hi, hi2, hp⟩, e2, e3, h1, hK⟩ := h
    have hd := (hΓ t).und
    rw [e1] at hd
    simp only [TD.ok] at hd
    obtain ⟨inf, z, hinf, his, hib, hiz, hzc⟩ := Tab.info hΓ e (by rw [e2]; simp)
    obtain ⟨r1, r2⟩ := appd_run (P := P) hΓ e3 hx hw.mu
    have hmin : Nat.min m.length n = (m.take n).length := by rw [List.length_take, Nat.min_comm]
    have h2 := take_firstCells (P := P) hΓ e3 hx hw.mu (m.take n).length (by simp; omega)
    have htt : m.take (m.take n).length = m.take n := by
      rw [List.length_take]
      rcases Nat.le_total n m.length with h | h
      · rw [Nat.min_eq_left h]
      · rw [Nat.min_eq_right h, List.take_length, List.take_of_length_le h]
    rw [htt] at h2
    have hsz1 : inf.size = 1 := his.trans h1
    by_cases hm : m.take n = []
    · have e0 : (m.take n).length = 0 := by rw [hm]; rfl
      refine ⟨.int .i64 ((m.take n).length : Nat), w, E, _, _, ?_, Env.Le.refl E, hw.resay hr (Q := Q (l0.take i ++ m.take n ++ l0.drop (i + (m.take n).length))) (fun F hF => ?_), by simp only [Den], ⟨rfl, rfl⟩, hK⟩
      · rw [hm] at h2
        simp only [List.map_nil, List.length_nil] at h2
        cases p <;> simp [Builtin.copy_, run_underlying hd, run_sizeOf' hinf, r1, hmin, e0, hsz1, h2, storeCells, goInt]
      · rw [hm]; simpa using hF
    · have hn : n ≠ 0 := by rintro rfl; simp at hm
      rcases hp with hp | rfl
      · exact absurd hp hn
      obtain ⟨a, w', k1, k2, k3⟩ : ∃ a w', p0.map (·.add i) = some a ∧ (storeCells a ((m.take n).map (Value.int k))).run P w = .ok () w' ∧ Good E { st with rs := rsSet st.rs r (Q (l0.take i ++ m.take n ++ l0.drop (i + (m.take n).length))) } w' := by
        cases hQ with
        | r => exact hw.rowStore hr P i (m.take n) hi (by simp; omega) hm
        | z T => exact hw.rowStoreZ hr P i (m.take n) hi (by simp; omega) hm
      refine ⟨.int .i64 ((m.take n).length : Nat), w', E, _, _, ?_, Env.Le.refl E, k3, by simp only [Den], ⟨rfl, rfl⟩, hK⟩
      rw [k1]
      rw [show (Builtin.copy_ #[t, t2] ty #[.slice (some a) n c, vx]).run P w = _ from by simp only [Builtin.copy_]; rfl]
      simp [run_underlying hd, run_sizeOf' hinf, r1, hmin, hsz1, goInt, -List.length_take]
      rw [h2]
      simp [k2, -List.length_take, -List.map_take]
  · exact h.elim
end Go.Eng
/- The engine, part GC: slices of structs, pointers and slices: appends. -/
namespace Go.Eng
open Go
set_option linter.unusedVariables false
set_option linter.unusedSimpArgs false

def catEl (n : Nat) (el el' : Nat → Nat → SV) (i j : Nat) : SV := if i < n then el i j else el' (i - n) j

/-- The cells of a slice's elements. -/
theorem sl_cells {P : Program} {E : Env} {sz : Nat} {tg : Tag} {m : Nat} {el : Nat → Nat → SV} {v : Value} (hx : Den E (.sl sz tg m el) v) {w : World} (hmu : ∀ a v, E.μ a = some v → w.cell? a = some v) (hsz : 0 < sz) :
    (Builtin.lenOf v).run P w = .ok m w ∧ ∃ vs : List Value, vs.length = m * sz ∧ (∀ w', w'.heap = w.heap → (Builtin.firstCells sz m v).run P w' = .ok vs.toArray w') ∧ ∀ i, i < m → ∀ j, j < sz → ∃ x, vs[i * sz + j]? = some x ∧ Den E (el i j) x := by
  simp only [Den] at hx
  obtain ⟨p, cap, rfl, hc, hc2, q, ht⟩ := hx
  refine ⟨run_lenOf_slice _ _ _, ?_⟩
  cases p with
  | none =>
    have hm : m = 0 := by
      rcases Nat.eq_zero_or_pos m with h | h
      · exact h
      · obtain ⟨b, off, e, _⟩ := q 0 h; cases e
    subst hm
    exact ⟨[], by simp, fun w' _ => by simp [Builtin.firstCells], fun i h => absurd h (Nat.not_lt_zero _)⟩
  | some ad =>
    rcases Nat.eq_zero_or_pos m with rfl | hm
    · refine ⟨[], by simp, fun w' _ => ?_, fun i h => absurd h (Nat.not_lt_zero _)⟩
      have := run_loadCells_list (P := P) w' ad [] (by simp)
      simpa [Builtin.firstCells] using this
    obtain ⟨b, off, e0, _⟩ := q 0 hm
    injection e0 with e0
    subst e0
    have hcell : ∀ d, d < m * sz → ∃ x, E.μ ⟨b, off + d, none⟩ = some x ∧ Den E (el (d / sz) (d % sz)) x := by
      intro d hd
      have h1 : d / sz < m := by rw [Nat.div_lt_iff_lt_mul hsz]; exact hd
      obtain ⟨b', off', e1, h2⟩ := q (d / sz) h1
      injection e1 with e1
      injection e1 with e1 e2
      subst e1 e2
      obtain ⟨x, h3, h4⟩ := h2 (d % sz) (Nat.mod_lt _ hsz)
      refine ⟨x, ?_, h4⟩
      rw [← h3, Nat.add_assoc, Nat.div_add_mod' d sz]
    let f : Nat → Value := fun d => (E.μ ⟨b, off + d, none⟩).getD undef
    have hf : ∀ d, d < m * sz → E.μ ⟨b, off + d, none⟩ = some (f d) ∧ Den E (el (d / sz) (d % sz)) (f d) := by
      intro d hd
      obtain ⟨x, h1, h2⟩ := hcell d hd
      have : f d = x := by simp [f, h1]
      rw [this]
      exact ⟨h1, h2⟩
    refine ⟨(List.range (m * sz)).map f, by simp, fun w' hh => ?_, fun i hi j hj => ?_⟩
    · have hl := run_loadCells_list (P := P) w' ⟨b, off, none⟩ ((List.range (m * sz)).map f) (fun j v hj => by
        simp only [List.getElem?_map, Option.map_eq_some_iff] at hj
        obtain ⟨d, hd, rfl⟩ := hj
        have hlt : j < m * sz := by
          rcases Nat.lt_or_ge j (m * sz) with h | h
          · exact h
          · rw [List.getElem?_eq_none (by simpa using h)] at hd; cases hd
        rw [List.getElem?_range hlt] at hd
        injection hd with hd
        subst hd
        rw [addr_add, cell_heap hh]
        exact hmu _ _ (hf j hlt).1)
      rw [List.length_map, List.length_range] at hl
      simp only [Builtin.firstCells]
      exact hl
    · have hlt : i * sz + j < m * sz := by
        have : (i + 1) * sz ≤ m * sz := Nat.mul_le_mul_right _ hi
        rw [Nat.add_mul] at this
        omega
      refine ⟨f (i * sz + j), by simp [hlt], ?_⟩
      have h := (hf _ hlt).2
      have h1 : (i * sz + j) / sz = i := by rw [Nat.add_comm, Nat.add_mul_div_right _ _ hsz, Nat.div_eq_of_lt hj]; omega
      have h2 : (i * sz + j) % sz = j := by rw [Nat.add_comm, Nat.add_mul_mod_self_right, Nat.mod_eq_of_lt hj]
      rw [h1, h2] at h
      exact h

theorem run_growS {P : Program} {w : World} {t t2 ty e : TypeId} {i : TypeInfo} {z : Value} {d2 : TypeDesc} (ht : P.underlying t = some (.slice e)) (ht2 : P.underlying t2 = some d2) (hd2 : ∀ k, d2 ≠ .int k) (hi : P.info? e = some i) (hz : i.zero = some z)
    {base : Option Addr} {sLen sCap n : Nat} {x : Value} {olds news : List Value} (hx : (Builtin.lenOf x).run P w = .ok n w) (ho : (Builtin.firstCells i.size sLen (.slice base sLen sCap)).run P w.drew = .ok olds.toArray w.drew) (hn : (Builtin.firstCells i.size n x).run P w.drew = .ok news.toArray w.drew)
    (hg : sCap < sLen + n) (h63 : ((sLen + n : Nat) : Int) ≤ 9223372036854775807) (hb : (sLen + n) * i.bytes ≤ 140737488355328) (hb0 : 0 < i.bytes) :
    (Builtin.append_ #[t, t2] ty #[.slice base sLen sCap, x]).run P w = .ok (.slice (some ⟨w.heap.size, 0, none⟩) (sLen + n) (grownCap w (sLen + n) sCap e))
      (w.drew.alloc (.cells ((olds ++ news).toArray ++ Builtin.zeroCells z.cells (grownCap w (sLen + n) sCap e - (sLen + n))) e)) := by
  have hn' : ¬ (sLen + n ≤ sCap) := by omega
  have h63' : ¬ (9223372036854775807 < ((sLen : Int) + (n : Int))) := by omega
  have h48 := growslice_fits (need := sLen + n) (old := sCap) hg hb
  have h48' : ¬ (281474976710656 < Builtin.nextslicecap (sLen + n) sCap * i.bytes) := by omega
  have hm : (match d2 with | .int _ => true | _ => false) = false := by
    cases d2 <;> first | rfl | exact absurd rfl (hd2 _)
  have hb1 : i.bytes ≠ 0 := by omega
  simp [Builtin.append_, run_underlying ht, run_underlying ht2, sizeOf, typeInfo, zeroValue, hi, hz, hx, hm, hn', h63', h48', Question.forced, ho, hn, newRow, grownCap, hb1]
  cases d2 <;> first | exact absurd rfl (hd2 _) | (simp [hx, hn', h63', h48', ho, hn]; congr 2; apply Array.ext'; simp; done) | (simp_all; congr 2; apply Array.ext'; simp; done)

theorem run_roomS {P : Program} {w w' : World} {t t2 ty e : TypeId} {i : TypeInfo} {d2 : TypeDesc} (ht : P.underlying t = some (.slice e)) (ht2 : P.underlying t2 = some d2) (hd2 : ∀ k, d2 ≠ .int k) (hi : P.info? e = some i)
    {base : Option Addr} {sLen sCap n : Nat} {x : Value} {news : List Value} (hx : (Builtin.lenOf x).run P w = .ok n w) (hn : (Builtin.firstCells i.size n x).run P w = .ok news.toArray w)
    (hg : sLen + n ≤ sCap) (hst : match base with | some ad => (storeCells (ad.add (sLen * i.size)) news).run P w = .ok () w' | none => w' = w) :
    (Builtin.append_ #[t, t2] ty #[.slice base sLen sCap, x]).run P w = .ok (.slice base (sLen + n) sCap) w' := by
  cases base with
  | none =>
    simp only at hst
    subst hst
    simp [Builtin.append_, run_underlying ht, run_underlying ht2, sizeOf, typeInfo, hi]
    cases d2 <;> first | exact absurd rfl (hd2 _) | (simp [hx, hg, hn]; done)
  | some ad =>
    simp only at hst
    simp [Builtin.append_, run_underlying ht, run_underlying ht2, sizeOf, typeInfo, hi]
    cases d2 <;> first | exact absurd rfl (hd2 _) | (simp [hx, hg, hn, hst]; done)

/-- A new row of elements with a token. -/
theorem new_sl {E : Env} {st : SS} {w : World} (h : Good E st w) (T : TypeId) (sz n cap : Nat) (cs : List Value) (zs : Array Value) (el : Nat → Nat → SV) (hcs : cs.length = n * sz) (hc : n ≤ cap) (hz : cap * sz ≤ n * sz + zs.size) (h63 : cap ≤ 9223372036854775807)
    (hd : ∀ i, i < n → ∀ j, j < sz → ∃ x, cs[i * sz + j]? = some x ∧ Den E (el i j) x) :
    ∃ E', E.Le E' ∧ Good E' { st with tk := st.nx :: st.tk, nx := st.nx + 1 } (w.alloc (.cells (cs.toArray ++ zs) T (0, 0))) ∧ Den E' (.sl sz (.tok st.nx true) n el) (.slice (some ⟨w.heap.size, 0, none⟩) n cap) := by
  obtain ⟨E', h1, h2, h3, h4, h5⟩ := h.alloc_tok (cs.toArray ++ zs) T sz n cap hc (by simp; omega)
  refine ⟨E', h1, h5, ?_⟩
  simp only [Den]
  refine ⟨_, cap, rfl, hc, h63, fun i hi => ⟨_, 0, rfl, fun j hj => ?_⟩, by rw [h2]; exact TokV.self hc, fun _ a n c e => ?_⟩
  · obtain ⟨x, hx, hdx⟩ := hd i hi j hj
    have hlt : i * sz + j < n * sz := by
      have : (i + 1) * sz ≤ n * sz := Nat.mul_le_mul_right _ hi
      rw [Nat.add_mul] at this
      omega
    refine ⟨x, ?_, Den.mono h1 _ _ hdx⟩
    rw [Nat.zero_add]
    refine h3 _ x hlt ?_
    rw [Array.getElem?_append_left (by simpa [hcs] using hlt)]
    simpa using hx
  · simp only [Value.slice.injEq, Option.some.injEq] at e
    rw [← e.1]
    exact h4

/-- What appended elements come to. -/
def slAppend (Γ : Tab) (st : SS) (dst : Option Tmp) (e t2 : TypeId) (s x : SV) (K : SS → Prop) : Prop :=
  match s, x with
  | .sl sz (.tok τ b) n el, .sl sz' _ m el' =>
    if sz = sz' ∧ tkMem st.tk τ = true then (Γ e).size = sz ∧ 0 < sz ∧ (Γ e).d ≠ .none ∧ (Γ t2).d = .slice e ∧ (n + m) * (Γ e).bytes ≤ 140737488355328 ∧ 0 < (Γ e).bytes ∧ (Γ e).zero.length = sz ∧ (∀ i, i < m → ∀ j, j < sz → one (el' i j) = true) ∧
      K (({ st with tk := st.nx :: tkDel st.tk τ, nx := st.nx + 1 } : SS).put dst (.sl sz (.tok st.nx b) (n + m) (catEl n el el')))
    else False
  | .ints _ .nil [], .sl sz' _ m el' => (Γ e).size = sz' ∧ 0 < sz' ∧ (Γ e).d ≠ .none ∧ (Γ t2).d = .slice e ∧ m * (Γ e).bytes ≤ 140737488355328 ∧ 0 < (Γ e).bytes ∧ (Γ e).zero.length = sz' ∧
      K (({ st with tk := st.nx :: st.tk, nx := st.nx + 1 } : SS).put dst (.sl sz' (.tok st.nx true) m el'))
  | _, _ => False

theorem sl_weak {E : Env} {sz τ n : Nat} {el : Nat → Nat → SV} {v : Value} (b : Bool) (h : Den E (.sl sz (.tok τ true) n el) v) : Den E (.sl sz (.tok τ b) n el) v := by
  simp only [Den] at h ⊢
  obtain ⟨a, c, h1, h2, h3, h4, h5, h6⟩ := h
  exact ⟨a, c, h1, h2, h3, h4, h5, fun _ => h6 rfl⟩

theorem slAppend_sound {P : Program} {Γ : Tab} (hΓ : Γ.ok P) {E : Env} {st : SS} {w : World} (hw : Good E st w) {dst : Option Tmp} {t t2 ty e : TypeId} (ht : P.underlying t = some (.slice e)) {s x : SV} {vs vx : Value} (hs : Den E s vs) (hx : Den E x vx) {K : SS → Prop}
    (h : slAppend Γ st dst e t2 s x K) : ∃ v w' E' st' sv, (Builtin.append_ #[t, t2] ty #[vs, vx]).run P w = .ok v w' ∧ E.Le E' ∧ Good E' st' w' ∧ Den E' sv v ∧ (st'.fr = st.fr ∧ st'.df = st.df) ∧ K (st'.put dst sv) := by
  unfold slAppend at h
  split at h
  · rename_i sz τ b n el sz' tg m el'
    split at h
    · rename_i hcond
      obtain ⟨rfl, hmem⟩ := hcond
      obtain ⟨h1, h2, h3, h4, h5, h6, h7, hone, hK⟩ := h
      obtain ⟨i, z, hi, his, hib, hiz, hzc⟩ := Tab.info hΓ e h3
      obtain ⟨d2, hd2, hd2'⟩ := td_slice_str hΓ (.inl h4)
      have hτ := tkMem_sound _ _ hmem
      have hs' := hs
      have his' : i.size = sz := his.trans h1
      obtain ⟨l1, cs, c1, c2, c3⟩ := sl_cells (P := P) hx hw.mu h2
      obtain ⟨_, ds, d1, d2', d3⟩ := sl_cells (P := P) hs' hw.mu h2
      have honev : ∀ v ∈ cs, v.oneCell' = true := by
        intro v hv
        obtain ⟨q, hq, rfl⟩ := List.getElem_of_mem hv
        have hqm : q / sz < m := by rw [Nat.div_lt_iff_lt_mul h2]; omega
        obtain ⟨y, hy, hdy⟩ := c3 (q / sz) hqm (q % sz) (Nat.mod_lt _ h2)
        rw [Nat.div_add_mod' q sz, List.getElem?_eq_getElem hq] at hy
        injection hy with hy
        rw [hy]
        exact one_sound hdy (hone _ hqm _ (Nat.mod_lt _ h2))
      simp only [Den] at hs
      obtain ⟨p, cap, rfl, hc, hc63, q, hθ, hfresh⟩ := hs
      obtain ⟨a0, n0, c0, j0, p', hθ, hnc, hj0, hv0, hp0⟩ := hθ
      simp only [Value.slice.injEq] at hv0
      obtain ⟨rfl, hn0, hc0⟩ := hv0
      by_cases hg : n + m ≤ cap
      · obtain ⟨E', w', k1, k2, k3, k4, k5, k6⟩ := hw.grow hτ hθ cs m c1 (by omega) h2 P honev
        refine ⟨_, w', E', { st with tk := st.nx :: tkDel st.tk τ, nx := st.nx + 1 }, _, run_roomS ht hd2 hd2' hi l1 (by rw [his']; exact c2 w rfl) hg ?_, k1, k4, ?_, ⟨rfl, rfl⟩, hK⟩
        · rw [his']
          rcases hp0 with hp0 | rfl
          · have hm0 : m = 0 := by omega
            subst hm0
            have hcs0 : cs = [] := by simpa using c1
            subst hcs0
            have hw' : w' = w := by
              cases a0 with
              | none => exact k5.1
              | some ad =>
                simp only [storeCells, Sem.run_pure, Result.ok.injEq] at k5
                exact k5.2.symm
            cases p with
            | none => exact hw'
            | some ad => simp only [storeCells, Sem.run_pure]; rw [hw']
          · cases a0 with
            | none => exact k5.1
            | some ad =>
              simp only [Option.map_some]
              rw [Addr_add_add, ← Nat.add_mul, show j0 + n = n0 by omega]
              exact k5
        · simp only [Den]
          refine ⟨p, cap, rfl, hg, hc63, fun i hi => ?_, ⟨a0, n0 + m, c0, j0, p, k3, by omega, by omega, by simp only [Value.slice.injEq]; exact ⟨trivial, by omega, by omega⟩, hp0⟩, fun hb a n c ee => ?_⟩
          · rcases Nat.lt_or_ge i n with hin | hin
            · obtain ⟨b', off, e5, e6⟩ := q i hin
              refine ⟨b', off, e5, fun j hj => ?_⟩
              obtain ⟨y, e7, e8⟩ := e6 j hj
              exact ⟨y, k1.μ _ _ e7, by simp only [catEl, if_pos hin]; exact Den.mono k1 _ _ e8⟩
            · have him : i - n < m := by omega
              have hget : ∀ j, j < sz → ∃ y b' off, cs[(i - n) * sz + j]? = some y ∧ Den E (el' (i - n) j) y ∧ a0 = some ⟨b', off, none⟩ ∧ E'.μ ⟨b', off + n0 * sz + ((i - n) * sz + j), none⟩ = some y := by
                intro j hj
                obtain ⟨y, e7, e8⟩ := c3 (i - n) him j hj
                obtain ⟨b', off, e9, e10⟩ := k6 _ y e7
                exact ⟨y, b', off, e7, e8, e9, e10⟩
              obtain ⟨y0, b', off, _, _, e9, _⟩ := hget 0 h2
              rcases hp0 with hp0 | rfl
              · omega
              · subst e9
                refine ⟨b', off + j0 * sz, ?_, fun j hj => ?_⟩
                · simp only [Option.map_some, add_none]
                · obtain ⟨y, b2, off2, e7, e8, e9, e10⟩ := hget j hj
                  injection e9 with e9
                  injection e9 with e9 e9'
                  subst e9 e9'
                  refine ⟨y, ?_, by simp only [catEl]; rw [if_neg (by omega)]; exact Den.mono k1 _ _ e8⟩
                  rw [← e10]
                  have : n0 * sz + (i - n) * sz = j0 * sz + i * sz := by rw [← Nat.add_mul, ← Nat.add_mul]; congr 1; omega
                  congr 2
                  omega
          · simp only [Value.slice.injEq] at ee
            rw [k1.Z]; exact hfresh hb a _ _ (by rw [ee.1])
      · have hbound : n + m ≤ 140737488355328 := by
          have : (n + m) * 1 ≤ (n + m) * (Γ e).bytes := Nat.mul_le_mul_left _ h6
          omega
        have hrun := run_growS (ty := ty) ht hd2 hd2' hi hiz (base := p) (sLen := n) (sCap := cap) l1 (by rw [his']; exact d2' w.drew rfl) (by rw [his']; exact c2 w.drew rfl) (by omega) (by omega) (by rw [hib]; exact h5) (by rw [hib]; exact h6)
        have hgc1 := grownCap_ge w (n + m) cap e
        have hgc2 := grownCap_le_maxLen w (n + m) cap e (by unfold maxLen; omega)
        obtain ⟨E', k1, k2, k3⟩ := new_sl hw.drewN e sz (n + m) (grownCap w (n + m) cap e) (ds ++ cs) (Builtin.zeroCells z.cells (grownCap w (n + m) cap e - (n + m))) (catEl n el el') (by simp [c1, d1, Nat.add_mul]) hgc1 (by
            rw [size_zeroCells]
            have : z.cells.size = sz := by rw [← Array.length_toList, hzc, h7]
            rw [this, ← Nat.add_mul]
            exact Nat.mul_le_mul_right _ (by omega)) (by unfold maxLen at hgc2; omega) (fun i hi j hj => by
            rcases Nat.lt_or_ge i n with hin | hin
            · obtain ⟨y, e7, e8⟩ := d3 i hin j hj
              have hlt : i * sz + j < ds.length := by
                rw [d1]
                have : (i + 1) * sz ≤ n * sz := Nat.mul_le_mul_right _ hin
                rw [Nat.add_mul] at this
                omega
              exact ⟨y, by rw [List.getElem?_append_left hlt]; exact e7, by simp only [catEl, if_pos hin]; exact e8⟩
            · obtain ⟨y, e7, e8⟩ := c3 (i - n) (by omega) j hj
              have hge : ds.length ≤ i * sz + j := by
                rw [d1]
                have : n * sz ≤ i * sz := Nat.mul_le_mul_right _ hin
                omega
              refine ⟨y, ?_, by simp only [catEl]; rw [if_neg (by omega)]; exact e8⟩
              rw [List.getElem?_append_right hge, d1]
              rw [← e7]
              congr 1
              have : i * sz = n * sz + (i - n) * sz := by rw [← Nat.add_mul]; congr 1; omega
              omega)
        exact ⟨_, _, E', { st with tk := st.nx :: tkDel st.tk τ, nx := st.nx + 1 }, _, hrun, k1, k2.fewerTok (st := { st with tk := st.nx :: st.tk, nx := st.nx + 1 }) (fun y hy => by
            rcases List.mem_cons.1 hy with rfl | hy
            · simp
            · exact List.mem_cons_of_mem _ (tkDel_mem _ _ _ hy).1), sl_weak b k3, ⟨rfl, rfl⟩, hK⟩
    · exact h.elim
  · rename_i sz tg m el'
    obtain ⟨h1, h2, h3, h4, h5, h6, h7, hK⟩ := h
    obtain ⟨i, z, hi, his, hib, hiz, hzc⟩ := Tab.info hΓ e h3
    obtain ⟨d2, hd2, hd2'⟩ := td_slice_str hΓ (.inl h4)
    have his' : i.size = sz := his.trans h1
    obtain ⟨l1, cs, c1, c2, c3⟩ := sl_cells (P := P) hx hw.mu h2
    simp only [Den] at hs
    obtain ⟨p, cap, _, hc, hc63, q, hnil⟩ := hs
    simp only [TagOK] at hnil
    subst hnil
    by_cases hm : m = 0
    · subst hm
      have hcs0 : cs = [] := by simpa using c1
      subst hcs0
      obtain ⟨E', k1, k2, k3, k4, k5⟩ := hw.tok_none sz none 0
      refine ⟨_, w, E', { st with tk := st.nx :: st.tk, nx := st.nx + 1 }, _, run_roomS ht hd2 hd2' hi (base := none) (sLen := 0) (sCap := 0) l1 (by rw [his']; exact c2 w rfl) (by omega) rfl, k1, k5, ?_, ⟨rfl, rfl⟩, hK⟩
      simp only [Den]
      exact ⟨none, 0, rfl, by simp, by omega, fun i hi => absurd hi (Nat.not_lt_zero _), by rw [k2]; exact TokV.self (Nat.le_refl _), fun _ a n c e => by simp at e⟩
    · have hbound : m ≤ 140737488355328 := by
        have : m * 1 ≤ m * (Γ e).bytes := Nat.mul_le_mul_left _ h6
        omega
      have hrun := run_growS (ty := ty) (olds := []) ht hd2 hd2' hi hiz (base := none) (sLen := 0) (sCap := 0) l1 (by simp [Builtin.firstCells]) (by rw [his']; exact c2 w.drew rfl) (by omega) (by omega) (by rw [hib, Nat.zero_add]; exact h5) (by rw [hib]; exact h6)
      simp only [Nat.zero_add, List.nil_append] at hrun
      have hgc1 := grownCap_ge w m 0 e
      have hgc2 := grownCap_le_maxLen w m 0 e (by unfold maxLen; omega)
      obtain ⟨E', k1, k2, k3⟩ := new_sl hw.drewN e sz m (grownCap w m 0 e) cs (Builtin.zeroCells z.cells (grownCap w m 0 e - m)) el' c1 hgc1 (by
          rw [size_zeroCells]
          have : z.cells.size = sz := by rw [← Array.length_toList, hzc, h7]
          rw [this, ← Nat.add_mul]
          exact Nat.mul_le_mul_right _ (by omega)) (by unfold maxLen at hgc2; omega) c3
      exact ⟨_, _, E', { st with tk := st.nx :: st.tk, nx := st.nx + 1 }, _, hrun, k1, k2, k3, ⟨rfl, rfl⟩, hK⟩
  · exact h.elim
end Go.Eng
