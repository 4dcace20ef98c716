/- The engine, part B: symbolic states, the table of types, what a good world is; values of operands. -/
import Derived.Test.YtdbhgnjpjpmioaaEa
namespace Go.Eng
open Go
set_option linter.unusedVariables false

/-- A row's end has been marked. -/
def Marked (w w' : World) (b : Nat) : Prop := ∃ cs T fz fz', w.heap[b]? = some (.cells cs T fz) ∧ w'.heap[b]? = some (.cells cs T fz') ∧ ((fz = (0, 0) ∨ cs.size ≤ fz.1) → cs.size ≤ fz'.1)
/-- A block is as it was, or, where cells of it stay, has been marked. -/
def Kept (μ : Addr → Option Value) (w w' : World) (b : Nat) : Prop := w'.heap[b]? = w.heap[b]? ∨ ((∃ a v, μ a = some v ∧ a.block = b) ∧ Marked w w' b)
/-- An assertion on the blocks of F alone. -/
structure Res where
  holds : (Addr → Option Value) → (Nat → Prop) → World → Prop
  next : ∀ μ μ' F w w', holds μ F w → (∀ b, F b → Kept μ w w' b) → (∀ a v, μ a = some v → μ' a = some v) → (∀ a v, μ' a = some v → μ a = some v ∨ ¬ F a.block) → holds μ' F w'
theorem Res.loc (R : Res) {μ : Addr → Option Value} {F : Nat → Prop} {w w' : World} (h : R.holds μ F w) (k : ∀ b, F b → w'.heap[b]? = w.heap[b]?) : R.holds μ F w' :=
  R.next μ μ F w w' h (fun b hb => .inl (k b hb)) (fun _ _ h => h) (fun _ _ h => .inl h)

/-- An object of the machine's own, at its place. -/
def RObj (b : Nat) (o : Obj) : Res where
  holds μ F w := F b ∧ w.heap[b]? = some o ∧ ∀ a v, μ a = some v → a.block ≠ b
  next μ μ' F w w' h k _ j := ⟨h.1, by
    rcases k b h.1 with e | ⟨⟨a, v, e, e'⟩, _⟩
    · rw [e]; exact h.2.1
    · exact absurd e' (h.2.2 a v e), fun a v e => by
    rcases j a v e with e | e
    · exact h.2.2 a v e
    · rintro rfl; exact e h.1⟩

structure SS where
  fr : List SV
  hp : List (Nat × TypeId × List SV)
  tk : List Nat
  rs : List (Nat × Res)
  nx : Nat
  k : Nat
  df : List Nat := []

inductive TD where
  | none | int (k : IntKind) | bool | str | struct (fs : List (Nat × TypeId)) | slice (e : TypeId) | arr (n : Nat) (e : TypeId) | ptr (e : TypeId) | iface | func

structure TI where
  d : TD
  size : Nat
  bytes : Nat
  zero : List Value

def TD.ok : TD → Option TypeDesc → Prop
  | .none, _ => True
  | .int k, d => d = some (.int k)
  | .bool, d => d = some .bool
  | .str, d => d = some .string
  | .struct fs, d => ∃ fields, d = some (.struct fields) ∧ fields.toList.map (fun f => (f.offset, f.type)) = fs
  | .slice e, d => d = some (.slice e)
  | .arr n e, d => d = some (.array n e)
  | .ptr e, d => d = some (.pointer e)
  | .iface, d => ∃ ms, d = some (.interface ms)
  | .func, d => ∃ a b c, d = some (.func a b c)

structure TIok (P : Program) (t : TypeId) (ti : TI) : Prop where
  und : ti.d.ok (P.underlying t)
  info : ti.d = .none ∨ ∃ i z, P.info? t = some i ∧ i.size = ti.size ∧ i.bytes = ti.bytes ∧ i.zero = some z ∧ z.cells.toList = ti.zero

abbrev Tab := TypeId → TI
def Tab.ok (Γ : Tab) (P : Program) : Prop := ∀ t, TIok P t (Γ t)

def TD.agg : TD → Bool
  | .struct _ => true
  | .arr _ _ => true
  | _ => false

def hfind : List (Nat × TypeId × List SV) → Nat → Option (TypeId × List SV)
  | [], _ => none
  | (m, t, l) :: r, n => if m = n then some (t, l) else hfind r n
def hset : List (Nat × TypeId × List SV) → Nat → List SV → List (Nat × TypeId × List SV)
  | [], _, _ => []
  | (m, t, l) :: r, n, l' => if m = n then (m, t, l') :: r else (m, t, l) :: hset r n l'

inductive Key where
  | blk (n : Nat) | tok (τ : Nat) | res (r : Nat)

/-- A row, no cell of which is frozen. -/
def Row (w : World) (b : Nat) (cs : Array Value) (T : TypeId) : Prop := ∃ fz : Nat × Nat, w.heap[b]? = some (.cells cs T fz) ∧ (fz = (0, 0) ∨ cs.size ≤ fz.1)
theorem Row.congr {w w' : World} {b : Nat} {cs : Array Value} {T : TypeId} (h : w'.heap[b]? = w.heap[b]?) : Row w b cs T → Row w' b cs T
  | ⟨fz, h1, h2⟩ => ⟨fz, h.trans h1, h2⟩

/-- The token's slice has no spare room, or owns it. -/
def TokOK (E : Env) (w : World) (κ : Nat → Option Key) (τ : Nat) : Prop :=
  ∃ sz a len cap, E.θ τ = some (sz, .slice a len cap) ∧ len ≤ cap ∧ ((cap = len ∧ a = none) ∨ ∃ b off T cs, a = some ⟨b, off, none⟩ ∧ κ b = some (.tok τ) ∧
    Mut E b ∧ Row w b cs T ∧ off + cap * sz ≤ cs.size ∧ ∀ ad v, E.μ ad = some v → ad.block = b → ad.off < off + len * sz)

structure Owns (E : Env) (st : SS) (w : World) (κ : Nat → Option Key) : Prop where
  hp : ∀ n T ls, hfind st.hp n = some (T, ls) → ∃ b cs, E.ρ n = some b ∧ w.heap[b]? = some (.cells cs T (0, 0)) ∧ DenL E ls cs.toList ∧ κ b = some (.blk n) ∧ Mut E b
  tk : ∀ τ, τ ∈ st.tk → TokOK E w κ τ
  rs : ∀ r R, (r, R) ∈ st.rs → ∃ F, R.holds E.μ F w ∧ ∀ b, F b → b < w.heap.size ∧ κ b = some (.res r) ∧ Mut E b
  mu : ∀ a v, E.μ a = some v → ∀ n, κ a.block ≠ some (.blk n)
  dom : ∀ b k, κ b = some k → b < w.heap.size ∧ Mut E b

structure Good (E : Env) (st : SS) (w : World) : Prop where
  k : E.k = st.k
  kx : st.k ≤ st.nx
  os : w.os = E.w0.os
  tape : w.tape = E.w0.tape
  output : w.output = E.w0.output
  size : E.w0.heap.size ≤ w.heap.size
  old : ∀ b, b < E.w0.heap.size → ¬ E.S0 b → w.heap[b]? = E.w0.heap[b]?
  mu : ∀ a v, E.μ a = some v → w.cell? a = some v
  nxρ : ∀ n, st.nx ≤ n → E.ρ n = none
  nxθ : ∀ n, st.nx ≤ n → E.θ n = none
  own : ∃ κ, Owns E st w κ

def ofLeaf : Value → SV
  | .int k n => .i k n
  | .bool c => .b c
  | .string x => .s x
  | .slice none 0 0 => .ints .u8 .nil []
  | .nilIface => .nili
  | .nilFunc => .nilf
  | .pointer none => .nilp
  | v => .raw v
def ofV : Value → SV
  | .agg cs => .agg (cs.toList.map ofLeaf)
  | .tuple cs => .tup (cs.toList.map ofLeaf)
  | v => ofLeaf v

theorem den_ofLeaf (E : Env) (v : Value) : Den E (ofLeaf v) v := by
  unfold ofLeaf
  split <;> simp only [Den]
  refine ⟨none, 0, rfl, Nat.le_refl _, by omega, fun i x h => by simp at h, rfl⟩

theorem denL_ofLeaf (E : Env) : ∀ cs : List Value, DenL E (cs.map ofLeaf) cs
  | [] => by simp only [List.map_nil, DenL]
  | v :: vs => by simp only [List.map_cons, DenL]; exact ⟨den_ofLeaf E v, denL_ofLeaf E vs⟩

theorem den_ofV (E : Env) (v : Value) : Den E (ofV v) v := by
  unfold ofV
  split
  · simp only [Den]; exact ⟨_, rfl, denL_ofLeaf E _⟩
  · simp only [Den]; exact ⟨_, rfl, denL_ofLeaf E _⟩
  · exact den_ofLeaf E v

def lget : List SV → Nat → SV
  | [], _ => .any
  | v :: _, 0 => v
  | _ :: r, n + 1 => lget r n
def lset : List SV → Nat → SV → List SV
  | [], _, _ => []
  | _ :: r, 0, v => v :: r
  | x :: r, n + 1, v => x :: lset r n v

def SS.eval (s : SS) : Operand → SV
  | .tmp t => lget s.fr t
  | .const v => ofV v
  | .global g => .raw (.pointer (some ⟨g, 0, none⟩))
  | .func f => .fn (.func f) [] []

def SS.put (s : SS) (d : Option Nat) (v : SV) : SS :=
  match d with
  | none => s
  | some d => { s with fr := lset s.fr d v }

theorem denL_get {E : Env} : ∀ (l : List SV) (cs : List Value) (n : Nat) (u : Value), DenL E l cs → Den E (lget l n) (cs[n]?.getD u)
  | [], _, n, u, _ => by simp only [lget, Den]
  | x :: xs, v :: vs, 0, u, h => by simp only [DenL] at h; simpa [lget] using h.1
  | x :: xs, v :: vs, n + 1, u, h => by simp only [DenL] at h; simpa [lget] using denL_get xs vs n u h.2
  | x :: xs, [], n, u, h => by simp only [DenL] at h

theorem denL_set {E : Env} : ∀ (l : List SV) (cs : List Value) (n : Nat) (x : SV) (v : Value), DenL E l cs → Den E x v → DenL E (lset l n x) (cs.set n v)
  | [], [], n, x, v, h, _ => by simp only [lset, List.set_nil, DenL]
  | y :: ys, w :: ws, 0, x, v, h, hx => by simp only [lset, List.set_cons_zero, DenL] at h ⊢; exact ⟨hx, h.2⟩
  | y :: ys, w :: ws, n + 1, x, v, h, hx => by simp only [lset, List.set_cons_succ, DenL] at h ⊢; exact ⟨h.1, denL_set ys ws n x v h.2 hx⟩
  | [], _ :: _, n, x, v, h, _ => by simp only [DenL] at h
  | _ :: _, [], n, x, v, h, _ => by simp only [DenL] at h

theorem denL_length {E : Env} : ∀ (l : List SV) (cs : List Value), DenL E l cs → cs.length = l.length
  | [], [], _ => rfl
  | _ :: xs, _ :: vs, h => by simp only [DenL] at h; simp [denL_length xs vs h.2]
  | [], _ :: _, h => by simp only [DenL] at h
  | _ :: _, [], h => by simp only [DenL] at h

theorem denL_drop {E : Env} : ∀ (l : List SV) (cs : List Value) (n : Nat), DenL E l cs → DenL E (l.drop n) (cs.drop n)
  | l, cs, 0, h => by simpa using h
  | [], [], n + 1, h => by simp only [List.drop_nil, DenL]
  | _ :: xs, _ :: vs, n + 1, h => by simp only [DenL] at h; simpa using denL_drop xs vs n h.2
  | [], _ :: _, n + 1, h => by simp only [DenL] at h
  | _ :: _, [], n + 1, h => by simp only [DenL] at h

theorem denL_take {E : Env} : ∀ (l : List SV) (cs : List Value) (n : Nat), DenL E l cs → DenL E (l.take n) (cs.take n)
  | l, cs, 0, h => by simp only [List.take_zero, DenL]
  | [], [], n + 1, h => by simp only [List.take_nil, DenL]
  | _ :: xs, _ :: vs, n + 1, h => by simp only [DenL] at h; simp only [List.take_succ_cons, DenL]; exact ⟨h.1, denL_take xs vs n h.2⟩
  | [], _ :: _, n + 1, h => by simp only [DenL] at h
  | _ :: _, [], n + 1, h => by simp only [DenL] at h

theorem denL_getElem {E : Env} : ∀ (l : List SV) (cs : List Value) (n : Nat) (x : SV), DenL E l cs → l[n]? = some x → ∃ v, cs[n]? = some v ∧ Den E x v
  | x :: xs, v :: vs, 0, y, h, e => by simp only [DenL] at h; simp at e; subst e; exact ⟨v, by simp, h.1⟩
  | x :: xs, v :: vs, n + 1, y, h, e => by simp only [DenL] at h; simpa using denL_getElem xs vs n y h.2 (by simpa using e)
  | [], [], n, y, h, e => by simp at e
  | [], _ :: _, n, y, h, e => by simp at e
  | _ :: _, [], n, y, h, e => by simp only [DenL] at h

theorem denL_append {E : Env} : ∀ (l m : List SV) (cs ds : List Value), DenL E l cs → DenL E m ds → DenL E (l ++ m) (cs ++ ds)
  | [], m, [], ds, _, k => by simpa using k
  | x :: xs, m, v :: vs, ds, h, k => by simp only [DenL] at h; simp only [List.cons_append, DenL]; exact ⟨h.1, denL_append xs m vs ds h.2 k⟩
  | [], _, _ :: _, _, h, _ => by simp only [DenL] at h
  | _ :: _, _, [], _, h, _ => by simp only [DenL] at h

theorem denL_map {E : Env} {f : Operand → SV} {g : Operand → Value} : ∀ (xs : List Operand), (∀ x, x ∈ xs → Den E (f x) (g x)) → DenL E (xs.map f) (xs.map g)
  | [], _ => by simp only [List.map_nil, DenL]
  | x :: xs, h => by simp only [List.map_cons, DenL]; exact ⟨h x (by simp), denL_map xs (fun y hy => h y (by simp [hy]))⟩

/-- The frame: the temporaries denote; nothing is deferred. -/
def mkD (D : Nat) : Deferred := { target := .collected D, args := #[] }
structure Fr (E : Env) (st : SS) (a : Act) : Prop where
  tmps : DenL E st.fr a.tmps.toList
  defers : a.defers = st.df.map mkD

theorem Fr.eval {E : Env} {st : SS} {a : Act} (h : Fr E st a) (x : Operand) : Den E (st.eval x) (a.eval x) := by
  cases x with
  | tmp t =>
    have := denL_get st.fr a.tmps.toList t undef h.tmps
    simpa [SS.eval, Act.eval, Array.getD_eq_getD_getElem?] using this
  | const v => exact den_ofV E v
  | global g => simp [SS.eval, Act.eval, Den]
  | func f => simp only [SS.eval, Act.eval, Den]; exact ⟨[], [], rfl, by simp [DenL], by simp [DenL]⟩

theorem Fr.put {E : Env} {st : SS} {a : Act} (h : Fr E st a) (d : Option Tmp) {x : SV} {v : Value} (hx : Den E x v) : Fr E (st.put d x) (a.put d v) := by
  cases d with
  | none => exact h
  | some d =>
    refine ⟨?_, h.defers⟩
    have := denL_set st.fr a.tmps.toList d x v h.tmps hx
    simpa [SS.put, Act.put, Array.toList_setIfInBounds] using this

theorem Fr.mono {E E' : Env} {st : SS} {a : Act} (h : Fr E st a) (hl : E.Le E') : Fr E' st a := ⟨DenL.mono hl _ _ h.tmps, h.defers⟩

/-- A guarded value's core, and what must be known for it to be there. -/
def core : SV → SV
  | .cnd _ x => x
  | x => x
def vcg (g : Bool) : SV → Prop
  | .cnd g' _ => g = true → g' = true
  | _ => True

theorem den_core {E : Env} {x : SV} {v : Value} {g : Bool} (h : Den E x v) (hv : vcg g x) (hg : g = true) : Den E (core x) v := by
  unfold core
  split
  · rename_i g' y
    simp only [Den] at h
    simp only [vcg] at hv
    exact h.1 (hv hg)
  · exact h

theorem Good.put {E : Env} {st : SS} {w : World} (h : Good E st w) (d : Option Nat) (x : SV) : Good E (st.put d x) w := by
  cases d with
  | none => exact h
  | some d => exact ⟨h.k, h.kx, h.os, h.tape, h.output, h.size, h.old, h.mu, h.nxρ, h.nxθ, let ⟨κ, k⟩ := h.own; ⟨κ, k.hp, k.tk, k.rs, k.mu, k.dom⟩⟩

/-- A world with the same blocks is as good. -/
theorem Good.congr {E : Env} {st : SS} {w w' : World} (h : Good E st w) (hh : w'.heap = w.heap) (ho : w'.os = w.os) (ht : w'.tape = w.tape) (hp : w'.output = w.output) : Good E st w' := by
  refine ⟨h.k, h.kx, ho.trans h.os, ht.trans h.tape, hp.trans h.output, by rw [hh]; exact h.size, by rw [hh]; exact h.old, fun a v e => ?_, h.nxρ, h.nxθ, ?_⟩
  · rw [← h.mu a v e]; simp only [World.cell?, hh]
  · obtain ⟨κ, k⟩ := h.own
    refine ⟨κ, by rw [hh]; exact k.hp, fun τ hτ => ?_, fun r R hr => ?_, k.mu, by rw [hh]; exact k.dom⟩
    · have := k.tk τ hτ; unfold TokOK Row at this ⊢; rw [hh]; exact this
    · obtain ⟨F, h1, h2⟩ := k.rs r R hr
      exact ⟨F, R.loc h1 (fun b _ => by rw [hh]), by rw [hh]; exact h2⟩
end Go.Eng
