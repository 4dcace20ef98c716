/- Texts joined, in order: Ge, Gh, Gf, Fb, Tab. -/
import Derived.Test.YtlgpcngfcglanaaGreatZEmGg
import Derived.Test.YtlgpcngfcglanaaGreatProg
import Derived.KernelRfl
/- The engine, part GE: memory of one's own that others read for a while: asleep (its cells stay) and awake (a row that may be written). A walk whose beginning is named (Base): what must be known still at its end is what was known at its beginning. -/
namespace Go.Eng
open Go
set_option linter.unusedVariables false
set_option linter.unusedSimpArgs false
set_option linter.unusedSectionVars false

/-- What is known of a walk's beginning: what is new lies behind its world; frozen cells of its lie ahead of lo. -/
structure Base (E0 : Env) (lo : Nat) : Prop where
  z : ∀ b, E0.Z b → E0.w0.heap.size ≤ b
  m : ∀ a v, E0.μ a = some v → a.block < lo
  le : lo ≤ E0.w0.heap.size

/-- A row whose read cells stay. -/
def SleepR (lo : Nat) (k : IntKind) (p : Option Addr) (c : Nat) (l : List Int) : Res where
  holds μ F w := l.length ≤ c ∧ c ≤ 9223372036854775807 ∧ (l ≠ [] → c ≠ 0) ∧ (c = 0 ∨ ∃ b off T cs, p = some ⟨b, off, none⟩ ∧ F b ∧ Row w b cs T ∧ off + c ≤ cs.size ∧ (∀ i x, l[i]? = some x → μ ⟨b, off + i, none⟩ = some (.int k x) ∧ cs[off + i]? = some (.int k x)) ∧ lo ≤ b)
  next μ μ' F w w' := by
    rintro ⟨h0, h1, h2, h⟩ hk hμ hn
    refine ⟨h0, h1, h2, h.imp id ?_⟩
    rintro ⟨b, off, T, cs, e1, e2, e3, e4, e5, e6⟩
    refine ⟨b, off, T, cs, e1, e2, ?_, e4, fun i x hx => ⟨hμ _ _ (e5 i x hx).1, (e5 i x hx).2⟩, e6⟩
    rcases hk b e2 with e | ⟨_, cs1, T1, fz, fz', m1, m2, m3⟩
    · exact e3.congr e
    · obtain ⟨fz0, q1, q2⟩ := e3
      rw [q1] at m1
      injection m1 with m1
      injection m1 with m1 m4 m5
      subst m1 m4 m5
      exact ⟨fz', m2, .inr (m3 q2)⟩
/-- Its blocks lie ahead of N. -/
def AndLt (N : Nat) (R : Res) : Res where
  holds μ F w := R.holds μ F w ∧ ∀ b, F b → b < N
  next μ μ' F w w' := fun ⟨h, hb⟩ hk hμ hn => ⟨R.next μ μ' F w w' h hk hμ hn, hb⟩
/-- It speaks of the cells of its own blocks alone. -/
def LocalR (lo : Nat) (R : Res) : Prop := ∀ μ μ' F w, R.holds μ F w → (∀ a, F a.block → μ' a = μ a) → (∀ a, a.block < lo → μ' a = μ a) → R.holds μ' F w
/-- A row of old: it lies ahead of lo. -/
def KnowR (lo : Nat) (k : IntKind) (p : Option Addr) (c : Nat) (l : List Int) : Res where
  holds μ F w := l.length ≤ c ∧ c ≤ 9223372036854775807 ∧ ∀ i x, l[i]? = some x → ∃ b off, p = some ⟨b, off, none⟩ ∧ b < lo ∧ μ ⟨b, off + i, none⟩ = some (.int k x)
  next μ μ' F w w' := fun ⟨h1, h2, h3⟩ hk hμ hn => ⟨h1, h2, fun i x hx => let ⟨b, off, q1, q2, q3⟩ := h3 i x hx; ⟨b, off, q1, q2, hμ _ _ q3⟩⟩
theorem KnowR.loc (lo : Nat) (k : IntKind) (p : Option Addr) (c : Nat) (l : List Int) : LocalR lo (KnowR lo k p c l) :=
  fun μ μ' F w ⟨h1, h2, h3⟩ _ hl => ⟨h1, h2, fun i x hx => let ⟨b, off, q1, q2, q3⟩ := h3 i x hx; ⟨b, off, q1, q2, by rw [hl _ q2]; exact q3⟩⟩
theorem SleepR.loc (lo : Nat) (k : IntKind) (p : Option Addr) (c : Nat) (l : List Int) : LocalR lo (SleepR lo k p c l) := by
  rintro μ μ' F w ⟨h0, h1, h2, h⟩ hl _
  refine ⟨h0, h1, h2, h.imp id ?_⟩
  rintro ⟨b, off, T, cs, e1, e2, e3, e4, e5, e6⟩
  exact ⟨b, off, T, cs, e1, e2, e3, e4, fun i x hx => ⟨by rw [hl _ e2]; exact (e5 i x hx).1, (e5 i x hx).2⟩, e6⟩
theorem AndLt.loc {lo N : Nat} {R : Res} (h : LocalR lo R) : LocalR lo (AndLt N R) := fun μ μ' F w ⟨h1, h2⟩ hl hm => ⟨h μ μ' F w h1 hl hm, h2⟩
theorem RowR.loc (lo : Nat) (k : IntKind) (p : Option Addr) (c : Nat) (l : List Int) : LocalR lo (RowR k p c l) := by
  rintro μ μ' F w ⟨h0, h1, h⟩ hl _
  refine ⟨h0, h1, h.imp id ?_⟩
  rintro ⟨b, off, T, cs, e1, e2, e3, e4, e5, e6⟩
  refine ⟨b, off, T, cs, e1, e2, e3, e4, e5, fun a v e hb => ?_⟩
  rw [hl a (by rw [hb]; exact e2)] at e
  exact e6 a v e hb

-- Nothing is said any more of what is new.
mutual
def ag : SV → SV
  | .ints k .new l => .ints k .old l
  | .ints k (.tok τ _) l => .ints k (.tok τ false) l
  | .ints k .old l => .ints k .old l
  | .ints k .nil l => .ints k .nil l
  | .agg l => .agg (agL l)
  | .tup l => .tup (agL l)
  | .ifc t x => .ifc t (ag x)
  | .cnd g x => .cnd g (ag x)
  | .sl _ _ _ _ => .any
  | .ep _ _ => .any
  | .fn _ _ _ => .any
  | .i k n => .i k n
  | .b c => .b c
  | .s x => .s x
  | .ptr n o => .ptr n o
  | .nilp => .nilp
  | .mp n => .mp n
  | .nili => .nili
  | .nilf => .nilf
  | .raw x => .raw x
  | .any => .any
def agL : List SV → List SV
  | [] => []
  | x :: r => ag x :: agL r
end
-- Only what is new.
mutual
def zn : SV → SV
  | .ints k .new l => .ints k .new l
  | .ints k (.tok τ true) l => .ints k (.tok τ true) l
  | .ints k (.tok _ false) l => .any
  | .ints k .old l => .any
  | .ints k .nil l => .ints k .nil l
  | .agg l => .agg (znL l)
  | .tup l => .tup (znL l)
  | .ifc t x => .ifc t (zn x)
  | .cnd g x => .cnd g (zn x)
  | .sl _ _ _ _ => .any
  | .ep _ _ => .any
  | .fn _ _ _ => .any
  | .i k n => .i k n
  | .b c => .b c
  | .s x => .s x
  | .ptr n o => .ptr n o
  | .nilp => .nilp
  | .mp n => .mp n
  | .nili => .nili
  | .nilf => .nilf
  | .raw x => .raw x
  | .any => .any
def znL : List SV → List SV
  | [] => []
  | x :: r => zn x :: znL r
end
def agH : List (Nat × TypeId × List SV) → List (Nat × TypeId × List SV)
  | [] => []
  | (n, T, l) :: r => (n, T, agL l) :: agH r
def znH : List (Nat × TypeId × List SV) → List (Nat × TypeId × List SV)
  | [] => []
  | (n, T, l) :: r => (n, T, znL l) :: znH r
theorem agH_find : ∀ (H : List (Nat × TypeId × List SV)) (n : Nat) {T : TypeId} {ls : List SV}, hfind (agH H) n = some (T, ls) → ∃ l, hfind H n = some (T, l) ∧ ls = agL l
  | [], n, T, ls, h => by simp [agH, hfind] at h
  | (m, U, l) :: r, n, T, ls, h => by
    simp only [agH, hfind] at h ⊢
    split at h
    · rename_i e
      injection h with h
      injection h with h1 h2
      subst h1 h2
      exact ⟨l, by rw [if_pos e], rfl⟩
    · rename_i e
      rw [if_neg e]
      exact agH_find r n h
theorem znH_find : ∀ (H : List (Nat × TypeId × List SV)) (n : Nat) {T : TypeId} {ls : List SV}, hfind (znH H) n = some (T, ls) → ∃ l, hfind H n = some (T, l) ∧ ls = znL l
  | [], n, T, ls, h => by simp [znH, hfind] at h
  | (m, U, l) :: r, n, T, ls, h => by
    simp only [znH, hfind] at h ⊢
    split at h
    · rename_i e
      injection h with h
      injection h with h1 h2
      subst h1 h2
      exact ⟨l, by rw [if_pos e], rfl⟩
    · rename_i e
      rw [if_neg e]
      exact znH_find r n h

section
variable {E E' : Env} (hρ : E'.ρ = E.ρ) (hθ : E'.θ = E.θ)
include hρ hθ
mutual
theorem den_ag (hμ : E'.μ = E.μ) : ∀ (x : SV) (v : Value), Den E x v → Den E' (ag x) v
  | .i k n, v, hd => by simpa only [Den, ag] using hd
  | .b c, v, hd => by simpa only [Den, ag] using hd
  | .s x, v, hd => by simpa only [Den, ag] using hd
  | .ptr n off, v, hd => by simpa only [Den, ag, hρ] using hd
  | .nilp, v, hd => by simpa only [Den, ag] using hd
  | .mp n, v, hd => by simpa only [Den, ag, hρ] using hd
  | .nili, v, hd => by simpa only [Den, ag] using hd
  | .nilf, v, hd => by simpa only [Den, ag] using hd
  | .raw x, v, hd => by simpa only [Den, ag] using hd
  | .any, v, hd => by simp only [Den, ag]
  | .sl _ _ _ _, v, hd => by simp only [Den, ag]
  | .ep _ _, v, hd => by simp only [Den, ag]
  | .fn _ _ _, v, hd => by simp only [Den, ag]
  | .ints k tg l, v, hd => by
    simp only [Den] at hd
    obtain ⟨a, cap, h1, h2, h3, h4, h5⟩ := hd
    cases tg with
    | old => simp only [Den, ag]; exact ⟨a, cap, h1, h2, h3, by rw [hμ]; exact h4, trivial⟩
    | new => simp only [Den, ag]; exact ⟨a, cap, h1, h2, h3, by rw [hμ]; exact h4, trivial⟩
    | nil => simp only [Den, ag]; exact ⟨a, cap, h1, h2, h3, by rw [hμ]; exact h4, h5⟩
    | tok τ b => simp only [Den, ag]; exact ⟨a, cap, h1, h2, h3, by rw [hμ]; exact h4, by rw [hθ]; exact h5.1, fun h => by cases h⟩
  | .agg l, v, hd => by
    simp only [Den, ag] at hd ⊢
    obtain ⟨cs, p, q⟩ := hd
    exact ⟨cs, p, den_agL hμ l cs q⟩
  | .tup l, v, hd => by
    simp only [Den, ag] at hd ⊢
    obtain ⟨cs, p, q⟩ := hd
    exact ⟨cs, p, den_agL hμ l cs q⟩
  | .ifc t x, v, hd => by
    simp only [Den, ag] at hd ⊢
    obtain ⟨y, p, q⟩ := hd
    exact ⟨y, p, den_ag hμ x y q⟩
  | .cnd g x, v, hd => by
    simp only [Den, ag] at hd ⊢
    exact ⟨fun e => den_ag hμ x v (hd.1 e), hd.2⟩
theorem den_agL (hμ : E'.μ = E.μ) : ∀ (l : List SV) (cs : List Value), DenL E l cs → DenL E' (agL l) cs
  | [], [], _ => by simp only [DenL, agL]
  | x :: xs, v :: vs, hd => by
    simp only [DenL, agL] at hd ⊢
    exact ⟨den_ag hμ x v hd.1, den_agL hμ xs vs hd.2⟩
  | [], _ :: _, hd => by simp only [DenL] at hd
  | _ :: _, [], hd => by simp only [DenL] at hd
end
mutual
theorem den_zn (hZ : E'.Z = E.Z) (hμ : ∀ a v, E.μ a = some v → E.Z a.block → E'.μ a = some v) : ∀ (x : SV) (v : Value), Den E x v → Den E' (zn x) v
  | .i k n, v, hd => by simpa only [Den, zn] using hd
  | .b c, v, hd => by simpa only [Den, zn] using hd
  | .s x, v, hd => by simpa only [Den, zn] using hd
  | .ptr n off, v, hd => by simpa only [Den, zn, hρ] using hd
  | .nilp, v, hd => by simpa only [Den, zn] using hd
  | .mp n, v, hd => by simpa only [Den, zn, hρ] using hd
  | .nili, v, hd => by simpa only [Den, zn] using hd
  | .nilf, v, hd => by simpa only [Den, zn] using hd
  | .raw x, v, hd => by simpa only [Den, zn] using hd
  | .any, v, hd => by simp only [Den, zn]
  | .sl _ _ _ _, v, hd => by simp only [Den, zn]
  | .ep _ _, v, hd => by simp only [Den, zn]
  | .fn _ _ _, v, hd => by simp only [Den, zn]
  | .ints k tg l, v, hd => by
    simp only [Den] at hd
    obtain ⟨a, cap, h1, h2, h3, h4, h5⟩ := hd
    have cell : (∀ a n c, v = .slice (some a) n c → E.Z a.block) → ∀ i x, l[i]? = some x → ∃ b off, a = some ⟨b, off, none⟩ ∧ E'.μ ⟨b, off + i, none⟩ = some (.int k x) := by
      intro hz i x hx
      obtain ⟨b, off, p, q⟩ := h4 i x hx
      subst p
      exact ⟨b, off, rfl, hμ _ _ q (hz ⟨b, off, none⟩ _ _ h1)⟩
    cases tg with
    | old => simp only [Den, zn]
    | new => simp only [Den, zn]; exact ⟨a, cap, h1, h2, h3, cell h5, fun a n c e => by rw [hZ]; exact h5 a n c e⟩
    | nil =>
      simp only [Den, zn]
      simp only [TagOK] at h5
      have hl : l = [] := by
        rw [h1] at h5
        injection h5 with _ h5 _
        simpa using h5
      subst hl
      exact ⟨a, cap, h1, h2, h3, fun i x hx => by simp at hx, h5⟩
    | tok τ b =>
      cases b with
      | true => simp only [Den, zn]; exact ⟨a, cap, h1, h2, h3, cell (h5.2 rfl), by rw [hθ]; exact h5.1, fun h a n c e => by rw [hZ]; exact h5.2 h a n c e⟩
      | false => simp only [Den, zn]
  | .agg l, v, hd => by
    simp only [Den, zn] at hd ⊢
    obtain ⟨cs, p, q⟩ := hd
    exact ⟨cs, p, den_znL hZ hμ l cs q⟩
  | .tup l, v, hd => by
    simp only [Den, zn] at hd ⊢
    obtain ⟨cs, p, q⟩ := hd
    exact ⟨cs, p, den_znL hZ hμ l cs q⟩
  | .ifc t x, v, hd => by
    simp only [Den, zn] at hd ⊢
    obtain ⟨y, p, q⟩ := hd
    exact ⟨y, p, den_zn hZ hμ x y q⟩
  | .cnd g x, v, hd => by
    simp only [Den, zn] at hd ⊢
    exact ⟨fun e => den_zn hZ hμ x v (hd.1 e), hd.2⟩
theorem den_znL (hZ : E'.Z = E.Z) (hμ : ∀ a v, E.μ a = some v → E.Z a.block → E'.μ a = some v) : ∀ (l : List SV) (cs : List Value), DenL E l cs → DenL E' (znL l) cs
  | [], [], _ => by simp only [DenL, znL]
  | x :: xs, v :: vs, hd => by
    simp only [DenL, znL] at hd ⊢
    exact ⟨den_zn hZ hμ x v hd.1, den_znL hZ hμ xs vs hd.2⟩
  | [], _ :: _, hd => by simp only [DenL] at hd
  | _ :: _, [], hd => by simp only [DenL] at hd
end
end

/-- The same state of knowledge, counted from another world. -/
theorem Good.env {E E' : Env} {st : SS} {w : World} (h : Good E st w) (e1 : E'.ρ = E.ρ) (e2 : E'.θ = E.θ) (e3 : E'.μ = E.μ) (e4 : E'.k = E.k) (hos : w.os = E'.w0.os) (htape : w.tape = E'.w0.tape) (hout : w.output = E'.w0.output)
    (hsize : E'.w0.heap.size ≤ w.heap.size) (hold : ∀ b, b < E'.w0.heap.size → ¬ E'.S0 b → w.heap[b]? = E'.w0.heap[b]?) (hmut : ∀ b, b < w.heap.size → Mut E b → Mut E' b) (hp : List (Nat × TypeId × List SV)) (hh : ∀ n T ls, hfind hp n = some (T, ls) → ∃ l, hfind st.hp n = some (T, l) ∧ ∀ cs, DenL E l cs → DenL E' ls cs) : Good E' { st with hp := hp } w := by
  obtain ⟨κ, ho⟩ := h.own
  refine ⟨e4.trans h.k, h.kx, hos, htape, hout, hsize, hold, fun a v e => h.mu a v (by rw [← e3]; exact e), fun n hn => by rw [e1]; exact h.nxρ n hn, fun n hn => by rw [e2]; exact h.nxθ n hn, κ, fun n T ls e => ?_, fun τ hτ => ?_, fun r R hr => ?_, fun a v e => ho.mu a v (by rw [← e3]; exact e), fun b k e => ⟨(ho.dom b k e).1, hmut b (ho.dom b k e).1 (ho.dom b k e).2⟩⟩
  · obtain ⟨l, q1, q2⟩ := hh n T ls e
    obtain ⟨b, cs, r1, r2, r3, r4, r5⟩ := ho.hp n T l q1
    exact ⟨b, cs, by rw [e1]; exact r1, r2, q2 _ r3, r4, hmut b (ho.dom b _ r4).1 r5⟩
  · obtain ⟨sz, a, len, cap, q1, q2, q3⟩ := ho.tk τ hτ
    refine ⟨sz, a, len, cap, by rw [e2]; exact q1, q2, q3.imp id ?_⟩
    rintro ⟨b, off, T, cs, r1, r2, r3, r4, r5, r6⟩
    exact ⟨b, off, T, cs, r1, r2, hmut b (ho.dom b _ r2).1 r3, r4, r5, fun ad v e => r6 ad v (by rw [← e3]; exact e)⟩
  · obtain ⟨F, q1, q2⟩ := ho.rs r R hr
    exact ⟨F, by rw [e3]; exact q1, fun b hb => ⟨(q2 b hb).1, (q2 b hb).2.1, hmut b (q2 b hb).1 (q2 b hb).2.2⟩⟩

/-- From here on only what comes is new; the rows that are named lie ahead of that. -/
def lts (N : Nat) (sel : List Nat) : List (Nat × Res) → List (Nat × Res)
  | [] => []
  | (r, R) :: t => (r, if memB sel r then AndLt N R else R) :: lts N sel t
theorem lts_mem {N : Nat} {sel : List Nat} : ∀ {l : List (Nat × Res)} {r : Nat} {Q : Res}, (r, Q) ∈ lts N sel l → ∃ R, (r, R) ∈ l ∧ (Q = R ∨ Q = AndLt N R)
  | (n, S) :: t, r, Q, h => by
    simp only [lts] at h
    rcases List.mem_cons.1 h with h | h
    · injection h with h1 h2
      subst h1
      refine ⟨S, List.mem_cons_self, ?_⟩
      split at h2
      · exact .inr h2
      · exact .inl h2
    · obtain ⟨R, q1, q2⟩ := lts_mem h
      exact ⟨R, List.mem_cons_of_mem _ q1, q2⟩

theorem rezone_ok {P : Program} {E0 : Env} {lo : Nat} (hB : Base E0 lo) {rd : Option Nat} {stop : List Nat} {c : Code} {s : SS} {K : Ex → SS → Prop} (sel : List Nat)
    (h : ∀ E1, Base E1 lo → CodeOK P ⟨some E1, rd, stop⟩ c { s with fr := agL s.fr, hp := agH s.hp, rs := lts E1.w0.heap.size sel s.rs } K) : CodeOK P ⟨some E0, rd, stop⟩ c s K := by
  intro E a w hb hf hw
  have hx := hb E0 rfl
  let S1 : Nat → Prop := fun b => Mut E b
  let Z1 : Nat → Prop := fun b => w.heap.size ≤ b
  let E1 : Env := { E0 with w0 := w, S0 := S1, Z := Z1, hZ := fun b h => h }
  let E' : Env := { E with w0 := w, S0 := S1, Z := Z1, hZ := fun b h => h }
  have hsz : E0.w0.heap.size ≤ w.heap.size := by have := hw.size; rw [hx.w0] at this; exact this
  have hB1 : Base E1 lo := ⟨fun b h => h, hB.m, Nat.le_trans hB.le hsz⟩
  have hx1 : E1.Ext E' := ⟨hx.k, hx.ρ, hx.θ, rfl, rfl, hx.μ, fun a v e => by
    rcases hx.μnew a v e with h | h
    · exact .inl h
    · exact .inr (.inr ((Mut.ext hx).1 h)), rfl⟩
  have hw' : Good E' { s with hp := agH s.hp } w := Good.env (E' := E') hw rfl rfl rfl rfl rfl rfl rfl (Nat.le_refl _) (fun _ _ _ => rfl) (fun b _ hm => .inr hm) _ (fun n T ls e => by
    obtain ⟨l, q1, rfl⟩ := agH_find _ _ e
    exact ⟨l, q1, fun cs hd => den_agL (E := E) (E' := E') rfl rfl rfl l cs hd⟩)
  have hg : Good E' { s with fr := agL s.fr, hp := agH s.hp, rs := lts E1.w0.heap.size sel s.rs } w := by
    obtain ⟨κ, ho⟩ := hw'.own
    refine ⟨hw'.k, hw'.kx, hw'.os, hw'.tape, hw'.output, hw'.size, hw'.old, hw'.mu, hw'.nxρ, hw'.nxθ, κ, ho.hp, ho.tk, fun r R hr => ?_, ho.mu, ho.dom⟩
    obtain ⟨R0, q1, q2⟩ := lts_mem hr
    obtain ⟨F, p1, p2⟩ := ho.rs r R0 q1
    rcases q2 with rfl | rfl
    · exact ⟨F, p1, p2⟩
    · exact ⟨F, ⟨p1, fun b hb => (p2 b hb).1⟩, p2⟩
  refine wpIn_mono (h E1 hB1 E' a w (fun E2 e => by injection e with e; subst e; exact hx1) ⟨den_agL (E := E) (E' := E') rfl rfl rfl _ _ hf.tmps, hf.defers⟩ hg) ?_
  rintro e a2 w2 ⟨E2, st, x, q1, q2, q3, q4, q5⟩
  have q1' : E1.Ext E2 := q1
  have hw0 : E2.w0 = w := q1'.w0
  have hS0 : E2.S0 = S1 := q1'.S0
  have hZ : E2.Z = Z1 := q1'.Z
  let E3 : Env := { E2 with w0 := E0.w0, S0 := E0.S0, Z := E0.Z, hZ := E0.hZ }
  have le : Le0 E2 E3 := ⟨fun _ _ h => h, fun _ _ h => h, fun _ _ h => h, fun b hb => by
    rw [hZ] at hb
    exact E0.hZ b (Nat.le_trans hsz hb)⟩
  have hm23 : ∀ b, Mut E2 b → Mut E3 b := by
    intro b hm
    unfold Mut at hm
    rw [hw0, hS0] at hm
    rcases hm with hm | hm
    · exact .inl (Nat.le_trans hsz hm)
    · exact (Mut.ext hx).2 hm
  refine ⟨E3, st, x, ⟨q1'.k, q1'.ρ, q1'.θ, rfl, rfl, q1'.μ, fun a v e => ?_, rfl⟩, ⟨DenL.mono0 le _ _ q2.tmps, q2.defers⟩, ?_, q4, q5⟩
  · rcases q1'.μnew a v e with h | h
    · exact .inl h
    · right
      rcases h with h | h
      · exact .inl (Nat.le_trans hsz h)
      · exact (Mut.ext hx).2 h
  · have hos := q3.os; have htp := q3.tape; have hou := q3.output; have hsi := q3.size; have hol := q3.old
    rw [hw0] at hos htp hou hsi hol
    rw [hS0] at hol
    have ho0 : E.w0 = E0.w0 := hx.w0
    have := Good.env (E' := E3) q3 rfl rfl rfl rfl (hos.trans (hw.os.trans (by rw [ho0]))) (htp.trans (hw.tape.trans (by rw [ho0]))) (hou.trans (hw.output.trans (by rw [ho0]))) (Nat.le_trans hsz hsi) (fun b hb hs => by
      have hnm : ¬ Mut E b := by
        intro hm
        rcases (Mut.ext hx).2 hm with h | h
        · have hb' : b < E0.w0.heap.size := hb
          omega
        · exact hs h
      rw [hol b (Nat.lt_of_lt_of_le hb hsz) hnm]
      have := hw.old b (by rw [ho0]; exact hb) (fun h => hnm (.inr h))
      rw [ho0] at this
      exact this) (fun b _ hm => hm23 b hm) st.hp (fun n T ls e => ⟨ls, e, fun cs hd => DenL.mono0 le _ _ hd⟩)
    exact this

/-- A slice with its token in a block of one's own falls asleep as a row: from here on it is told by its place. -/
theorem sleep_ok {P : Program} {E0 : Env} {lo : Nat} (hB : Base E0 lo) {rd : Option Nat} {stop : List Nat} {c : Code} {s : SS} {K : Ex → SS → Prop} (n j : Nat) {T : TypeId} {ls : List SV} {k : IntKind} {τ : Nat} {l : List Int}
    (h1 : hfind s.hp n = some (T, ls)) (h2 : lget ls j = .ints k (.tok τ true) l) (h3 : tkMem s.tk τ = true)
    (h : ∀ p n', CodeOK P ⟨some E0, rd, stop⟩ c { s with hp := hset s.hp n (lset ls j (.raw (.slice p l.length n'))), tk := tkDel s.tk τ, rs := (s.nx, SleepR lo k p n' l) :: s.rs, nx := s.nx + 1 } K) : CodeOK P ⟨some E0, rd, stop⟩ c s K := by
  intro E a w hb hf hw
  have hx := hb E0 rfl
  obtain ⟨κ, ho⟩ := hw.own
  obtain ⟨b0, cs, r1, r2, r3, r4, r5⟩ := ho.hp n T ls h1
  have hd := denL_get ls cs.toList j undef r3
  rw [h2] at hd
  simp only [Den] at hd
  obtain ⟨p, cap, hv, hcl, hcap, hcell, htok, hfresh⟩ := hd
  have hj : j < cs.toList.length := by
    rcases Nat.lt_or_ge j cs.toList.length with h | h
    · exact h
    · rw [List.getElem?_eq_none h] at hv; simp [undef] at hv
  rw [List.getElem?_eq_getElem hj, Option.getD_some] at hv htok hfresh
  have hset : cs.toList.set j cs.toList[j] = cs.toList := List.set_getElem_self hj
  obtain ⟨sz, a', len, cap', t1, t2, t3⟩ := ho.tk τ (tkMem_sound _ _ h3)
  obtain ⟨a0, n0, c0, j0, p', u1, u2, u3, u4, u5⟩ := htok
  rw [hv] at u4
  rw [t1] at u1
  simp only [Option.some.injEq, Prod.mk.injEq, Value.slice.injEq] at u1 u4
  obtain ⟨rfl, rfl, rfl, rfl⟩ := u1
  obtain ⟨rfl, e1, e2⟩ := u4
  refine h p cap E a w hb ⟨hf.tmps, hf.defers⟩ ?_
  let κ' : Nat → Option Key := fun b => match κ b with
    | some (.tok t) => if t = τ then some (.res s.nx) else some (.tok t)
    | y => y
  have κblk : ∀ b m, κ' b = some (.blk m) ↔ κ b = some (.blk m) := by
    intro b m
    simp only [κ']
    split
    · rename_i t e
      rw [e]
      split <;> simp
    · rfl
  have κtok : ∀ b t, t ≠ τ → κ b = some (.tok t) → κ' b = some (.tok t) := by
    intro b t ht e
    simp only [κ', e]
    rw [if_neg ht]
  have κres : ∀ b r, κ b = some (.res r) → κ' b = some (.res r) := by
    intro b r e
    simp only [κ', e]
  have κnew : ∀ b, κ b = some (.tok τ) → κ' b = some (.res s.nx) := by
    intro b e
    simp only [κ', e, if_true]
  refine ⟨hw.k, Nat.le_succ_of_le hw.kx, hw.os, hw.tape, hw.output, hw.size, hw.old, hw.mu, fun m hm => hw.nxρ m (by simp only at hm; omega), fun m hm => hw.nxθ m (by simp only at hm; omega), κ', fun m U qs e => ?_, fun t ht => ?_, fun r R hr => ?_, fun a v e m hk => ho.mu a v e m ((κblk _ _).1 hk), fun b key e => ?_⟩
  · by_cases hm : m = n
    · subst hm
      rw [hfind_hset_same _ _ _ _ _ h1] at e
      injection e with e
      injection e with e3 e4
      subst e3 e4
      refine ⟨b0, cs, r1, r2, ?_, (κblk _ _).2 r4, r5⟩
      have := denL_set ls cs.toList j (.raw (.slice p l.length cap)) cs.toList[j] r3 (by rw [hv]; simp only [Den])
      rw [hset] at this
      exact this
    · rw [hfind_hset_ne _ _ _ _ hm] at e
      obtain ⟨b, ds, q1, q2, q3, q4, q5⟩ := ho.hp m U qs e
      exact ⟨b, ds, q1, q2, q3, (κblk _ _).2 q4, q5⟩
  · obtain ⟨ht1, ht2⟩ := tkDel_mem _ _ _ ht
    obtain ⟨sz2, a2, len2, cap2, q1, q2, q3⟩ := ho.tk t ht1
    refine ⟨sz2, a2, len2, cap2, q1, q2, q3.imp id ?_⟩
    rintro ⟨b, off, U, ds, v1, v2, v3⟩
    exact ⟨b, off, U, ds, v1, κtok b t ht2 v2, v3⟩
  · rcases List.mem_cons.1 hr with hr | hr
    · injection hr with hr1 hr2
      subst hr1 hr2
      refine ⟨fun b => κ b = some (.tok τ), ⟨hcl, hcap, fun hl hc => ?_, ?_⟩, fun b hb => ⟨(ho.dom b _ hb).1, κnew b hb, (ho.dom b _ hb).2⟩⟩
      · have := List.length_pos_iff.2 hl; omega
      · by_cases hc0 : cap = 0
        · exact .inl hc0
        · rcases u5 with u5 | rfl
          · omega
          rcases t3 with ⟨t3, rfl⟩ | ⟨b, off, U, ds, rfl, t4, t5, t6, t7, t8⟩
          · simp only [Option.map_none] at hcell
            have : l = [] := by
              cases l with
              | nil => rfl
              | cons y ys => obtain ⟨b, off, e, _⟩ := hcell 0 y (by simp); cases e
            subst this
            simp at e1
            omega
          · refine .inr ⟨b, off + j0, U, ds, by simp [add_none], t4, t6, by omega, fun i x hx => ?_, ?_⟩
            · obtain ⟨b', off', q1, q2⟩ := hcell i x hx
              simp only [Option.map_some, Nat.mul_one, add_none, Option.some.injEq, Addr.mk.injEq] at q1
              obtain ⟨rfl, rfl, _⟩ := q1
              refine ⟨q2, ?_⟩
              have := hw.mu _ _ q2
              obtain ⟨fz, hb, _⟩ := t6
              simpa [World.cell?, hb] using this
            · have hz := hfresh rfl ⟨b, off + j0, none⟩ l.length cap (by rw [hv]; simp [add_none])
              rw [hx.Z] at hz
              exact Nat.le_trans hB.le (hB.z _ hz)
    · obtain ⟨F, q1, q2⟩ := ho.rs r R hr
      exact ⟨F, q1, fun b hb => ⟨(q2 b hb).1, κres b r (q2 b hb).2.1, (q2 b hb).2.2⟩⟩
  · simp only [κ'] at e
    split at e
    · rename_i t e'
      exact ho.dom b _ e'
    · exact ho.dom b _ e

/-- What a row that sleeps reads. -/
theorem Good.sleeps {E : Env} {s : SS} {w : World} (hw : Good E s w) {r lo : Nat} {k : IntKind} {p : Option Addr} {c : Nat} {l : List Int} (hr : (r, SleepR lo k p c l) ∈ s.rs ∨ ∃ N, (r, AndLt N (SleepR lo k p c l)) ∈ s.rs) : Den E (.ints k .old l) (.slice p l.length c) := by
  obtain ⟨κ, ho⟩ := hw.own
  have key : ∃ F, (SleepR lo k p c l).holds E.μ F w := by
    rcases hr with hr | ⟨N, hr⟩
    · obtain ⟨F, h, _⟩ := ho.rs _ _ hr; exact ⟨F, h⟩
    · obtain ⟨F, h, _⟩ := ho.rs _ _ hr; exact ⟨F, h.1⟩
  obtain ⟨F, h0, h1, h2, h3⟩ := key
  simp only [Den]
  refine ⟨p, c, rfl, h0, h1, fun i x hx => ?_, trivial⟩
  rcases h3 with h3 | ⟨b, off, T, cs, e1, _, _, _, e5, _⟩
  · exact absurd h3 (h2 (by rintro rfl; simp at hx))
  · exact ⟨b, off, e1, (e5 i x hx).1⟩

theorem Good.knows {E : Env} {s : SS} {w : World} (hw : Good E s w) {r lo : Nat} {k : IntKind} {p : Option Addr} {c : Nat} {l : List Int} (hr : (r, KnowR lo k p c l) ∈ s.rs) : Den E (.ints k .old l) (.slice p l.length c) := by
  obtain ⟨κ, ho⟩ := hw.own
  obtain ⟨F, ⟨h0, h1, h2⟩, _⟩ := ho.rs _ _ hr
  simp only [Den]
  exact ⟨p, c, rfl, h0, h1, fun i x hx => let ⟨b, off, q1, _, q3⟩ := h2 i x hx; ⟨b, off, q1, q3⟩, trivial⟩
/-- What was known when the walk began is known still. -/
theorem know_ok {P : Program} {E0 : Env} {lo : Nat} (hB : Base E0 lo) {rd : Option Nat} {stop : List Nat} {c : Code} {s : SS} {K : Ex → SS → Prop} {k : IntKind} {l : List Int} {p : Option Addr} {n : Nat} (hd : Den E0 (.ints k .old l) (.slice p l.length n))
    (h : CodeOK P ⟨some E0, rd, stop⟩ c { s with rs := (s.nx, KnowR lo k p n l) :: s.rs, nx := s.nx + 1 } K) : CodeOK P ⟨some E0, rd, stop⟩ c s K := by
  intro E a w hb hf hw
  have hx := hb E0 rfl
  obtain ⟨κ, ho⟩ := hw.own
  simp only [Den] at hd
  obtain ⟨p', c', e1, h1, h2, h3, _⟩ := hd
  simp only [Value.slice.injEq, true_and] at e1
  obtain ⟨rfl, rfl⟩ := e1
  refine h E a w hb ⟨hf.tmps, hf.defers⟩ ⟨hw.k, Nat.le_succ_of_le hw.kx, hw.os, hw.tape, hw.output, hw.size, hw.old, hw.mu, fun m hm => hw.nxρ m (by simp only at hm; omega), fun m hm => hw.nxθ m (by simp only at hm; omega), κ, ho.hp, ho.tk, fun r R hr => ?_, ho.mu, ho.dom⟩
  rcases List.mem_cons.1 hr with hr | hr
  · injection hr with hr1 hr2
    subst hr1 hr2
    exact ⟨fun _ => False, ⟨h1, h2, fun i x hx' => let ⟨b, off, q1, q2⟩ := h3 i x hx'; ⟨b, off, q1, hB.m _ _ q2, hx.μ _ _ q2⟩⟩, fun b hb => hb.elim⟩
  · exact ho.rs r R hr

/-- A row that sleeps, ahead of all that is new, wakes: only what is new is spoken of from here on. -/
theorem thaw_ok {P : Program} {E1 : Env} {lo : Nat} (hB : Base E1 lo) {rd : Option Nat} {stop : List Nat} {c : Code} {s : SS} {K : Ex → SS → Prop} (r : Nat) {k : IntKind} {p : Option Addr} {n : Nat} {l : List Int}
    (hr : (r, AndLt E1.w0.heap.size (SleepR lo k p n l)) ∈ s.rs) (hl : ∀ m R, (m, R) ∈ s.rs → m ≠ r → LocalR lo R)
    (h : CodeOK P ⟨some E1, rd, stop⟩ c { s with fr := znL s.fr, hp := znH s.hp, rs := rsSet s.rs r (RowR k p n l) } K) : CodeOK P ⟨some E1, rd, stop⟩ c s K := by
  intro E a w hb hf hw
  have hx := hb E1 rfl
  obtain ⟨κ, ho⟩ := hw.own
  obtain ⟨F0, ⟨⟨h0, h1, h2, h3⟩, hlt⟩, hF⟩ := ho.rs _ _ hr
  -- the block that wakes, if there is one
  obtain ⟨bk, hbk⟩ : ∃ bk : Option Nat, (∀ b, bk = some b → F0 b ∧ lo ≤ b) ∧ (n = 0 ∨ ∃ b off T cs, bk = some b ∧ p = some ⟨b, off, none⟩ ∧ Row w b cs T ∧ off + n ≤ cs.size ∧ (∀ i x, l[i]? = some x → cs[off + i]? = some (.int k x))) := by
    rcases h3 with h3 | ⟨b, off, T, cs, e1, e2, e3, e4, e5, e6⟩
    · exact ⟨none, fun b h => (by cases h), .inl h3⟩
    · exact ⟨some b, fun b' h => by injection h with h; subst h; exact ⟨e2, e6⟩, .inr ⟨b, off, T, cs, rfl, e1, e3, e4, fun i x hx => (e5 i x hx).2⟩⟩
  obtain ⟨hb1, hb2⟩ := hbk
  let μ' : Addr → Option Value := fun a => if bk = some a.block then none else E.μ a
  have m1 : ∀ a v, μ' a = some v → E.μ a = some v ∧ bk ≠ some a.block := by
    intro a v e
    simp only [μ'] at e
    split at e
    · cases e
    · rename_i hne; exact ⟨e, hne⟩
  have m2 : ∀ a, bk ≠ some a.block → μ' a = E.μ a := by
    intro a hne
    simp only [μ']
    rw [if_neg hne]
  let E' : Env := { E with μ := μ' }
  have hz : ∀ a v, E.μ a = some v → E.Z a.block → E'.μ a = some v := by
    intro a v e hz
    show μ' a = some v
    rw [m2 a ?_]
    · exact e
    · intro hk
      rw [hx.Z] at hz
      have := hB.z _ hz
      have := hlt _ (hb1 _ hk).1
      omega
  have hx' : E1.Ext E' := ⟨hx.k, hx.ρ, hx.θ, hx.w0, hx.S0, fun a v e => by
    show μ' a = some v
    rw [m2 a ?_]
    · exact hx.μ a v e
    · intro hk
      have := hB.m a v e
      have := (hb1 _ hk).2
      omega, fun a v e => hx.μnew a v (m1 a v e).1, hx.Z⟩
  refine h E' a w (fun E2 e => by injection e with e; subst e; exact hx') ⟨den_znL (E := E) (E' := E') rfl rfl rfl hz _ _ hf.tmps, hf.defers⟩ ?_
  refine ⟨hw.k, hw.kx, hw.os, hw.tape, hw.output, hw.size, hw.old, fun a v e => hw.mu a v (m1 a v e).1, hw.nxρ, hw.nxθ, κ, fun m T ls e => ?_, fun τ hτ => ?_, fun m R hm => ?_, fun a v e => ho.mu a v (m1 a v e).1, ho.dom⟩
  · obtain ⟨l0, q1, rfl⟩ := znH_find _ _ e
    obtain ⟨b, cs, r1, r2, r3, r4, r5⟩ := ho.hp m T l0 q1
    exact ⟨b, cs, r1, r2, den_znL (E := E) (E' := E') rfl rfl rfl hz _ _ r3, r4, r5⟩
  · obtain ⟨sz, a', len, cap, q1, q2, q3⟩ := ho.tk τ hτ
    refine ⟨sz, a', len, cap, q1, q2, q3.imp id ?_⟩
    rintro ⟨b, off, T, cs, r1, r2, r3, r4, r5, r6⟩
    exact ⟨b, off, T, cs, r1, r2, r3, r4, r5, fun ad v e => r6 ad v (m1 ad v e).1⟩
  · rcases rsSet_mem hm with ⟨rfl, rfl⟩ | ⟨q1, q2⟩
    · refine ⟨F0, ⟨h0, h1, ?_⟩, hF⟩
      rcases hb2 with hb2 | ⟨b, off, T, cs, e1, e2, e3, e4, e5⟩
      · exact .inl hb2
      · exact .inr ⟨b, off, T, cs, e2, (hb1 b e1).1, e3, e4, e5, fun a v e hab => (m1 a v e).2 (by rw [e1, hab])⟩
    · obtain ⟨F, p1, p2⟩ := ho.rs m R q2
      refine ⟨F, hl m R q2 q1 E.μ μ' F w p1 (fun a ha => m2 a fun hk => ?_) (fun a ha => m2 a fun hk => by have := (hb1 _ hk).2; omega), p2⟩
      have e1 := (p2 _ ha).2.1
      have e2 := (hF _ (hb1 _ hk).1).2.1
      rw [e1] at e2
      injection e2 with e2
      injection e2 with e2
      exact q1 e2

/-- Arguments that are told by what the state knows. -/
theorem call_c {P : Program} {f : FuncId} {pre : SS} {pargs : List SV} {R : SV → SS → Prop} (hC : Contract P f pre pargs R) (im : List Nat) {st : SS} {args args' : List SV} {K : SV → SS → Prop}
    (hd : ∀ E w vs, Good E st w → DenL E args vs → DenL E args' vs) (h : CallW im pre pargs st args') (hK : ∀ sv post, R sv post → K (ren (fmap (im.take pre.k) st.nx) sv) (st.back (lentOf im st.nx pre) (im.take pre.k) post)) : CallOK P f args st K :=
  let ⟨h1, h2, h3, h4, h5, h6, h7, h8, h9⟩ := h
  .inl fun E w vs hw hv => call_ent hC im h1 h2 h3 h4 h5 h6 h7 h8 h9 hK E w vs hw (hd E w vs hw hv)

/-- A contract out of the code, the walk's beginning named. -/
theorem contract_base {P : Program} {Γ : Tab} (hΓ : Γ.ok P) {f : FuncId} {fn : Func} {c : Code} (hfn : P.funcs[f]? = some fn) (hb : fn.body = some c) (hnm : (fn.name == "runtime.NumGoroutine") = false) {pargs : List SV} {R : SV → SS → Prop} (stop : List Nat)
    (hargs : ∀ (E : Env) (Z : Nat → Prop) (hZ : ∀ b, E.w0.heap.size ≤ b → Z b) (vs : List Value), DenL E pargs vs → DenL { E with Z := Z, hZ := hZ } pargs vs)
    (h : ∀ E0 lo vs, Base E0 lo → DenL E0 pargs vs → ∃ pargs2, DenL E0 pargs2 vs ∧ CodeOK P ⟨some E0, none, stop⟩ c (nilSS.enter pargs2 fn.ntmps) (retK Γ fn.results.toList R)) : Contract P f nilSS pargs R := by
  intro E w vs h0 hw hv
  subst h0
  let E0 : Env := { E with Z := fun b => E.w0.heap.size ≤ b, hZ := fun b h => h }
  have hB : Base E0 E.w0.heap.size := ⟨fun b h => h, fun a v e => World.block_lt_of_cell? _ a (hw.mu a v e), Nat.le_refl _⟩
  have hw' : Good E0 nilSS E.w0 := ⟨hw.k, hw.kx, hw.os, hw.tape, hw.output, hw.size, hw.old, hw.mu, hw.nxρ, hw.nxθ, let ⟨κ, ho⟩ := hw.own; ⟨κ, fun n T ls e => by simp [nilSS, hfind] at e, fun τ hτ => by simp [nilSS] at hτ, fun r R hr => by simp [nilSS] at hr, ho.mu, ho.dom⟩⟩
  have hv' := hargs E _ E0.hZ vs hv
  refine ⟨run_callFunc' hfn hb hnm _ _, ?_⟩
  refine (callsIn_wide (n := 0)).1 (callsIn_of_wp_marks (F := wideR none) (n := 0) hfn hb trivial ?_)
  obtain ⟨pargs2, hv2, h⟩ := h E0 _ vs hB hv'
  have hlen := denL_length _ _ hv2
  have hfr : Fr E0 (nilSS.enter pargs2 fn.ntmps) { tmps := vs.toArray ++ Array.replicate (fn.ntmps - vs.toArray.size) undef, defers := [] } := by
    refine ⟨?_, rfl⟩
    have := denL_append _ _ _ _ hv2 (denL_undef' E0 (fn.ntmps - pargs2.length))
    simpa [SS.enter, hlen] using this
  have hg : Good E0 (nilSS.enter pargs2 fn.ntmps) E.w0 := ⟨hw'.k, hw'.kx, hw'.os, hw'.tape, hw'.output, hw'.size, hw'.old, hw'.mu, hw'.nxρ, hw'.nxθ, let ⟨κ, k⟩ := hw'.own; ⟨κ, k.hp, k.tk, k.rs, k.mu, k.dom⟩⟩
  refine wpIn_mono (h E0 _ E.w0 (fun E2 e => by injection e with e; subst e; exact Env.Ext.refl _) hfr hg) ?_
  rintro e a' w' ⟨E1, s, x, q1, q2, q3, q4, q5⟩
  have q1' : E0.Ext E1 := q1
  have key : retF Γ fn.results.toList R s → LeavesInM (wideR none) 0 P fn a'.tmps (fun e w' => ∃ v' E' post sv, e = .returned v' ∧ E.Ext E' ∧ Good E' post w' ∧ Den E' sv v' ∧ R sv post) a'.defers .returning w' := by
    intro hk
    unfold retF at hk
    rw [q2.defers]
    refine markK_sound s.df s w' _ q3 hk (fun rs' w2 g2 k2 => ?_)
    unfold retS at k2
    split at k2
    · rename_i l vc e1
      have f2 : Fr E1 { s with rs := rs', df := [] } { tmps := a'.tmps, defers := [] } := ⟨q2.tmps, rfl⟩
      obtain ⟨v, r1, r2⟩ := results_run (P := P) hΓ f2 g2 e1 k2.1
      obtain ⟨E', post, psv, t1, t2, t3, t4⟩ := fin_sound q1' g2 r2 k2.2
      have hZ' : E'.Z = fun b => E.w0.heap.size ≤ b := t1.Z
      let E3 : Env := { E' with Z := E.Z, hZ := fun b hb => E.hZ b (by rw [t1.w0] at hb; exact hb) }
      have le : Le0 E' E3 := ⟨fun _ _ h => h, fun _ _ h => h, fun _ _ h => h, fun b hb => by rw [hZ'] at hb; exact E.hZ b hb⟩
      exact ⟨v, r1, v, E3, post, psv, rfl, ⟨t1.k, t1.ρ, t1.θ, t1.w0, t1.S0, t1.μ, t1.μnew, rfl⟩, Good.env (E' := E3) t2 rfl rfl rfl rfl t2.os t2.tape t2.output t2.size t2.old (fun _ _ h => h) post.hp (fun n T ls e => ⟨ls, e, fun cs hd => DenL.mono0 le _ _ hd⟩), DenL.mono0 le [psv] [v] (by simp only [DenL]; exact ⟨t3, trivial⟩) |> (fun h => by simp only [DenL] at h; exact h.1), t4⟩
    · exact k2.elim
  cases x <;> cases e <;> simp only [ExRel] at q4 <;> simp only [retK] at q5
  · exact key q5
  · exact key q5
theorem contract_rowb {P : Program} {f : FuncId} {s : SS} {pargs : List SV} {R : SV → SS → Prop} (r : Nat) {k : IntKind} {p : Option Addr} {cap : Nat} {l : List Int} (hr : rsFind s.rs r = some (RowR k p cap l))
    (h : cap ≤ 9223372036854775807 → Contract P f s pargs R) : Contract P f s pargs R := by
  intro E w vs h0 hw hv
  obtain ⟨_, h1, _⟩ := hw.rowOf (rsFind_mem _ _ _ hr)
  exact h h1 E w vs h0 hw hv

/-- Another state, other arguments, of the same worlds. -/
theorem Contract.pre {P : Program} {f : FuncId} {pre : SS} {pargs : List SV} {R : SV → SS → Prop}
    (h : ∀ E w vs, E.w0 = w → Good E pre w → DenL E pargs vs → ∃ pre' pargs' E', E.Ext E' ∧ Good E' pre' w ∧ DenL E' pargs' vs ∧ Contract P f pre' pargs' R) : Contract P f pre pargs R := by
  intro E w vs h0 hw hv
  obtain ⟨pre', pargs', E', h1, h2, h3, h4⟩ := h E w vs h0 hw hv
  obtain ⟨k1, k2⟩ := h4 E' w vs (h1.w0.trans h0) h2 h3
  exact ⟨k1, k2.mono fun e w' ⟨v, E2, post, sv, q1, q2, q3, q4, q5⟩ => ⟨v, E2, post, sv, q1, h1.trans q2, q3, q4, q5⟩⟩

theorem Good.tokHp {E : Env} {s : SS} {w : World} (hw : Good E s w) (n j : Nat) {T : TypeId} {l : List SV} {k : IntKind} (h1 : hfind s.hp n = some (T, l)) (h2 : lget l j = .ints k .nil []) :
    ∃ E', E.Le E' ∧ Good E' { s with hp := hset s.hp n (lset l j (.ints k (.tok s.nx true) [])), tk := s.nx :: s.tk, nx := s.nx + 1 } w := by
  obtain ⟨E', q1, q2, q3, q4, q5⟩ := hw.tok_none 1 none 0
  obtain ⟨κ, ho⟩ := q5.own
  refine ⟨E', q1, q5.k, q5.kx, q5.os, q5.tape, q5.output, q5.size, q5.old, q5.mu, q5.nxρ, q5.nxθ, κ, fun m T' ls e => ?_, ho.tk, ho.rs, ho.mu, ho.dom⟩
  by_cases hm : m = n
  · subst hm
    have := hfind_hset_same s.hp m T l (lset l j (.ints k (.tok s.nx true) [])) h1
    rw [this] at e
    simp only [Option.some.injEq, Prod.mk.injEq] at e
    obtain ⟨rfl, rfl⟩ := e
    obtain ⟨b, cs, p1, p2, p3, p4, p5⟩ := ho.hp _ _ _ h1
    exact ⟨b, cs, p1, p2, denL_weak _ _ _ p3 (fun v hv => nil_tok q2 (by rw [h2] at hv; exact hv)), p4, p5⟩
  · have := hfind_hset_ne s.hp n m (lset l j (.ints k (.tok s.nx true) [])) hm
    rw [this] at e
    exact ho.hp _ _ _ e

/-- Ahead of a call: a block that holds a nil slice becomes an object told by its place. -/
theorem call_fold {P : Program} {f : FuncId} {st : SS} {args : List SV} {K : SV → SS → Prop} (n j : Nat) {T : TypeId} {l : List SV} {k : IntKind} (h1 : hfind st.hp n = some (T, l)) (h2 : lget l j = .ints k .nil []) (H : SS) (im : List Nat)
    (hF : FoldW H im { st with hp := hset st.hp n (lset l j (.ints k (.tok st.nx true) [])), tk := st.nx :: st.tk, nx := st.nx + 1 }) (hn : fmap im (st.nx + 1) 0 = n)
    (h : ∀ b, CallEnt P f (rawL n b args) (SS.fold { st with hp := hset st.hp n (lset l j (.ints k (.tok st.nx true) [])), tk := st.nx :: st.tk, nx := st.nx + 1 } H im b) K) : CallOK P f args st K := by
  refine .inl fun E w vs hw hv => ?_
  obtain ⟨E', q1, q2⟩ := hw.tokHp n j h1 h2
  obtain ⟨κ, ho⟩ := q2.own
  obtain ⟨b, cs, k1, k2, k3, k4, k5⟩ := ho.hp n T _ (hfind_hset_same _ _ _ _ _ h1)
  have hg := q2.fold hF (root := b) (by show E'.ρ (fmap im (st.nx + 1) 0) = some b; rw [hn]; exact k1)
  obtain ⟨r1, r2⟩ := h b E' w vs hg (rawL_den k1 _ _ (DenL.mono q1 _ _ hv))
  refine ⟨r1, r2.mono fun e w' hp => ⟨?_⟩⟩
  obtain ⟨v, E2, st', sv, t1, t2, t3, t4, t5, t6⟩ := hp.out
  exact ⟨v, E2, st', sv, t1, q1.trans t2, t3, t4, t5, t6⟩

theorem denL_cons {E : Env} {x : SV} {xs : List SV} {vs : List Value} (h : DenL E (x :: xs) vs) : ∃ v r, vs = v :: r ∧ Den E x v ∧ DenL E xs r := by
  cases vs with
  | nil => simp only [DenL] at h
  | cons v r => simp only [DenL] at h; exact ⟨v, r, rfl, h.1, h.2⟩
theorem denL_nil {E : Env} {vs : List Value} (h : DenL E [] vs) : vs = [] := by
  cases vs with
  | nil => rfl
  | cons v r => simp only [DenL] at h

/-- What follows the first of two, told by what holds of the second. -/
def seqC (P : Program) (B : Ctx) (b : Code) (K : Ex → SS → Prop) : Ex → SS → Prop
  | .normal, s => CodeOK P B b s K
  | .ret, s => K .ret s
  | .exit i, s => K (.exit i) s
  | .goto i, s => K (.goto i) s
theorem CodeOK.seq {P : Program} {B : Ctx} {a b : Code} {s : SS} {K : Ex → SS → Prop} (h : CodeOK P B a s (seqC P B b K)) : CodeOK P B (.seq a b) s K := by
  intro E act w hb hf hw
  refine wpIn_seq (wpIn_mono (h E act w hb hf hw) ?_)
  rintro e a' w' ⟨E', st, x', h1, h2, h3, h4, h5⟩
  cases x' <;> cases e <;> simp only [ExRel] at h4 <;> simp only [seqC] at h5
  · exact wpIn_mono (h5 E' a' w' (Ctx.base_ok h1) h2 h3) fun e a w q => QK.base h1 q
  · exact ⟨E', st, .ret, h1, h2, h3, trivial, h5⟩
  · subst h4; exact ⟨E', st, .exit _, h1, h2, h3, rfl, h5⟩
  · subst h4; exact ⟨E', st, .goto _, h1, h2, h3, rfl, h5⟩

theorem call_ce {P : Program} {f : FuncId} {pre : SS} {pargs : List SV} {R : SV → SS → Prop} (hC : Contract P f pre pargs R) (im : List Nat) {st : SS} {args args' : List SV} {K : SV → SS → Prop}
    (hd : ∀ E w vs, Good E st w → DenL E args vs → DenL E args' vs) (h : CallW im pre pargs st args') (hK : ∀ sv post, R sv post → K (ren (fmap (im.take pre.k) st.nx) sv) (st.back (lentOf im st.nx pre) (im.take pre.k) post)) : CallEnt P f args st K :=
  let ⟨h1, h2, h3, h4, h5, h6, h7, h8, h9⟩ := h
  fun E w vs hw hv => call_ent hC im h1 h2 h3 h4 h5 h6 h7 h8 h9 hK E w vs hw (hd E w vs hw hv)

theorem drop_ok {P : Program} {B : Ctx} {c : Code} {s : SS} {K : Ex → SS → Prop} (r : Nat) (h : CodeOK P B c { s with rs := rsCut s.rs r } K) : CodeOK P B c s K := by
  intro E a w hb hf hw
  have hm : ∀ (l : List (Nat × Res)) (x : Nat × Res), x ∈ rsCut l r → x ∈ l := by
    intro l
    induction l with
    | nil => intro x hx; simp [rsCut] at hx
    | cons y t ih =>
      intro x hx
      simp only [rsCut] at hx
      split at hx
      · exact List.mem_cons_of_mem _ (ih x hx)
      · rcases List.mem_cons.1 hx with hx | hx
        · rw [hx]; exact List.mem_cons_self
        · exact List.mem_cons_of_mem _ (ih x hx)
  obtain ⟨κ, ho⟩ := hw.own
  exact h E a w hb ⟨hf.tmps, hf.defers⟩ ⟨hw.k, hw.kx, hw.os, hw.tape, hw.output, hw.size, hw.old, hw.mu, hw.nxρ, hw.nxθ, κ, ho.hp, ho.tk, fun m R hr => ho.rs m R (hm _ _ hr), ho.mu, ho.dom⟩

/-- A function that hands back a new slice of numbers, and a number, hands back a row of one's own. -/
theorem Contract.thaw2 {P : Program} {f : FuncId} {pargs : List SV} {k k2 : IntKind} {l : List Int} {n : Int} (h : Contract P f nilSS pargs (fun sv post => sv = .tup [.ints k (.tok 0 true) l, .i k2 n] ∧ post = ⟨[], [], [0], [], 1, 0, []⟩))
    (hargs : ∀ (E : Env) (Z : Nat → Prop) (hZ : ∀ b, E.w0.heap.size ≤ b → Z b) (vs : List Value), DenL E pargs vs → DenL { E with Z := Z, hZ := hZ } pargs vs) :
    Contract P f nilSS pargs (fun sv post => ∃ p c, sv = .tup [.raw (.slice p l.length c), .i k2 n] ∧ post = ⟨[], [], [], [(0, RowR k p c l)], 1, 0, []⟩) := by
  intro E w vs hw0 hw hv
  subst hw0
  let E1 : Env := { E with Z := fun b => E.w0.heap.size ≤ b, hZ := fun b h => h }
  have g1 : Good E1 nilSS E.w0 := ⟨hw.k, hw.kx, hw.os, hw.tape, hw.output, hw.size, hw.old, hw.mu, hw.nxρ, hw.nxθ, let ⟨κ, ho⟩ := hw.own; ⟨κ, fun n T ls e => by simp [nilSS, hfind] at e, fun τ hτ => by simp [nilSS] at hτ, fun r R hr => by simp [nilSS] at hr, ho.mu, ho.dom⟩⟩
  obtain ⟨k1, k2'⟩ := h E1 E.w0 vs rfl g1 (hargs E _ _ vs hv)
  refine ⟨k1, k2'.mono ?_⟩
  rintro e w' ⟨v, E2, post, sv, rfl, x1, x2, x3, rfl, rfl⟩
  rw [Den] at x3
  obtain ⟨cs, rfl, x3⟩ := x3
  obtain ⟨va, r1, rfl, d1, d2⟩ := denL_cons x3
  obtain ⟨vb, r2, rfl, d3, d4⟩ := denL_cons d2
  obtain rfl := denL_nil d4
  have hnew : ∀ a n c, va = .slice (some a) n c → ∀ ad x, E1.μ ad = some x → ad.block ≠ a.block := by
    intro a n c e ad x hx
    have hv := d1
    simp only [Den] at hv
    obtain ⟨p, c', e', _, _, _, _, hfresh⟩ := hv
    have hz := hfresh rfl a n c e
    rw [x1.Z] at hz
    have : ad.block < E.w0.heap.size := World.block_lt_of_cell? _ ad (hw.mu ad x hx)
    have hz' : E.w0.heap.size ≤ a.block := hz
    omega
  have hsize : E1.w0.heap.size ≤ w'.heap.size := by have := x2.size; rw [x1.w0] at this; exact this
  obtain ⟨p, c, E3, rfl, q1, q2, q3, q4, q5, q6, q7, q8, q9⟩ := Good.thaw hsize x1 x2 d1 hnew E.Z (fun b hb => by rw [x1.w0] at hb; exact E.hZ b hb)
  refine ⟨_, E3, _, .tup [.raw (.slice p l.length c), .i k2 n], rfl, ⟨q3.trans x1.k, fun n hn => by rw [q7]; exact x1.ρ n hn, fun n hn => by rw [q8]; exact x1.θ n hn, q1.trans x1.w0, q2.trans x1.S0, q5, fun a v e => x1.μnew a v (q6 a v e), q4⟩, q9, ?_, p, c, rfl, rfl⟩
  simp only [Den] at d3
  subst d3
  simp only [Den]
  exact ⟨_, rfl, by simp only [DenL, Den]; exact ⟨trivial, trivial, trivial⟩⟩
end Go.Eng
/- The engine, part GH: all that is known now stays known: a slice of structs that lies ahead of what comes. -/
namespace Go.Eng
open Go
set_option linter.unusedVariables false
set_option linter.unusedSimpArgs false

def KnowS (lo sz n : Nat) (el : Nat → Nat → SV) (p : Option Addr) (c : Nat) : Res where
  holds μ F w := n ≤ c ∧ c ≤ 9223372036854775807 ∧ ∀ i, i < n → ∃ b off, p = some ⟨b, off, none⟩ ∧ b < lo ∧ ∀ j, j < sz → ∃ x, μ ⟨b, off + i * sz + j, none⟩ = some x ∧ ∀ E, Den E (el i j) x
  next μ μ' F w w' := fun ⟨h1, h2, h3⟩ hk hμ hn => ⟨h1, h2, fun i hi => let ⟨b, off, q1, q2, q3⟩ := h3 i hi; ⟨b, off, q1, q2, fun j hj => let ⟨x, r1, r2⟩ := q3 j hj; ⟨x, hμ _ _ r1, r2⟩⟩⟩
theorem KnowS.loc {lo lo2 : Nat} (h : lo ≤ lo2) (sz n : Nat) (el : Nat → Nat → SV) (p : Option Addr) (c : Nat) : LocalR lo2 (KnowS lo sz n el p c) :=
  fun μ μ' F w ⟨h1, h2, h3⟩ _ hl => ⟨h1, h2, fun i hi => let ⟨b, off, q1, q2, q3⟩ := h3 i hi; ⟨b, off, q1, q2, fun j hj => let ⟨x, r1, r2⟩ := q3 j hj; ⟨x, by rw [hl _ (Nat.lt_of_lt_of_le q2 h)]; exact r1, r2⟩⟩⟩
theorem Good.knowsS {E : Env} {s : SS} {w : World} (hw : Good E s w) {r lo sz n : Nat} {el : Nat → Nat → SV} {p : Option Addr} {c : Nat} (hr : (r, KnowS lo sz n el p c) ∈ s.rs) : Den E (.sl sz .old n el) (.slice p n c) := by
  obtain ⟨κ, ho⟩ := hw.own
  obtain ⟨F, ⟨h1, h2, h3⟩, _⟩ := ho.rs _ _ hr
  simp only [Den]
  exact ⟨p, c, rfl, h1, h2, fun i hi => let ⟨b, off, q1, q2, q3⟩ := h3 i hi; ⟨b, off, q1, fun j hj => let ⟨x, r1, r2⟩ := q3 j hj; ⟨x, r1, r2 E⟩⟩, trivial⟩

theorem rebase_ok {P : Program} {E0 : Env} {lo : Nat} (hB : Base E0 lo) {rd : Option Nat} {stop : List Nat} {c : Code} {s : SS} {K : Ex → SS → Prop} (j : Nat) {sz n : Nat} {tg : Tag} {el : Nat → Nat → SV} (h2 : lget s.fr j = .sl sz tg n el) (h0 : 0 < sz) (hpl : ∀ i j E E' x, Den E (el i j) x → Den E' (el i j) x)
    (h : ∀ E1 lo' p c1, Base E1 lo' → lo ≤ lo' → CodeOK P ⟨some E1, rd, stop⟩ c { s with fr := lset (agL s.fr) j (.raw (.slice p n c1)), hp := agH s.hp, rs := (s.nx, KnowS lo' sz n el p c1) :: s.rs, nx := s.nx + 1 } K) : CodeOK P ⟨some E0, rd, stop⟩ c s K := by
  intro E a w hb hf hw
  have hx := hb E0 rfl
  let S1 : Nat → Prop := fun b => Mut E b
  let Z1 : Nat → Prop := fun b => w.heap.size ≤ b
  let E1 : Env := { E0 with w0 := w, S0 := S1, Z := Z1, hZ := fun b h => h, μ := E.μ }
  let E' : Env := { E with w0 := w, S0 := S1, Z := Z1, hZ := fun b h => h }
  have hsz : E0.w0.heap.size ≤ w.heap.size := by have := hw.size; rw [hx.w0] at this; exact this
  have hlt : ∀ a v, E.μ a = some v → a.block < w.heap.size := fun a v e => World.block_lt_of_cell? _ a (hw.mu a v e)
  have hB1 : Base E1 w.heap.size := ⟨fun b h => h, hlt, Nat.le_refl _⟩
  have hx1 : E1.Ext E' := ⟨hx.k, hx.ρ, hx.θ, rfl, rfl, fun a v e => e, fun a v e => .inl e, rfl⟩
  have hw' : Good E' { s with hp := agH s.hp } w := Good.env (E' := E') hw rfl rfl rfl rfl rfl rfl rfl (Nat.le_refl _) (fun _ _ _ => rfl) (fun b _ hm => .inr hm) _ (fun n T ls e => by
    obtain ⟨l, q1, rfl⟩ := agH_find _ _ e
    exact ⟨l, q1, fun cs hd => den_agL (E := E) (E' := E') rfl rfl rfl l cs hd⟩)
  have hd := denL_get s.fr a.tmps.toList j undef hf.tmps
  rw [h2] at hd
  simp only [Den] at hd
  obtain ⟨p, c1, hv, hc, hcap, hcell, _⟩ := hd
  have hg : Good E' { s with fr := lset (agL s.fr) j (.raw (.slice p n c1)), hp := agH s.hp, rs := (s.nx, KnowS w.heap.size sz n el p c1) :: s.rs, nx := s.nx + 1 } w := by
    obtain ⟨κ, ho⟩ := hw'.own
    refine ⟨hw'.k, Nat.le_succ_of_le hw'.kx, hw'.os, hw'.tape, hw'.output, hw'.size, hw'.old, hw'.mu, fun m hm => hw'.nxρ m (by simp only at hm ⊢; omega), fun m hm => hw'.nxθ m (by simp only at hm ⊢; omega), κ, ho.hp, ho.tk, fun r R hr => ?_, ho.mu, ho.dom⟩
    rcases List.mem_cons.1 hr with hr | hr
    · injection hr with hr1 hr2
      subst hr1 hr2
      refine ⟨fun _ => False, ⟨hc, hcap, fun i hi => ?_⟩, fun b hb => hb.elim⟩
      obtain ⟨b, off, q1, q3⟩ := hcell i hi
      obtain ⟨x, r1, r2⟩ := q3 0 h0
      exact ⟨b, off, q1, hlt _ _ r1, fun j hj => let ⟨x, r1, r2⟩ := q3 j hj; ⟨x, r1, fun E2 => hpl i j E E2 x r2⟩⟩
    · exact ho.rs r R hr
  have hfr : DenL E' (lset (agL s.fr) j (.raw (.slice p n c1))) a.tmps.toList := by
    have h1 := denL_set (agL s.fr) a.tmps.toList j (.raw (.slice p n c1)) (.slice p n c1) (den_agL (E := E) (E' := E') rfl rfl rfl _ _ hf.tmps) (by simp only [Den])
    have h3 : a.tmps.toList.set j (.slice p n c1) = a.tmps.toList := by
      apply List.ext_getElem?
      intro i
      rw [List.getElem?_set]
      split
      · rename_i e
        subst e
        split
        · rename_i hl
          rw [List.getElem?_eq_getElem hl] at hv ⊢
          simp only [Option.getD_some] at hv
          rw [hv]
        · rename_i hl
          rw [List.getElem?_eq_none (by omega)]
      · rfl
    rw [h3] at h1
    exact h1
  refine wpIn_mono (h E1 w.heap.size p c1 hB1 (Nat.le_trans hB.le hsz) E' a w (fun E2 e => by injection e with e; subst e; exact hx1) ⟨hfr, hf.defers⟩ hg) ?_
  rintro e a2 w2 ⟨E2, st, x, q1, q2, q3, q4, q5⟩
  have q1' : E1.Ext E2 := q1
  have hw0 : E2.w0 = w := q1'.w0
  have hS0 : E2.S0 = S1 := q1'.S0
  have hZ : E2.Z = Z1 := q1'.Z
  let E3 : Env := { E2 with w0 := E0.w0, S0 := E0.S0, Z := E0.Z, hZ := E0.hZ }
  have le : Le0 E2 E3 := ⟨fun _ _ h => h, fun _ _ h => h, fun _ _ h => h, fun b hb => by
    rw [hZ] at hb
    exact E0.hZ b (Nat.le_trans hsz hb)⟩
  have hm23 : ∀ b, Mut E2 b → Mut E3 b := by
    intro b hm
    unfold Mut at hm
    rw [hw0, hS0] at hm
    rcases hm with hm | hm
    · exact .inl (Nat.le_trans hsz hm)
    · exact (Mut.ext hx).2 hm
  refine ⟨E3, st, x, ⟨q1'.k, q1'.ρ, q1'.θ, rfl, rfl, fun a v e => q1'.μ a v (hx.μ a v e), fun a v e => ?_, rfl⟩, ⟨DenL.mono0 le _ _ q2.tmps, q2.defers⟩, ?_, q4, q5⟩
  · rcases q1'.μnew a v e with h | h
    · rcases hx.μnew a v h with h | h
      · exact .inl h
      · exact .inr h
    · right
      rcases h with h | h
      · exact .inl (Nat.le_trans hsz h)
      · exact (Mut.ext hx).2 h
  · have hos := q3.os; have htp := q3.tape; have hou := q3.output; have hsi := q3.size; have hol := q3.old
    rw [hw0] at hos htp hou hsi hol
    rw [hS0] at hol
    have ho0 : E.w0 = E0.w0 := hx.w0
    have := Good.env (E' := E3) q3 rfl rfl rfl rfl (hos.trans (hw.os.trans (by rw [ho0]))) (htp.trans (hw.tape.trans (by rw [ho0]))) (hou.trans (hw.output.trans (by rw [ho0]))) (Nat.le_trans hsz hsi) (fun b hb hs => by
      have hnm : ¬ Mut E b := by
        intro hm
        rcases (Mut.ext hx).2 hm with h | h
        · have hb' : b < E0.w0.heap.size := hb
          omega
        · exact hs h
      rw [hol b (Nat.lt_of_lt_of_le hb hsz) hnm]
      have := hw.old b (by rw [ho0]; exact hb) (fun h => hnm (.inr h))
      rw [ho0] at this
      exact this) (fun b _ hm => hm23 b hm) st.hp (fun n T ls e => ⟨ls, e, fun cs hd => DenL.mono0 le _ _ hd⟩)
    exact this
end Go.Eng
/- The engine, part GF: nil slices that become rows; rows that stay from here on; what a contract of the library comes to. -/
namespace Go.Eng
open Go
set_option linter.unusedVariables false
set_option linter.unusedSimpArgs false

theorem rowZ_none (T : TypeId) (k : IntKind) (μ : Addr → Option Value) (F : Nat → Prop) (w : World) : (RowZ T k none 0 []).holds μ F w := ⟨Nat.le_refl _, by omega, .inl ⟨rfl, rfl⟩⟩
theorem rowR_none (k : IntKind) (μ : Addr → Option Value) (F : Nat → Prop) (w : World) : (RowR k none 0 []).holds μ F w := ⟨Nat.le_refl _, by omega, .inl rfl⟩
theorem Good.addRes {E : Env} {s : SS} {w : World} (hw : Good E s w) (R : Res) (hR : R.holds E.μ (fun _ => False) w) : Good E { s with rs := (s.nx, R) :: s.rs, nx := s.nx + 1 } w := by
  obtain ⟨κ, ho⟩ := hw.own
  refine ⟨hw.k, Nat.le_succ_of_le hw.kx, hw.os, hw.tape, hw.output, hw.size, hw.old, hw.mu, fun n hn => hw.nxρ n (by simp only at hn; omega), fun n hn => hw.nxθ n (by simp only at hn; omega), κ, ho.hp, ho.tk, fun r Q hr => ?_, ho.mu, ho.dom⟩
  rcases List.mem_cons.1 hr with hr | hr
  · injection hr with e1 e2
    subst e1 e2
    exact ⟨fun _ => False, hR, fun _ h => h.elim⟩
  · exact ho.rs r Q hr
theorem nil_raw {E : Env} {k : IntKind} {v : Value} (h : Den E (.ints k .nil []) v) : Den E (.raw (.slice none 0 0)) v := by
  simp only [Den] at h ⊢
  obtain ⟨a, cap, _, _, _, _, h5⟩ := h
  exact h5
/-- The nil slice in a variable is a row of one's own. -/
theorem Sub.rowFr {s : SS} (j : Nat) (k2 : IntKind) {k : IntKind} (h2 : lget s.fr j = .ints k .nil []) :
    Sub s { s with fr := lset s.fr j (.raw (.slice none 0 0)), rs := (s.nx, RowR k2 none 0 []) :: s.rs, nx := s.nx + 1 } := by
  intro E a w hf hw
  have g := hw.addRes (RowR k2 none 0 []) (rowR_none _ _ _ _)
  exact ⟨E, Env.Ext.refl E, ⟨denL_weak _ _ _ hf.tmps (fun v hv => nil_raw (by rw [h2] at hv; exact hv)), hf.defers⟩, g.k, g.kx, g.os, g.tape, g.output, g.size, g.old, g.mu, g.nxρ, g.nxθ, let ⟨κ, k⟩ := g.own; ⟨κ, k.hp, k.tk, k.rs, k.mu, k.dom⟩⟩
/-- The nil slice in a cell is a row of one's own. -/
theorem Sub.rowHp {s : SS} (n j : Nat) (T2 : TypeId) (k2 : IntKind) {T : TypeId} {l : List SV} {k : IntKind} (h1 : hfind s.hp n = some (T, l)) (h2 : lget l j = .ints k .nil []) :
    Sub s { s with hp := hset s.hp n (lset l j (.raw (.slice none 0 0))), rs := (s.nx, RowZ T2 k2 none 0 []) :: s.rs, nx := s.nx + 1 } := by
  intro E a w hf hw
  have g := hw.addRes (RowZ T2 k2 none 0 []) (rowZ_none _ _ _ _ _)
  obtain ⟨κ, ho⟩ := g.own
  refine ⟨E, Env.Ext.refl E, ⟨hf.tmps, hf.defers⟩, g.k, g.kx, g.os, g.tape, g.output, g.size, g.old, g.mu, g.nxρ, g.nxθ, κ, fun m T' ls e => ?_, ho.tk, ho.rs, ho.mu, ho.dom⟩
  by_cases hm : m = n
  · subst hm
    have := hfind_hset_same s.hp m T l (lset l j (.raw (.slice none 0 0))) h1
    rw [this] at e
    simp only [Option.some.injEq, Prod.mk.injEq] at e
    obtain ⟨rfl, rfl⟩ := e
    obtain ⟨b, cs, p1, p2, p3, p4, p5⟩ := ho.hp _ _ _ h1
    exact ⟨b, cs, p1, p2, denL_weak _ _ _ p3 (fun v hv => nil_raw (by rw [h2] at hv; exact hv)), p4, p5⟩
  · have := hfind_hset_ne s.hp n m (lset l j (.raw (.slice none 0 0))) hm
    rw [this] at e
    exact ho.hp _ _ _ e

/-- A row stays as it is from here on. -/
theorem Good.freeze {E : Env} {s : SS} {w : World} (hw : Good E s w) {r : Nat} {k : IntKind} {p : Option Addr} {c : Nat} {l : List Int} (hr : (r, RowR k p c l) ∈ s.rs) :
    ∃ E', E.Le E' ∧ Good E' { s with rs := rsCut s.rs r } w ∧ Den E' (.ints k .old l) (.slice p l.length c) := by
  obtain ⟨κ, ho⟩ := hw.own
  obtain ⟨F, ⟨h0, h1, h2⟩, hF2⟩ := ho.rs _ _ hr
  rcases h2 with hc | ⟨b, off, T, cs, rfl, hF, ⟨fz, hb, hfz⟩, hsz, hcs, hμ⟩
  · have hl : l = [] := List.eq_nil_of_length_eq_zero (by omega)
    subst hl
    refine ⟨E, Env.Le.refl E, ⟨hw.k, hw.kx, hw.os, hw.tape, hw.output, hw.size, hw.old, hw.mu, hw.nxρ, hw.nxθ, κ, ho.hp, ho.tk, fun m R hm => ho.rs m R (rsCut_mem hm).2, ho.mu, ho.dom⟩, ?_⟩
    simp only [Den]
    exact ⟨p, c, rfl, h0, h1, fun i x hx => by simp at hx, trivial⟩
  · obtain ⟨hlt, hκ, hmut⟩ := hF2 b hF
    let μ' : Addr → Option Value := fun a => match E.μ a with
      | some v => some v
      | none => if a.block = b ∧ off ≤ a.off ∧ a.off < off + l.length ∧ a.spot = none then w.cell? a else none
    have m0 : ∀ a v, E.μ a = some v → μ' a = some v := fun a v e => by simp only [μ', e]
    have m1 : ∀ a v, μ' a = some v → E.μ a = some v ∨ (a.block = b ∧ w.cell? a = some v) := by
      intro a v e
      simp only [μ'] at e
      cases he : E.μ a with
      | some u => rw [he] at e; exact .inl e
      | none =>
        rw [he] at e
        simp only at e
        split at e
        · rename_i hh; exact .inr ⟨hh.1, e⟩
        · cases e
    let E' : Env := { E with μ := μ' }
    have hle : E.Le E' := ⟨rfl, rfl, rfl, fun _ _ h => h, fun _ _ h => h, m0, fun a v e => by
      rcases m1 a v e with h | h
      · exact .inl h
      · exact .inr (by rw [h.1]; exact hmut), fun _ _ => rfl, fun _ _ => rfl, rfl⟩
    refine ⟨E', hle, ⟨hw.k, hw.kx, hw.os, hw.tape, hw.output, hw.size, hw.old, fun a v e => by
      rcases m1 a v e with h | h
      · exact hw.mu a v h
      · exact h.2, hw.nxρ, hw.nxθ, κ, fun n T' ls e => ?_, fun τ hτ => ?_, fun m R hm => ?_, fun a v e n e' => ?_, ho.dom⟩, ?_⟩
    · obtain ⟨b', cs', q1, q2, q3, q4, q5⟩ := ho.hp n T' ls e
      exact ⟨b', cs', q1, q2, DenL.mono hle _ _ q3, q4, q5⟩
    · obtain ⟨sz, a, len, cap, q1, q2, q3⟩ := ho.tk τ hτ
      refine ⟨sz, a, len, cap, q1, q2, ?_⟩
      rcases q3 with q3 | ⟨b', off', T', cs', q4, q5, q6, q7, q8, q9⟩
      · exact .inl q3
      · refine .inr ⟨b', off', T', cs', q4, q5, q6, q7, q8, fun ad v e hab => ?_⟩
        rcases m1 ad v e with h | h
        · exact q9 ad v h hab
        · rw [← hab, h.1, hκ] at q5; cases q5
    · obtain ⟨q1, q2⟩ := rsCut_mem hm
      obtain ⟨F', p1, p2⟩ := ho.rs m R q2
      have hne : ¬ F' b := fun h => by
        have := (p2 b h).2.1
        rw [hκ] at this
        injection this with this
        injection this with this
        exact q1 this.symm
      exact ⟨F', R.next _ _ F' w w p1 (fun _ _ => .inl rfl) m0 (fun a v e => by
        rcases m1 a v e with h | h
        · exact .inl h
        · exact .inr (by rw [h.1]; exact hne)), p2⟩
    · rcases m1 a v e with h | h
      · exact ho.mu a v h n e'
      · rw [h.1, hκ] at e'; cases e'
    · simp only [Den]
      refine ⟨_, c, rfl, h0, h1, fun i x hx => ⟨b, off, rfl, ?_⟩, trivial⟩
      have hi : i < l.length := by
        rcases Nat.lt_or_ge i l.length with h' | h'
        · exact h'
        · rw [List.getElem?_eq_none h'] at hx; cases hx
      have hcell : w.cell? ⟨b, off + i, none⟩ = some (.int k x) := by simp [World.cell?, hb, hcs i x hx]
      show μ' _ = _
      cases he : E.μ ⟨b, off + i, none⟩ with
      | some u => exact absurd rfl (hμ _ _ he)
      | none => simp only [μ', he]; rw [if_pos ⟨trivial, by omega, by omega, trivial⟩]; exact hcell
theorem Sub.freeze {s : SS} (j r : Nat) {k : IntKind} {p : Option Addr} {c : Nat} {l : List Int} (hr : rsFind s.rs r = some (RowR k p c l)) (hj : lget s.fr j = .raw (.slice p l.length c)) :
    Sub s { s with fr := lset s.fr j (.ints k .old l), rs := rsCut s.rs r } := by
  intro E a w hf hw
  obtain ⟨E', q1, q2, q3⟩ := hw.freeze (rsFind_mem _ _ _ hr)
  refine ⟨E', q1.ext, ⟨denL_weak _ _ _ (hf.mono q1).tmps (fun v hv => ?_), hf.defers⟩, q2.k, q2.kx, q2.os, q2.tape, q2.output, q2.size, q2.old, q2.mu, q2.nxρ, q2.nxθ, let ⟨κ, k⟩ := q2.own; ⟨κ, k.hp, k.tk, k.rs, k.mu, k.dom⟩⟩
  rw [hj] at hv
  simp only [Den] at hv
  rw [hv]; exact q3

/-- A contract's result told otherwise. -/
theorem Contract.later {P : Program} {f : FuncId} {pre : SS} {pargs : List SV} {R R' : SV → SS → Prop} (h : Contract P f pre pargs R)
    (hR : ∀ sv post, R sv post → ∀ E w v, Good E post w → Den E sv v → ∃ E' sv' post', E.Le E' ∧ Good E' post' w ∧ Den E' sv' v ∧ R' sv' post') : Contract P f pre pargs R' := by
  intro E w vs hw0 hw hv
  obtain ⟨k1, k2⟩ := h E w vs hw0 hw hv
  refine ⟨k1, k2.mono fun e w' ⟨v, E', post, sv, h1, h2, h3, h4, h5⟩ => ?_⟩
  obtain ⟨E2, sv', post', q1, q2, q3, q4⟩ := hR sv post h5 E' w' v h3 h4
  exact ⟨v, E2, post', sv', h1, h2.trans q1.ext, q2, q3, q4⟩

/-- A contract of the library's that leaves all that was as it was. -/
theorem contract_lib {P : Program} {f : FuncId} {fn : Func} {c : Code} (hfn : P.funcs[f]? = some fn) (hb : fn.body = some c) (hnm : (fn.name == "runtime.NumGoroutine") = false) {pargs : List SV} {psv : SV}
    (h : ∀ E w vs, DenL E pargs vs → Calls P f vs.toArray w (fun e w' => ∃ v, e = .returned v ∧ (∀ E', E.Le E' → Den E' psv v) ∧ RowKit.Below w.heap.size w w')) :
    Contract P f nilSS pargs (fun sv post => sv = psv ∧ post = nilSS) := by
  intro E w vs h0 hw hv
  refine ⟨run_callFunc' hfn hb hnm _ _, (h E w vs hv).mono ?_⟩
  rintro e w' ⟨v, rfl, hd, hB⟩
  refine ⟨v, E, nilSS, psv, rfl, Env.Ext.refl E, ⟨hw.k, hw.kx, hB.os.trans hw.os, hB.tape.trans hw.tape, hB.output.trans hw.output, Nat.le_trans hw.size hB.size, fun b hb hs => ?_, fun a x e => ?_, hw.nxρ, hw.nxθ, ?_⟩, hd E (Env.Le.refl E), rfl, rfl⟩
  · rw [hB.block b (Nat.lt_of_lt_of_le hb hw.size)]; exact hw.old b hb hs
  · have hlt := World.block_lt_of_cell? w a (hw.mu a x e)
    rw [World.cell?_of_block (hB.block _ hlt)]; exact hw.mu a x e
  · obtain ⟨κ, ho⟩ := hw.own
    exact ⟨κ, fun n T ls e => by simp [nilSS, hfind] at e, fun τ hτ => by simp [nilSS] at hτ, fun r R hr => by simp [nilSS] at hr, ho.mu, fun b k e => ⟨Nat.lt_of_lt_of_le (ho.dom b k e).1 hB.size, (ho.dom b k e).2⟩⟩

/-- A contract of the library's that lays a row anew. -/
theorem contract_row_lib {P : Program} {f : FuncId} {fn : Func} {c : Code} (hfn : P.funcs[f]? = some fn) (hb : fn.body = some c) (hnm : (fn.name == "runtime.NumGoroutine") = false) {T : TypeId} {k : IntKind} {p : Option Addr} {c0 : Nat} {l : List Int} {xs : List SV} {R : SV → SS → Prop}
    (h : ∀ E w vs, DenL E xs vs → ((p = none ∧ c0 = 0) ∨ ∃ (b : Nat) (cs : Array Value), p = some ⟨b, 0, none⟩ ∧ w.heap[b]? = some (.cells cs T (0, 0)) ∧ cs.size = c0 ∧ (∀ (i : Nat) (x : Int), l[i]? = some x → cs[i]? = some (Value.int k x))) → l.length ≤ c0 →
      Calls P f (.slice p l.length c0 :: vs).toArray w (fun e w' => ∃ (p' : Option Addr) (c' : Nat) (cs' : Array Value), e = .returned (.slice p' l.length c') ∧ p' = some ⟨w.heap.size, 0, none⟩ ∧ l.length ≤ c' ∧ c' ≤ 9223372036854775807 ∧ w'.heap[w.heap.size]? = some (.cells cs' T (0, 0)) ∧ cs'.size = c' ∧ (∀ (i : Nat) (x : Int), l[i]? = some x → cs'[i]? = some (Value.int k x)) ∧ RowKit.Below w.heap.size w w' ∧ R (.raw (.slice p' l.length c')) (preR (RowZ T k p' c' l)))) :
    Contract P f (preR (RowZ T k p c0 l)) (.raw (.slice p l.length c0) :: xs) R := by
  intro E w vs h0 hw hv
  obtain ⟨v0, us, rfl, hv0, hus⟩ := denL_cons hv
  simp only [Den] at hv0
  subst hv0
  obtain ⟨κ, ho⟩ := hw.own
  obtain ⟨F, ⟨q0, q1, q2⟩, hF2⟩ := ho.rs 0 (RowZ T k p c0 l) (by simp [preR])
  refine ⟨run_callFunc' hfn hb hnm _ _, (h E w us hus (q2.imp id fun ⟨b, cs, e1, _, e3, e4, e5, _⟩ => ⟨b, cs, e1, e3, e4, e5⟩) q0).mono ?_⟩
  rintro e w' ⟨p', c', cs', rfl, rfl, r1, r2, r3, r4, r5, hB, hR⟩
  have hlt : w.heap.size < w'.heap.size := by
    rcases Nat.lt_or_ge w.heap.size w'.heap.size with h' | h'
    · exact h'
    · rw [Array.getElem?_eq_none h'] at r3; cases r3
  refine ⟨_, E, preR (RowZ T k (some ⟨w.heap.size, 0, none⟩) c' l), .raw (.slice (some ⟨w.heap.size, 0, none⟩) l.length c'), rfl, Env.Ext.refl E, ⟨hw.k, hw.kx, hB.os.trans hw.os, hB.tape.trans hw.tape, hB.output.trans hw.output, Nat.le_trans hw.size hB.size, fun b hb hs => ?_, fun a x e => ?_, hw.nxρ, hw.nxθ, fun b => if b = w.heap.size then some (.res 0) else none, ?_, ?_, ?_, ?_, ?_⟩, by simp only [Den], hR⟩
  · rw [hB.block b (Nat.lt_of_lt_of_le hb hw.size)]; exact hw.old b hb hs
  · have hl := World.block_lt_of_cell? w a (hw.mu a x e)
    rw [World.cell?_of_block (hB.block _ hl)]; exact hw.mu a x e
  · intro n T' ls e; simp [preR, hfind] at e
  · intro τ hτ; simp [preR] at hτ
  · intro r Q hr
    simp only [preR, List.mem_cons, Prod.mk.injEq, List.not_mem_nil, or_false] at hr
    obtain ⟨rfl, rfl⟩ := hr
    refine ⟨fun b => b = w.heap.size, ⟨r1, r2, .inr ⟨_, cs', rfl, rfl, r3, r4, r5, fun a v e => ?_⟩⟩, fun b hb => ?_⟩
    · have := World.block_lt_of_cell? w a (hw.mu a v e); omega
    · subst hb
      exact ⟨hlt, if_pos rfl, .inl hw.size⟩
  · intro a v e n e'
    have hl := World.block_lt_of_cell? w a (hw.mu a v e)
    rw [if_neg (by omega)] at e'
    cases e'
  · intro b key e
    split at e
    · rename_i hb
      rw [hb]; exact ⟨hlt, .inl hw.size⟩
    · cases e

/-- A part of the code leads, whatever way it goes, into one state. -/
def cutK (S : SS) (K : Ex → SS → Prop) : Ex → SS → Prop
  | .normal, t => Sub t S
  | .ret, t => K .ret t
  | .exit i, t => K (.exit i) t
  | .goto i, t => K (.goto i) t
theorem code_cut {P : Program} {B : Ctx} {a b : Code} {s : SS} {K : Ex → SS → Prop} (S : SS) (h1 : CodeOK P B a s (cutK S K)) (h2 : CodeOK P B b S K) : CodeOK P B (.seq a b) s K :=
  CodeOK.seq (h1.mono fun x t h => by
    cases x with
    | normal => exact CodeOK.sub h h2
    | ret => exact h
    | exit i => exact h
    | goto i => exact h)
/-- The same, into one of a family. -/
def cutI {ι : Type} (S : ι → SS) (K : Ex → SS → Prop) : Ex → SS → Prop
  | .normal, t => ∃ i, Sub t (S i)
  | .ret, t => K .ret t
  | .exit i, t => K (.exit i) t
  | .goto i, t => K (.goto i) t
theorem code_cutI {P : Program} {B : Ctx} {a b : Code} {s : SS} {K : Ex → SS → Prop} {ι : Type} (S : ι → SS) (h1 : CodeOK P B a s (cutI S K)) (h2 : ∀ i, CodeOK P B b (S i) K) : CodeOK P B (.seq a b) s K :=
  CodeOK.seq (h1.mono fun x t h => by
    cases x with
    | normal => exact let ⟨i, hi⟩ := h; CodeOK.sub hi (h2 i)
    | ret => exact h
    | exit i => exact h
    | goto i => exact h)
theorem CodeOK.block {P : Program} {B : Ctx} {id : Nat} {c : Code} {s : SS} {K : Ex → SS → Prop} (h : CodeOK P B c s (blockK id K)) : CodeOK P B (.block id c) s K := by
  intro E a w hb hf hw
  refine wpIn_block (wpIn_mono (h E a w hb hf hw) ?_)
  rintro e a' w' ⟨E', st, x', h1, h2, h3, h4, h5⟩
  cases x' <;> cases e <;> simp only [ExRel] at h4 <;> simp only [blockK] at h5
  · exact ⟨E', st, .normal, h1, h2, h3, trivial, h5⟩
  · exact ⟨E', st, .ret, h1, h2, h3, trivial, h5⟩
  · subst h4
    simp only [Exit.inBlock]
    split at h5
    · rename_i e; rw [if_pos e]; exact ⟨E', st, .normal, h1, h2, h3, trivial, h5⟩
    · rename_i e; rw [if_neg e]; exact ⟨E', st, .exit _, h1, h2, h3, rfl, h5⟩
  · subst h4; exact ⟨E', st, .goto _, h1, h2, h3, rfl, h5⟩
attribute [push_cast] cutI.eq_1 cutI.eq_2 cutI.eq_3 cutI.eq_4 cutK.eq_1 cutK.eq_2 cutK.eq_3 cutK.eq_4 seqC.eq_1 seqC.eq_2 seqC.eq_3 seqC.eq_4
end Go.Eng
/- The engine, part FB: the rules of evaluation, as one set. -/
namespace Go.Eng
open Go
theorem wrap_zero : IntKind.i64.wrap 0 = 0 := rfl
attribute [push_cast] isRoom evenB litsB seenB candL nextAll nextK evLookup findE keyB keysB keyEq oneZ evAssert evLenM pairsN mapPut TD.plain TD.lay upTo slAppend cutp_zero Nat.sub_zero evAppendX evCopy rowApp appRow rowCopy rsSet wrap_zero evMix.eq_1 evMix.eq_2 evMix.eq_3 evAlts.eq_1 evAlts_cons mixN_eq heldL.eq_1 heldL.eq_2 doneK evC_skip evC_label evC_ret evC_exit evC_goto evC_region evC_seq evC_cond evC_block evC_loop evC_scope evC_rangeFunc seqK.eq_1 seqK.eq_2 seqK.eq_3 seqK.eq_4 callK_eq nilK_eq skipV evOps.eq_1 evOps.eq_2 evStill.eq_1 evStill.eq_2 evGuard evalP evEff evCall evAppend evPick evNil evField evIndexAddr evLoad evUn evConv evFieldV evIndex evSlice cut cutL evBuiltin evBuild evParts placeOf fieldOf nth leaves spl opd ovc ovcL core vcg SS.eval SS.put SS.enter SS.addBlk SS.addTok SS.setBlk SS.back lentOf lentHp lentTk lentRs lget lset hfind hset hpRen hpDel tkRen tkDelL rsRen rsDel memB fmap ren renL renT tkMem tkDel bin binI binS binE isC isT isF isNilS evSliceNil appd intsOf slTag ofV ofLeaf one allOne thenK.eq_1 thenK.eq_2 thenK.eq_3 thenK.eq_4 blockK.eq_1 blockK.eq_2 blockK.eq_3 blockK.eq_4 retK.eq_1 retK.eq_2 retK.eq_3 retK.eq_4 evRes single TD.agg allT tdT nilSS noTI rowsOf elOf pickL eqB leafEq loopN.eq_1 loopN.eq_2 scopeK.eq_1 scopeK.eq_2 scopeK.eq_3 scopeK.eq_4 SubW CallW FinW retS retF markK rsCut rsSet rsFind iterK.eq_1 iterK.eq_2 iterK.eq_3 iterEnd pendK.eq_1 pendK.eq_2 pendK.eq_3 pendK.eq_4 roundK.eq_1 roundK.eq_2 roundK.eq_3 roundK.eq_4 roundEnd assignK.eq_1 assignK.eq_2 YOK_eq setPs SS.iter memId hpSub tkSub rsSub W WL TW distincts allLt idTo SS.lt hpLt rsLt Nat.le_refl List.toList_toArray List.size_toArray List.map List.cons_append List.nil_append List.append_nil List.length_cons List.length_nil List.replicate List.take_succ_cons List.take_zero List.drop_succ_cons List.drop_zero Option.map_some Option.map_none Option.toList Option.isSome Option.isNone_none Option.isNone_some Bool.not_true Bool.not_false decide_true decide_false bne_self_eq_false Nat.add_zero Nat.zero_add Bool.or_false Bool.false_or Bool.or_true Bool.true_or Bool.and_true Bool.true_and List.mem_cons forall_eq_or_imp forall_eq List.not_mem_nil ne_eq not_false_eq_true not_true_eq_false true_and and_true and_self true_or or_true forall_const Bool.false_eq_true beq_self_eq_true Bool.not_eq_true Bool.not_eq_false imp_self implies_true false_imp_iff beq_true beq_false Bool.not_not beq_iff_eq decide_eq_true_eq decide_eq_false_iff_not bne_iff_ne beq_eq_false_iff_ne bne_eq_false_iff_eq Bool.and_eq_true Bool.and_eq_false_iff Bool.or_eq_true Bool.or_eq_false_iff Bool.not_eq_true' Bool.not_eq_false' Int.not_lt Int.not_le rawV rawL rawHp SS.rawAll SS.fold SS.unfold ptrAt rawsAt preR FoldW imN cutTag
end Go.Eng
/- The table of types of this seat's translation (by tabgen.py), held against the program. -/
namespace Go.Proofs.YtlgpcngfcglanaaGreat
open Go.Eng

def tyList : List TI := [noTI,
  ⟨.func, 1, 8, [.nilFunc]⟩,
  ⟨.int .i64, 1, 8, [.int .i64 0]⟩,
  ⟨.int .i64, 1, 8, [.int .i64 0]⟩,
  ⟨.bool, 1, 1, [.bool false]⟩,
  ⟨.int .u8, 1, 1, [.int .u8 0]⟩,
  ⟨.int .u8, 1, 1, [.int .u8 0]⟩,
  ⟨.struct [(0, 2), (1, 3), (2, 4), (3, 6)], 4, 24, [.int .i64 0, .int .i64 0, .bool false, .int .u8 0]⟩,
  ⟨.struct [(0, 2), (1, 3), (2, 4), (3, 6)], 4, 24, [.int .i64 0, .int .i64 0, .bool false, .int .u8 0]⟩,
  ⟨.str, 1, 16, [.string ⟨#[]⟩]⟩,
  ⟨.str, 1, 16, [.string ⟨#[]⟩]⟩,
  ⟨.str, 1, 16, [.string ⟨#[]⟩]⟩,
  ⟨.int .u64, 1, 8, [.int .u64 0]⟩,
  ⟨.struct [(0, 9), (1, 12)], 2, 24, [.string ⟨#[]⟩, .int .u64 0]⟩,
  ⟨.struct [(0, 9), (1, 12)], 2, 24, [.string ⟨#[]⟩, .int .u64 0]⟩,
  ⟨.ptr 278, 1, 8, [.pointer none]⟩,
  ⟨.ptr 281, 1, 8, [.pointer none]⟩,
  ⟨.ptr 290, 1, 8, [.pointer none]⟩,
  ⟨.struct [(0, 17)], 1, 8, [.pointer none]⟩,
  ⟨.struct [(0, 17)], 1, 8, [.pointer none]⟩,
  ⟨.iface, 1, 16, [.nilIface]⟩,
  ⟨.int .i32, 1, 4, [.int .i32 0]⟩,
  ⟨.slice 5, 1, 24, [.slice none 0 0]⟩,
  ⟨.slice 239, 1, 24, [.slice none 0 0]⟩,
  ⟨.func, 1, 8, [.nilFunc]⟩,
  ⟨.ptr 52, 1, 8, [.pointer none]⟩,
  noTI,
  ⟨.slice 132, 1, 24, [.slice none 0 0]⟩,
  ⟨.slice 3, 1, 24, [.slice none 0 0]⟩,
  ⟨.slice 22, 1, 24, [.slice none 0 0]⟩,
  ⟨.struct [(0, 3), (1, 3), (2, 22), (3, 27), (4, 28), (5, 23), (6, 29), (7, 3), (8, 4)], 9, 152, [.int .i64 0, .int .i64 0, .slice none 0 0, .slice none 0 0, .slice none 0 0, .slice none 0 0, .slice none 0 0, .int .i64 0, .bool false]⟩,
  ⟨.struct [(0, 3), (1, 3), (2, 22), (3, 27), (4, 28), (5, 23), (6, 29), (7, 3), (8, 4)], 9, 152, [.int .i64 0, .int .i64 0, .slice none 0 0, .slice none 0 0, .slice none 0 0, .slice none 0 0, .slice none 0 0, .int .i64 0, .bool false]⟩,
  ⟨.func, 1, 8, [.nilFunc]⟩,
  ⟨.struct [(0, 4), (1, 4), (2, 3), (3, 3), (4, 22), (5, 22), (6, 22), (7, 3), (8, 4), (9, 4), (10, 4)], 11, 112, [.bool false, .bool false, .int .i64 0, .int .i64 0, .slice none 0 0, .slice none 0 0, .slice none 0 0, .int .i64 0, .bool false, .bool false, .bool false]⟩,
  ⟨.struct [(0, 4), (1, 4), (2, 3), (3, 3), (4, 22), (5, 22), (6, 22), (7, 3), (8, 4), (9, 4), (10, 4)], 11, 112, [.bool false, .bool false, .int .i64 0, .int .i64 0, .slice none 0 0, .slice none 0 0, .slice none 0 0, .int .i64 0, .bool false, .bool false, .bool false]⟩,
  ⟨.int .i64, 1, 8, [.int .i64 0]⟩,
  noTI,
  ⟨.func, 1, 8, [.nilFunc]⟩,
  ⟨.struct [(0, 4), (1, 4), (2, 4), (3, 4), (4, 4), (5, 4), (6, 4), (7, 4)], 8, 8, [.bool false, .bool false, .bool false, .bool false, .bool false, .bool false, .bool false, .bool false]⟩,
  ⟨.struct [(0, 4), (1, 4), (2, 4), (3, 4), (4, 4), (5, 4), (6, 4), (7, 4)], 8, 8, [.bool false, .bool false, .bool false, .bool false, .bool false, .bool false, .bool false, .bool false]⟩,
  ⟨.func, 1, 8, [.nilFunc]⟩,
  noTI,
  ⟨.func, 1, 8, [.nilFunc]⟩,
  ⟨.iface, 1, 16, [.nilIface]⟩,
  ⟨.iface, 1, 16, [.nilIface]⟩,
  ⟨.ptr 128, 1, 8, [.pointer none]⟩,
  ⟨.ptr 129, 1, 8, [.pointer none]⟩,
  ⟨.ptr 126, 1, 8, [.pointer none]⟩,
  ⟨.ptr 134, 1, 8, [.pointer none]⟩,
  ⟨.ptr 119, 1, 8, [.pointer none]⟩,
  ⟨.ptr 183, 1, 8, [.pointer none]⟩,
  ⟨.struct [(0, 44), (1, 45), (2, 46), (3, 47), (4, 48), (5, 49), (6, 50)], 7, 64, [.nilIface, .pointer none, .pointer none, .pointer none, .pointer none, .pointer none, .pointer none]⟩,
  ⟨.struct [(0, 44), (1, 45), (2, 46), (3, 47), (4, 48), (5, 49), (6, 50)], 7, 64, [.nilIface, .pointer none, .pointer none, .pointer none, .pointer none, .pointer none, .pointer none]⟩,
  ⟨.func, 1, 8, [.nilFunc]⟩,
  ⟨.struct [(0, 4), (1, 4), (2, 3), (3, 3), (4, 22), (5, 22), (6, 22), (7, 3), (8, 4), (9, 4), (10, 4)], 11, 112, [.bool false, .bool false, .int .i64 0, .int .i64 0, .slice none 0 0, .slice none 0 0, .slice none 0 0, .int .i64 0, .bool false, .bool false, .bool false]⟩,
  ⟨.slice 59, 1, 24, [.slice none 0 0]⟩,
  ⟨.func, 1, 8, [.nilFunc]⟩,
  ⟨.func, 1, 8, [.nilFunc]⟩,
  ⟨.struct [(0, 3), (1, 5)], 2, 16, [.int .i64 0, .int .u8 0]⟩,
  ⟨.struct [(0, 3), (1, 5)], 2, 16, [.int .i64 0, .int .u8 0]⟩,
  ⟨.func, 1, 8, [.nilFunc]⟩,
  ⟨.func, 1, 8, [.nilFunc]⟩,
  ⟨.func, 1, 8, [.nilFunc]⟩,
  ⟨.func, 1, 8, [.nilFunc]⟩,
  ⟨.func, 1, 8, [.nilFunc]⟩,
  ⟨.func, 1, 8, [.nilFunc]⟩,
  noTI,
  ⟨.func, 1, 8, [.nilFunc]⟩,
  ⟨.func, 1, 8, [.nilFunc]⟩,
  ⟨.slice 73, 1, 24, [.slice none 0 0]⟩,
  ⟨.func, 1, 8, [.nilFunc]⟩,
  ⟨.func, 1, 8, [.nilFunc]⟩,
  ⟨.struct [(0, 9), (1, 22)], 2, 40, [.string ⟨#[]⟩, .slice none 0 0]⟩,
  ⟨.struct [(0, 9), (1, 22)], 2, 40, [.string ⟨#[]⟩, .slice none 0 0]⟩,
  ⟨.func, 1, 8, [.nilFunc]⟩,
  noTI,
  ⟨.func, 1, 8, [.nilFunc]⟩,
  ⟨.func, 1, 8, [.nilFunc]⟩,
  noTI,
  ⟨.func, 1, 8, [.nilFunc]⟩,
  noTI,
  ⟨.func, 1, 8, [.nilFunc]⟩,
  ⟨.func, 1, 8, [.nilFunc]⟩,
  ⟨.ptr 130, 1, 8, [.pointer none]⟩,
  noTI,
  ⟨.func, 1, 8, [.nilFunc]⟩,
  ⟨.func, 1, 8, [.nilFunc]⟩,
  noTI,
  ⟨.func, 1, 8, [.nilFunc]⟩,
  ⟨.slice 135, 1, 24, [.slice none 0 0]⟩,
  ⟨.func, 1, 8, [.nilFunc]⟩,
  ⟨.func, 1, 8, [.nilFunc]⟩,
  noTI,
  ⟨.func, 1, 8, [.nilFunc]⟩,
  noTI,
  ⟨.func, 1, 8, [.nilFunc]⟩,
  ⟨.func, 1, 8, [.nilFunc]⟩,
  ⟨.func, 1, 8, [.nilFunc]⟩,
  ⟨.ptr 102, 1, 8, [.pointer none]⟩,
  noTI,
  ⟨.func, 1, 8, [.nilFunc]⟩,
  ⟨.struct [(0, 34), (11, 44)], 12, 128, [.bool false, .bool false, .int .i64 0, .int .i64 0, .slice none 0 0, .slice none 0 0, .slice none 0 0, .int .i64 0, .bool false, .bool false, .bool false, .nilIface]⟩,
  ⟨.struct [(0, 34), (11, 44)], 12, 128, [.bool false, .bool false, .int .i64 0, .int .i64 0, .slice none 0 0, .slice none 0 0, .slice none 0 0, .int .i64 0, .bool false, .bool false, .bool false, .nilIface]⟩,
  noTI,
  ⟨.func, 1, 8, [.nilFunc]⟩,
  ⟨.func, 1, 8, [.nilFunc]⟩,
  ⟨.func, 1, 8, [.nilFunc]⟩,
  ⟨.func, 1, 8, [.nilFunc]⟩,
  ⟨.struct [], 0, 0, []⟩,
  ⟨.struct [], 0, 0, []⟩,
  ⟨.func, 1, 8, [.nilFunc]⟩,
  ⟨.func, 1, 8, [.nilFunc]⟩,
  ⟨.slice 9, 1, 24, [.slice none 0 0]⟩,
  ⟨.map 9 121, 1, 8, [.map none]⟩,
  ⟨.map 9 174, 1, 8, [.map none]⟩,
  ⟨.map 3 254, 1, 8, [.map none]⟩,
  ⟨.ptr 245, 1, 8, [.pointer none]⟩,
  ⟨.arr 2 3, 2, 16, [.int .i64 0, .int .i64 0]⟩,
  ⟨.struct [(0, 4), (1, 113), (2, 114), (3, 115), (4, 3), (5, 116), (6, 117)], 8, 64, [.bool false, .map none, .map none, .map none, .int .i64 0, .pointer none, .int .i64 0, .int .i64 0]⟩,
  ⟨.struct [(0, 4), (1, 113), (2, 114), (3, 115), (4, 3), (5, 116), (6, 117)], 8, 64, [.bool false, .map none, .map none, .map none, .int .i64 0, .pointer none, .int .i64 0, .int .i64 0]⟩,
  ⟨.func, 1, 8, [.nilFunc]⟩,
  ⟨.ptr 164, 1, 8, [.pointer none]⟩,
  ⟨.struct [(0, 4), (1, 22), (2, 3), (3, 3)], 4, 48, [.bool false, .slice none 0 0, .int .i64 0, .int .i64 0]⟩,
  ⟨.struct [(0, 4), (1, 22), (2, 3), (3, 3)], 4, 48, [.bool false, .slice none 0 0, .int .i64 0, .int .i64 0]⟩,
  ⟨.func, 1, 8, [.nilFunc]⟩,
  ⟨.struct [(0, 123)], 4, 48, [.bool false, .slice none 0 0, .int .i64 0, .int .i64 0]⟩,
  ⟨.struct [(0, 123)], 4, 48, [.bool false, .slice none 0 0, .int .i64 0, .int .i64 0]⟩,
  ⟨.struct [(0, 3), (1, 22), (2, 3), (3, 3), (4, 27), (5, 28), (6, 50), (7, 3), (8, 3)], 9, 120, [.int .i64 0, .slice none 0 0, .int .i64 0, .int .i64 0, .slice none 0 0, .slice none 0 0, .pointer none, .int .i64 0, .int .i64 0]⟩,
  ⟨.struct [(0, 3), (1, 22), (2, 3), (3, 3), (4, 27), (5, 28), (6, 50), (7, 3), (8, 3)], 9, 120, [.int .i64 0, .slice none 0 0, .int .i64 0, .int .i64 0, .slice none 0 0, .slice none 0 0, .pointer none, .int .i64 0, .int .i64 0]⟩,
  ⟨.struct [(0, 123)], 4, 48, [.bool false, .slice none 0 0, .int .i64 0, .int .i64 0]⟩,
  ⟨.struct [(0, 123)], 4, 48, [.bool false, .slice none 0 0, .int .i64 0, .int .i64 0]⟩,
  ⟨.struct [(0, 22), (1, 35)], 2, 32, [.slice none 0 0, .int .i64 0]⟩,
  ⟨.struct [(0, 22), (1, 35)], 2, 32, [.slice none 0 0, .int .i64 0]⟩,
  ⟨.struct [(0, 4), (1, 89), (2, 28), (3, 22)], 4, 80, [.bool false, .slice none 0 0, .slice none 0 0, .slice none 0 0]⟩,
  ⟨.struct [(0, 4), (1, 89), (2, 28), (3, 22)], 4, 80, [.bool false, .slice none 0 0, .slice none 0 0, .slice none 0 0]⟩,
  ⟨.struct [(0, 22), (1, 35)], 2, 32, [.slice none 0 0, .int .i64 0]⟩,
  ⟨.slice 138, 1, 24, [.slice none 0 0]⟩,
  ⟨.struct [(0, 9), (1, 29)], 2, 40, [.string ⟨#[]⟩, .slice none 0 0]⟩,
  ⟨.struct [(0, 9), (1, 29)], 2, 40, [.string ⟨#[]⟩, .slice none 0 0]⟩,
  ⟨.func, 1, 8, [.nilFunc]⟩,
  noTI,
  ⟨.func, 1, 8, [.nilFunc]⟩,
  ⟨.struct [(0, 69), (1, 136), (2, 23)], 3, 72, [.slice none 0 0, .slice none 0 0, .slice none 0 0]⟩,
  ⟨.struct [(0, 69), (1, 136), (2, 23)], 3, 72, [.slice none 0 0, .slice none 0 0, .slice none 0 0]⟩,
  ⟨.func, 1, 8, [.nilFunc]⟩,
  ⟨.func, 1, 8, [.nilFunc]⟩,
  ⟨.func, 1, 8, [.nilFunc]⟩,
  ⟨.func, 1, 8, [.nilFunc]⟩,
  ⟨.struct [(0, 49), (1, 3)], 2, 16, [.pointer none, .int .i64 0]⟩,
  ⟨.struct [(0, 49), (1, 3)], 2, 16, [.pointer none, .int .i64 0]⟩,
  ⟨.func, 1, 8, [.nilFunc]⟩,
  ⟨.func, 1, 8, [.nilFunc]⟩,
  noTI,
  ⟨.func, 1, 8, [.nilFunc]⟩,
  noTI,
  ⟨.func, 1, 8, [.nilFunc]⟩,
  ⟨.func, 1, 8, [.nilFunc]⟩,
  ⟨.func, 1, 8, [.nilFunc]⟩,
  ⟨.ptr 22, 1, 8, [.pointer none]⟩,
  ⟨.arr 3 158, 3, 24, [.pointer none, .pointer none, .pointer none]⟩,
  ⟨.func, 1, 8, [.nilFunc]⟩,
  ⟨.func, 1, 8, [.nilFunc]⟩,
  ⟨.int .u64, 1, 8, [.int .u64 0]⟩,
  ⟨.struct [(0, 4), (1, 22)], 2, 32, [.bool false, .slice none 0 0]⟩,
  ⟨.struct [(0, 4), (1, 22)], 2, 32, [.bool false, .slice none 0 0]⟩,
  ⟨.func, 1, 8, [.nilFunc]⟩,
  ⟨.func, 1, 8, [.nilFunc]⟩,
  ⟨.func, 1, 8, [.nilFunc]⟩,
  ⟨.func, 1, 8, [.nilFunc]⟩,
  ⟨.func, 1, 8, [.nilFunc]⟩,
  noTI,
  ⟨.func, 1, 8, [.nilFunc]⟩,
  noTI,
  ⟨.func, 1, 8, [.nilFunc]⟩,
  ⟨.ptr 247, 1, 8, [.pointer none]⟩,
  noTI,
  ⟨.func, 1, 8, [.nilFunc]⟩,
  ⟨.ptr 179, 1, 8, [.pointer none]⟩,
  ⟨.struct [(0, 23)], 1, 24, [.slice none 0 0]⟩,
  ⟨.struct [(0, 23)], 1, 24, [.slice none 0 0]⟩,
  ⟨.slice 188, 1, 24, [.slice none 0 0]⟩,
  ⟨.slice 208, 1, 24, [.slice none 0 0]⟩,
  ⟨.struct [(0, 180), (1, 181), (2, 3), (3, 177), (4, 3), (5, 3)], 6, 80, [.slice none 0 0, .slice none 0 0, .int .i64 0, .pointer none, .int .i64 0, .int .i64 0]⟩,
  ⟨.struct [(0, 180), (1, 181), (2, 3), (3, 177), (4, 3), (5, 3)], 6, 80, [.slice none 0 0, .slice none 0 0, .int .i64 0, .pointer none, .int .i64 0, .int .i64 0]⟩,
  ⟨.ptr 206, 1, 8, [.pointer none]⟩,
  noTI,
  ⟨.func, 1, 8, [.nilFunc]⟩,
  ⟨.func, 1, 8, [.nilFunc]⟩,
  ⟨.ptr 192, 1, 8, [.pointer none]⟩,
  ⟨.ptr 249, 1, 8, [.pointer none]⟩,
  ⟨.ptr 300, 1, 8, [.pointer none]⟩,
  ⟨.struct [(0, 9), (1, 3), (2, 184), (3, 189), (4, 190)], 5, 48, [.string ⟨#[]⟩, .int .i64 0, .pointer none, .pointer none, .pointer none]⟩,
  ⟨.struct [(0, 9), (1, 3), (2, 184), (3, 189), (4, 190)], 5, 48, [.string ⟨#[]⟩, .int .i64 0, .pointer none, .pointer none, .pointer none]⟩,
  noTI,
  ⟨.func, 1, 8, [.nilFunc]⟩,
  ⟨.func, 1, 8, [.nilFunc]⟩,
  noTI,
  noTI,
  ⟨.func, 1, 8, [.nilFunc]⟩,
  ⟨.struct [(0, 174)], 1, 8, [.pointer none]⟩,
  ⟨.struct [(0, 174)], 1, 8, [.pointer none]⟩,
  ⟨.func, 1, 8, [.nilFunc]⟩,
  ⟨.struct [(0, 121)], 1, 8, [.pointer none]⟩,
  ⟨.struct [(0, 121)], 1, 8, [.pointer none]⟩,
  ⟨.func, 1, 8, [.nilFunc]⟩,
  ⟨.struct [(0, 22)], 1, 24, [.slice none 0 0]⟩,
  ⟨.struct [(0, 22)], 1, 24, [.slice none 0 0]⟩,
  ⟨.func, 1, 8, [.nilFunc]⟩,
  ⟨.ptr 211, 1, 8, [.pointer none]⟩,
  ⟨.func, 1, 8, [.nilFunc]⟩,
  ⟨.struct [(0, 3), (1, 188), (2, 3), (3, 3), (4, 3)], 5, 40, [.int .i64 0, .pointer none, .int .i64 0, .int .i64 0, .int .i64 0]⟩,
  ⟨.struct [(0, 3), (1, 188), (2, 3), (3, 3), (4, 3)], 5, 40, [.int .i64 0, .pointer none, .int .i64 0, .int .i64 0, .int .i64 0]⟩,
  ⟨.slice 217, 1, 24, [.slice none 0 0]⟩,
  ⟨.func, 1, 8, [.nilFunc]⟩,
  ⟨.func, 1, 8, [.nilFunc]⟩,
  ⟨.func, 1, 8, [.nilFunc]⟩,
  ⟨.struct [(0, 5), (1, 214), (2, 215)], 3, 24, [.int .u8 0, .nilFunc, .nilFunc]⟩,
  ⟨.struct [(0, 5), (1, 214), (2, 215)], 3, 24, [.int .u8 0, .nilFunc, .nilFunc]⟩,
  noTI,
  ⟨.func, 1, 8, [.nilFunc]⟩,
  noTI,
  ⟨.func, 1, 8, [.nilFunc]⟩,
  ⟨.int .i64, 1, 8, [.int .i64 0]⟩,
  ⟨.func, 1, 8, [.nilFunc]⟩,
  ⟨.func, 1, 8, [.nilFunc]⟩,
  ⟨.func, 1, 8, [.nilFunc]⟩,
  ⟨.int .i64, 1, 8, [.int .i64 0]⟩,
  noTI,
  ⟨.func, 1, 8, [.nilFunc]⟩,
  ⟨.func, 1, 8, [.nilFunc]⟩,
  ⟨.func, 1, 8, [.nilFunc]⟩,
  ⟨.func, 1, 8, [.nilFunc]⟩,
  ⟨.func, 1, 8, [.nilFunc]⟩,
  ⟨.func, 1, 8, [.nilFunc]⟩,
  ⟨.int .u32, 1, 4, [.int .u32 0]⟩,
  ⟨.func, 1, 8, [.nilFunc]⟩,
  ⟨.int .u64, 1, 8, [.int .u64 0]⟩,
  ⟨.func, 1, 8, [.nilFunc]⟩,
  ⟨.struct [(0, 3), (1, 3)], 2, 16, [.int .i64 0, .int .i64 0]⟩,
  ⟨.struct [(0, 3), (1, 3)], 2, 16, [.int .i64 0, .int .i64 0]⟩,
  ⟨.map 9 4, 1, 8, [.map none]⟩,
  ⟨.func, 1, 8, [.nilFunc]⟩,
  noTI,
  ⟨.func, 1, 8, [.nilFunc]⟩,
  ⟨.struct [(0, 4), (1, 23)], 2, 32, [.bool false, .slice none 0 0]⟩,
  ⟨.struct [(0, 4), (1, 23)], 2, 32, [.bool false, .slice none 0 0]⟩,
  ⟨.struct [(0, 4), (1, 29), (2, 3), (3, 22)], 4, 64, [.bool false, .slice none 0 0, .int .i64 0, .slice none 0 0]⟩,
  ⟨.struct [(0, 4), (1, 29), (2, 3), (3, 22)], 4, 64, [.bool false, .slice none 0 0, .int .i64 0, .slice none 0 0]⟩,
  ⟨.struct [(0, 29), (1, 22)], 2, 48, [.slice none 0 0, .slice none 0 0]⟩,
  ⟨.struct [(0, 29), (1, 22)], 2, 48, [.slice none 0 0, .slice none 0 0]⟩,
  ⟨.func, 1, 8, [.nilFunc]⟩,
  ⟨.func, 1, 8, [.nilFunc]⟩,
  ⟨.iface, 1, 16, [.nilIface]⟩,
  ⟨.iface, 1, 16, [.nilIface]⟩,
  ⟨.ptr 256, 1, 8, [.pointer none]⟩,
  ⟨.struct [(0, 253), (1, 3), (2, 3), (3, 3)], 4, 40, [.nilIface, .int .i64 0, .int .i64 0, .int .i64 0]⟩,
  ⟨.struct [(0, 253), (1, 3), (2, 3), (3, 3)], 4, 40, [.nilIface, .int .i64 0, .int .i64 0, .int .i64 0]⟩,
  ⟨.func, 1, 8, [.nilFunc]⟩,
  ⟨.func, 1, 8, [.nilFunc]⟩,
  ⟨.ptr 39, 1, 8, [.pointer none]⟩,
  noTI,
  ⟨.func, 1, 8, [.nilFunc]⟩,
  ⟨.func, 1, 8, [.nilFunc]⟩,
  ⟨.func, 1, 8, [.nilFunc]⟩,
  ⟨.ptr 222, 1, 8, [.pointer none]⟩,
  ⟨.int .u64, 1, 8, [.int .u64 0]⟩,
  ⟨.func, 1, 8, [.nilFunc]⟩,
  ⟨.func, 1, 8, [.nilFunc]⟩,
  ⟨.func, 1, 8, [.nilFunc]⟩,
  ⟨.ptr 3, 1, 8, [.pointer none]⟩,
  ⟨.func, 1, 8, [.nilFunc]⟩,
  ⟨.func, 1, 8, [.nilFunc]⟩,
  ⟨.func, 1, 8, [.nilFunc]⟩,
  ⟨.ptr 265, 1, 8, [.pointer none]⟩,
  ⟨.func, 1, 8, [.nilFunc]⟩,
  ⟨.func, 1, 8, [.nilFunc]⟩,
  ⟨.func, 1, 8, [.nilFunc]⟩,
  ⟨.struct [(0, 17), (1, 17), (2, 17), (3, 9)], 4, 40, [.pointer none, .pointer none, .pointer none, .string ⟨#[]⟩]⟩,
  ⟨.struct [(0, 17), (1, 17), (2, 17), (3, 9)], 4, 40, [.pointer none, .pointer none, .pointer none, .string ⟨#[]⟩]⟩,
  ⟨.arr 0 16, 0, 0, []⟩,
  ⟨.struct [(0, 279)], 0, 0, []⟩,
  ⟨.struct [(0, 279)], 0, 0, []⟩,
  ⟨.func, 1, 8, [.nilFunc]⟩,
  ⟨.int .u8, 1, 1, [.int .u8 0]⟩,
  ⟨.int .u8, 1, 1, [.int .u8 0]⟩,
  ⟨.func, 1, 8, [.nilFunc]⟩,
  ⟨.ptr 5, 1, 8, [.pointer none]⟩,
  ⟨.int .i32, 1, 4, [.int .i32 0]⟩,
  ⟨.int .i32, 1, 4, [.int .i32 0]⟩,
  ⟨.struct [(0, 12), (1, 12), (2, 234), (3, 283), (4, 5), (5, 5), (6, 284), (7, 285), (8, 286), (9, 287), (10, 288)], 11, 48, [.int .u64 0, .int .u64 0, .int .u32 0, .int .u8 0, .int .u8 0, .int .u8 0, .int .u8 0, .nilFunc, .pointer none, .int .i32 0, .int .i32 0]⟩,
  ⟨.struct [(0, 12), (1, 12), (2, 234), (3, 283), (4, 5), (5, 5), (6, 284), (7, 285), (8, 286), (9, 287), (10, 288)], 11, 48, [.int .u64 0, .int .u64 0, .int .u32 0, .int .u8 0, .int .u8 0, .int .u8 0, .int .u8 0, .nilFunc, .pointer none, .int .i32 0, .int .i32 0]⟩,
  ⟨.func, 1, 8, [.nilFunc]⟩,
  ⟨.func, 1, 8, [.nilFunc]⟩,
  noTI,
  ⟨.func, 1, 8, [.nilFunc]⟩,
  ⟨.func, 1, 8, [.nilFunc]⟩,
  ⟨.func, 1, 8, [.nilFunc]⟩,
  ⟨.func, 1, 8, [.nilFunc]⟩,
  ⟨.func, 1, 8, [.nilFunc]⟩,
  ⟨.struct [(0, 22), (1, 3), (2, 3)], 3, 40, [.slice none 0 0, .int .i64 0, .int .i64 0]⟩,
  ⟨.struct [(0, 22), (1, 3), (2, 3)], 3, 40, [.slice none 0 0, .int .i64 0, .int .i64 0]⟩,
  ⟨.func, 1, 8, [.nilFunc]⟩,
  ⟨.func, 1, 8, [.nilFunc]⟩,
  ⟨.func, 1, 8, [.nilFunc]⟩,
  ⟨.func, 1, 8, [.nilFunc]⟩,
  ⟨.ptr 123, 1, 8, [.pointer none]⟩,
  ⟨.arr 3 3, 3, 24, [.int .i64 0, .int .i64 0, .int .i64 0]⟩,
  ⟨.ptr 135, 1, 8, [.pointer none]⟩,
  ⟨.func, 1, 8, [.nilFunc]⟩,
  ⟨.func, 1, 8, [.nilFunc]⟩,
  ⟨.func, 1, 8, [.nilFunc]⟩,
  noTI,
  ⟨.func, 1, 8, [.nilFunc]⟩,
  ⟨.func, 1, 8, [.nilFunc]⟩,
  ⟨.func, 1, 8, [.nilFunc]⟩,
  ⟨.func, 1, 8, [.nilFunc]⟩,
  noTI,
  ⟨.func, 1, 8, [.nilFunc]⟩,
  ⟨.func, 1, 8, [.nilFunc]⟩,
  noTI,
  ⟨.ptr 328, 1, 8, [.pointer none]⟩,
  ⟨.struct [(0, 320)], 1, 8, [.pointer none]⟩,
  ⟨.struct [(0, 320)], 1, 8, [.pointer none]⟩,
  noTI,
  noTI,
  noTI,
  noTI,
  noTI,
  noTI,
  ⟨.func, 1, 8, [.nilFunc]⟩,
  ⟨.func, 1, 8, [.nilFunc]⟩,
  ⟨.func, 1, 8, [.nilFunc]⟩,
  ⟨.func, 1, 8, [.nilFunc]⟩,
  ⟨.func, 1, 8, [.nilFunc]⟩,
  ⟨.func, 1, 8, [.nilFunc]⟩,
  noTI,
  ⟨.func, 1, 8, [.nilFunc]⟩,
  ⟨.func, 1, 8, [.nilFunc]⟩,
  ⟨.func, 1, 8, [.nilFunc]⟩,
  ⟨.ptr 326, 1, 8, [.pointer none]⟩,
  ⟨.func, 1, 8, [.nilFunc]⟩]
theorem tyListOk : tabB Tryz.prog 0 tyList = true := by kernel_rfl
def Γ : Tab := tabOf tyList
theorem Γok : Γ.ok Tryz.prog := tabOf_ok tyListOk
theorem g0 : Γ 0 = noTI := rfl
theorem g1 : Γ 1 = ⟨.func, 1, 8, [.nilFunc]⟩ := rfl
theorem g2 : Γ 2 = ⟨.int .i64, 1, 8, [.int .i64 0]⟩ := rfl
theorem g3 : Γ 3 = ⟨.int .i64, 1, 8, [.int .i64 0]⟩ := rfl
theorem g4 : Γ 4 = ⟨.bool, 1, 1, [.bool false]⟩ := rfl
theorem g5 : Γ 5 = ⟨.int .u8, 1, 1, [.int .u8 0]⟩ := rfl
theorem g6 : Γ 6 = ⟨.int .u8, 1, 1, [.int .u8 0]⟩ := rfl
theorem g7 : Γ 7 = ⟨.struct [(0, 2), (1, 3), (2, 4), (3, 6)], 4, 24, [.int .i64 0, .int .i64 0, .bool false, .int .u8 0]⟩ := rfl
theorem g8 : Γ 8 = ⟨.struct [(0, 2), (1, 3), (2, 4), (3, 6)], 4, 24, [.int .i64 0, .int .i64 0, .bool false, .int .u8 0]⟩ := rfl
theorem g9 : Γ 9 = ⟨.str, 1, 16, [.string ⟨#[]⟩]⟩ := rfl
theorem g10 : Γ 10 = ⟨.str, 1, 16, [.string ⟨#[]⟩]⟩ := rfl
theorem g11 : Γ 11 = ⟨.str, 1, 16, [.string ⟨#[]⟩]⟩ := rfl
theorem g12 : Γ 12 = ⟨.int .u64, 1, 8, [.int .u64 0]⟩ := rfl
theorem g13 : Γ 13 = ⟨.struct [(0, 9), (1, 12)], 2, 24, [.string ⟨#[]⟩, .int .u64 0]⟩ := rfl
theorem g14 : Γ 14 = ⟨.struct [(0, 9), (1, 12)], 2, 24, [.string ⟨#[]⟩, .int .u64 0]⟩ := rfl
theorem g15 : Γ 15 = ⟨.ptr 278, 1, 8, [.pointer none]⟩ := rfl
theorem g16 : Γ 16 = ⟨.ptr 281, 1, 8, [.pointer none]⟩ := rfl
theorem g17 : Γ 17 = ⟨.ptr 290, 1, 8, [.pointer none]⟩ := rfl
theorem g18 : Γ 18 = ⟨.struct [(0, 17)], 1, 8, [.pointer none]⟩ := rfl
theorem g19 : Γ 19 = ⟨.struct [(0, 17)], 1, 8, [.pointer none]⟩ := rfl
theorem g20 : Γ 20 = ⟨.iface, 1, 16, [.nilIface]⟩ := rfl
theorem g21 : Γ 21 = ⟨.int .i32, 1, 4, [.int .i32 0]⟩ := rfl
theorem g22 : Γ 22 = ⟨.slice 5, 1, 24, [.slice none 0 0]⟩ := rfl
theorem g23 : Γ 23 = ⟨.slice 239, 1, 24, [.slice none 0 0]⟩ := rfl
theorem g24 : Γ 24 = ⟨.func, 1, 8, [.nilFunc]⟩ := rfl
theorem g25 : Γ 25 = ⟨.ptr 52, 1, 8, [.pointer none]⟩ := rfl
theorem g26 : Γ 26 = noTI := rfl
theorem g27 : Γ 27 = ⟨.slice 132, 1, 24, [.slice none 0 0]⟩ := rfl
theorem g28 : Γ 28 = ⟨.slice 3, 1, 24, [.slice none 0 0]⟩ := rfl
theorem g29 : Γ 29 = ⟨.slice 22, 1, 24, [.slice none 0 0]⟩ := rfl
theorem g30 : Γ 30 = ⟨.struct [(0, 3), (1, 3), (2, 22), (3, 27), (4, 28), (5, 23), (6, 29), (7, 3), (8, 4)], 9, 152, [.int .i64 0, .int .i64 0, .slice none 0 0, .slice none 0 0, .slice none 0 0, .slice none 0 0, .slice none 0 0, .int .i64 0, .bool false]⟩ := rfl
theorem g31 : Γ 31 = ⟨.struct [(0, 3), (1, 3), (2, 22), (3, 27), (4, 28), (5, 23), (6, 29), (7, 3), (8, 4)], 9, 152, [.int .i64 0, .int .i64 0, .slice none 0 0, .slice none 0 0, .slice none 0 0, .slice none 0 0, .slice none 0 0, .int .i64 0, .bool false]⟩ := rfl
theorem g32 : Γ 32 = ⟨.func, 1, 8, [.nilFunc]⟩ := rfl
theorem g33 : Γ 33 = ⟨.struct [(0, 4), (1, 4), (2, 3), (3, 3), (4, 22), (5, 22), (6, 22), (7, 3), (8, 4), (9, 4), (10, 4)], 11, 112, [.bool false, .bool false, .int .i64 0, .int .i64 0, .slice none 0 0, .slice none 0 0, .slice none 0 0, .int .i64 0, .bool false, .bool false, .bool false]⟩ := rfl
theorem g34 : Γ 34 = ⟨.struct [(0, 4), (1, 4), (2, 3), (3, 3), (4, 22), (5, 22), (6, 22), (7, 3), (8, 4), (9, 4), (10, 4)], 11, 112, [.bool false, .bool false, .int .i64 0, .int .i64 0, .slice none 0 0, .slice none 0 0, .slice none 0 0, .int .i64 0, .bool false, .bool false, .bool false]⟩ := rfl
theorem g35 : Γ 35 = ⟨.int .i64, 1, 8, [.int .i64 0]⟩ := rfl
theorem g36 : Γ 36 = noTI := rfl
theorem g37 : Γ 37 = ⟨.func, 1, 8, [.nilFunc]⟩ := rfl
theorem g38 : Γ 38 = ⟨.struct [(0, 4), (1, 4), (2, 4), (3, 4), (4, 4), (5, 4), (6, 4), (7, 4)], 8, 8, [.bool false, .bool false, .bool false, .bool false, .bool false, .bool false, .bool false, .bool false]⟩ := rfl
theorem g39 : Γ 39 = ⟨.struct [(0, 4), (1, 4), (2, 4), (3, 4), (4, 4), (5, 4), (6, 4), (7, 4)], 8, 8, [.bool false, .bool false, .bool false, .bool false, .bool false, .bool false, .bool false, .bool false]⟩ := rfl
theorem g40 : Γ 40 = ⟨.func, 1, 8, [.nilFunc]⟩ := rfl
theorem g41 : Γ 41 = noTI := rfl
theorem g42 : Γ 42 = ⟨.func, 1, 8, [.nilFunc]⟩ := rfl
theorem g43 : Γ 43 = ⟨.iface, 1, 16, [.nilIface]⟩ := rfl
theorem g44 : Γ 44 = ⟨.iface, 1, 16, [.nilIface]⟩ := rfl
theorem g45 : Γ 45 = ⟨.ptr 128, 1, 8, [.pointer none]⟩ := rfl
theorem g46 : Γ 46 = ⟨.ptr 129, 1, 8, [.pointer none]⟩ := rfl
theorem g47 : Γ 47 = ⟨.ptr 126, 1, 8, [.pointer none]⟩ := rfl
theorem g48 : Γ 48 = ⟨.ptr 134, 1, 8, [.pointer none]⟩ := rfl
theorem g49 : Γ 49 = ⟨.ptr 119, 1, 8, [.pointer none]⟩ := rfl
theorem g50 : Γ 50 = ⟨.ptr 183, 1, 8, [.pointer none]⟩ := rfl
theorem g51 : Γ 51 = ⟨.struct [(0, 44), (1, 45), (2, 46), (3, 47), (4, 48), (5, 49), (6, 50)], 7, 64, [.nilIface, .pointer none, .pointer none, .pointer none, .pointer none, .pointer none, .pointer none]⟩ := rfl
theorem g52 : Γ 52 = ⟨.struct [(0, 44), (1, 45), (2, 46), (3, 47), (4, 48), (5, 49), (6, 50)], 7, 64, [.nilIface, .pointer none, .pointer none, .pointer none, .pointer none, .pointer none, .pointer none]⟩ := rfl
theorem g53 : Γ 53 = ⟨.func, 1, 8, [.nilFunc]⟩ := rfl
theorem g54 : Γ 54 = ⟨.struct [(0, 4), (1, 4), (2, 3), (3, 3), (4, 22), (5, 22), (6, 22), (7, 3), (8, 4), (9, 4), (10, 4)], 11, 112, [.bool false, .bool false, .int .i64 0, .int .i64 0, .slice none 0 0, .slice none 0 0, .slice none 0 0, .int .i64 0, .bool false, .bool false, .bool false]⟩ := rfl
theorem g55 : Γ 55 = ⟨.slice 59, 1, 24, [.slice none 0 0]⟩ := rfl
theorem g56 : Γ 56 = ⟨.func, 1, 8, [.nilFunc]⟩ := rfl
theorem g57 : Γ 57 = ⟨.func, 1, 8, [.nilFunc]⟩ := rfl
theorem g58 : Γ 58 = ⟨.struct [(0, 3), (1, 5)], 2, 16, [.int .i64 0, .int .u8 0]⟩ := rfl
theorem g59 : Γ 59 = ⟨.struct [(0, 3), (1, 5)], 2, 16, [.int .i64 0, .int .u8 0]⟩ := rfl
theorem g60 : Γ 60 = ⟨.func, 1, 8, [.nilFunc]⟩ := rfl
theorem g61 : Γ 61 = ⟨.func, 1, 8, [.nilFunc]⟩ := rfl
theorem g62 : Γ 62 = ⟨.func, 1, 8, [.nilFunc]⟩ := rfl
theorem g63 : Γ 63 = ⟨.func, 1, 8, [.nilFunc]⟩ := rfl
theorem g64 : Γ 64 = ⟨.func, 1, 8, [.nilFunc]⟩ := rfl
theorem g65 : Γ 65 = ⟨.func, 1, 8, [.nilFunc]⟩ := rfl
theorem g66 : Γ 66 = noTI := rfl
theorem g67 : Γ 67 = ⟨.func, 1, 8, [.nilFunc]⟩ := rfl
theorem g68 : Γ 68 = ⟨.func, 1, 8, [.nilFunc]⟩ := rfl
theorem g69 : Γ 69 = ⟨.slice 73, 1, 24, [.slice none 0 0]⟩ := rfl
theorem g70 : Γ 70 = ⟨.func, 1, 8, [.nilFunc]⟩ := rfl
theorem g71 : Γ 71 = ⟨.func, 1, 8, [.nilFunc]⟩ := rfl
theorem g72 : Γ 72 = ⟨.struct [(0, 9), (1, 22)], 2, 40, [.string ⟨#[]⟩, .slice none 0 0]⟩ := rfl
theorem g73 : Γ 73 = ⟨.struct [(0, 9), (1, 22)], 2, 40, [.string ⟨#[]⟩, .slice none 0 0]⟩ := rfl
theorem g74 : Γ 74 = ⟨.func, 1, 8, [.nilFunc]⟩ := rfl
theorem g75 : Γ 75 = noTI := rfl
theorem g76 : Γ 76 = ⟨.func, 1, 8, [.nilFunc]⟩ := rfl
theorem g77 : Γ 77 = ⟨.func, 1, 8, [.nilFunc]⟩ := rfl
theorem g78 : Γ 78 = noTI := rfl
theorem g79 : Γ 79 = ⟨.func, 1, 8, [.nilFunc]⟩ := rfl
theorem g80 : Γ 80 = noTI := rfl
theorem g81 : Γ 81 = ⟨.func, 1, 8, [.nilFunc]⟩ := rfl
theorem g82 : Γ 82 = ⟨.func, 1, 8, [.nilFunc]⟩ := rfl
theorem g83 : Γ 83 = ⟨.ptr 130, 1, 8, [.pointer none]⟩ := rfl
theorem g84 : Γ 84 = noTI := rfl
theorem g85 : Γ 85 = ⟨.func, 1, 8, [.nilFunc]⟩ := rfl
theorem g86 : Γ 86 = ⟨.func, 1, 8, [.nilFunc]⟩ := rfl
theorem g87 : Γ 87 = noTI := rfl
theorem g88 : Γ 88 = ⟨.func, 1, 8, [.nilFunc]⟩ := rfl
theorem g89 : Γ 89 = ⟨.slice 135, 1, 24, [.slice none 0 0]⟩ := rfl
theorem g90 : Γ 90 = ⟨.func, 1, 8, [.nilFunc]⟩ := rfl
theorem g91 : Γ 91 = ⟨.func, 1, 8, [.nilFunc]⟩ := rfl
theorem g92 : Γ 92 = noTI := rfl
theorem g93 : Γ 93 = ⟨.func, 1, 8, [.nilFunc]⟩ := rfl
theorem g94 : Γ 94 = noTI := rfl
theorem g95 : Γ 95 = ⟨.func, 1, 8, [.nilFunc]⟩ := rfl
theorem g96 : Γ 96 = ⟨.func, 1, 8, [.nilFunc]⟩ := rfl
theorem g97 : Γ 97 = ⟨.func, 1, 8, [.nilFunc]⟩ := rfl
theorem g98 : Γ 98 = ⟨.ptr 102, 1, 8, [.pointer none]⟩ := rfl
theorem g99 : Γ 99 = noTI := rfl
theorem g100 : Γ 100 = ⟨.func, 1, 8, [.nilFunc]⟩ := rfl
theorem g101 : Γ 101 = ⟨.struct [(0, 34), (11, 44)], 12, 128, [.bool false, .bool false, .int .i64 0, .int .i64 0, .slice none 0 0, .slice none 0 0, .slice none 0 0, .int .i64 0, .bool false, .bool false, .bool false, .nilIface]⟩ := rfl
theorem g102 : Γ 102 = ⟨.struct [(0, 34), (11, 44)], 12, 128, [.bool false, .bool false, .int .i64 0, .int .i64 0, .slice none 0 0, .slice none 0 0, .slice none 0 0, .int .i64 0, .bool false, .bool false, .bool false, .nilIface]⟩ := rfl
theorem g103 : Γ 103 = noTI := rfl
theorem g104 : Γ 104 = ⟨.func, 1, 8, [.nilFunc]⟩ := rfl
theorem g105 : Γ 105 = ⟨.func, 1, 8, [.nilFunc]⟩ := rfl
theorem g106 : Γ 106 = ⟨.func, 1, 8, [.nilFunc]⟩ := rfl
theorem g107 : Γ 107 = ⟨.func, 1, 8, [.nilFunc]⟩ := rfl
theorem g108 : Γ 108 = ⟨.struct [], 0, 0, []⟩ := rfl
theorem g109 : Γ 109 = ⟨.struct [], 0, 0, []⟩ := rfl
theorem g110 : Γ 110 = ⟨.func, 1, 8, [.nilFunc]⟩ := rfl
theorem g111 : Γ 111 = ⟨.func, 1, 8, [.nilFunc]⟩ := rfl
theorem g112 : Γ 112 = ⟨.slice 9, 1, 24, [.slice none 0 0]⟩ := rfl
theorem g113 : Γ 113 = ⟨.map 9 121, 1, 8, [.map none]⟩ := rfl
theorem g114 : Γ 114 = ⟨.map 9 174, 1, 8, [.map none]⟩ := rfl
theorem g115 : Γ 115 = ⟨.map 3 254, 1, 8, [.map none]⟩ := rfl
theorem g116 : Γ 116 = ⟨.ptr 245, 1, 8, [.pointer none]⟩ := rfl
theorem g117 : Γ 117 = ⟨.arr 2 3, 2, 16, [.int .i64 0, .int .i64 0]⟩ := rfl
theorem g118 : Γ 118 = ⟨.struct [(0, 4), (1, 113), (2, 114), (3, 115), (4, 3), (5, 116), (6, 117)], 8, 64, [.bool false, .map none, .map none, .map none, .int .i64 0, .pointer none, .int .i64 0, .int .i64 0]⟩ := rfl
theorem g119 : Γ 119 = ⟨.struct [(0, 4), (1, 113), (2, 114), (3, 115), (4, 3), (5, 116), (6, 117)], 8, 64, [.bool false, .map none, .map none, .map none, .int .i64 0, .pointer none, .int .i64 0, .int .i64 0]⟩ := rfl
theorem g120 : Γ 120 = ⟨.func, 1, 8, [.nilFunc]⟩ := rfl
theorem g121 : Γ 121 = ⟨.ptr 164, 1, 8, [.pointer none]⟩ := rfl
theorem g122 : Γ 122 = ⟨.struct [(0, 4), (1, 22), (2, 3), (3, 3)], 4, 48, [.bool false, .slice none 0 0, .int .i64 0, .int .i64 0]⟩ := rfl
theorem g123 : Γ 123 = ⟨.struct [(0, 4), (1, 22), (2, 3), (3, 3)], 4, 48, [.bool false, .slice none 0 0, .int .i64 0, .int .i64 0]⟩ := rfl
theorem g124 : Γ 124 = ⟨.func, 1, 8, [.nilFunc]⟩ := rfl
theorem g125 : Γ 125 = ⟨.struct [(0, 123)], 4, 48, [.bool false, .slice none 0 0, .int .i64 0, .int .i64 0]⟩ := rfl
theorem g126 : Γ 126 = ⟨.struct [(0, 123)], 4, 48, [.bool false, .slice none 0 0, .int .i64 0, .int .i64 0]⟩ := rfl
theorem g127 : Γ 127 = ⟨.struct [(0, 3), (1, 22), (2, 3), (3, 3), (4, 27), (5, 28), (6, 50), (7, 3), (8, 3)], 9, 120, [.int .i64 0, .slice none 0 0, .int .i64 0, .int .i64 0, .slice none 0 0, .slice none 0 0, .pointer none, .int .i64 0, .int .i64 0]⟩ := rfl
theorem g128 : Γ 128 = ⟨.struct [(0, 3), (1, 22), (2, 3), (3, 3), (4, 27), (5, 28), (6, 50), (7, 3), (8, 3)], 9, 120, [.int .i64 0, .slice none 0 0, .int .i64 0, .int .i64 0, .slice none 0 0, .slice none 0 0, .pointer none, .int .i64 0, .int .i64 0]⟩ := rfl
theorem g129 : Γ 129 = ⟨.struct [(0, 123)], 4, 48, [.bool false, .slice none 0 0, .int .i64 0, .int .i64 0]⟩ := rfl
theorem g130 : Γ 130 = ⟨.struct [(0, 123)], 4, 48, [.bool false, .slice none 0 0, .int .i64 0, .int .i64 0]⟩ := rfl
theorem g131 : Γ 131 = ⟨.struct [(0, 22), (1, 35)], 2, 32, [.slice none 0 0, .int .i64 0]⟩ := rfl
theorem g132 : Γ 132 = ⟨.struct [(0, 22), (1, 35)], 2, 32, [.slice none 0 0, .int .i64 0]⟩ := rfl
theorem g133 : Γ 133 = ⟨.struct [(0, 4), (1, 89), (2, 28), (3, 22)], 4, 80, [.bool false, .slice none 0 0, .slice none 0 0, .slice none 0 0]⟩ := rfl
theorem g134 : Γ 134 = ⟨.struct [(0, 4), (1, 89), (2, 28), (3, 22)], 4, 80, [.bool false, .slice none 0 0, .slice none 0 0, .slice none 0 0]⟩ := rfl
theorem g135 : Γ 135 = ⟨.struct [(0, 22), (1, 35)], 2, 32, [.slice none 0 0, .int .i64 0]⟩ := rfl
theorem g136 : Γ 136 = ⟨.slice 138, 1, 24, [.slice none 0 0]⟩ := rfl
theorem g137 : Γ 137 = ⟨.struct [(0, 9), (1, 29)], 2, 40, [.string ⟨#[]⟩, .slice none 0 0]⟩ := rfl
theorem g138 : Γ 138 = ⟨.struct [(0, 9), (1, 29)], 2, 40, [.string ⟨#[]⟩, .slice none 0 0]⟩ := rfl
theorem g139 : Γ 139 = ⟨.func, 1, 8, [.nilFunc]⟩ := rfl
theorem g140 : Γ 140 = noTI := rfl
theorem g141 : Γ 141 = ⟨.func, 1, 8, [.nilFunc]⟩ := rfl
theorem g142 : Γ 142 = ⟨.struct [(0, 69), (1, 136), (2, 23)], 3, 72, [.slice none 0 0, .slice none 0 0, .slice none 0 0]⟩ := rfl
theorem g143 : Γ 143 = ⟨.struct [(0, 69), (1, 136), (2, 23)], 3, 72, [.slice none 0 0, .slice none 0 0, .slice none 0 0]⟩ := rfl
theorem g144 : Γ 144 = ⟨.func, 1, 8, [.nilFunc]⟩ := rfl
theorem g145 : Γ 145 = ⟨.func, 1, 8, [.nilFunc]⟩ := rfl
theorem g146 : Γ 146 = ⟨.func, 1, 8, [.nilFunc]⟩ := rfl
theorem g147 : Γ 147 = ⟨.func, 1, 8, [.nilFunc]⟩ := rfl
theorem g148 : Γ 148 = ⟨.struct [(0, 49), (1, 3)], 2, 16, [.pointer none, .int .i64 0]⟩ := rfl
theorem g149 : Γ 149 = ⟨.struct [(0, 49), (1, 3)], 2, 16, [.pointer none, .int .i64 0]⟩ := rfl
theorem g150 : Γ 150 = ⟨.func, 1, 8, [.nilFunc]⟩ := rfl
theorem g151 : Γ 151 = ⟨.func, 1, 8, [.nilFunc]⟩ := rfl
theorem g152 : Γ 152 = noTI := rfl
theorem g153 : Γ 153 = ⟨.func, 1, 8, [.nilFunc]⟩ := rfl
theorem g154 : Γ 154 = noTI := rfl
theorem g155 : Γ 155 = ⟨.func, 1, 8, [.nilFunc]⟩ := rfl
theorem g156 : Γ 156 = ⟨.func, 1, 8, [.nilFunc]⟩ := rfl
theorem g157 : Γ 157 = ⟨.func, 1, 8, [.nilFunc]⟩ := rfl
theorem g158 : Γ 158 = ⟨.ptr 22, 1, 8, [.pointer none]⟩ := rfl
theorem g159 : Γ 159 = ⟨.arr 3 158, 3, 24, [.pointer none, .pointer none, .pointer none]⟩ := rfl
theorem g160 : Γ 160 = ⟨.func, 1, 8, [.nilFunc]⟩ := rfl
theorem g161 : Γ 161 = ⟨.func, 1, 8, [.nilFunc]⟩ := rfl
theorem g162 : Γ 162 = ⟨.int .u64, 1, 8, [.int .u64 0]⟩ := rfl
theorem g163 : Γ 163 = ⟨.struct [(0, 4), (1, 22)], 2, 32, [.bool false, .slice none 0 0]⟩ := rfl
theorem g164 : Γ 164 = ⟨.struct [(0, 4), (1, 22)], 2, 32, [.bool false, .slice none 0 0]⟩ := rfl
theorem g165 : Γ 165 = ⟨.func, 1, 8, [.nilFunc]⟩ := rfl
theorem g166 : Γ 166 = ⟨.func, 1, 8, [.nilFunc]⟩ := rfl
theorem g167 : Γ 167 = ⟨.func, 1, 8, [.nilFunc]⟩ := rfl
theorem g168 : Γ 168 = ⟨.func, 1, 8, [.nilFunc]⟩ := rfl
theorem g169 : Γ 169 = ⟨.func, 1, 8, [.nilFunc]⟩ := rfl
theorem g170 : Γ 170 = noTI := rfl
theorem g171 : Γ 171 = ⟨.func, 1, 8, [.nilFunc]⟩ := rfl
theorem g172 : Γ 172 = noTI := rfl
theorem g173 : Γ 173 = ⟨.func, 1, 8, [.nilFunc]⟩ := rfl
theorem g174 : Γ 174 = ⟨.ptr 247, 1, 8, [.pointer none]⟩ := rfl
theorem g175 : Γ 175 = noTI := rfl
theorem g176 : Γ 176 = ⟨.func, 1, 8, [.nilFunc]⟩ := rfl
theorem g177 : Γ 177 = ⟨.ptr 179, 1, 8, [.pointer none]⟩ := rfl
theorem g178 : Γ 178 = ⟨.struct [(0, 23)], 1, 24, [.slice none 0 0]⟩ := rfl
theorem g179 : Γ 179 = ⟨.struct [(0, 23)], 1, 24, [.slice none 0 0]⟩ := rfl
theorem g180 : Γ 180 = ⟨.slice 188, 1, 24, [.slice none 0 0]⟩ := rfl
theorem g181 : Γ 181 = ⟨.slice 208, 1, 24, [.slice none 0 0]⟩ := rfl
theorem g182 : Γ 182 = ⟨.struct [(0, 180), (1, 181), (2, 3), (3, 177), (4, 3), (5, 3)], 6, 80, [.slice none 0 0, .slice none 0 0, .int .i64 0, .pointer none, .int .i64 0, .int .i64 0]⟩ := rfl
theorem g183 : Γ 183 = ⟨.struct [(0, 180), (1, 181), (2, 3), (3, 177), (4, 3), (5, 3)], 6, 80, [.slice none 0 0, .slice none 0 0, .int .i64 0, .pointer none, .int .i64 0, .int .i64 0]⟩ := rfl
theorem g184 : Γ 184 = ⟨.ptr 206, 1, 8, [.pointer none]⟩ := rfl
theorem g185 : Γ 185 = noTI := rfl
theorem g186 : Γ 186 = ⟨.func, 1, 8, [.nilFunc]⟩ := rfl
theorem g187 : Γ 187 = ⟨.func, 1, 8, [.nilFunc]⟩ := rfl
theorem g188 : Γ 188 = ⟨.ptr 192, 1, 8, [.pointer none]⟩ := rfl
theorem g189 : Γ 189 = ⟨.ptr 249, 1, 8, [.pointer none]⟩ := rfl
theorem g190 : Γ 190 = ⟨.ptr 300, 1, 8, [.pointer none]⟩ := rfl
theorem g191 : Γ 191 = ⟨.struct [(0, 9), (1, 3), (2, 184), (3, 189), (4, 190)], 5, 48, [.string ⟨#[]⟩, .int .i64 0, .pointer none, .pointer none, .pointer none]⟩ := rfl
theorem g192 : Γ 192 = ⟨.struct [(0, 9), (1, 3), (2, 184), (3, 189), (4, 190)], 5, 48, [.string ⟨#[]⟩, .int .i64 0, .pointer none, .pointer none, .pointer none]⟩ := rfl
theorem g193 : Γ 193 = noTI := rfl
theorem g194 : Γ 194 = ⟨.func, 1, 8, [.nilFunc]⟩ := rfl
theorem g195 : Γ 195 = ⟨.func, 1, 8, [.nilFunc]⟩ := rfl
theorem g196 : Γ 196 = noTI := rfl
theorem g197 : Γ 197 = noTI := rfl
theorem g198 : Γ 198 = ⟨.func, 1, 8, [.nilFunc]⟩ := rfl
theorem g199 : Γ 199 = ⟨.struct [(0, 174)], 1, 8, [.pointer none]⟩ := rfl
theorem g200 : Γ 200 = ⟨.struct [(0, 174)], 1, 8, [.pointer none]⟩ := rfl
theorem g201 : Γ 201 = ⟨.func, 1, 8, [.nilFunc]⟩ := rfl
theorem g202 : Γ 202 = ⟨.struct [(0, 121)], 1, 8, [.pointer none]⟩ := rfl
theorem g203 : Γ 203 = ⟨.struct [(0, 121)], 1, 8, [.pointer none]⟩ := rfl
theorem g204 : Γ 204 = ⟨.func, 1, 8, [.nilFunc]⟩ := rfl
theorem g205 : Γ 205 = ⟨.struct [(0, 22)], 1, 24, [.slice none 0 0]⟩ := rfl
theorem g206 : Γ 206 = ⟨.struct [(0, 22)], 1, 24, [.slice none 0 0]⟩ := rfl
theorem g207 : Γ 207 = ⟨.func, 1, 8, [.nilFunc]⟩ := rfl
theorem g208 : Γ 208 = ⟨.ptr 211, 1, 8, [.pointer none]⟩ := rfl
theorem g209 : Γ 209 = ⟨.func, 1, 8, [.nilFunc]⟩ := rfl
theorem g210 : Γ 210 = ⟨.struct [(0, 3), (1, 188), (2, 3), (3, 3), (4, 3)], 5, 40, [.int .i64 0, .pointer none, .int .i64 0, .int .i64 0, .int .i64 0]⟩ := rfl
theorem g211 : Γ 211 = ⟨.struct [(0, 3), (1, 188), (2, 3), (3, 3), (4, 3)], 5, 40, [.int .i64 0, .pointer none, .int .i64 0, .int .i64 0, .int .i64 0]⟩ := rfl
theorem g212 : Γ 212 = ⟨.slice 217, 1, 24, [.slice none 0 0]⟩ := rfl
theorem g213 : Γ 213 = ⟨.func, 1, 8, [.nilFunc]⟩ := rfl
theorem g214 : Γ 214 = ⟨.func, 1, 8, [.nilFunc]⟩ := rfl
theorem g215 : Γ 215 = ⟨.func, 1, 8, [.nilFunc]⟩ := rfl
theorem g216 : Γ 216 = ⟨.struct [(0, 5), (1, 214), (2, 215)], 3, 24, [.int .u8 0, .nilFunc, .nilFunc]⟩ := rfl
theorem g217 : Γ 217 = ⟨.struct [(0, 5), (1, 214), (2, 215)], 3, 24, [.int .u8 0, .nilFunc, .nilFunc]⟩ := rfl
theorem g218 : Γ 218 = noTI := rfl
theorem g219 : Γ 219 = ⟨.func, 1, 8, [.nilFunc]⟩ := rfl
theorem g220 : Γ 220 = noTI := rfl
theorem g221 : Γ 221 = ⟨.func, 1, 8, [.nilFunc]⟩ := rfl
theorem g222 : Γ 222 = ⟨.int .i64, 1, 8, [.int .i64 0]⟩ := rfl
theorem g223 : Γ 223 = ⟨.func, 1, 8, [.nilFunc]⟩ := rfl
theorem g224 : Γ 224 = ⟨.func, 1, 8, [.nilFunc]⟩ := rfl
theorem g225 : Γ 225 = ⟨.func, 1, 8, [.nilFunc]⟩ := rfl
theorem g226 : Γ 226 = ⟨.int .i64, 1, 8, [.int .i64 0]⟩ := rfl
theorem g227 : Γ 227 = noTI := rfl
theorem g228 : Γ 228 = ⟨.func, 1, 8, [.nilFunc]⟩ := rfl
theorem g229 : Γ 229 = ⟨.func, 1, 8, [.nilFunc]⟩ := rfl
theorem g230 : Γ 230 = ⟨.func, 1, 8, [.nilFunc]⟩ := rfl
theorem g231 : Γ 231 = ⟨.func, 1, 8, [.nilFunc]⟩ := rfl
theorem g232 : Γ 232 = ⟨.func, 1, 8, [.nilFunc]⟩ := rfl
theorem g233 : Γ 233 = ⟨.func, 1, 8, [.nilFunc]⟩ := rfl
theorem g234 : Γ 234 = ⟨.int .u32, 1, 4, [.int .u32 0]⟩ := rfl
theorem g235 : Γ 235 = ⟨.func, 1, 8, [.nilFunc]⟩ := rfl
theorem g236 : Γ 236 = ⟨.int .u64, 1, 8, [.int .u64 0]⟩ := rfl
theorem g237 : Γ 237 = ⟨.func, 1, 8, [.nilFunc]⟩ := rfl
theorem g238 : Γ 238 = ⟨.struct [(0, 3), (1, 3)], 2, 16, [.int .i64 0, .int .i64 0]⟩ := rfl
theorem g239 : Γ 239 = ⟨.struct [(0, 3), (1, 3)], 2, 16, [.int .i64 0, .int .i64 0]⟩ := rfl
theorem g240 : Γ 240 = ⟨.map 9 4, 1, 8, [.map none]⟩ := rfl
theorem g241 : Γ 241 = ⟨.func, 1, 8, [.nilFunc]⟩ := rfl
theorem g242 : Γ 242 = noTI := rfl
theorem g243 : Γ 243 = ⟨.func, 1, 8, [.nilFunc]⟩ := rfl
theorem g244 : Γ 244 = ⟨.struct [(0, 4), (1, 23)], 2, 32, [.bool false, .slice none 0 0]⟩ := rfl
theorem g245 : Γ 245 = ⟨.struct [(0, 4), (1, 23)], 2, 32, [.bool false, .slice none 0 0]⟩ := rfl
theorem g246 : Γ 246 = ⟨.struct [(0, 4), (1, 29), (2, 3), (3, 22)], 4, 64, [.bool false, .slice none 0 0, .int .i64 0, .slice none 0 0]⟩ := rfl
theorem g247 : Γ 247 = ⟨.struct [(0, 4), (1, 29), (2, 3), (3, 22)], 4, 64, [.bool false, .slice none 0 0, .int .i64 0, .slice none 0 0]⟩ := rfl
theorem g248 : Γ 248 = ⟨.struct [(0, 29), (1, 22)], 2, 48, [.slice none 0 0, .slice none 0 0]⟩ := rfl
theorem g249 : Γ 249 = ⟨.struct [(0, 29), (1, 22)], 2, 48, [.slice none 0 0, .slice none 0 0]⟩ := rfl
theorem g250 : Γ 250 = ⟨.func, 1, 8, [.nilFunc]⟩ := rfl
theorem g251 : Γ 251 = ⟨.func, 1, 8, [.nilFunc]⟩ := rfl
theorem g252 : Γ 252 = ⟨.iface, 1, 16, [.nilIface]⟩ := rfl
theorem g253 : Γ 253 = ⟨.iface, 1, 16, [.nilIface]⟩ := rfl
theorem g254 : Γ 254 = ⟨.ptr 256, 1, 8, [.pointer none]⟩ := rfl
theorem g255 : Γ 255 = ⟨.struct [(0, 253), (1, 3), (2, 3), (3, 3)], 4, 40, [.nilIface, .int .i64 0, .int .i64 0, .int .i64 0]⟩ := rfl
theorem g256 : Γ 256 = ⟨.struct [(0, 253), (1, 3), (2, 3), (3, 3)], 4, 40, [.nilIface, .int .i64 0, .int .i64 0, .int .i64 0]⟩ := rfl
theorem g257 : Γ 257 = ⟨.func, 1, 8, [.nilFunc]⟩ := rfl
theorem g258 : Γ 258 = ⟨.func, 1, 8, [.nilFunc]⟩ := rfl
theorem g259 : Γ 259 = ⟨.ptr 39, 1, 8, [.pointer none]⟩ := rfl
theorem g260 : Γ 260 = noTI := rfl
theorem g261 : Γ 261 = ⟨.func, 1, 8, [.nilFunc]⟩ := rfl
theorem g262 : Γ 262 = ⟨.func, 1, 8, [.nilFunc]⟩ := rfl
theorem g263 : Γ 263 = ⟨.func, 1, 8, [.nilFunc]⟩ := rfl
theorem g264 : Γ 264 = ⟨.ptr 222, 1, 8, [.pointer none]⟩ := rfl
theorem g265 : Γ 265 = ⟨.int .u64, 1, 8, [.int .u64 0]⟩ := rfl
theorem g266 : Γ 266 = ⟨.func, 1, 8, [.nilFunc]⟩ := rfl
theorem g267 : Γ 267 = ⟨.func, 1, 8, [.nilFunc]⟩ := rfl
theorem g268 : Γ 268 = ⟨.func, 1, 8, [.nilFunc]⟩ := rfl
theorem g269 : Γ 269 = ⟨.ptr 3, 1, 8, [.pointer none]⟩ := rfl
theorem g270 : Γ 270 = ⟨.func, 1, 8, [.nilFunc]⟩ := rfl
theorem g271 : Γ 271 = ⟨.func, 1, 8, [.nilFunc]⟩ := rfl
theorem g272 : Γ 272 = ⟨.func, 1, 8, [.nilFunc]⟩ := rfl
theorem g273 : Γ 273 = ⟨.ptr 265, 1, 8, [.pointer none]⟩ := rfl
theorem g274 : Γ 274 = ⟨.func, 1, 8, [.nilFunc]⟩ := rfl
theorem g275 : Γ 275 = ⟨.func, 1, 8, [.nilFunc]⟩ := rfl
theorem g276 : Γ 276 = ⟨.func, 1, 8, [.nilFunc]⟩ := rfl
theorem g277 : Γ 277 = ⟨.struct [(0, 17), (1, 17), (2, 17), (3, 9)], 4, 40, [.pointer none, .pointer none, .pointer none, .string ⟨#[]⟩]⟩ := rfl
theorem g278 : Γ 278 = ⟨.struct [(0, 17), (1, 17), (2, 17), (3, 9)], 4, 40, [.pointer none, .pointer none, .pointer none, .string ⟨#[]⟩]⟩ := rfl
theorem g279 : Γ 279 = ⟨.arr 0 16, 0, 0, []⟩ := rfl
theorem g280 : Γ 280 = ⟨.struct [(0, 279)], 0, 0, []⟩ := rfl
theorem g281 : Γ 281 = ⟨.struct [(0, 279)], 0, 0, []⟩ := rfl
theorem g282 : Γ 282 = ⟨.func, 1, 8, [.nilFunc]⟩ := rfl
theorem g283 : Γ 283 = ⟨.int .u8, 1, 1, [.int .u8 0]⟩ := rfl
theorem g284 : Γ 284 = ⟨.int .u8, 1, 1, [.int .u8 0]⟩ := rfl
theorem g285 : Γ 285 = ⟨.func, 1, 8, [.nilFunc]⟩ := rfl
theorem g286 : Γ 286 = ⟨.ptr 5, 1, 8, [.pointer none]⟩ := rfl
theorem g287 : Γ 287 = ⟨.int .i32, 1, 4, [.int .i32 0]⟩ := rfl
theorem g288 : Γ 288 = ⟨.int .i32, 1, 4, [.int .i32 0]⟩ := rfl
theorem g289 : Γ 289 = ⟨.struct [(0, 12), (1, 12), (2, 234), (3, 283), (4, 5), (5, 5), (6, 284), (7, 285), (8, 286), (9, 287), (10, 288)], 11, 48, [.int .u64 0, .int .u64 0, .int .u32 0, .int .u8 0, .int .u8 0, .int .u8 0, .int .u8 0, .nilFunc, .pointer none, .int .i32 0, .int .i32 0]⟩ := rfl
theorem g290 : Γ 290 = ⟨.struct [(0, 12), (1, 12), (2, 234), (3, 283), (4, 5), (5, 5), (6, 284), (7, 285), (8, 286), (9, 287), (10, 288)], 11, 48, [.int .u64 0, .int .u64 0, .int .u32 0, .int .u8 0, .int .u8 0, .int .u8 0, .int .u8 0, .nilFunc, .pointer none, .int .i32 0, .int .i32 0]⟩ := rfl
theorem g291 : Γ 291 = ⟨.func, 1, 8, [.nilFunc]⟩ := rfl
theorem g292 : Γ 292 = ⟨.func, 1, 8, [.nilFunc]⟩ := rfl
theorem g293 : Γ 293 = noTI := rfl
theorem g294 : Γ 294 = ⟨.func, 1, 8, [.nilFunc]⟩ := rfl
theorem g295 : Γ 295 = ⟨.func, 1, 8, [.nilFunc]⟩ := rfl
theorem g296 : Γ 296 = ⟨.func, 1, 8, [.nilFunc]⟩ := rfl
theorem g297 : Γ 297 = ⟨.func, 1, 8, [.nilFunc]⟩ := rfl
theorem g298 : Γ 298 = ⟨.func, 1, 8, [.nilFunc]⟩ := rfl
theorem g299 : Γ 299 = ⟨.struct [(0, 22), (1, 3), (2, 3)], 3, 40, [.slice none 0 0, .int .i64 0, .int .i64 0]⟩ := rfl
theorem g300 : Γ 300 = ⟨.struct [(0, 22), (1, 3), (2, 3)], 3, 40, [.slice none 0 0, .int .i64 0, .int .i64 0]⟩ := rfl
theorem g301 : Γ 301 = ⟨.func, 1, 8, [.nilFunc]⟩ := rfl
theorem g302 : Γ 302 = ⟨.func, 1, 8, [.nilFunc]⟩ := rfl
theorem g303 : Γ 303 = ⟨.func, 1, 8, [.nilFunc]⟩ := rfl
theorem g304 : Γ 304 = ⟨.func, 1, 8, [.nilFunc]⟩ := rfl
theorem g305 : Γ 305 = ⟨.ptr 123, 1, 8, [.pointer none]⟩ := rfl
theorem g306 : Γ 306 = ⟨.arr 3 3, 3, 24, [.int .i64 0, .int .i64 0, .int .i64 0]⟩ := rfl
theorem g307 : Γ 307 = ⟨.ptr 135, 1, 8, [.pointer none]⟩ := rfl
theorem g308 : Γ 308 = ⟨.func, 1, 8, [.nilFunc]⟩ := rfl
theorem g309 : Γ 309 = ⟨.func, 1, 8, [.nilFunc]⟩ := rfl
theorem g310 : Γ 310 = ⟨.func, 1, 8, [.nilFunc]⟩ := rfl
theorem g311 : Γ 311 = noTI := rfl
theorem g312 : Γ 312 = ⟨.func, 1, 8, [.nilFunc]⟩ := rfl
theorem g313 : Γ 313 = ⟨.func, 1, 8, [.nilFunc]⟩ := rfl
theorem g314 : Γ 314 = ⟨.func, 1, 8, [.nilFunc]⟩ := rfl
theorem g315 : Γ 315 = ⟨.func, 1, 8, [.nilFunc]⟩ := rfl
theorem g316 : Γ 316 = noTI := rfl
theorem g317 : Γ 317 = ⟨.func, 1, 8, [.nilFunc]⟩ := rfl
theorem g318 : Γ 318 = ⟨.func, 1, 8, [.nilFunc]⟩ := rfl
theorem g319 : Γ 319 = noTI := rfl
theorem g320 : Γ 320 = ⟨.ptr 328, 1, 8, [.pointer none]⟩ := rfl
theorem g321 : Γ 321 = ⟨.struct [(0, 320)], 1, 8, [.pointer none]⟩ := rfl
theorem g322 : Γ 322 = ⟨.struct [(0, 320)], 1, 8, [.pointer none]⟩ := rfl
theorem g323 : Γ 323 = noTI := rfl
theorem g324 : Γ 324 = noTI := rfl
theorem g325 : Γ 325 = noTI := rfl
theorem g326 : Γ 326 = noTI := rfl
theorem g327 : Γ 327 = noTI := rfl
theorem g328 : Γ 328 = noTI := rfl
theorem g329 : Γ 329 = ⟨.func, 1, 8, [.nilFunc]⟩ := rfl
theorem g330 : Γ 330 = ⟨.func, 1, 8, [.nilFunc]⟩ := rfl
theorem g331 : Γ 331 = ⟨.func, 1, 8, [.nilFunc]⟩ := rfl
theorem g332 : Γ 332 = ⟨.func, 1, 8, [.nilFunc]⟩ := rfl
theorem g333 : Γ 333 = ⟨.func, 1, 8, [.nilFunc]⟩ := rfl
theorem g334 : Γ 334 = ⟨.func, 1, 8, [.nilFunc]⟩ := rfl
theorem g335 : Γ 335 = noTI := rfl
theorem g336 : Γ 336 = ⟨.func, 1, 8, [.nilFunc]⟩ := rfl
theorem g337 : Γ 337 = ⟨.func, 1, 8, [.nilFunc]⟩ := rfl
theorem g338 : Γ 338 = ⟨.func, 1, 8, [.nilFunc]⟩ := rfl
theorem g339 : Γ 339 = ⟨.ptr 326, 1, 8, [.pointer none]⟩ := rfl
theorem g340 : Γ 340 = ⟨.func, 1, 8, [.nilFunc]⟩ := rfl
attribute [push_cast] g1 g2 g3 g4 g5 g6 g7 g8 g9 g10 g11 g12 g13 g14 g15 g16 g17 g18 g19 g20 g21 g22 g23 g24 g25 g27 g28 g29 g30 g31 g32 g33 g34 g35 g37 g38 g39 g40 g42 g43 g44 g45 g46 g47 g48 g49 g50 g51 g52 g53 g54 g55 g56 g57 g58 g59 g60 g61 g62 g63 g64 g65 g67 g68 g69 g70 g71 g72 g73 g74 g76 g77 g79 g81 g82 g83 g85 g86 g88 g89 g90 g91 g93 g95 g96 g97 g98 g100 g101 g102 g104 g105 g106 g107 g108 g109 g110 g111 g112 g113 g114 g115 g116 g117 g118 g119 g120 g121 g122 g123 g124 g125 g126 g127 g128 g129 g130 g131 g132 g133 g134 g135 g136 g137 g138 g139 g141 g142 g143 g144 g145 g146 g147 g148 g149 g150 g151 g153 g155 g156 g157 g158 g159 g160 g161 g162 g163 g164 g165 g166 g167 g168 g169 g171 g173 g174 g176 g177 g178 g179 g180 g181 g182 g183 g184 g186 g187 g188 g189 g190 g191 g192 g194 g195 g198 g199 g200 g201 g202 g203 g204 g205 g206 g207 g208 g209 g210 g211 g212 g213 g214 g215 g216 g217 g219 g221 g222 g223 g224 g225 g226 g228 g229 g230 g231 g232 g233 g234 g235 g236 g237 g238 g239 g240 g241 g243 g244 g245 g246 g247 g248 g249 g250 g251 g252 g253 g254 g255 g256 g257 g258 g259 g261 g262 g263 g264 g265 g266 g267 g268 g269 g270 g271 g272 g273 g274 g275 g276 g277 g278 g279 g280 g281 g282 g283 g284 g285 g286 g287 g288 g289 g290 g291 g292 g294 g295 g296 g297 g298 g299 g300 g301 g302 g303 g304 g305 g306 g307 g308 g309 g310 g312 g313 g314 g315 g317 g318 g320 g321 g322 g329 g330 g331 g332 g333 g334 g336 g337 g338 g339 g340
end Go.Proofs.YtlgpcngfcglanaaGreat
