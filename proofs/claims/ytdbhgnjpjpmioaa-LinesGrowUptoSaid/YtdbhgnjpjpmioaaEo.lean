/- The engine, part O: a callee's contract in a caller's state. -/
import Derived.Test.YtdbhgnjpjpmioaaEn
namespace Go.Eng
open Go
set_option linter.unusedVariables false
set_option linter.unusedSimpArgs false

def renT (f : Nat → Nat) : Tag → Tag
  | .old => .old
  | .new => .new
  | .nil => .nil
  | .tok τ b => .tok (f τ) b
mutual
def ren (f : Nat → Nat) : SV → SV
  | .i k n => .i k n
  | .b c => .b c
  | .s x => .s x
  | .ptr n o => .ptr (f n) o
  | .nilp => .nilp
  | .ints k t l => .ints k (renT f t) l
  | .sl sz t n el => .sl sz (renT f t) n (fun i j => ren f (el i j))
  | .ep n g => .ep n (fun d => ren f (g d))
  | .agg l => .agg (renL f l)
  | .tup l => .tup (renL f l)
  | .nili => .nili
  | .ifc t x => .ifc t (ren f x)
  | .fn g a c => .fn g (renL f a) (renL f c)
  | .nilf => .nilf
  | .raw x => .raw x
  | .cnd g x => .cnd g (ren f x)
  | .any => .any
def renL (f : Nat → Nat) : List SV → List SV
  | [] => []
  | x :: r => ren f x :: renL f r
end

structure Later (f : Nat → Nat) (E E' : Env) : Prop where
  ρ : ∀ n b, E.ρ n = some b → E'.ρ (f n) = some b
  θ : ∀ n b, E.θ n = some b → E'.θ (f n) = some b
  μ : ∀ a v, E.μ a = some v → E'.μ a = some v
  mt : ∀ b, E.Z b → E'.Z b

theorem TagOK.ren {f : Nat → Nat} {E E' : Env} (h : Later f E E') {sz : Nat} {v : Value} : ∀ {t : Tag}, TagOK E sz v t → TagOK E' sz v (renT f t)
  | .old, _ => trivial
  | .new, k => fun a n c e => h.mt _ (k a n c e)
  | .nil, k => k
  | .tok τ b, k => ⟨TokV.to (fun v => h.θ _ v) k.1, fun hb a n c e => h.mt _ (k.2 hb a n c e)⟩

mutual
theorem Den.ren {f : Nat → Nat} {E E' : Env} (h : Later f E E') : ∀ (x : SV) (v : Value), Den E x v → Den E' (ren f x) v
  | .i k n, v, hd => by simpa only [Go.Eng.ren, Den] using hd
  | .b c, v, hd => by simpa only [Go.Eng.ren, Den] using hd
  | .s x, v, hd => by simpa only [Go.Eng.ren, Den] using hd
  | .ptr n off, v, hd => by
      simp only [Go.Eng.ren, Den] at hd ⊢
      obtain ⟨b, h1, h2⟩ := hd
      exact ⟨b, h.ρ _ _ h1, h2⟩
  | .nilp, v, hd => by simpa only [Go.Eng.ren, Den] using hd
  | .ints k tg l, v, hd => by
      simp only [Go.Eng.ren, Den] at hd ⊢
      obtain ⟨a, c, h1, h2, h3, h4, h5⟩ := hd
      exact ⟨a, c, h1, h2, h3, fun i x hx => let ⟨b, off, e1, e2⟩ := h4 i x hx; ⟨b, off, e1, h.μ _ _ e2⟩, h5.ren h⟩
  | .sl sz tg n el, v, hd => by
      simp only [Go.Eng.ren, Den] at hd ⊢
      obtain ⟨a, cap, h1, h2, h3, h4, h5⟩ := hd
      refine ⟨a, cap, h1, h2, h3, fun i hi => ?_, h5.ren h⟩
      obtain ⟨b, off, p, q⟩ := h4 i hi
      refine ⟨b, off, p, fun j hj => ?_⟩
      obtain ⟨x, r, s⟩ := q j hj
      exact ⟨x, h.μ _ _ r, Den.ren h (el i j) x s⟩
  | .ep n get, v, hd => by
      simp only [Go.Eng.ren, Den] at hd ⊢
      obtain ⟨b, off, p, q⟩ := hd
      refine ⟨b, off, p, fun d hd => ?_⟩
      obtain ⟨x, r, s⟩ := q d hd
      exact ⟨x, h.μ _ _ r, Den.ren h (get d) x s⟩
  | .agg l, v, hd => by
      simp only [Go.Eng.ren, Den] at hd ⊢
      obtain ⟨cs, p, q⟩ := hd
      exact ⟨cs, p, DenL.ren h l cs q⟩
  | .tup l, v, hd => by
      simp only [Go.Eng.ren, Den] at hd ⊢
      obtain ⟨cs, p, q⟩ := hd
      exact ⟨cs, p, DenL.ren h l cs q⟩
  | .nili, v, hd => by simpa only [Go.Eng.ren, Den] using hd
  | .ifc t x, v, hd => by
      simp only [Go.Eng.ren, Den] at hd ⊢
      obtain ⟨y, p, q⟩ := hd
      exact ⟨y, p, Den.ren h x y q⟩
  | .fn g first cap, v, hd => by
      simp only [Go.Eng.ren, Den] at hd ⊢
      obtain ⟨fs, cs, p, q, r⟩ := hd
      exact ⟨fs, cs, p, DenL.ren h first fs q, DenL.ren h cap cs r⟩
  | .nilf, v, hd => by simpa only [Go.Eng.ren, Den] using hd
  | .raw x, v, hd => by simpa only [Go.Eng.ren, Den] using hd
  | .cnd g x, v, hd => by
      simp only [Go.Eng.ren, Den] at hd ⊢
      exact ⟨fun e => Den.ren h x v (hd.1 e), hd.2⟩
  | .any, v, hd => by simp only [Go.Eng.ren, Den]
theorem DenL.ren {f : Nat → Nat} {E E' : Env} (h : Later f E E') : ∀ (l : List SV) (cs : List Value), DenL E l cs → DenL E' (renL f l) cs
  | [], [], _ => by simp only [renL, DenL]
  | x :: xs, v :: vs, hd => by
      simp only [renL, DenL] at hd ⊢
      exact ⟨Den.ren h x v hd.1, DenL.ren h xs vs hd.2⟩
  | [], _ :: _, hd => by simp only [DenL] at hd
  | _ :: _, [], hd => by simp only [DenL] at hd
end

/-- What a function promises: of every good world of the state 'pre', whose names all came in. -/
def Contract (P : Program) (f : FuncId) (pre : SS) (pargs : List SV) (R : SV → SS → Prop) : Prop :=
  ∀ E w vs, E.w0 = w → Good E pre w → DenL E pargs vs → (callFunc f vs.toArray).run P w = .ok (.enter f vs.toArray) w ∧
    Calls P f vs.toArray w (fun e w' => ∃ v E' post sv, e = .returned v ∧ E.Ext E' ∧ Good E' post w' ∧ Den E' sv v ∧ R sv post)

def hpRen (f : Nat → Nat) : List (Nat × TypeId × List SV) → List (Nat × TypeId × List SV) → List (Nat × TypeId × List SV)
  | [], m => m
  | (n, T, ls) :: r, m => (f n, T, renL f ls) :: hpRen f r m
def memB : List Nat → Nat → Bool
  | [], _ => false
  | m :: r, n => if m = n then true else memB r n
theorem memB_iff : ∀ (l : List Nat) (n : Nat), memB l n = true ↔ n ∈ l
  | [], n => by simp [memB]
  | m :: r, n => by
    simp only [memB, List.mem_cons]
    split
    · rename_i e; simp [e]
    · rename_i e; rw [memB_iff r n]; constructor
      · exact .inr
      · rintro (h | h)
        · exact absurd h.symm e
        · exact h
def hpDel (im : List Nat) : List (Nat × TypeId × List SV) → List (Nat × TypeId × List SV)
  | [] => []
  | (n, T, ls) :: r => match memB im n with | true => hpDel im r | false => (n, T, ls) :: hpDel im r
def tkRen (f : Nat → Nat) : List Nat → List Nat → List Nat
  | [], m => m
  | n :: r, m => f n :: tkRen f r m
def tkDelL (im : List Nat) : List Nat → List Nat
  | [] => []
  | n :: r => match memB im n with | true => tkDelL im r | false => n :: tkDelL im r
def rsRen (f : Nat → Nat) : List (Nat × Res) → List (Nat × Res) → List (Nat × Res)
  | [], m => m
  | (n, R) :: r, m => (f n, R) :: rsRen f r m
def rsDel (im : List Nat) : List (Nat × Res) → List (Nat × Res)
  | [] => []
  | (n, R) :: r => match memB im n with | true => rsDel im r | false => (n, R) :: rsDel im r

/-- The caller's state behind a call: what was lent out (im) has come back; the names ik are what they were. -/
def SS.back (st : SS) (im ik : List Nat) (post : SS) : SS :=
  { st with hp := hpRen (fmap ik st.nx) post.hp (hpDel im st.hp), tk := tkRen (fmap ik st.nx) post.tk (tkDelL im st.tk), rs := rsRen (fmap ik st.nx) post.rs (rsDel im st.rs), nx := st.nx + (post.nx - ik.length) }

theorem hpRen_find {f : Nat → Nat} (hf : ∀ n m, f n = f m → n = m) : ∀ (l m : List (Nat × TypeId × List SV)) (k : Nat) (T : TypeId) (ls : List SV), hfind (hpRen f l m) k = some (T, ls) →
    (∃ n ls', k = f n ∧ hfind l n = some (T, ls') ∧ ls = renL f ls') ∨ hfind m k = some (T, ls)
  | [], m, k, T, ls, h => .inr h
  | (n, T', l') :: r, m, k, T, ls, h => by
    simp only [hpRen, hfind] at h
    split at h
    · rename_i e
      simp only [Option.some.injEq, Prod.mk.injEq] at h
      obtain ⟨rfl, rfl⟩ := h
      exact .inl ⟨n, l', e.symm, by simp [hfind], rfl⟩
    · rename_i e
      rcases hpRen_find hf r m k T ls h with ⟨n', ls', rfl, h2, h3⟩ | h
      · refine .inl ⟨n', ls', rfl, ?_, h3⟩
        have : ¬ n = n' := fun h => e (by rw [h])
        simp [hfind, this, h2]
      · exact .inr h
theorem hpDel_find (im : List Nat) : ∀ (l : List (Nat × TypeId × List SV)) (k : Nat) (T : TypeId) (ls : List SV), hfind (hpDel im l) k = some (T, ls) → hfind l k = some (T, ls) ∧ k ∉ im
  | [], k, T, ls, h => by simp [hpDel, hfind] at h
  | (n, T', l') :: r, k, T, ls, h => by
    simp only [hpDel] at h
    split at h
    · rename_i e
      obtain ⟨h1, h2⟩ := hpDel_find im r k T ls h
      have hn := (memB_iff im n).1 e
      have : ¬ n = k := by rintro rfl; exact h2 hn
      exact ⟨by simp [hfind, this, h1], h2⟩
    · rename_i e
      have hn : n ∉ im := fun h => by rw [(memB_iff im n).2 h] at e; cases e
      simp only [hfind] at h ⊢
      split at h
      · rename_i e2; rw [if_pos e2]; exact ⟨h, by rw [← e2]; exact hn⟩
      · rename_i e2; rw [if_neg e2]; exact hpDel_find im r k T ls h
theorem tkRen_mem {f : Nat → Nat} : ∀ (l m : List Nat) (k : Nat), k ∈ tkRen f l m → (∃ n, n ∈ l ∧ k = f n) ∨ k ∈ m
  | [], m, k, h => .inr h
  | n :: r, m, k, h => by
    simp only [tkRen] at h
    rcases List.mem_cons.1 h with rfl | h
    · exact .inl ⟨n, by simp, rfl⟩
    · rcases tkRen_mem r m k h with ⟨n', h1, h2⟩ | h
      · exact .inl ⟨n', by simp [h1], h2⟩
      · exact .inr h
theorem tkDelL_mem (im : List Nat) : ∀ (l : List Nat) (k : Nat), k ∈ tkDelL im l → k ∈ l ∧ k ∉ im
  | [], k, h => by simp [tkDelL] at h
  | n :: r, k, h => by
    simp only [tkDelL] at h
    split at h
    · obtain ⟨h1, h2⟩ := tkDelL_mem im r k h; exact ⟨by simp [h1], h2⟩
    · rename_i e
      rcases List.mem_cons.1 h with rfl | h
      · exact ⟨by simp, fun h => by rw [(memB_iff im k).2 h] at e; cases e⟩
      · obtain ⟨h1, h2⟩ := tkDelL_mem im r k h; exact ⟨by simp [h1], h2⟩
theorem rsRen_mem {f : Nat → Nat} : ∀ (l m : List (Nat × Res)) (k : Nat) (R : Res), (k, R) ∈ rsRen f l m → (∃ n, (n, R) ∈ l ∧ k = f n) ∨ (k, R) ∈ m
  | [], m, k, R, h => .inr h
  | (n, R') :: r, m, k, R, h => by
    simp only [rsRen] at h
    rcases List.mem_cons.1 h with e | h
    · simp only [Prod.mk.injEq] at e
      obtain ⟨rfl, rfl⟩ := e
      exact .inl ⟨n, by simp, rfl⟩
    · rcases rsRen_mem r m k R h with ⟨n', h1, h2⟩ | h
      · exact .inl ⟨n', by simp [h1], h2⟩
      · exact .inr h
theorem rsDel_mem (im : List Nat) : ∀ (l : List (Nat × Res)) (k : Nat) (R : Res), (k, R) ∈ rsDel im l → (k, R) ∈ l ∧ k ∉ im
  | [], k, R, h => by simp [rsDel] at h
  | (n, R') :: r, k, R, h => by
    simp only [rsDel] at h
    split at h
    · obtain ⟨h1, h2⟩ := rsDel_mem im r k R h; exact ⟨by simp [h1], h2⟩
    · rename_i e
      rcases List.mem_cons.1 h with e' | h
      · simp only [Prod.mk.injEq] at e'
        obtain ⟨rfl, rfl⟩ := e'
        exact ⟨by simp, fun h => by rw [(memB_iff im k).2 h] at e; cases e⟩
      · obtain ⟨h1, h2⟩ := rsDel_mem im r k R h; exact ⟨by simp [h1], h2⟩
end Go.Eng
