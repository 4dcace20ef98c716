/- The engine, part S: objects of the machine's own as resources; a range over a function. -/
import Derived.Test.YtdbhgnjpjpmioaaEp
import Derived.RangeFuncIn
import Derived.RangeFuncRecord
import Derived.RangeFuncLeaves
namespace Go.Eng
open Go
set_option linter.unusedVariables false
set_option linter.unusedSimpArgs false

/-- More is known, whatever is frozen. -/
structure Le0 (E E' : Env) : Prop where
  ρ : ∀ n b, E.ρ n = some b → E'.ρ n = some b
  θ : ∀ n v, E.θ n = some v → E'.θ n = some v
  μ : ∀ a v, E.μ a = some v → E'.μ a = some v
  mt : ∀ b, E.Z b → E'.Z b
theorem TagOK.mono0 {E E' : Env} (h : Le0 E E') {sz : Nat} {v : Value} : ∀ {t : Tag}, TagOK E sz v t → TagOK E' sz v t
  | .old, _ => trivial
  | .new, k => fun a n c e => h.mt _ (k a n c e)
  | .nil, k => k
  | .tok τ b, k => ⟨TokV.to (fun v => h.θ _ v) k.1, fun hb a n c e => h.mt _ (k.2 hb a n c e)⟩

theorem IsInts.mono0 {E E' : Env} (h : Le0 E E') {k : IntKind} {tg : Tag} {l : List Int} {v : Value} : IsInts E k tg l v → IsInts E' k tg l v
  | ⟨a, cap, h1, h2, h3, h4, h5⟩ => ⟨a, cap, h1, h2, h3, fun i x e => let ⟨b, off, p, q⟩ := h4 i x e; ⟨b, off, p, h.μ _ _ q⟩, h5.mono0 h⟩

mutual
theorem Den.mono0 {E E' : Env} (h : Le0 E E') : ∀ (x : SV) (v : Value), Den E x v → Den E' x v
  | .i k n, v, hd => by simpa only [Den] using hd
  | .b c, v, hd => by simpa only [Den] using hd
  | .s x, v, hd => by simpa only [Den] using hd
  | .ptr n off, v, hd => by
      simp only [Den] at hd ⊢
      obtain ⟨b, h1, h2⟩ := hd
      exact ⟨b, h.ρ _ _ h1, h2⟩
  | .nilp, v, hd => by simpa only [Den] using hd
  | .ints k tg l, v, hd => by
      simp only [Den] at hd ⊢
      exact hd.mono0 h
  | .sl sz tg n el, v, hd => by
      simp only [Den] at hd ⊢
      obtain ⟨a, cap, h1, h2, h3, h4, h5⟩ := hd
      refine ⟨a, cap, h1, h2, h3, fun i hi => ?_, h5.mono0 h⟩
      obtain ⟨b, off, p, q⟩ := h4 i hi
      refine ⟨b, off, p, fun j hj => ?_⟩
      obtain ⟨x, r, s⟩ := q j hj
      exact ⟨x, h.μ _ _ r, Den.mono0 h (el i j) x s⟩
  | .ep n get, v, hd => by
      simp only [Den] at hd ⊢
      obtain ⟨b, off, p, q⟩ := hd
      refine ⟨b, off, p, fun d hd => ?_⟩
      obtain ⟨x, r, s⟩ := q d hd
      exact ⟨x, h.μ _ _ r, Den.mono0 h (get d) x s⟩
  | .agg l, v, hd => by
      simp only [Den] at hd ⊢
      obtain ⟨cs, p, q⟩ := hd
      exact ⟨cs, p, DenL.mono0 h l cs q⟩
  | .tup l, v, hd => by
      simp only [Den] at hd ⊢
      obtain ⟨cs, p, q⟩ := hd
      exact ⟨cs, p, DenL.mono0 h l cs q⟩
  | .nili, v, hd => by simpa only [Den] using hd
  | .ifc t x, v, hd => by
      simp only [Den] at hd ⊢
      obtain ⟨y, p, q⟩ := hd
      exact ⟨y, p, Den.mono0 h x y q⟩
  | .fn f first cap, v, hd => by
      simp only [Den] at hd ⊢
      obtain ⟨fs, cs, p, q, r⟩ := hd
      exact ⟨fs, cs, p, DenL.mono0 h first fs q, DenL.mono0 h cap cs r⟩
  | .nilf, v, hd => by simpa only [Den] using hd
  | .raw x, v, hd => by simpa only [Den] using hd
  | .cnd g x, v, hd => by
      simp only [Den] at hd ⊢
      exact ⟨fun e => Den.mono0 h x v (hd.1 e), hd.2⟩
  | .any, v, hd => by simp only [Den]
theorem DenL.mono0 {E E' : Env} (h : Le0 E E') : ∀ (l : List SV) (cs : List Value), DenL E l cs → DenL E' l cs
  | [], [], _ => by simp only [DenL]
  | x :: xs, v :: vs, hd => by
      simp only [DenL] at hd ⊢
      exact ⟨Den.mono0 h x v hd.1, DenL.mono0 h xs vs hd.2⟩
  | [], _ :: _, hd => by simp only [DenL] at hd
  | _ :: _, [], hd => by simp only [DenL] at hd
end

def rsSet : List (Nat × Res) → Nat → Res → List (Nat × Res)
  | [], _, _ => []
  | (m, Q) :: t, r, R => (if m = r then (m, R) else (m, Q)) :: rsSet t r R
def rsCut : List (Nat × Res) → Nat → List (Nat × Res)
  | [], _ => []
  | (m, Q) :: t, r => if m = r then rsCut t r else (m, Q) :: rsCut t r
theorem rsSet_mem {r : Nat} {R : Res} : ∀ {l : List (Nat × Res)} {m : Nat} {Q : Res}, (m, Q) ∈ rsSet l r R → (m = r ∧ Q = R) ∨ (m ≠ r ∧ (m, Q) ∈ l)
  | (n, S) :: t, m, Q, h => by
    simp only [rsSet] at h
    rcases List.mem_cons.1 h with h | h
    · split at h
      · rename_i e
        injection h with h1 h2
        exact .inl ⟨h1.trans e, h2⟩
      · rename_i e
        injection h with h1 h2
        exact .inr ⟨by rw [h1]; exact e, by rw [h1, h2]; exact List.mem_cons_self⟩
    · rcases rsSet_mem h with h | h
      · exact .inl h
      · exact .inr ⟨h.1, List.mem_cons_of_mem _ h.2⟩
theorem rsCut_mem {r : Nat} : ∀ {l : List (Nat × Res)} {m : Nat} {Q : Res}, (m, Q) ∈ rsCut l r → m ≠ r ∧ (m, Q) ∈ l
  | (n, S) :: t, m, Q, h => by
    simp only [rsCut] at h
    split at h
    · exact ⟨(rsCut_mem h).1, List.mem_cons_of_mem _ (rsCut_mem h).2⟩
    · rename_i e
      rcases List.mem_cons.1 h with h | h
      · injection h with h1 h2
        exact ⟨by rw [h1]; exact e, by rw [h1, h2]; exact List.mem_cons_self⟩
      · exact ⟨(rsCut_mem h).1, List.mem_cons_of_mem _ (rsCut_mem h).2⟩

/-- A resource's own place is written. -/
theorem Good.reres {E : Env} {st : SS} {w : World} (h : Good E st w) {r b : Nat} {o : Obj} (hr : (r, RObj b o) ∈ st.rs) :
    w.heap[b]? = some o ∧ ∀ w' : World, (∀ c, c ≠ b → w'.heap[c]? = w.heap[c]?) → w'.heap.size = w.heap.size → w'.os = w.os → w'.tape = w.tape → w'.output = w.output →
      Good E { st with rs := rsCut st.rs r } w' ∧ ∀ o', w'.heap[b]? = some o' → Good E { st with rs := rsSet st.rs r (RObj b o') } w' := by
  obtain ⟨κ, hk⟩ := h.own
  obtain ⟨F, ⟨hF, hb, hμb⟩, hF2⟩ := hk.rs _ _ hr
  obtain ⟨hlt, hκ, hmut⟩ := hF2 b hF
  refine ⟨hb, fun w' hother hsz hos htape hout => ?_⟩
  have cell : ∀ ad v, E.μ ad = some v → w'.cell? ad = some v := fun ad v e => by
    have : ad.block ≠ b := hμb ad v e
    rw [World.cell?_of_block (hother _ this)]; exact h.mu ad v e
  have old : ∀ c, c < E.w0.heap.size → ¬ E.S0 c → w'.heap[c]? = E.w0.heap[c]? := fun c hc hs => by
    rw [hother c]
    · exact h.old c hc hs
    · rintro rfl
      rcases hmut with hm | hm
      · omega
      · exact hs hm
  have own : ∀ rs', (∀ m Q, (m, Q) ∈ rs' → (m ≠ r ∧ (m, Q) ∈ st.rs) ∨ (m = r ∧ ∃ o', Q = RObj b o' ∧ w'.heap[b]? = some o')) → Owns E { st with rs := rs' } w' κ := by
    intro rs' hrs
    refine ⟨fun n T ls e => ?_, fun τ hτ => ?_, fun m Q hm => ?_, hk.mu, fun c k e => by rw [hsz]; exact hk.dom c k e⟩
    · obtain ⟨c, cs, q1, q2, q3, q4, q5⟩ := hk.hp n T ls e
      have hne : c ≠ b := by rintro rfl; rw [hκ] at q4; cases q4
      exact ⟨c, cs, q1, by rw [hother c hne]; exact q2, q3, q4, q5⟩
    · obtain ⟨sz, a, len, cap, q1, q2, q3⟩ := hk.tk τ hτ
      refine ⟨sz, a, len, cap, q1, q2, ?_⟩
      rcases q3 with q3 | ⟨c, off, T, cs, q4, q5, q6, q7, q8, q9⟩
      · exact .inl q3
      · have hne : c ≠ b := by rintro rfl; rw [hκ] at q5; cases q5
        exact .inr ⟨c, off, T, cs, q4, q5, q6, q7.congr (hother c hne), q8, q9⟩
    · rcases hrs m Q hm with ⟨q1, q2⟩ | ⟨rfl, o', rfl, q2⟩
      · obtain ⟨G, p1, p2⟩ := hk.rs m Q q2
        have hne : ∀ c, G c → c ≠ b := by rintro c hG rfl; have := (p2 _ hG).2.1; rw [hκ] at this; injection this with this; injection this with this; exact q1 this.symm
        exact ⟨G, Q.loc p1 (fun c hc => hother c (hne c hc)), fun c hc => ⟨by rw [hsz]; exact (p2 c hc).1, (p2 c hc).2⟩⟩
      · exact ⟨fun c => c = b, ⟨rfl, q2, hμb⟩, fun c hc => by subst hc; exact ⟨by rw [hsz]; exact hlt, hκ, hmut⟩⟩
  refine ⟨⟨h.k, h.kx, hos.trans h.os, htape.trans h.tape, hout.trans h.output, by rw [hsz]; exact h.size, old, cell, h.nxρ, h.nxθ, κ, own _ fun m Q hm => .inl (rsCut_mem hm)⟩, fun o' ho' =>
    ⟨h.k, h.kx, hos.trans h.os, htape.trans h.tape, hout.trans h.output, by rw [hsz]; exact h.size, old, cell, h.nxρ, h.nxθ, κ, own _ fun m Q hm => ?_⟩⟩
  rcases rsSet_mem hm with ⟨q1, q2⟩ | q
  · exact .inr ⟨q1, o', q2, ho'⟩
  · exact .inl q

/-- Another frame, other names frozen. -/
theorem Good.rek {E : Env} {st : SS} {w : World} (h : Good E st w) (k : Nat) (hk : k ≤ st.nx) (fr : List SV) (df : List Nat) : Good { E with k := k } { st with fr := fr, k := k, df := df } w := by
  obtain ⟨κ, ho⟩ := h.own
  have le : Le0 E { E with k := k } := ⟨fun _ _ h => h, fun _ _ h => h, fun _ _ h => h, fun _ h => h⟩
  exact ⟨rfl, hk, h.os, h.tape, h.output, h.size, h.old, h.mu, h.nxρ, h.nxθ, κ, fun n T ls e => let ⟨b, cs, q1, q2, q3, q4, q5⟩ := ho.hp n T ls e; ⟨b, cs, q1, q2, DenL.mono0 le _ _ q3, q4, q5⟩, ho.tk, ho.rs, ho.mu, ho.dom⟩

theorem Env.Ext.le0 {E E' : Env} (h : E.Ext E') (hρ : ∀ n b, E.ρ n = some b → n < E.k) (hθ : ∀ n b, E.θ n = some b → n < E.k) : Le0 E E' :=
  ⟨fun n b e => by rw [h.ρ n (hρ n b e)]; exact e, fun n b e => by rw [h.θ n (hθ n b e)]; exact e, h.μ, fun b hb => by rw [h.Z]; exact hb⟩

theorem denL_undef' (E : Env) : ∀ n, DenL E (List.replicate n (.raw undef)) (List.replicate n undef)
  | 0 => by simp only [List.replicate_zero, DenL]
  | n + 1 => by simp only [List.replicate_succ, DenL, Den]; exact ⟨trivial, denL_undef' E n⟩
theorem run_callFunc' {P : Program} {f : FuncId} {fn : Func} {c : Code} (hfn : P.funcs[f]? = some fn) (hb : fn.body = some c) (hnm : (fn.name == "runtime.NumGoroutine") = false) (as : Array Value) (w : World) :
    (callFunc f as).run P w = .ok (.enter f as) w := by
  simp [callFunc, hfn, hb]
  intro h
  simp [h] at hnm
end Go.Eng
