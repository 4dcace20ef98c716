/- Texts joined, in order: Ex, Ey, Ez, Fa, Fc, Fd, Fe, Ff, Gb, Er, Fb, Tab, Ca, Ra. -/
import Derived.Test.YtbhkpefjnomncaaZwhb
import Derived.LoopNIn
import Derived.Scope
import Derived.Test.YtbhkpefjnomncaaProg
import Derived.KernelRfl
/- The engine, part X: loops round by round; the next of a text. -/
namespace Go.Eng
open Go
set_option linter.unusedVariables false
set_option linter.unusedSimpArgs false

/-- At most so many rounds. -/
def loopN (P : Program) (B : Ctx) (c : Code) (K : Ex → SS → Prop) : Nat → SS → Prop
  | 0, _ => False
  | m + 1, s => CodeOK P B c s (thenK (loopN P B c K m) K)

theorem loop_unroll {P : Program} {B : Ctx} {c : Code} {K : Ex → SS → Prop} : ∀ (m : Nat) {s : SS}, loopN P B c K m s → CodeOK P B (.loop c) s K := by
  intro m s h E a w hb hf hw
  refine wpIn_loop_rounds m ?_
  have main : ∀ (m : Nat) (s : SS) (E1 : Env) (a : Act) (w : World), E.Ext E1 → Fr E1 s a → Good E1 s w → loopN P B c K m s → Code.roundsIn (wideR B.rd) 0 P c (QK E K) m a w := by
    intro m
    induction m with
    | zero => intro s E1 a w _ _ _ h; exact h.elim
    | succ m ih =>
      intro s E1 a w hx hf hw h
      rw [roundsIn_succ]
      refine wpIn_mono (h E1 a w (hb.ext hx) hf hw) ?_
      rintro e a' w' ⟨E2, st, x, q1, q2, q3, q4, q5⟩
      cases x <;> cases e <;> simp only [ExRel] at q4 <;> simp only [thenK] at q5
      · exact ih st E2 a' w' (hx.trans q1) q2 q3 q5
      · exact ⟨E2, st, .ret, hx.trans q1, q2, q3, trivial, q5⟩
      · subst q4; exact ⟨E2, st, .exit _, hx.trans q1, q2, q3, rfl, q5⟩
      · subst q4; exact ⟨E2, st, .goto _, hx.trans q1, q2, q3, rfl, q5⟩
  exact main m s E a w (Env.Ext.refl E) hf hw h

/-- A scope that no jump leads through. -/
def scopeK (K : Ex → SS → Prop) : Ex → SS → Prop
  | .normal, s => K .normal s
  | .ret, s => K .ret s
  | .exit i, s => K (.exit i) s
  | .goto _, _ => False
theorem scope_ok {P : Program} {B : Ctx} (hrd : B.rd = none) {c : Code} {s : SS} {K : Ex → SS → Prop} (h : CodeOK P B c s (scopeK K)) : CodeOK P B (.scope c) s K := by
  intro E a w hb hf hw
  have h1 := h E a w hb hf hw
  rw [hrd] at h1 ⊢
  refine wpIn_wide.2 (wp_scope_straight (wp_mono (wpIn_wide.1 h1) ?_))
  rintro e a' w' ⟨E2, st, x, q1, q2, q3, q4, q5⟩
  cases x <;> cases e <;> simp only [ExRel] at q4 <;> simp only [scopeK] at q5
  · exact ⟨E2, st, .normal, q1, q2, q3, trivial, q5⟩
  · exact ⟨E2, st, .ret, q1, q2, q3, trivial, q5⟩
  · subst q4; exact ⟨E2, st, .exit _, q1, q2, q3, rfl, q5⟩

/-- The next of a text that is ranged over. -/
theorem next_ok {P : Program} {Γ : Tab} (hΓ : Γ.ok P) {B : Ctx} {id : Nat} {o : Oper} {rest : List Oper} {it : Operand} {s : SS} {K : Ex → SS → Prop} (r b : Nat) (y : ByteArray) (pos : Nat)
    (ho : o.op = .next it true) (hg : o.guard = none) (hit : opd s it = .raw (.pointer (some ⟨b, 0, none⟩))) (hc : ovc s true it) (hr : (r, RObj b (.stringIter y pos)) ∈ s.rs)
    (h : (pos < y.size → evOps P Γ (o :: rest) (K .normal) rest (({ s with rs := rsSet s.rs r (RObj b (.stringIter y (pos + (Utf8.decode y pos).2))) } : SS).put o.dst (.tup [.b true, .i .i64 pos, .i .i32 (Utf8.decode y pos).1]))) ∧
      (¬ pos < y.size → evOps P Γ (o :: rest) (K .normal) rest (s.put o.dst (.tup [.b false])))) : CodeOK P B (.region id (o :: rest).toArray false) s K := by
  intro E a w hb hf hw
  refine wpIn_region_lit ?_
  have hv := opd_den hf rfl hc
  rw [hit] at hv
  simp only [Den] at hv
  obtain ⟨p1, p2⟩ := hw.reres hr
  have hnd : ∀ c, o.op ≠ .defer c := by intro c hc; rw [ho] at hc; cases hc
  simp only [wpListIn]
  rw [if_pos (by unfold Region.wanted; rw [hg])]
  refine wpIn_of hnd not_letsOut ?_
  have fin : ∀ (E' : Env) (st' : SS) (a' : Act) (w' : World), E.Ext E' → Fr E' st' a' → Good E' st' w' → evOps P Γ (o :: rest) (K .normal) rest st' → wpListIn (wideR B.rd) 0 P (o :: rest).toArray (QK E K) rest a' w' := fun E' st' a' w' h1 h2 h3 h4 =>
    evOps_soundIn (Q := QK E K) hΓ not_letsOut rest E' st' a' w' h2 h3 h4 (fun E2 st2 a2 w2 k1 k2 k3 k4 => ⟨E2, st2, .normal, h1.trans k1.ext, k2, k3, trivial, k4⟩)
  by_cases hp : pos < y.size
  · obtain ⟨f1, f2, f3, f4, f5⟩ := putObj_frame w b (.stringIter y (pos + (Utf8.decode y pos).2))
    have g2 := (p2 _ f1 f2 f3 f4 f5).2 _ (World.putObj_heap_same (Array.getElem?_eq_some_iff.1 p1).1)
    refine wp_value (v := .tuple #[.bool true, .int .i64 pos, .int .i32 (Utf8.decode y pos).1]) (w' := w.putObj b (.stringIter y (pos + (Utf8.decode y pos).2))) ?_ ?_
    · simp only [execOp, ho, hv]
      simp [Instr.next, getObj, setObj, Sem.run_bind, Sem.run, p1, hp, goInt, World.putObj]
    · have hf2 : Fr E ({ s with rs := rsSet s.rs r (RObj b (.stringIter y (pos + (Utf8.decode y pos).2))) } : SS) a := ⟨hf.tmps, hf.defers⟩
      exact fin E _ _ _ (Env.Ext.refl E) (hf2.put o.dst (by simp only [Den]; exact ⟨_, rfl, by simp only [DenL, Den]; exact ⟨trivial, trivial, trivial, trivial⟩⟩)) (g2.put _ _) (h.1 hp)
  · refine wp_value (v := .tuple #[.bool false]) (w' := w) ?_ ?_
    · simp only [execOp, ho, hv]
      simp [Instr.next, getObj, Sem.run_bind, Sem.run, p1, hp]
    · exact fin E _ _ _ (Env.Ext.refl E) (hf.put o.dst (by simp only [Den]; exact ⟨_, rfl, by simp only [DenL, Den]; exact ⟨trivial, trivial⟩⟩)) (hw.put _ _) (h.2 hp)
end Go.Eng
/- The engine, part Y: a method of an interface value. -/
namespace Go.Eng
open Go
set_option linter.unusedVariables false
set_option linter.unusedSimpArgs false

/-- Whatever pointer the interface value of type t holds, its method of that name is f's, on that pointer. -/
def MethodIs (P : Program) (t : TypeId) (name : String) (f : FuncId) : Prop :=
  ∀ b off w, (Go.method (P.types.size + Made.depth) t (.pointer (some ⟨b, off, none⟩)) name).run P w = .ok (f, .pointer (some ⟨b, off, none⟩)) w

def methodB (P : Program) (t : TypeId) (name : String) (f : FuncId) : Bool :=
  (match P.info? t with
    | some i => (match i.methods.find? (·.name == name) with
      | some m => m.path.toList.isEmpty && (match m.func with | some (g, true) => g == f | _ => false)
      | none => false)
    | none => false) && (match P.underlying t with | some (.pointer _) => true | _ => false)

theorem methodIs_of {P : Program} {t : TypeId} {name : String} {f : FuncId} (h : methodB P t name f = true) : MethodIs P t name f := by
  intro b off w
  unfold methodB at h
  rw [Bool.and_eq_true] at h
  obtain ⟨h1, h2⟩ := h
  split at h1
  · rename_i i hi
    split at h1
    · rename_i m hm
      rw [Bool.and_eq_true] at h1
      obtain ⟨h3, h4⟩ := h1
      split at h4
      · rename_i g hg
        have hg' : g = f := by simpa using h4
        subst hg'
        split at h2
        · rename_i e he
          have hp : m.path.toList = [] := by simpa using h3
          rw [show P.types.size + Made.depth = (P.types.size + (Made.depth - 1)) + 1 by unfold Made.depth; omega]
          simp only [Go.method, Sem.run_bind]
          have h5 : (typeInfo t).run P w = .ok i w := by simp [typeInfo, hi]
          rw [h5]
          simp only [Result.andThen_ok, hm, Sem.run_bind, hp, Go.follow, Sem.run_pure, hg]
          have h6 : ∀ x, (Go.receiverAt t (.val (.pointer (some ⟨b, off, none⟩))) true x).run P w = .ok (.pointer (some ⟨b, off, none⟩)) w := fun x => by
            simp [Go.receiverAt, run_underlying he, Place.get]
          rw [h6]
          rfl
        · cases h2
      · cases h4
    · cases h1
  · cases h1

theorem inv_of {P : Program} {t : TypeId} {name : String} {f : FuncId} (hm : MethodIs P t name f) {n o : Nat} {args : List SV} {st : SS} {K : SV → SS → Prop} (h : CallEnt P f (.ptr n o :: args) st K) : InvOK P (.ifc t (.ptr n o)) name args st K := by
  intro E w r vs hw hr hv
  simp only [Den] at hr
  obtain ⟨y, rfl, b, hb, rfl⟩ := hr
  obtain ⟨k1, k2⟩ := h E w (.pointer (some ⟨b, o, none⟩) :: vs) hw (by simp only [DenL, Den]; exact ⟨⟨b, hb, rfl⟩, hv⟩)
  refine ⟨f, (.pointer (some ⟨b, o, none⟩) :: vs).toArray, ?_, k2⟩
  rw [← k1]
  simp only [callMethod, Sem.run_bind, run_program, Result.andThen_ok, hm b o w]
  congr 2
  apply Array.ext'; simp
end Go.Eng
namespace Go.Eng
open Go
theorem mem_distincts : ∀ l : List Nat, l.Nodup → distincts l
  | [], _ => trivial
  | m :: r, h => by
    rw [List.nodup_cons] at h
    exact ⟨fun x hx e => h.1 (by rw [e]; exact hx), mem_distincts r h.2⟩
theorem mem_allLt {nx : Nat} : ∀ l : List Nat, (∀ x ∈ l, x < nx) → allLt nx l
  | [], _ => trivial
  | m :: r, h => ⟨h m (by simp), mem_allLt r fun x hx => h x (by simp [hx])⟩
theorem fmap_get : ∀ (l : List Nat) (nx n : Nat) (h : n < l.length), fmap l nx n = l[n]
  | m :: r, nx, 0, h => rfl
  | m :: r, nx, n + 1, h => by simp only [fmap, List.getElem_cons_succ]; exact fmap_get r nx n (by simpa using h)
theorem fmap_range (N : Nat) : fmap (List.range N) N = fun n => n := by
  funext n
  rcases Nat.lt_or_ge n N with h | h
  · rw [fmap_get _ _ _ (by simpa using h)]; simp
  · rw [fmap_ge _ _ _ (by simpa using h)]; simp; omega
theorem idTo_range (N : Nat) : ∀ k, idTo (List.range N) N k
  | 0 => trivial
  | k + 1 => ⟨by rw [fmap_range], idTo_range N k⟩

/-- The end where no name has turned. -/
theorem Fin.ids {R : SV → SS → Prop} {sv : SV} {s : SS} (psv : SV) (post : SS) (h1 : post.nx = s.nx) (h2 : post.k = s.k) (h3 : s.k ≤ s.nx)
    (h : W false (fun n => n) psv sv ∧ hpSub false (fun n => n) s.hp post.hp ∧ tkSub (fun n => n) s.tk post.tk ∧ rsSub (fun n => n) s.rs post.rs) (hR : R psv post) : Fin R sv s := by
  refine .inl ⟨List.range s.nx, psv, post, ⟨mem_distincts _ List.nodup_range, mem_allLt _ (fun x hx => List.mem_range.1 hx), by simp [h1], h2, by rw [h1, h2]; exact h3, idTo_range _ _⟩, ?_⟩
  rw [fmap_range]
  exact ⟨h.1, h.2.1, h.2.2.1, h.2.2.2, hR⟩
theorem W_same : ∀ x : SV, W false (fun n => n) x x := W_self fun _ => rfl
end Go.Eng
/- The engine, part Z: a part of a state as one resource; calls through an interface value whose content is not seen. -/
namespace Go.Eng
open Go
set_option linter.unusedVariables false
set_option linter.unusedSimpArgs false

structure PartOK (H : SS) (root : Nat) (μ : Addr → Option Value) (F : Nat → Prop) (w : World) (ρ : Nat → Option Nat) (θ : Nat → Option (Nat × Value)) (κ : Nat → Option Key) : Prop where
  root : ρ 0 = some root
  nxρ : ∀ n, H.nx ≤ n → ρ n = none
  nxθ : ∀ n, H.nx ≤ n → θ n = none
  hp : ∀ n T ls, hfind H.hp n = some (T, ls) → ∃ b cs, ρ n = some b ∧ w.heap[b]? = some (.cells cs T (0, 0)) ∧ (∀ E' : Env, E'.ρ = ρ → E'.θ = θ → E'.μ = μ → DenL E' ls cs.toList) ∧ κ b = some (.blk n)
  tk : ∀ τ, τ ∈ H.tk → ∃ sz a len cap, θ τ = some (sz, .slice a len cap) ∧ len ≤ cap ∧ ((cap = len ∧ a = none) ∨ ∃ b off T cs, a = some ⟨b, off, none⟩ ∧ κ b = some (.tok τ) ∧ Row w b cs T ∧ off + cap * sz ≤ cs.size ∧ ∀ ad v, μ ad = some v → ad.block = b → ad.off < off + len * sz)
  rs : ∀ r R, (r, R) ∈ H.rs → ∃ G, R.holds μ G w ∧ ∀ b, G b → κ b = some (.res r)
  mu : ∀ a v, μ a = some v → ∀ n, κ a.block ≠ some (.blk n)
  dom : ∀ b key, κ b = some key → F b

/-- A part of a state, whose first name stands for block 'root', as one resource. -/
def SS.res (H : SS) (root : Nat) : Res where
  holds μ F w := ∃ ρ θ κ, PartOK H root μ F w ρ θ κ
  next μ μ' F w w' := by
    rintro ⟨ρ, θ, κ, h⟩ hk hμ hn
    refine ⟨ρ, θ, κ, h.root, h.nxρ, h.nxθ, fun n T ls e => ?_, fun τ hτ => ?_, fun r R hr => ?_, fun a v e n hb => ?_, h.dom⟩
    · obtain ⟨b, cs, q1, q2, q3, q4⟩ := h.hp n T ls e
      refine ⟨b, cs, q1, ?_, fun E' e1 e2 e3 => DenL.mono0 (E := { E' with μ := μ }) (E' := E') ⟨fun _ _ h => h, fun _ _ h => h, fun a v h => by rw [e3]; exact hμ a v h, fun _ h => h⟩ _ _ (q3 _ e1 e2 rfl), q4⟩
      rcases hk b (h.dom _ _ q4) with e' | ⟨⟨a, v, e', e2⟩, _⟩
      · rw [e']; exact q2
      · exact absurd (by rw [e2]; exact q4) (h.mu a v e' n)
    · obtain ⟨sz, a, len, cap, q1, q2, q3⟩ := h.tk τ hτ
      refine ⟨sz, a, len, cap, q1, q2, ?_⟩
      rcases q3 with q3 | ⟨b, off, T, cs, q4, q5, q6, q7, q8⟩
      · exact .inl q3
      · have hF := h.dom _ _ q5
        refine .inr ⟨b, off, T, cs, q4, q5, ?_, q7, fun ad v e hb => ?_⟩
        · rcases hk b hF with e' | ⟨_, cs', T', fz, fz', m1, m2, m3⟩
          · exact q6.congr e'
          · obtain ⟨fz0, i1, i2⟩ := q6
            rw [m1] at i1
            injection i1 with i1
            injection i1 with j1 j2 j3
            subst j1 j2 j3
            exact ⟨fz', m2, .inr (m3 i2)⟩
        · rcases hn ad v e with e' | e'
          · exact q8 ad v e' hb
          · rw [hb] at e'; exact absurd hF e'
    · obtain ⟨G, q1, q2⟩ := h.rs r R hr
      refine ⟨G, R.next μ μ' G w w' q1 (fun b hb => hk b (h.dom _ _ (q2 b hb))) hμ (fun a v e => ?_), q2⟩
      rcases hn a v e with e' | e'
      · exact .inl e'
      · exact .inr fun hG => e' (h.dom _ _ (q2 _ hG))
    · rcases hn a v e with e' | e'
      · exact h.mu a v e' n hb
      · exact e' (h.dom _ _ hb)

/-- What is asked to fold names 'im' of a state into one resource. -/
def FoldW (H : SS) (im : List Nat) (s : SS) : Prop :=
  distincts im ∧ allLt s.nx im ∧ im.length = H.nx ∧ H.lt H.nx ∧ hpSub true (fmap im s.nx) s.hp H.hp ∧ tkSub (fmap im s.nx) s.tk H.tk ∧ rsSub (fmap im s.nx) s.rs H.rs

def imN (im : List Nat) (nx : Nat) (n : Nat) : Prop := n < im.length
theorem finv_im {im : List Nat} {nx : Nat} (hd : distincts im) (hl : allLt nx im) {m : Nat} : (∃ n, finv (fmap im nx) (imN im nx) m = some n) ↔ m ∈ im := by
  constructor
  · rintro ⟨n, h⟩
    obtain ⟨h1, h2⟩ := finv_some h
    rw [← h2]
    exact (fmap_lt im nx n hl h1).1
  · intro h
    obtain ⟨n, hn, e⟩ := List.getElem_of_mem h
    refine ⟨n, ?_⟩
    rw [← e, ← fmap_get im nx n hn]
    exact finv_of (fmap_inj im nx hd hl) hn

/-- The part holds. -/
theorem fold_part {E : Env} {s : SS} {w : World} (hw : Good E s w) {κ : Nat → Option Key} (ho : Owns E s w κ) {H : SS} {im : List Nat} (h : FoldW H im s) {root : Nat} (hroot : E.ρ (fmap im s.nx 0) = some root) :
    PartOK H root E.μ (fun b => ∃ key, (κ b).bind (Key.ren (finv (fmap im s.nx) (imN im s.nx))) = some key) w (fun n => E.ρ (fmap im s.nx n)) (fun n => E.θ (fmap im s.nx n)) (fun b => (κ b).bind (Key.ren (finv (fmap im s.nx) (imN im s.nx)))) := by
  obtain ⟨h1, h2, h3, ⟨h4, h4', h4''⟩, h5, h6, h7⟩ := h
  have hinj := fmap_inj im s.nx h1 h2
  have hN : ∀ n, n < H.nx → imN im s.nx n := fun n hn => by unfold imN; omega
  have hge : ∀ n, H.nx ≤ n → s.nx ≤ fmap im s.nx n := fun n hn => by rw [fmap_ge im s.nx n (by omega)]; omega
  have hp : ∀ E' : Env, E'.ρ = (fun n => E.ρ (fmap im s.nx n)) → E'.θ = (fun n => E.θ (fmap im s.nx n)) → E'.μ = E.μ → Pull true (fmap im s.nx) E E' := fun E' e1 e2 e3 => ⟨fun n => by rw [e1], fun n => by rw [e2], e3, fun h => by cases h⟩
  refine ⟨hroot, fun n hn => hw.nxρ _ (hge n hn), fun n hn => hw.nxθ _ (hge n hn), fun n T ls e => ?_, fun τ hτ => ?_, fun r R hr => ?_, fun a v e n => ?_, fun b key e => ⟨key, e⟩⟩
  · obtain ⟨ls', q1, q2⟩ := hpSub_find h5 n T ls e
    obtain ⟨b, cs, k1, k2, k3, k4, k5⟩ := ho.hp _ _ _ q1
    exact ⟨b, cs, k1, k2, fun E' e1 e2 e3 => WL_den (hp E' e1 e2 e3) _ _ _ q2 k3, by simp [k4, Key.ren, finv_of hinj (hN n (hpLt_find h4 n T ls e))]⟩
  · obtain ⟨sz, a, len, cap, k1, k2, k3⟩ := ho.tk _ (tkSub_mem h6 τ hτ)
    refine ⟨sz, a, len, cap, k1, k2, ?_⟩
    rcases k3 with k3 | ⟨b, off, T, cs, k4, k5, k6, k7, k8, k9⟩
    · exact .inl k3
    · exact .inr ⟨b, off, T, cs, k4, by simp [k5, Key.ren, finv_of hinj (hN τ (allLt_mem h4' τ hτ))], k7, k8, k9⟩
  · obtain ⟨F, k1, k2⟩ := ho.rs _ _ (rsSub_mem h7 r R hr)
    exact ⟨F, k1, fun b hb => by simp [(k2 b hb).2.1, Key.ren, finv_of hinj (hN r (rsLt_mem h4'' r R hr))]⟩
  · intro e'
    have := ho.mu a v e
    cases hk : κ a.block with
    | none => simp [hk] at e'
    | some key =>
      cases key with
      | blk m => exact this m hk
      | tok m => simp [hk, Key.ren] at e'
      | res m => simp [hk, Key.ren] at e'

/-- Parts of a state have become one resource, of name r. -/
def SS.fold (s : SS) (H : SS) (im : List Nat) (root : Nat) : SS :=
  { s with hp := hpDel im s.hp, tk := tkDelL im s.tk, rs := (s.nx, H.res root) :: rsDel im s.rs, nx := s.nx + 1 }

theorem Good.fold {E : Env} {s : SS} {w : World} (hw : Good E s w) {H : SS} {im : List Nat} (h : FoldW H im s) {root : Nat} (hroot : E.ρ (fmap im s.nx 0) = some root) : Good E (s.fold H im root) w := by
  obtain ⟨κ, ho⟩ := hw.own
  have hpart := fold_part hw ho h hroot
  obtain ⟨h1, h2, h3, ⟨h4, h4', h4''⟩, h5, h6, h7⟩ := h
  have hmem : ∀ (key : Key), (∃ key', Key.ren (finv (fmap im s.nx) (imN im s.nx)) key = some key') ↔ key.name ∈ im := by
    intro key
    rw [← finv_im h1 h2]
    cases key <;> simp only [Key.ren, Key.name, Option.map_eq_some_iff] <;> constructor <;> rintro ⟨x, hx⟩
    · obtain ⟨n, e, _⟩ := hx; exact ⟨n, e⟩
    · exact ⟨_, x, hx, rfl⟩
    · obtain ⟨n, e, _⟩ := hx; exact ⟨n, e⟩
    · exact ⟨_, x, hx, rfl⟩
    · obtain ⟨n, e, _⟩ := hx; exact ⟨n, e⟩
    · exact ⟨_, x, hx, rfl⟩
  let κ2 : Nat → Option Key := fun b => match κ b with | some key => if key.name ∈ im then some (.res s.nx) else some key | none => none
  have k2o : ∀ b key, κ b = some key → key.name ∉ im → κ2 b = some key := fun b key h hn => by simp only [κ2, h]; rw [if_neg hn]
  have k2i : ∀ b key, κ b = some key → key.name ∈ im → κ2 b = some (.res s.nx) := fun b key h hn => by simp only [κ2, h]; rw [if_pos hn]
  have k2blk : ∀ b n, κ2 b = some (.blk n) → κ b = some (.blk n) := fun b n e => by
    simp only [κ2] at e
    cases hk : κ b with
    | none => simp [hk] at e
    | some key =>
      simp only [hk] at e
      split at e
      · cases e
      · exact e
  refine ⟨hw.k, Nat.le_succ_of_le hw.kx, hw.os, hw.tape, hw.output, hw.size, hw.old, hw.mu, fun n hn => hw.nxρ n (by simp only [SS.fold] at hn; omega), fun n hn => hw.nxθ n (by simp only [SS.fold] at hn; omega), κ2, fun n T ls e => ?_, fun τ hτ => ?_, fun r R hr => ?_, fun a v e n e' => ho.mu a v e n (k2blk _ _ e'), fun b key e => ?_⟩
  · obtain ⟨q1, q2⟩ := hpDel_find im _ n T ls e
    obtain ⟨b, cs, k1, k2, k3, k4, k5⟩ := ho.hp _ _ _ q1
    exact ⟨b, cs, k1, k2, k3, k2o b _ k4 q2, k5⟩
  · obtain ⟨q1, q2⟩ := tkDelL_mem im _ _ hτ
    obtain ⟨sz, a, len, cap, k1, k2, k3⟩ := ho.tk _ q1
    refine ⟨sz, a, len, cap, k1, k2, ?_⟩
    rcases k3 with k3 | ⟨b, off, T, cs, k4, k5, k6, k7, k8, k9⟩
    · exact .inl k3
    · exact .inr ⟨b, off, T, cs, k4, k2o b _ k5 q2, k6, k7, k8, k9⟩
  · rcases List.mem_cons.1 hr with e | hr
    · simp only [Prod.mk.injEq] at e
      obtain ⟨rfl, rfl⟩ := e
      refine ⟨_, ⟨_, _, _, hpart⟩, fun b hb => ?_⟩
      obtain ⟨key, hb⟩ := hb
      cases hk : κ b with
      | none => simp [hk] at hb
      | some key0 =>
        simp only [hk, Option.bind_some] at hb
        have := (hmem key0).1 ⟨_, hb⟩
        exact ⟨(ho.dom _ _ hk).1, k2i b _ hk this, (ho.dom _ _ hk).2⟩
    · obtain ⟨q1, q2⟩ := rsDel_mem im _ _ _ hr
      obtain ⟨F, k1, k2⟩ := ho.rs _ _ q1
      exact ⟨F, k1, fun b hb => ⟨(k2 b hb).1, k2o b _ (k2 b hb).2.1 q2, (k2 b hb).2.2⟩⟩
  · simp only [κ2] at e
    cases hk : κ b with
    | none => simp [hk] at e
    | some key0 => exact ho.dom _ _ hk

mutual
/-- The pointer to block n, seen as a plain value. -/
def rawV (n b : Nat) : SV → SV
  | .ptr m o => if m = n then .raw (.pointer (some ⟨b, o, none⟩)) else .ptr m o
  | .ifc t x => .ifc t (rawV n b x)
  | .agg l => .agg (rawL n b l)
  | .tup l => .tup (rawL n b l)
  | x => x
def rawL (n b : Nat) : List SV → List SV
  | [] => []
  | x :: r => rawV n b x :: rawL n b r
end
mutual
theorem rawV_den {E : Env} {n b : Nat} (h : E.ρ n = some b) : ∀ (x : SV) (v : Value), Den E x v → Den E (rawV n b x) v
  | .ptr m o, v, hd => by
    simp only [rawV]
    split
    · rename_i e
      subst e
      simp only [Den] at hd ⊢
      obtain ⟨b', h1, h2⟩ := hd
      rw [h] at h1
      injection h1 with h1
      rw [h2, h1]
    · exact hd
  | .ifc t x, v, hd => by
    simp only [rawV, Den] at hd ⊢
    obtain ⟨y, h1, h2⟩ := hd
    exact ⟨y, h1, rawV_den h x y h2⟩
  | .agg l, v, hd => by
    simp only [rawV, Den] at hd ⊢
    obtain ⟨cs, h1, h2⟩ := hd
    exact ⟨cs, h1, rawL_den h l cs h2⟩
  | .tup l, v, hd => by
    simp only [rawV, Den] at hd ⊢
    obtain ⟨cs, h1, h2⟩ := hd
    exact ⟨cs, h1, rawL_den h l cs h2⟩
  | .i _ _, v, hd => by simpa only [rawV] using hd
  | .b _, v, hd => by simpa only [rawV] using hd
  | .s _, v, hd => by simpa only [rawV] using hd
  | .nilp, v, hd => by simpa only [rawV] using hd
  | .ints _ _ _, v, hd => by simpa only [rawV] using hd
  | .sl _ _ _ _, v, hd => by simpa only [rawV] using hd
  | .ep _ _, v, hd => by simpa only [rawV] using hd
  | .nili, v, hd => by simpa only [rawV] using hd
  | .fn _ _ _, v, hd => by simpa only [rawV] using hd
  | .nilf, v, hd => by simpa only [rawV] using hd
  | .raw _, v, hd => by simpa only [rawV] using hd
  | .cnd _ _, v, hd => by simpa only [rawV] using hd
  | .any, v, hd => by simpa only [rawV] using hd
theorem rawL_den {E : Env} {n b : Nat} (h : E.ρ n = some b) : ∀ (l : List SV) (cs : List Value), DenL E l cs → DenL E (rawL n b l) cs
  | [], [], _ => by simp only [rawL, DenL]
  | x :: xs, v :: vs, hd => by
    simp only [rawL, DenL] at hd ⊢
    exact ⟨rawV_den h x v hd.1, rawL_den h xs vs hd.2⟩
  | [], _ :: _, hd => by simp only [DenL] at hd
  | _ :: _, [], hd => by simp only [DenL] at hd
end
def rawHp (n b : Nat) : List (Nat × TypeId × List SV) → List (Nat × TypeId × List SV)
  | [] => []
  | (m, T, ls) :: r => (m, T, rawL n b ls) :: rawHp n b r
theorem rawHp_find {n b : Nat} : ∀ (l : List (Nat × TypeId × List SV)) (m : Nat) (T : TypeId) (ls : List SV), hfind (rawHp n b l) m = some (T, ls) → ∃ ls', hfind l m = some (T, ls') ∧ ls = rawL n b ls'
  | [], m, T, ls, h => by simp [rawHp, hfind] at h
  | (m', T', ls') :: r, m, T, ls, h => by
    simp only [rawHp, hfind] at h ⊢
    split at h
    · rename_i e
      simp only [Option.some.injEq, Prod.mk.injEq] at h
      obtain ⟨rfl, rfl⟩ := h
      exact ⟨ls', by rw [if_pos e], rfl⟩
    · rename_i e
      rw [if_neg e]
      exact rawHp_find r m T ls h
/-- Everywhere. -/
def SS.rawAll (s : SS) (n b : Nat) : SS := { s with fr := rawL n b s.fr, hp := rawHp n b s.hp }

/-- Parts of a state are folded into one resource; pointers to its first block are plain values from then on. -/
theorem fold_ok {P : Program} {B : Ctx} {c : Code} {s : SS} {K : Ex → SS → Prop} (H : SS) (im : List Nat) (h : FoldW H im s) {T : TypeId} {ls : List SV} (h0 : hfind s.hp (fmap im s.nx 0) = some (T, ls))
    (hc : ∀ b, CodeOK P B c ((s.fold H im b).rawAll (fmap im s.nx 0) b) K) : CodeOK P B c s K := by
  intro E a w hb hf hw
  obtain ⟨κ, ho⟩ := hw.own
  obtain ⟨b, cs, k1, k2, k3, k4, k5⟩ := ho.hp _ _ _ h0
  have hg := hw.fold h k1
  obtain ⟨κ2, ho2⟩ := hg.own
  refine hc b E a w hb ⟨rawL_den k1 _ _ hf.tmps, hf.defers⟩ ⟨hg.k, hg.kx, hg.os, hg.tape, hg.output, hg.size, hg.old, hg.mu, hg.nxρ, hg.nxθ, κ2, fun n T' ls' e => ?_, ho2.tk, ho2.rs, ho2.mu, ho2.dom⟩
  obtain ⟨ls0, e1, rfl⟩ := rawHp_find _ _ _ _ e
  obtain ⟨b', cs', q1, q2, q3, q4, q5⟩ := ho2.hp _ _ _ e1
  exact ⟨b', cs', q1, q2, rawL_den k1 _ _ q3, q4, q5⟩

/-- A resource is opened. -/
def SS.unfold (s : SS) (r : Nat) (H : SS) : SS :=
  { s with hp := hpRen (fmap [] s.nx) H.hp s.hp, tk := tkRen (fmap [] s.nx) H.tk s.tk, rs := rsRen (fmap [] s.nx) H.rs (rsCut s.rs r), nx := s.nx + H.nx }

theorem Good.unfold {E : Env} {s : SS} {w : World} (hw : Good E s w) {r root : Nat} {H : SS} (hr : (r, H.res root) ∈ s.rs) (hH : H.lt H.nx) :
    ∃ E', E.Le E' ∧ E'.ρ s.nx = some root ∧ Good E' (s.unfold r H) w := by
  obtain ⟨κ, ho⟩ := hw.own
  obtain ⟨F, ⟨ρ, θ, κH, hp⟩, hF⟩ := ho.rs _ _ hr
  obtain ⟨h4, h4', h4''⟩ := hH
  have fm : ∀ n, fmap [] s.nx n = s.nx + n := fun n => rfl
  have hinj : ∀ n m, fmap [] s.nx n = fmap [] s.nx m → n = m := fun n m e => by rw [fm, fm] at e; omega
  let E' : Env := { E with ρ := fun n => if n < s.nx then E.ρ n else ρ (n - s.nx), θ := fun n => if n < s.nx then E.θ n else θ (n - s.nx) }
  have hle : E.Le E' := by
    refine ⟨rfl, rfl, rfl, fun n b e => ?_, fun n v e => ?_, fun _ _ h => h, fun _ _ h => .inl h, fun n hn => if_pos (by have := hw.k; have := hw.kx; omega), fun n hn => if_pos (by have := hw.k; have := hw.kx; omega), rfl⟩
    · have : n < s.nx := by
        rcases Nat.lt_or_ge n s.nx with h | h
        · exact h
        · rw [hw.nxρ n h] at e; cases e
      show (if n < s.nx then E.ρ n else _) = _
      rw [if_pos this]; exact e
    · have : n < s.nx := by
        rcases Nat.lt_or_ge n s.nx with h | h
        · exact h
        · rw [hw.nxθ n h] at e; cases e
      show (if n < s.nx then E.θ n else _) = _
      rw [if_pos this]; exact e
  have hlater : Later (fmap [] s.nx) { E with ρ := ρ, θ := θ } E' := by
    refine ⟨fun n b e => ?_, fun n b e => ?_, fun a v e => e, fun _ h => h⟩
    · show (if s.nx + n < s.nx then _ else ρ (s.nx + n - s.nx)) = _
      rw [if_neg (by omega), show s.nx + n - s.nx = n by omega]; exact e
    · show (if s.nx + n < s.nx then _ else θ (s.nx + n - s.nx)) = _
      rw [if_neg (by omega), show s.nx + n - s.nx = n by omega]; exact e
  refine ⟨E', hle, ?_, ?_⟩
  · show (if s.nx < s.nx then _ else ρ (s.nx - s.nx)) = _
    rw [if_neg (by omega), Nat.sub_self]; exact hp.root
  let ren' : Key → Key := fun | .blk n => .blk (s.nx + n) | .tok n => .tok (s.nx + n) | .res n => .res (s.nx + n)
  open Classical in
  let κ2 : Nat → Option Key := fun b => if F b then (κH b).map ren' else κ b
  have k2m : ∀ b, F b → κ2 b = (κH b).map ren' := fun b h => if_pos h
  have k2o : ∀ b, ¬ F b → κ2 b = κ b := fun b h => if_neg h
  have far : ∀ b key, κ b = some key → (∀ n, key ≠ .res n) → ¬ F b := fun b key e hk hb => by
    rw [(hF b hb).2.1] at e
    injection e with e
    exact hk r e.symm
  refine ⟨hw.k, Nat.le_trans hw.kx (Nat.le_add_right _ _), hw.os, hw.tape, hw.output, hw.size, hw.old, hw.mu, fun n hn => ?_, fun n hn => ?_, κ2, fun n T ls e => ?_, fun τ hτ => ?_, fun r' R hr' => ?_, fun a v e n e' => ?_, fun b key e => ?_⟩
  · have hn' : s.nx + H.nx ≤ n := hn
    show (if n < s.nx then E.ρ n else ρ (n - s.nx)) = none
    rw [if_neg (by omega)]; exact hp.nxρ _ (by omega)
  · have hn' : s.nx + H.nx ≤ n := hn
    show (if n < s.nx then E.θ n else θ (n - s.nx)) = none
    rw [if_neg (by omega)]; exact hp.nxθ _ (by omega)
  · have e' : hfind (hpRen (fmap [] s.nx) H.hp s.hp) n = some (T, ls) := e
    rcases hpRen_find hinj _ _ n T ls e' with ⟨m, ls', rfl, q1, rfl⟩ | q
    · obtain ⟨b, cs, k1, k2, k3, k4⟩ := hp.hp _ _ _ q1
      have hFb := hp.dom _ _ k4
      exact ⟨b, cs, hlater.ρ _ _ k1, k2, DenL.ren hlater _ _ (k3 { E with ρ := ρ, θ := θ } rfl rfl rfl), by rw [k2m b hFb, k4]; rfl, (hF b hFb).2.2⟩
    · obtain ⟨b, cs, k1, k2, k3, k4, k5⟩ := ho.hp _ _ _ q
      exact ⟨b, cs, hle.ρ _ _ k1, k2, DenL.mono hle _ _ k3, by rw [k2o b (far b _ k4 (by simp))]; exact k4, k5⟩
  · have hτ' : τ ∈ tkRen (fmap [] s.nx) H.tk s.tk := hτ
    rcases tkRen_mem _ _ _ hτ' with ⟨n, q1, rfl⟩ | q
    · obtain ⟨sz, a, len, cap, k1, k2, k3⟩ := hp.tk _ q1
      refine ⟨sz, a, len, cap, hlater.θ _ _ k1, k2, ?_⟩
      rcases k3 with k3 | ⟨b, off, T, cs, k4, k5, k6, k7, k8⟩
      · exact .inl k3
      · have hFb := hp.dom _ _ k5
        exact .inr ⟨b, off, T, cs, k4, by rw [k2m b hFb, k5]; rfl, (hF b hFb).2.2, k6, k7, k8⟩
    · obtain ⟨sz, a, len, cap, k1, k2, k3⟩ := ho.tk _ q
      refine ⟨sz, a, len, cap, hle.θ _ _ k1, k2, ?_⟩
      rcases k3 with k3 | ⟨b, off, T, cs, k4, k5, k6, k7, k8, k9⟩
      · exact .inl k3
      · exact .inr ⟨b, off, T, cs, k4, by rw [k2o b (far b _ k5 (by simp))]; exact k5, k6, k7, k8, k9⟩
  · have hr2 : (r', R) ∈ rsRen (fmap [] s.nx) H.rs (rsCut s.rs r) := hr'
    rcases rsRen_mem _ _ _ _ hr2 with ⟨n, q1, rfl⟩ | q
    · obtain ⟨G, k1, k2⟩ := hp.rs _ _ q1
      exact ⟨G, k1, fun b hb => ⟨(hF b (hp.dom _ _ (k2 b hb))).1, by rw [k2m b (hp.dom _ _ (k2 b hb)), k2 b hb]; rfl, (hF b (hp.dom _ _ (k2 b hb))).2.2⟩⟩
    · obtain ⟨q1, q2⟩ := rsCut_mem q
      obtain ⟨G, k1, k2⟩ := ho.rs _ _ q2
      refine ⟨G, k1, fun b hb => ⟨(k2 b hb).1, ?_, (k2 b hb).2.2⟩⟩
      rw [k2o b]
      · exact (k2 b hb).2.1
      · intro hFb
        have := (hF b hFb).2.1
        rw [(k2 b hb).2.1] at this
        injection this with this
        injection this with this
        exact q1 this
  · by_cases hFb : F a.block
    · rw [k2m _ hFb] at e'
      cases hk : κH a.block with
      | none => simp [hk] at e'
      | some key =>
        cases key with
        | blk m => exact hp.mu a v e m hk
        | tok m => simp [hk, ren'] at e'
        | res m => simp [hk, ren'] at e'
    · rw [k2o _ hFb] at e'
      exact ho.mu a v e n e'
  · by_cases hFb : F b
    · exact ⟨(hF b hFb).1, (hF b hFb).2.2⟩
    · rw [k2o _ hFb] at e
      exact ho.dom b key e

/-- A resource is opened; the variables js, its first block's pointer, are pointers to it. -/
def ptrAt (n : Nat) : List Nat → List SV → List SV
  | [], fr => fr
  | j :: js, fr => ptrAt n js (lset fr j (.ptr n 0))
def rawsAt (root : Nat) (fr : List SV) : List Nat → Prop
  | [] => True
  | j :: js => lget fr j = .raw (.pointer (some ⟨root, 0, none⟩)) ∧ rawsAt root fr js
theorem ptrAt_den {E : Env} {n root : Nat} (h : E.ρ n = some root) : ∀ (js : List Nat) (fr : List SV) (cs : List Value), DenL E fr cs → (∀ j, j ∈ js → Den E (.ptr n 0) (cs[j]?.getD undef)) → DenL E (ptrAt n js fr) cs
  | [], fr, cs, hd, _ => hd
  | j :: js, fr, cs, hd, hj => by
    refine ptrAt_den h js _ cs ?_ (fun i hi => hj i (by simp [hi]))
    have := hj j (by simp)
    by_cases hlt : j < cs.length
    · rw [List.getElem?_eq_getElem hlt, Option.getD_some] at this
      have h2 := denL_set fr cs j (.ptr n 0) cs[j] hd this
      rw [List.set_getElem_self] at h2
      exact h2
    · rw [List.getElem?_eq_none (by omega)] at this
      simp only [Den, Option.getD_none, undef] at this
      obtain ⟨b, _, e⟩ := this
      cases e
theorem unfold_ok {P : Program} {B : Ctx} {c : Code} {s : SS} {K : Ex → SS → Prop} (r : Nat) (H : SS) (js : List Nat) {root : Nat} (hr : (r, H.res root) ∈ s.rs) (hH : H.lt H.nx) (hj : rawsAt root s.fr js)
    (hc : CodeOK P B c { s.unfold r H with fr := ptrAt s.nx js s.fr } K) : CodeOK P B c s K := by
  intro E a w hb hf hw
  obtain ⟨E', h1, h2, h3⟩ := hw.unfold hr hH
  have hraw : ∀ j, j ∈ js → lget s.fr j = .raw (.pointer (some ⟨root, 0, none⟩)) := by
    clear hc
    induction js with
    | nil => intro j h; simp at h
    | cons i r ih =>
      intro j h
      rcases List.mem_cons.1 h with rfl | h
      · exact hj.1
      · exact ih hj.2 j h
  have hden := DenL.mono h1 _ _ hf.tmps
  have := wpIn_mono (hc E' a w (hb.ext h1.ext) ⟨ptrAt_den h2 js _ _ hden (fun j hjm => ?_), hf.defers⟩ ⟨h3.k, h3.kx, h3.os, h3.tape, h3.output, h3.size, h3.old, h3.mu, h3.nxρ, h3.nxθ, let ⟨κ, k⟩ := h3.own; ⟨κ, k.hp, k.tk, k.rs, k.mu, k.dom⟩⟩) (fun e a' w' h => QK.mono h1.ext (fun _ _ h => h) h)
  · exact this
  · have := denL_get s.fr a.tmps.toList j undef hf.tmps
    rw [hraw j hjm] at this
    simp only [Den] at this ⊢
    exact ⟨root, h2, this⟩
end Go.Eng
/- The engine, part FA: contracts over resources; methods of interface values whose content is not seen. -/
namespace Go.Eng
open Go
set_option linter.unusedVariables false
set_option linter.unusedSimpArgs false

def NNT : Tag → Prop
  | .tok _ _ => False
  | _ => True
mutual
/-- No name stands in it. -/
def NN : SV → Prop
  | .ints _ t _ => NNT t
  | .sl _ t _ el => NNT t ∧ ∀ i j, NN (el i j)
  | .ep _ g => ∀ d, NN (g d)
  | .ptr _ _ => False
  | .agg l => NNL l
  | .tup l => NNL l
  | .ifc _ x => NN x
  | .fn _ a c => NNL a ∧ NNL c
  | .cnd _ x => NN x
  | _ => True
def NNL : List SV → Prop
  | [] => True
  | x :: r => NN x ∧ NNL r
end
structure LeN (E E' : Env) : Prop where
  μ : ∀ a v, E.μ a = some v → E'.μ a = some v
  mt : ∀ b, E.Z b → E'.Z b
theorem TagOK.nn {E E' : Env} (h : LeN E E') {sz : Nat} {v : Value} : ∀ {t : Tag}, NNT t → TagOK E sz v t → TagOK E' sz v t
  | .old, _, k => trivial
  | .new, _, k => fun a n c e => h.mt _ (k a n c e)
  | .nil, _, k => k
  | .tok _ _, hn, _ => by simp only [NNT] at hn
mutual
theorem Den.nn {E E' : Env} (h : LeN E E') : ∀ (x : SV) (v : Value), NN x → Den E x v → Den E' x v
  | .i k n, v, _, hd => by simpa only [Den] using hd
  | .b c, v, _, hd => by simpa only [Den] using hd
  | .s x, v, _, hd => by simpa only [Den] using hd
  | .ptr n off, v, hn, hd => by simp only [NN] at hn
  | .nilp, v, _, hd => by simpa only [Den] using hd
  | .ints k tg l, v, hn, hd => by
      simp only [Den] at hd ⊢
      simp only [NN] at hn
      obtain ⟨a, cap, h1, h2, h3, h4, h5⟩ := hd
      exact ⟨a, cap, h1, h2, h3, fun i x e => let ⟨b, off, p, q⟩ := h4 i x e; ⟨b, off, p, h.μ _ _ q⟩, h5.nn h hn⟩
  | .sl sz tg n el, v, hn, hd => by
      simp only [Den] at hd ⊢
      simp only [NN] at hn
      obtain ⟨a, cap, h1, h2, h3, h4, h5⟩ := hd
      refine ⟨a, cap, h1, h2, h3, fun i hi => ?_, h5.nn h hn.1⟩
      obtain ⟨b, off, p, q⟩ := h4 i hi
      refine ⟨b, off, p, fun j hj => ?_⟩
      obtain ⟨x, r, s⟩ := q j hj
      exact ⟨x, h.μ _ _ r, Den.nn h (el i j) x (hn.2 i j) s⟩
  | .ep n get, v, hn, hd => by
      simp only [Den] at hd ⊢
      simp only [NN] at hn
      obtain ⟨b, off, p, q⟩ := hd
      refine ⟨b, off, p, fun d hd => ?_⟩
      obtain ⟨x, r, s⟩ := q d hd
      exact ⟨x, h.μ _ _ r, Den.nn h (get d) x (hn d) s⟩
  | .agg l, v, hn, hd => by
      simp only [Den] at hd ⊢
      simp only [NN] at hn
      obtain ⟨cs, p, q⟩ := hd
      exact ⟨cs, p, DenL.nn h l cs hn q⟩
  | .tup l, v, hn, hd => by
      simp only [Den] at hd ⊢
      simp only [NN] at hn
      obtain ⟨cs, p, q⟩ := hd
      exact ⟨cs, p, DenL.nn h l cs hn q⟩
  | .nili, v, _, hd => by simpa only [Den] using hd
  | .ifc t x, v, hn, hd => by
      simp only [Den] at hd ⊢
      simp only [NN] at hn
      obtain ⟨y, p, q⟩ := hd
      exact ⟨y, p, Den.nn h x y hn q⟩
  | .fn f first cap, v, hn, hd => by
      simp only [Den] at hd ⊢
      simp only [NN] at hn
      obtain ⟨fs, cs, p, q, r⟩ := hd
      exact ⟨fs, cs, p, DenL.nn h first fs hn.1 q, DenL.nn h cap cs hn.2 r⟩
  | .nilf, v, _, hd => by simpa only [Den] using hd
  | .raw x, v, _, hd => by simpa only [Den] using hd
  | .cnd g x, v, hn, hd => by
      simp only [Den] at hd ⊢
      simp only [NN] at hn
      exact ⟨fun e => Den.nn h x v hn (hd.1 e), hd.2⟩
  | .any, v, _, hd => by simp only [Den]
theorem DenL.nn {E E' : Env} (h : LeN E E') : ∀ (l : List SV) (cs : List Value), NNL l → DenL E l cs → DenL E' l cs
  | [], [], _, _ => by simp only [DenL]
  | x :: xs, v :: vs, hn, hd => by
      simp only [DenL] at hd ⊢
      simp only [NNL] at hn
      exact ⟨Den.nn h x v hn.1 hd.1, DenL.nn h xs vs hn.2 hd.2⟩
  | [], _ :: _, _, hd => by simp only [DenL] at hd
  | _ :: _, [], _, hd => by simp only [DenL] at hd
end

/-- One resource came in, or goes out. -/
def preR (R : Res) : SS := ⟨[], [], [], [(0, R)], 1, 1, []⟩

/-- What a call's end says. -/
def EndsAs (E : Env) (R : SV → SS → Prop) (e : Ending) (w' : World) : Prop := ∃ v E' post sv, e = .returned v ∧ E.Ext E' ∧ Good E' post w' ∧ Den E' sv v ∧ R sv post

/-- What a method's contract over the parts of its receiver says over the receiver as one resource. -/
def FoldR (root : Nat) (R : SV → SS → Prop) (sv : SV) (post : SS) : Prop :=
  ∃ H' im psv, FoldW H' im post ∧ fmap im post.nx 0 = 0 ∧ W false (fun n => n) psv sv ∧ NN psv ∧ R psv (preR (H'.res root))

theorem unfold_pre {E : Env} {w : World} {H : SS} {root : Nat} (hw0 : E.w0 = w) (hw : Good E (preR (H.res root)) w) (hk1 : 1 ≤ H.k) (hkx : H.k ≤ H.nx) :
    ∃ E1, E1.w0 = w ∧ E1.S0 = E.S0 ∧ E1.μ = E.μ ∧ E1.ρ 0 = some root ∧ Good E1 H w ∧ E1.k = H.k ∧ E1.Z = E.Z := by
  obtain ⟨κ, ho⟩ := hw.own
  obtain ⟨F, ⟨ρ, θ, κH, hp⟩, hF⟩ := ho.rs 0 (H.res root) (by simp [preR])
  refine ⟨⟨w, E.S0, ρ, θ, E.μ, H.k, E.Z, by rw [← hw0]; exact E.hZ⟩, rfl, rfl, rfl, hp.root, ⟨rfl, hkx, rfl, rfl, rfl, Nat.le_refl _, fun _ _ _ => rfl, hw.mu, hp.nxρ, hp.nxθ, κH, fun n T ls e => ?_, fun τ hτ => ?_, fun r R hr => ?_, hp.mu, fun b key e => ?_⟩, rfl, rfl⟩
  · obtain ⟨b, cs, q1, q2, q3, q4⟩ := hp.hp n T ls e
    have := (hF b (hp.dom _ _ q4)).2.2
    refine ⟨b, cs, q1, q2, q3 _ rfl rfl rfl, q4, ?_⟩
    unfold Mut at this ⊢
    rw [hw0] at this
    exact this
  · obtain ⟨sz, a, len, cap, q1, q2, q3⟩ := hp.tk τ hτ
    refine ⟨sz, a, len, cap, q1, q2, ?_⟩
    rcases q3 with q3 | ⟨b, off, T, cs, q4, q5, q6, q7, q8⟩
    · exact .inl q3
    · refine .inr ⟨b, off, T, cs, q4, q5, ?_, q6, q7, q8⟩
      have := (hF b (hp.dom _ _ q5)).2.2
      unfold Mut at this ⊢
      rw [hw0] at this
      exact this
  · obtain ⟨G, q1, q2⟩ := hp.rs r R hr
    refine ⟨G, q1, fun b hb => ?_⟩
    have h3 := hF b (hp.dom _ _ (q2 b hb))
    refine ⟨h3.1, q2 b hb, ?_⟩
    have := h3.2.2
    unfold Mut at this ⊢
    rw [hw0] at this
    exact this
  · have h3 := hF b (hp.dom _ _ e)
    refine ⟨h3.1, ?_⟩
    have := h3.2.2
    unfold Mut at this ⊢
    rw [hw0] at this
    exact this

theorem fold_post {E E1 E2 : Env} {w w' : World} {H0 : Res} {root : Nat} {R : SV → SS → Prop} {sv : SV} {post : SS} {v : Value} (hw0 : E.w0 = w) (hw : Good E (preR H0) w) (e1 : E1.w0 = w) (e2 : E1.S0 = E.S0) (e3 : E1.μ = E.μ) (e4 : E1.ρ 0 = some root) (e5 : E1.Z = E.Z) (hk : 1 ≤ E1.k)
    (hx : E1.Ext E2) (hp : Good E2 post w') (hd : Den E2 sv v) (hR : FoldR root R sv post) :
    ∃ E', E.Ext E' ∧ ∃ psv post', Good E' post' w' ∧ Den E' psv v ∧ R psv post' := by
  obtain ⟨H', im, psv, hf, h0, h1, h2, h3⟩ := hR
  have hroot : E2.ρ (fmap im post.nx 0) = some root := by rw [h0, hx.ρ 0 (by omega)]; exact e4
  obtain ⟨κ, ho⟩ := hp.own
  have hpart := fold_part hp ho hf hroot
  have hmt : ∀ b, Mut E2 b → Mut E b := fun b hb => by
    have := (Mut.ext hx).2 hb
    unfold Mut at this ⊢
    rw [e1, e2] at this
    rw [hw0]; exact this
  let E3 : Env := { E with μ := E2.μ }
  refine ⟨E3, ⟨rfl, fun _ _ => rfl, fun _ _ => rfl, rfl, rfl, fun a v e => hx.μ a v (by rw [e3]; exact e), fun a v e => ?_, rfl⟩, psv, _, ?_, ?_, h3⟩
  · rcases hx.μnew a v e with h | h
    · rw [e3] at h; exact .inl h
    · refine .inr ?_
      unfold Mut at h ⊢
      rw [e1, e2] at h
      rw [hw0]; exact h
  · have s1 := hp.size
    rw [hx.w0, e1] at s1
    refine ⟨hw.k, hw.kx, ?_, ?_, ?_, ?_, fun b hb hs => ?_, hp.mu, hw.nxρ, hw.nxθ, fun b => match κ b with | some key => (match Key.ren (finv (fmap im post.nx) (imN im post.nx)) key with | some _ => some (.res 0) | none => none) | none => none, fun n T ls e => by simp [preR, hfind] at e, fun τ hτ => by simp [preR] at hτ, fun r R hr => ?_, fun a v e n e' => ?_, fun b key e => ?_⟩
    · rw [hp.os, hx.w0, e1]; show w.os = E.w0.os; rw [hw0]
    · rw [hp.tape, hx.w0, e1]; show w.tape = E.w0.tape; rw [hw0]
    · rw [hp.output, hx.w0, e1]; show w.output = E.w0.output; rw [hw0]
    · show E.w0.heap.size ≤ _; rw [hw0]; exact s1
    · have hb' : b < E.w0.heap.size := hb
      have := hp.old b (by rw [hx.w0, e1, ← hw0]; exact hb') (fun h => hs (by rw [hx.S0, e2] at h; exact h))
      rw [this, hx.w0, e1]; show w.heap[b]? = E.w0.heap[b]?; rw [hw0]
    · simp only [preR, List.mem_cons, Prod.mk.injEq, List.not_mem_nil, or_false] at hr
      obtain ⟨rfl, rfl⟩ := hr
      refine ⟨_, ⟨_, _, _, hpart⟩, fun b hb => ?_⟩
      obtain ⟨key, hb⟩ := hb
      cases hk : κ b with
      | none => simp [hk] at hb
      | some key0 =>
        simp only [hk, Option.bind_some] at hb
        simp only [hb]
        exact ⟨(ho.dom _ _ hk).1, trivial, hmt _ (ho.dom _ _ hk).2⟩
    · split at e'
      · split at e' <;> cases e'
      · cases e'
    · cases hk : κ b with
      | none => simp [hk] at e
      | some key0 => exact ⟨(ho.dom _ _ hk).1, hmt _ (ho.dom _ _ hk).2⟩
  · exact Den.nn (E := E2) (E' := E3) ⟨fun _ _ h => h, fun b hb => by rw [hx.Z, e5] at hb; exact hb⟩ _ _ h2 (W_den (f := fun n => n) (imp := false) ⟨fun _ => rfl, fun _ => rfl, rfl, fun _ _ h => h⟩ _ _ _ h1 hd)

/-- A method's contract over its receiver as one resource. -/
theorem contract_res {P : Program} {f : FuncId} {H : SS} (root : Nat) {args : List SV} {R' R : SV → SS → Prop} (hk1 : 1 ≤ H.k) (hkx : H.k ≤ H.nx) (hC : Contract P f H (.ptr 0 0 :: args) R') (hn : NNL args)
    (hR : ∀ sv post, R' sv post → FoldR root R sv post) : Contract P f (preR (H.res root)) (.raw (.pointer (some ⟨root, 0, none⟩)) :: args) R := by
  intro E w vs hw0 hw hv
  obtain ⟨E1, e1, e2, e3, e4, e5, e6, e7⟩ := unfold_pre hw0 hw hk1 hkx
  have hv1 : DenL E1 (.ptr 0 0 :: args) vs := by
    cases vs with
    | nil => simp only [DenL] at hv
    | cons v0 vs =>
      simp only [DenL] at hv ⊢
      refine ⟨?_, DenL.nn ⟨fun a v e => by rw [e3]; exact e, fun b hb => by rw [e7]; exact hb⟩ _ _ hn hv.2⟩
      have := hv.1
      simp only [Den] at this ⊢
      exact ⟨root, e4, this⟩
  obtain ⟨q1, q2⟩ := hC E1 w vs e1 e5 hv1
  refine ⟨q1, q2.mono ?_⟩
  rintro e w' ⟨v, E2, post, sv, rfl, k1, k2, k3, k4⟩
  obtain ⟨E', r1, psv, post', r2, r3, r4⟩ := fold_post hw0 hw e1 e2 e3 e4 e7 (by omega) k1 k2 k3 (hR sv post k4)
  exact ⟨v, E', post', psv, rfl, r1, r2, r3, r4⟩

/-- A contract of a method that is called through an interface value of type t and content y. -/
def InvC (P : Program) (t : TypeId) (y : Value) (name : String) (pre : SS) (pargs : List SV) (R : SV → SS → Prop) : Prop :=
  ∀ E w vs, E.w0 = w → Good E pre w → DenL E pargs vs → ∃ f ars, (callMethod (.iface t y) name vs.toArray).run P w = .ok (.enter f ars) w ∧
    Calls P f ars w (fun e w' => ∃ v E' post sv, e = .returned v ∧ E.Ext E' ∧ Good E' post w' ∧ Den E' sv v ∧ R sv post)

theorem invC_of {P : Program} {t : TypeId} {name : String} {f : FuncId} (hm : MethodIs P t name f) {root : Nat} {pre : SS} {pargs : List SV} {R : SV → SS → Prop} (hC : Contract P f pre (.raw (.pointer (some ⟨root, 0, none⟩)) :: pargs) R) :
    InvC P t (.pointer (some ⟨root, 0, none⟩)) name pre pargs R := by
  intro E w vs hw0 hw hv
  obtain ⟨k1, k2⟩ := hC E w (.pointer (some ⟨root, 0, none⟩) :: vs) hw0 hw (by simp only [DenL, Den]; exact ⟨trivial, hv⟩)
  refine ⟨f, (.pointer (some ⟨root, 0, none⟩) :: vs).toArray, ?_, k2⟩
  rw [← k1]
  simp only [callMethod, Sem.run_bind, run_program, Result.andThen_ok, hm root 0 w]
  congr 2
  apply Array.ext'; simp

theorem InvC.mono {P : Program} {t : TypeId} {y : Value} {name : String} {pre : SS} {pargs : List SV} {R R' : SV → SS → Prop} (h : InvC P t y name pre pargs R) (hR : ∀ sv post, R sv post → R' sv post) : InvC P t y name pre pargs R' := by
  intro E w vs hw0 hw hv
  obtain ⟨f, ars, k1, k2⟩ := h E w vs hw0 hw hv
  exact ⟨f, ars, k1, k2.mono fun e w' ⟨v, E', post, sv, h1, h2, h3, h4, h5⟩ => ⟨v, E', post, sv, h1, h2, h3, h4, hR _ _ h5⟩⟩
theorem Contract.mono {P : Program} {f : FuncId} {pre : SS} {pargs : List SV} {R R' : SV → SS → Prop} (h : Contract P f pre pargs R) (hR : ∀ sv post, R sv post → R' sv post) : Contract P f pre pargs R' := by
  intro E w vs hw0 hw hv
  obtain ⟨k1, k2⟩ := h E w vs hw0 hw hv
  exact ⟨k1, k2.mono fun e w' ⟨v, E', post, sv, h1, h2, h3, h4, h5⟩ => ⟨v, E', post, sv, h1, h2, h3, h4, hR _ _ h5⟩⟩

/-- A callee's view of a caller's state, and back. -/
theorem lend {pre : SS} {pargs : List SV} {R : SV → SS → Prop} (im : List Nat) {st : SS} {args : List SV} {K : SV → SS → Prop} (h : CallW im pre pargs st args)
    (hK : ∀ sv post, R sv post → K (ren (fmap (im.take pre.k) st.nx) sv) (st.back (lentOf im st.nx pre) (im.take pre.k) post)) {E : Env} {w : World} {vs : List Value} (hw : Good E st w) (hv : DenL E args vs) :
    ∃ E', E'.w0 = w ∧ Good E' pre w ∧ DenL E' pargs vs ∧ ∀ e w', (∃ v E1 post sv, e = .returned v ∧ E'.Ext E1 ∧ Good E1 post w' ∧ Den E1 sv v ∧ R sv post) → CallPost E st K e w' := by
  obtain ⟨hd, hl, hlen, hk, hlt, h1, h2, h3, ha⟩ := h
  obtain ⟨κ, ho⟩ := hw.own
  have hinj := fmap_inj im st.nx hd hl
  let E' : Env := { w0 := w, S0 := fun b => ∃ key, κ b = some key ∧ key.name ∈ lentOf im st.nx pre, ρ := fun n => E.ρ (fmap im st.nx n), θ := fun n => E.θ (fmap im st.nx n), μ := E.μ, k := pre.k, Z := E.Z, hZ := fun b hb => E.hZ b (Nat.le_trans hw.size hb) }
  have hp : Pull false (fmap im st.nx) E E' := ⟨fun _ => rfl, fun _ => rfl, rfl, fun _ _ h => h⟩
  have hg : Good E' pre w := by
    refine ⟨rfl, hk, rfl, rfl, rfl, Nat.le_refl _, fun _ _ _ => rfl, hw.mu, fun n hn => hw.nxρ _ ?_, fun n hn => hw.nxθ _ ?_, _, ho.pull hinj hp h1 h2 h3 (fun n => fmap im st.nx n ∈ lentOf im st.nx pre) (fun n T ls e => List.mem_append_left _ (lentHp_find _ _ n T ls e)) (fun τ hτ => List.mem_append_right _ (List.mem_append_left _ (lentTk_mem _ _ τ hτ))) (fun r R hr => List.mem_append_right _ (List.mem_append_right _ (lentRs_mem _ _ r R hr))) ?_⟩
    · rw [fmap_ge im st.nx n (by omega)]; omega
    · rw [fmap_ge im st.nx n (by omega)]; omega
    · intro b key n hκ hn hN _
      exact .inr ⟨key, hκ, by rw [hn]; exact hN⟩
  refine ⟨E', rfl, hg, WL_den hp _ _ _ ha hv, ?_⟩
  rintro e w' ⟨v, E1, post, sv, rfl, k1, k2, k3, k4⟩
  have hw0 : E1.w0 = w := k1.w0
  have hS0 : E1.S0 = fun b => ∃ key, κ b = some key ∧ key.name ∈ lentOf im st.nx pre := k1.S0
  have hkl : (im.take pre.k).length = pre.k := by simp; omega
  obtain ⟨E2, r1, r2, r3⟩ := back_good (ik := im.take pre.k) hw ho (distincts_take _ _ hd) (allLt_take _ _ hl) hw0 k1.Z hS0 (fun n b hn e => by rw [k1.ρ n (by show n < pre.k; omega)] at e; rw [fmap_take _ _ _ _ (by omega)]; exact e) (fun n b hn e => by rw [k1.θ n (by show n < pre.k; omega)] at e; rw [fmap_take _ _ _ _ (by omega)]; exact e) k1.μ (fun a v e => by
      rcases k1.μnew a v e with h | h
      · exact .inl h
      · exact .inr ((Mut.ext k1).1 h)) k2
  · exact ⟨v, E2, _, _, rfl, r1, r3, Den.ren r2 _ _ k3, ⟨rfl, rfl⟩, hK sv post k4⟩

theorem inv_w {P : Program} {t : TypeId} {y : Value} {name : String} {pre : SS} {pargs : List SV} {R : SV → SS → Prop} (hC : InvC P t y name pre pargs R) (im : List Nat) {st : SS} {args : List SV} {K : SV → SS → Prop}
    (h : CallW im pre pargs st args) (hK : ∀ sv post, R sv post → K (ren (fmap (im.take pre.k) st.nx) sv) (st.back (lentOf im st.nx pre) (im.take pre.k) post)) : InvOK P (.ifc t (.raw y)) name args st K := by
  intro E w r vs hw hr hv
  simp only [Den] at hr
  obtain ⟨y', rfl, rfl⟩ := hr
  obtain ⟨E', e1, e2, e3, e4⟩ := lend im h hK hw hv
  obtain ⟨f, ars, k1, k2⟩ := hC E' w vs e1 e2 e3
  exact ⟨f, ars, k1, k2.mono e4⟩
end Go.Eng
/- The engine, part FC: a region in any order, by one walk: what leaves the world alone first, the rest as the edges order it. -/
namespace Go.Eng
open Go
set_option linter.unusedVariables false
set_option linter.unusedSimpArgs false

/-- The operands that an operation's value hangs on. -/
def opsOf : Op → List Operand
  | .move x => [x]
  | .assign x => [x]
  | .pick c a b => [c, a, b]
  | .box _ v => [v]
  | .build _ ps => ps.toList.map (·.2)
  | .buildSlice _ _ ps => ps.toList.map (·.2)
  | .load _ x => [x]
  | .store _ a v => [a, v]
  | .nilCheck x => [x]
  | .binOp _ _ x y _ => [x, y]
  | .unOp _ _ x => [x]
  | .convert _ _ x => [x]
  | .makeInterface _ x => [x]
  | .makeFunc _ a c => a.toList ++ c.toList
  | .makeSlice _ n c => [n, c]
  | .slice _ x lo hi _ => x :: (lo.toList ++ hi.toList)
  | .fieldAddr _ x _ => [x]
  | .field _ x _ => [x]
  | .indexAddr _ x i => [x, i]
  | .index _ x i => [x, i]
  | .range _ x => [x]
  | .extract x _ => [x]
  | .call c => (match c.callee with | .value f => [f] | .invoke r _ => [r] | .builtin _ => []) ++ c.args.toList
  | _ => []

def Agree (s t : SS) (l : List Operand) : Prop := ∀ x, x ∈ l → s.eval x = t.eval x
theorem Agree.opd {s t : SS} {l : List Operand} (h : Agree s t l) {x : Operand} (hx : x ∈ l) : opd s x = opd t x := by unfold Eng.opd; rw [h x hx]
theorem Agree.ovc {s t : SS} {l : List Operand} (h : Agree s t l) {x : Operand} (hx : x ∈ l) (g : Bool) : ovc s g x = ovc t g x := by unfold Eng.ovc; rw [h x hx]
theorem Agree.map {s t : SS} {l m : List Operand} (h : Agree s t l) (hm : ∀ x, x ∈ m → x ∈ l) : m.map (Eng.opd s) = m.map (Eng.opd t) := List.map_congr_left fun x hx => h.opd (hm x hx)
theorem Agree.ovcL {s t : SS} {l : List Operand} (h : Agree s t l) (g : Bool) : ∀ (m : List Operand), (∀ x, x ∈ m → x ∈ l) → ovcL s g m = ovcL t g m
  | [], _ => rfl
  | x :: r, hm => by simp only [Eng.ovcL]; rw [h.ovc (hm x (by simp)) g, Agree.ovcL h g r (fun y hy => hm y (by simp [hy]))]
theorem Agree.symm {s t : SS} {l : List Operand} (h : Agree s t l) : Agree t s l := fun x hx => (h x hx).symm

def loadB : Op → Bool
  | .load _ _ => true
  | _ => false

/-- The value of an operation hangs on its operands, and on memory where it loads. -/
theorem evalP_congr {P : Program} {Γ : Tab} {s t : SS} {g : Bool} {op : Op} (h : Agree s t (opsOf op)) (hh : loadB op = true → s.hp = t.hp) : evalP P Γ s g op = evalP P Γ t g op := by
  cases op with
  | move x => simp only [evalP]; rw [h.opd (by simp [opsOf]), h.ovc (by simp [opsOf])]
  | assign x => simp only [evalP]; rw [h.opd (by simp [opsOf]), h.ovc (by simp [opsOf])]
  | pick c a b => simp only [evalP, evPick]; simp only [h.opd (show c ∈ _ by simp [opsOf]), h.ovc (show c ∈ _ by simp [opsOf]), h.opd (show a ∈ _ by simp [opsOf]), h.ovc (show a ∈ _ by simp [opsOf]), h.opd (show b ∈ _ by simp [opsOf]), h.ovc (show b ∈ _ by simp [opsOf])]
  | build T ps =>
    simp only [evalP, evBuild]
    have e1 : (ps.toList.map fun p => (p.1, opd s p.2)) = ps.toList.map fun p => (p.1, opd t p.2) := List.map_congr_left fun p hp => by rw [h.opd (by simp only [opsOf, List.mem_map]; exact ⟨p, hp, rfl⟩)]
    rw [e1, h.ovcL g (ps.toList.map fun p => p.2) (fun x hx => by simpa [opsOf] using hx)]
  | load T x => simp only [evalP, evLoad]; rw [h.opd (show x ∈ _ by simp [opsOf]), h.ovc (show x ∈ _ by simp [opsOf]), hh rfl]
  | nilCheck x => simp only [evalP, evNil]; rw [h.opd (show x ∈ _ by simp [opsOf]), h.ovc (show x ∈ _ by simp [opsOf])]
  | binOp o T x y _ => simp only [evalP]; rw [h.opd (show x ∈ _ by simp [opsOf]), h.ovc (show x ∈ _ by simp [opsOf]), h.opd (show y ∈ _ by simp [opsOf]), h.ovc (show y ∈ _ by simp [opsOf])]
  | unOp o T x => simp only [evalP]; rw [h.opd (show x ∈ _ by simp [opsOf]), h.ovc (show x ∈ _ by simp [opsOf])]
  | convert S D x => simp only [evalP]; rw [h.opd (show x ∈ _ by simp [opsOf]), h.ovc (show x ∈ _ by simp [opsOf])]
  | makeInterface T x => simp only [evalP]; rw [h.opd (show x ∈ _ by simp [opsOf]), h.ovc (show x ∈ _ by simp [opsOf])]
  | makeFunc f a c => simp only [evalP]; rw [h.map (fun x hx => by simp [opsOf] at hx ⊢; exact .inl hx), h.map (m := c.toList) (fun x hx => by simp [opsOf] at hx ⊢; exact .inr hx), h.ovcL g a.toList (fun x hx => by simp [opsOf] at hx ⊢; exact .inl hx), h.ovcL g c.toList (fun x hx => by simp [opsOf] at hx ⊢; exact .inr hx)]
  | slice T x lo hi mx =>
    cases mx with
    | some _ => rfl
    | none =>
      simp only [evalP]
      have e1 : lo.map (opd s) = lo.map (opd t) := by
        cases lo with
        | none => rfl
        | some y => simp only [Option.map_some]; rw [h.opd (by simp [opsOf])]
      have e2 : hi.map (opd s) = hi.map (opd t) := by
        cases hi with
        | none => rfl
        | some y => simp only [Option.map_some]; rw [h.opd (by simp [opsOf])]
      rw [e1, e2, h.opd (show x ∈ _ by simp [opsOf]), h.ovc (show x ∈ _ by simp [opsOf]), h.ovcL g lo.toList (fun y hy => by simp only [opsOf, List.mem_cons, List.mem_append]; exact .inr (.inl hy)), h.ovcL g hi.toList (fun y hy => by simp only [opsOf, List.mem_cons, List.mem_append]; exact .inr (.inr hy))]
  | fieldAddr T x f => simp only [evalP, evField]; rw [h.opd (show x ∈ _ by simp [opsOf]), h.ovc (show x ∈ _ by simp [opsOf])]
  | field T x f => simp only [evalP]; rw [h.opd (show x ∈ _ by simp [opsOf]), h.ovc (show x ∈ _ by simp [opsOf])]
  | indexAddr T x i => simp only [evalP, evIndexAddr]; rw [h.opd (show x ∈ _ by simp [opsOf]), h.ovc (show x ∈ _ by simp [opsOf]), h.opd (show i ∈ _ by simp [opsOf]), h.ovc (show i ∈ _ by simp [opsOf])]
  | index T x i => simp only [evalP]; rw [h.opd (show x ∈ _ by simp [opsOf]), h.ovc (show x ∈ _ by simp [opsOf]), h.opd (show i ∈ _ by simp [opsOf]), h.ovc (show i ∈ _ by simp [opsOf])]
  | extract x n => simp only [evalP]; rw [h.opd (show x ∈ _ by simp [opsOf]), h.ovc (show x ∈ _ by simp [opsOf])]
  | call c =>
    simp only [evalP]
    have hm : ∀ x, x ∈ c.args.toList → x ∈ opsOf (.call c) := fun x hx => by simp only [opsOf, List.mem_append]; exact .inr hx
    rw [h.map hm, h.ovcL g _ hm]
  | _ => rfl

/-- The same but for the variables. -/
def SS.with (s : SS) (fr : List SV) : SS := { s with fr := fr }
theorem with_put (s : SS) (fr : List SV) (d : Option Nat) (v : SV) : (s.with fr).put d v = (s.put d v).with ((s.with fr).put d v).fr := by
  cases d <;> rfl

theorem CallOK.with {P : Program} {f : FuncId} {args : List SV} {s : SS} (fr : List SV) {K : SV → SS → Prop} (h : CallOK P f args s K) :
    CallOK P f args (s.with fr) (fun sv t' => ∃ s', K sv s' ∧ s'.fr = s.fr ∧ t' = s'.with fr) := by
  rcases h with h | ⟨sv, h, h'⟩
  · refine .inl fun E w vs hw hv => ?_
    obtain ⟨q1, q2⟩ := h E w vs ⟨hw.k, hw.kx, hw.os, hw.tape, hw.output, hw.size, hw.old, hw.mu, hw.nxρ, hw.nxθ, let ⟨κ, k⟩ := hw.own; ⟨κ, k.hp, k.tk, k.rs, k.mu, k.dom⟩⟩ hv
    refine ⟨q1, q2.mono ?_⟩
    rintro e w' ⟨v, E', st', sv, rfl, h1, h2, h3, ⟨h4, h5⟩, h6⟩
    exact ⟨v, E', st'.with fr, sv, rfl, h1, ⟨h2.k, h2.kx, h2.os, h2.tape, h2.output, h2.size, h2.old, h2.mu, h2.nxρ, h2.nxθ, let ⟨κ, k⟩ := h2.own; ⟨κ, k.hp, k.tk, k.rs, k.mu, k.dom⟩⟩, h3, ⟨rfl, h5⟩, st', h6, h4, rfl⟩
  · exact .inr ⟨sv, h, s, h', rfl, rfl⟩
theorem InvOK.with {P : Program} {r : SV} {name : String} {args : List SV} {s : SS} (fr : List SV) {K : SV → SS → Prop} (h : InvOK P r name args s K) :
    InvOK P r name args (s.with fr) (fun sv t' => ∃ s', K sv s' ∧ s'.fr = s.fr ∧ t' = s'.with fr) := by
  intro E w r vs hw hr hv
  obtain ⟨f, ars, q1, q2⟩ := h E w r vs ⟨hw.k, hw.kx, hw.os, hw.tape, hw.output, hw.size, hw.old, hw.mu, hw.nxρ, hw.nxθ, let ⟨κ, k⟩ := hw.own; ⟨κ, k.hp, k.tk, k.rs, k.mu, k.dom⟩⟩ hr hv
  refine ⟨f, ars, q1, q2.mono ?_⟩
  rintro e w' ⟨v, E', st', sv, rfl, h1, h2, h3, ⟨h4, h5⟩, h6⟩
  exact ⟨v, E', st'.with fr, sv, rfl, h1, ⟨h2.k, h2.kx, h2.os, h2.tape, h2.output, h2.size, h2.old, h2.mu, h2.nxρ, h2.nxθ, let ⟨κ, k⟩ := h2.own; ⟨κ, k.hp, k.tk, k.rs, k.mu, k.dom⟩⟩, h3, ⟨rfl, h5⟩, st', h6, h4, rfl⟩
theorem CallOK.mono {P : Program} {f : FuncId} {args : List SV} {s : SS} {K K' : SV → SS → Prop} (h : CallOK P f args s K) (hk : ∀ sv t, K sv t → K' sv t) : CallOK P f args s K' := by
  rcases h with h | ⟨sv, h, h'⟩
  · refine .inl fun E w vs hw hv => ?_
    obtain ⟨q1, q2⟩ := h E w vs hw hv
    exact ⟨q1, q2.mono fun e w' ⟨⟨v, E', st', sv, h0, h1, h2, h3, h4, h6⟩⟩ => ⟨v, E', st', sv, h0, h1, h2, h3, h4, hk _ _ h6⟩⟩
  · exact .inr ⟨sv, h, hk _ _ h'⟩
theorem InvOK.mono {P : Program} {r : SV} {name : String} {args : List SV} {s : SS} {K K' : SV → SS → Prop} (h : InvOK P r name args s K) (hk : ∀ sv t, K sv t → K' sv t) : InvOK P r name args s K' := by
  intro E w r vs hw hr hv
  obtain ⟨f, ars, q1, q2⟩ := h E w r vs hw hr hv
  exact ⟨f, ars, q1, q2.mono fun e w' ⟨⟨v, E', st', sv, h0, h1, h2, h3, h4, h6⟩⟩ => ⟨v, E', st', sv, h0, h1, h2, h3, h4, hk _ _ h6⟩⟩

/-- What follows, where the variables are others. -/
def OnFr (s : SS) (fr : List SV) (d : Option Tmp) (K : SS → Prop) (t' : SS) : Prop := ∃ s' v, K s' ∧ s'.fr = (s.put d v).fr ∧ t' = s'.with ((s.with fr).put d v).fr
theorem OnFr.of {s s1 : SS} {fr : List SV} {d : Option Tmp} {v : SV} {K : SS → Prop} (h : K (s1.put d v)) (hs : s1.fr = s.fr) : OnFr s fr d K ((s1.with fr).put d v) := by
  refine ⟨_, v, h, ?_, ?_⟩
  · cases d with
    | none => exact hs
    | some d => simp only [SS.put]; rw [hs]
  · rw [with_put]
    cases d with
    | none => rfl
    | some d => rfl

theorem evAppend_with {Γ : Tab} {s : SS} (fr : List SV) {d : Option Tmp} {t t2 : TypeId} {x y : SV} {K K' : SS → Prop} (hk : ∀ (s1 : SS) (v : SV), s1.fr = s.fr → K (s1.put d v) → K' ((s1.with fr).put d v)) (h : evAppend Γ s d t t2 x y K) : evAppend Γ (s.with fr) d t t2 x y K' := by
  unfold evAppend at h ⊢
  split at h
  · split at h
    · split at h
      · split at h
        · rename_i hc
          refine (if_pos (show _ ∧ tkMem (s.with fr).tk _ = true from hc)).symm ▸ ?_
          obtain ⟨h1, h2, h3, h4, h5, h6⟩ := h
          exact ⟨h1, h2, h3, h4, h5, hk ({ s with tk := s.nx :: tkDel s.tk _, nx := s.nx + 1 }) _ rfl h6⟩
        · exact h.elim
      · obtain ⟨h1, h2, h3, h4, h5, h6⟩ := h
        exact ⟨h1, h2, h3, h4, h5, hk ({ s with tk := s.nx :: s.tk, nx := s.nx + 1 }) _ rfl h6⟩
      · exact h.elim
    · exact h.elim
  · exact h.elim

theorem evAppendX_with {Γ : Tab} {s : SS} (fr : List SV) {d : Option Tmp} {t t2 : TypeId} {x y : SV} {K K' : SS → Prop} (hk : ∀ (s1 : SS) (v : SV), s1.fr = s.fr → K (s1.put d v) → K' ((s1.with fr).put d v)) (h : evAppendX Γ s d t t2 x y K) : evAppendX Γ (s.with fr) d t t2 x y K' := by
  unfold evAppendX at h ⊢
  split at h
  · split at h
    · unfold rowApp at h ⊢
      split at h
      · split at h
        · obtain ⟨r, k, l, m, h1, h2, h3, h4, h5, h6, h7, h8, h9, h10⟩ := h
          exact ⟨r, k, l, m, h1, h2, h3, h4, h5, h6, h7, h8, h9, fun p' c' => hk ({ s with rs := rsSet s.rs r _ }) _ rfl (h10 p' c')⟩
        · obtain ⟨r, k, l, m, h1, h2, h3, h4, h5, h6, h7, h8, h9, h10⟩ := h
          exact ⟨r, k, l, m, h1, h2, h3, h4, h5, h6, h7, h8, h9, fun p' c' => hk ({ s with rs := rsSet s.rs r _ }) _ rfl (h10 p' c')⟩
      · exact h.elim
    · exact h.elim
  · split at h
    · split at h
      · obtain ⟨k, m, h1, h2⟩ := h
        exact ⟨k, m, h1, evAppend_with fr hk h2⟩
      · exact h.elim
    · split at h
      · unfold slAppend at h ⊢
        split at h
        · split at h
          · rename_i hc
            refine (if_pos (show _ ∧ tkMem (s.with fr).tk _ = true from hc)).symm ▸ ?_
            obtain ⟨h1, h2, h3, h4, h5, h6, h7, h8, h9⟩ := h
            exact ⟨h1, h2, h3, h4, h5, h6, h7, h8, hk ({ s with tk := s.nx :: tkDel s.tk _, nx := s.nx + 1 }) _ rfl h9⟩
          · exact h.elim
        · obtain ⟨h1, h2, h3, h4, h5, h6, h7, h9⟩ := h
          exact ⟨h1, h2, h3, h4, h5, h6, h7, hk ({ s with tk := s.nx :: s.tk, nx := s.nx + 1 }) _ rfl h9⟩
        · exact h.elim
      · exact h.elim
    · exact evAppend_with fr hk h
theorem evCopy_with {Γ : Tab} {s : SS} (fr : List SV) {d : Option Tmp} {t : TypeId} {x y : SV} {K K' : SS → Prop} (hk : ∀ (s1 : SS) (v : SV), s1.fr = s.fr → K (s1.put d v) → K' ((s1.with fr).put d v)) (h : evCopy Γ s d t x y K) : evCopy Γ (s.with fr) d t x y K' := by
  unfold evCopy at h ⊢
  split at h
  · split at h
    · unfold rowCopy at h ⊢
      split at h
      · obtain ⟨r, k, p0, c0, l0, i, m, h1, h2, h3, h4, h5, h6⟩ := h
        exact ⟨r, k, p0, c0, l0, i, m, h1, h2, h3, h4, h5, hk ({ s with rs := rsSet s.rs r _ }) _ rfl h6⟩
      · exact h.elim
    · exact h.elim
  · exact h.elim

/-- An operation's effect hangs on its operands alone. -/
theorem evEff_with' {P : Program} {Γ : Tab} {s : SS} {fr : List SV} {o : Oper} {K K' : SS → Prop} (hk : ∀ (s1 : SS) (v : SV), s1.fr = s.fr → K (s1.put o.dst v) → K' ((s1.with fr).put o.dst v)) (h : Agree s (s.with fr) (opsOf o.op)) (hs : evEff P Γ s o K) : evEff P Γ (s.with fr) o K' := by
  have hop : ∀ {x : Operand}, x ∈ opsOf o.op → opd (s.with fr) x = opd s x := fun hx => (h.opd hx).symm
  have hov : ∀ {x : Operand}, x ∈ opsOf o.op → ∀ g, ovc (s.with fr) g x = ovc s g x := fun hx g => (h.ovc hx g).symm
  have hovL : ∀ m : List Operand, (∀ x, x ∈ m → x ∈ opsOf o.op) → ∀ g, ovcL (s.with fr) g m = ovcL s g m := fun m hm g => (h.ovcL g m hm).symm
  have hmap : ∀ ps : Array (Nat × Operand), (∀ x, x ∈ ps.toList.map (·.2) → x ∈ opsOf o.op) → (ps.toList.map fun p => (p.1, opd (s.with fr) p.2)) = ps.toList.map fun p => (p.1, opd s p.2) := fun ps hp => List.map_congr_left fun p hpp => by rw [hop (hp _ (List.mem_map.2 ⟨p, hpp, rfl⟩))]
  unfold evEff at hs ⊢
  generalize ho : o.op = op at *
  cases op with
  | alloc t => exact ⟨hs.1, hk (s.addBlk _ _) _ rfl hs.2⟩
  | box t x =>
    simp only at hs ⊢
    rw [hop (show x ∈ _ by simp [opsOf]), hov (show x ∈ _ by simp [opsOf])]
    split at hs
    · exact ⟨hs.1, hk (s.addBlk _ _) _ rfl hs.2⟩
    · exact hs.elim
  | store t ad x =>
    simp only at hs ⊢
    rw [hop (show ad ∈ _ by simp [opsOf]), hop (show x ∈ _ by simp [opsOf]), hov (show ad ∈ _ by simp [opsOf]), hov (show x ∈ _ by simp [opsOf])]
    split at hs
    · rename_i n off ls e1 e2
      show (match hfind s.hp n with | some (_, l) => _ | none => False)
      split at hs
      · rename_i T l e3
        obtain ⟨h1, h2, h3, h4, h5, h6, h7⟩ := hs
        rw [e3]
        exact ⟨h1, h2, h3, h4, h5, h6, hk (s.setBlk _ _) _ rfl h7⟩
      · exact hs.elim
    · obtain ⟨h1, h2, h3, h4, r, k, p0, c0, l0, i0, n, h5, h6, h7, h8, h9⟩ := hs
      exact ⟨h1, h2, h3, h4, r, k, p0, c0, l0, i0, n, h5, h6, h7, h8, hk ({ s with rs := rsSet s.rs r _ }) _ rfl h9⟩
    · exact hs.elim
  | load t x =>
    simp only at hs ⊢
    rw [hop (show x ∈ _ by simp [opsOf]), hov (show x ∈ _ by simp [opsOf])]
    split at hs
    · obtain ⟨h1, h2, h3, r, k, p0, c0, l0, i0, h5, h6, h7, h9⟩ := hs
      exact ⟨h1, h2, h3, r, k, p0, c0, l0, i0, h5, h6, h7, hk s _ rfl h9⟩
    · exact hs.elim
  | buildSlice t len parts =>
    simp only at hs ⊢
    rw [hmap parts (fun x hx => by simpa [opsOf] using hx), hovL _ (fun x hx => by simpa [opsOf] using hx)]
    split at hs
    · split at hs
      · split at hs
        · obtain ⟨h1, h2, h3, h4, h5, h6⟩ := hs
          exact ⟨h1, h2, h3, h4, h5, hk (s.addTok) _ rfl h6⟩
        · exact hs.elim
      · split at hs
        · obtain ⟨h1, h2, h3, h4, h6⟩ := hs
          exact ⟨h1, h2, h3, h4, hk (s.addTok) _ rfl h6⟩
        · exact hs.elim
    · exact hs.elim
  | range t x =>
    simp only at hs ⊢
    rw [hop (show x ∈ _ by simp [opsOf]), hov (show x ∈ _ by simp [opsOf])]
    split at hs
    · exact ⟨hs.1, fun b => hk ({ s with rs := (s.nx, RObj b _) :: s.rs, nx := s.nx + 1 }) _ rfl (hs.2 b)⟩
    · exact hs.elim
  | makeSlice t n c =>
    simp only at hs ⊢
    rw [hop (show n ∈ _ by simp [opsOf]), hop (show c ∈ _ by simp [opsOf]), hov (show n ∈ _ by simp [opsOf]), hov (show c ∈ _ by simp [opsOf])]
    split at hs
    · split at hs
      · obtain ⟨h1, h2, h3, h4, h5, h6, h7, h8, h9⟩ := hs
        exact ⟨h1, h2, h3, h4, h5, h6, h7, h8, hk (s.addTok) _ rfl h9⟩
      · exact hs.elim
    · exact hs.elim
  | convert S D x =>
    simp only at hs ⊢
    rw [hop (show x ∈ _ by simp [opsOf]), hov (show x ∈ _ by simp [opsOf])]
    split at hs
    · obtain ⟨h1, h2, h3, h4, h6, h5⟩ := hs
      exact ⟨h1, h2, h3, h4, h6, hk (s) _ rfl h5⟩
    · obtain ⟨h1, h2, h3, h5⟩ := hs
      exact ⟨h1, h2, h3, hk (s.addTok) _ rfl h5⟩
    · exact hs.elim
  | binOp b T x y _ =>
    simp only at hs ⊢
    rw [hop (show x ∈ _ by simp [opsOf]), hop (show y ∈ _ by simp [opsOf]), hov (show x ∈ _ by simp [opsOf]), hov (show y ∈ _ by simp [opsOf])]
    split at hs
    · refine ⟨hs.1, ?_⟩
      have h2 := hs.2
      have nk : ∀ c, nilK K s o.dst c → nilK K' (s.with fr) o.dst c := fun c hc => hk (s) _ rfl hc
      unfold evSliceNil at h2 ⊢
      split at h2
      · exact nk _ h2
      · exact nk _ h2
      · exact fun c hc => nk _ (h2 c hc)
      · exact fun c hc => nk _ (h2 c hc)
      · exact fun c hc => nk _ (h2 c hc)
      · exact fun c hc => nk _ (h2 c hc)
      · exact ⟨fun e => nk _ (h2.1 e), fun e => nk _ (h2.2 e)⟩
      · exact ⟨fun e => nk _ (h2.1 e), fun e => nk _ (h2.2 e)⟩
      · exact h2.elim
    · split at hs
      · split at hs
        · obtain ⟨h1, h2, h3, h5⟩ := hs
          exact ⟨h1, h2, h3, hk (s) _ rfl h5⟩
        · exact hs.elim
      · exact hs.elim
    · exact hs.elim
  | call c =>
    simp only at hs ⊢
    have ck : ∀ sv t', (∃ s', callK K o.dst sv s' ∧ s'.fr = s.fr ∧ t' = s'.with fr) → callK K' o.dst sv t' := by
      rintro sv t' ⟨s', h1, h2, rfl⟩
      exact hk (s') _ h2 h1
    have hm : ∀ x, x ∈ c.args.toList → x ∈ opsOf (.call c) := fun x hx => by simp only [opsOf, List.mem_append]; exact .inr hx
    unfold evCall at hs ⊢
    generalize hcal : c.callee = cal at *
    have hopc : ∀ {x : Operand}, x ∈ (match cal with | .value f => [f] | .invoke r _ => [r] | .builtin _ => []) → x ∈ opsOf (.call c) := fun hx => by simp only [opsOf, hcal, List.mem_append]; exact .inl hx
    cases cal with
    | value f =>
      simp only at hs ⊢
      rw [hop (x := f) (hopc (by simp)), hov (x := f) (hopc (by simp)), hovL _ hm, show c.args.toList.map (opd (s.with fr)) = c.args.toList.map (opd s) from (h.map hm).symm]
      split at hs
      · exact ⟨hs.1, hs.2.1, (hs.2.2.with fr).mono ck⟩
      · exact hs.elim
    | invoke r name =>
      simp only at hs ⊢
      rw [hop (x := r) (hopc (by simp)), hov (x := r) (hopc (by simp)), hovL _ hm, show c.args.toList.map (opd (s.with fr)) = c.args.toList.map (opd s) from (h.map hm).symm]
      exact ⟨hs.1, hs.2.1, (hs.2.2.with fr).mono ck⟩
    | builtin b =>
      cases b <;> simp only at hs ⊢ <;> try exact hs.elim
      · split at hs
        · rename_i x y t t2 e1 e2
          have hx : x ∈ opsOf (.call c) := hm x (by rw [e1]; simp)
          have hy : y ∈ opsOf (.call c) := hm y (by rw [e1]; simp)
          rw [hop hx, hop hy, hov hx, hov hy]
          exact ⟨hs.1, hs.2.1, evAppendX_with fr hk hs.2.2⟩
        · exact hs.elim
      · split at hs
        · rename_i x y t t2 e1 e2
          have hx : x ∈ opsOf (.call c) := hm x (by rw [e1]; simp)
          have hy : y ∈ opsOf (.call c) := hm y (by rw [e1]; simp)
          rw [hop hx, hop hy, hov hx, hov hy]
          exact ⟨hs.1, hs.2.1, evCopy_with fr hk hs.2.2⟩
        · exact hs.elim
  | _ => exact hs.elim
theorem evEff_with {P : Program} {Γ : Tab} {s : SS} {fr : List SV} {o : Oper} {K : SS → Prop} (h : Agree s (s.with fr) (opsOf o.op)) (hs : evEff P Γ s o K) : evEff P Γ (s.with fr) o (OnFr s fr o.dst K) :=
  evEff_with' (fun _ _ h2 h1 => OnFr.of h1 h2) h hs
theorem evEff_mono {P : Program} {Γ : Tab} {s : SS} {o : Oper} {K K' : SS → Prop} (hk : ∀ x, K x → K' x) (hs : evEff P Γ s o K) : evEff P Γ s o K' :=
  evEff_with' (fr := s.fr) (fun s1 v h2 h1 => by
    have : s1.with s.fr = s1 := by rw [← h2]; rfl
    rw [this]; exact hk _ h1) (fun _ _ => rfl) hs
theorem evOps_mono1 {P : Program} {Γ : Tab} {s : SS} {l : List Oper} {o : Oper} {K K' : SS → Prop} (hk : ∀ x, K x → K' x) (hs : evOps P Γ l K [o] s) : evOps P Γ l K' [o] s := by
  simp only [evOps] at hs ⊢
  split at hs
  · exact hs.elim
  · split at hs
    · exact ⟨hs.1, hk _ hs.2⟩
    · exact evEff_mono hk hs
  · split at hs
    · exact ⟨hs.1, hk _ hs.2⟩
    · exact ⟨fun e => evEff_mono hk (hs.1 e), fun e => hk _ (hs.2 e)⟩
end Go.Eng
/- The engine, part FD: a region in any order, by a plan: its rule. -/
namespace Go.Eng
open Go
set_option linter.unusedVariables false
set_option linter.unusedSimpArgs false

mutual
/-- A plan: what leaves the world alone is done as soon as may be; of the rest, each that may come next. -/
inductive Sched where
  | done
  | pure (i : Nat) (n : Sched)
  | eff (a : Alts)
inductive Alts where
  | nil
  | cons (i : Nat) (pend : List Nat) (n : Sched) (r : Alts)
end

/-- Loads that may still be to be done tell the same behind an effect. -/
def heldL (P : Program) (Γ : Tab) (l : List Oper) : List Nat → SS → Prop
  | [], _ => True
  | j :: r, s =>
    (match nth l j with
    | some o => (match evalP P Γ s true o.op, o.dst with
      | some (v, vc), some d => vc ∧ v = lget s.fr d
      | _, _ => False)
    | none => False) ∧ heldL P Γ l r s
mutual
def evMix (P : Program) (Γ : Tab) (l : List Oper) (K : SS → Prop) : Sched → SS → Prop
  | .done, s => K s
  | .pure i n, s =>
    match nth l i with
    | none => False
    | some o =>
      match evGuard s l o with
      | .bad => False
      | .run =>
        match evalP P Γ s true o.op with
        | some (v, vc) => vc ∧ evMix P Γ l K n (s.put o.dst v)
        | none => False
      | .when g =>
        match evalP P Γ s g o.op with
        | some (v, vc) => (g = true → vc) ∧ evMix P Γ l K n (s.put o.dst (.cnd g v))
        | none => False
  | .eff a, s => evAlts P Γ l K a s
def evAlts (P : Program) (Γ : Tab) (l : List Oper) (K : SS → Prop) : Alts → SS → Prop
  | .nil, _ => True
  | .cons i p n r, s =>
    (match nth l i with
    | none => False
    | some o => evOps P Γ l (fun s' => heldL P Γ l p s' ∧ evMix P Γ l K n s') [o] s) ∧ evAlts P Γ l K r s
end
/-- What follows an effect. -/
def mixN (P : Program) (Γ : Tab) (l : List Oper) (K : SS → Prop) (p : List Nat) (n : Sched) (s : SS) : Prop := heldL P Γ l p s ∧ evMix P Γ l K n s
theorem mixN_eq {P : Program} {Γ : Tab} {l : List Oper} {K : SS → Prop} {p : List Nat} {n : Sched} {s : SS} : mixN P Γ l K p n s = (heldL P Γ l p s ∧ evMix P Γ l K n s) := rfl
theorem evAlts_cons {P : Program} {Γ : Tab} {l : List Oper} {K : SS → Prop} {i : Nat} {p : List Nat} {n : Sched} {r : Alts} {s : SS} : evAlts P Γ l K (.cons i p n r) s = ((match nth l i with
    | none => False
    | some o => evOps P Γ l (mixN P Γ l K p n) [o] s) ∧ evAlts P Γ l K r s) := by rw [evAlts]; rfl

mutual
theorem evMix_mono {P : Program} {Γ : Tab} {l : List Oper} {K K' : SS → Prop} (hk : ∀ x, K x → K' x) : ∀ (p : Sched) (s : SS), evMix P Γ l K p s → evMix P Γ l K' p s
  | .done, s, h => by simp only [evMix] at h ⊢; exact hk _ h
  | .pure i n, s, h => by
    simp only [evMix] at h ⊢
    split at h
    · exact h.elim
    · split at h
      · exact h.elim
      · split at h
        · exact ⟨h.1, evMix_mono hk n _ h.2⟩
        · exact h.elim
      · split at h
        · exact ⟨h.1, evMix_mono hk n _ h.2⟩
        · exact h.elim
  | .eff a, s, h => by simp only [evMix] at h ⊢; exact evAlts_mono hk a s h
theorem evAlts_mono {P : Program} {Γ : Tab} {l : List Oper} {K K' : SS → Prop} (hk : ∀ x, K x → K' x) : ∀ (a : Alts) (s : SS), evAlts P Γ l K a s → evAlts P Γ l K' a s
  | .nil, s, _ => by simp only [evAlts]
  | .cons i p n r, s, h => by
    simp only [evAlts] at h ⊢
    refine ⟨?_, evAlts_mono hk r s h.2⟩
    have h1 := h.1
    split at h1
    · exact h1.elim
    · exact evOps_mono1 (fun x hx => ⟨hx.1, evMix_mono hk n x hx.2⟩) h1
end

def stillB : Op → Bool
  | .move _ => true
  | .assign _ => true
  | .pick _ _ _ => true
  | .nilCheck _ => true
  | .fieldAddr _ _ _ => true
  | .indexAddr _ _ _ => true
  | .load _ _ => true
  | .binOp _ _ _ _ _ => true
  | .unOp _ _ _ => true
  | .convert _ _ _ => true
  | .makeInterface _ _ => true
  | .makeFunc _ _ _ => true
  | .extract _ _ => true
  | .field _ _ _ => true
  | .index _ _ _ => true
  | .slice _ _ _ _ _ => true
  | .build _ _ => true
  | .call c => (match c.callee with | .builtin .append => false | .builtin _ => true | _ => false)
  | _ => false

def afterB (o : Oper) : List Nat := (o.after.toList.filter fun e => Region.binds .any e).map (·.on)
def readyB (l : List Oper) (L : List Nat) (i : Nat) : Bool := match nth l i with | some o => (afterB o).all fun j => L.contains j | none => false
/-- For each operation those that go ahead of it, through others too. -/
def ancL : List Oper → List (List Nat) → List (List Nat)
  | [], acc => acc
  | o :: r, acc => ancL r (acc ++ [((afterB o).map fun j => j :: (nth acc j).getD []).flatten.eraseDups])
def anc (l : List Oper) : List (List Nat) := ancL l []
def tmpOf : Operand → Option Nat
  | .tmp t => some t
  | _ => none
/-- The slots that an operation reads, its guard's among them. -/
def readsOf (l : List Oper) (o : Oper) : List Nat :=
  (opsOf o.op).filterMap tmpOf ++ (match o.guard with | none => [] | some (j, _) => (match nth l j with | some oj => oj.dst.toList | none => []))
/-- Who writes a slot. -/
def writers (l : List Oper) (d : Nat) : List Nat := (List.range l.length).filter fun j => match nth l j with | some o => o.dst == some d | none => false
/-- Each slot that an operation reads is written ahead of it, or behind it; a load's is not written behind it. -/
def readsB (l : List Oper) (A : List (List Nat)) (i : Nat) : Bool :=
  match nth l i with
  | none => false
  | some o => (readsOf l o).all fun d => (writers l d).all fun j => ((nth A i).getD []).contains j || (!loadB o.op && ((nth A j).getD []).contains i)
def dstB (l : List Oper) (n : Nat) : Bool := (List.range l.length).all fun i => match nth l i with | some o => (match o.dst with | some d => (writers l d) == [i] && decide (d < n) | none => true) | none => false

def altHeads : Alts → List Nat
  | .nil => []
  | .cons i _ _ r => i :: altHeads r
def todo (l : List Oper) (L : List Nat) : List Nat := (List.range l.length).filter fun i => !L.contains i && readyB l L i
mutual
def okS (l : List Oper) (A : List (List Nat)) : Sched → List Nat → Bool
  | .done, L => (List.range l.length).all fun i => L.contains i
  | .pure i n, L => decide (i < l.length) && !L.contains i && readyB l L i && (match nth l i with | some o => stillB o.op && o.dst.isSome | none => false) && okS l A n (i :: L)
  | .eff a, L => ((List.range l.length).any fun i => !L.contains i) && ((todo l L).all fun i => (altHeads a).contains i) && okA l A a L
def okA (l : List Oper) (A : List (List Nat)) : Alts → List Nat → Bool
  | .nil, _ => true
  | .cons i p n r, L => decide (i < l.length) && !L.contains i && readyB l L i && (L.all fun j => (match nth l j with | some o => !loadB o.op | none => false) || p.contains j || ((nth A i).getD []).contains j) && (p.all fun j => match nth l j with | some o => o.guard.isNone | none => false) && okS l A n (i :: L) && okA l A r L
end
def planB (l : List Oper) (n : Nat) (p : Sched) : Bool := backB l && dstB l n && ((List.range l.length).all fun i => readsB l (anc l) i) && okS l (anc l) p []
end Go.Eng
/- The engine, part FE: a region in any order, by a plan: that the rule holds. -/
namespace Go.Eng
open Go
set_option linter.unusedVariables false
set_option linter.unusedSimpArgs false

theorem lget_lset : ∀ (fr : List SV) (d k : Nat) (v : SV), lget (lset fr d v) k = if k = d ∧ d < fr.length then v else lget fr k
  | [], d, k, v => by simp [lset]
  | x :: r, 0, 0, v => by simp [lset, lget]
  | x :: r, 0, k + 1, v => by simp [lset, lget]
  | x :: r, d + 1, 0, v => by simp [lset, lget]
  | x :: r, d + 1, k + 1, v => by simp only [lset, lget, lget_lset r d k v]; simp
theorem lset_length : ∀ (fr : List SV) (d : Nat) (v : SV), (lset fr d v).length = fr.length
  | [], d, v => rfl
  | x :: r, 0, v => rfl
  | x :: r, d + 1, v => by simp only [lset, List.length_cons, lset_length r d v]
theorem lget_ext : ∀ (a b : List SV), a.length = b.length → (∀ k, lget a k = lget b k) → a = b
  | [], [], _, _ => rfl
  | x :: xs, y :: ys, h, e => by
    have h0 := e 0
    simp only [lget] at h0
    rw [h0, lget_ext xs ys (by simpa using h) fun k => by simpa only [lget] using e (k + 1)]
  | [], _ :: _, h, _ => by simp at h
  | _ :: _, [], h, _ => by simp at h

theorem evGuard_congr {s t : SS} {l : List Oper} {o : Oper} (h : ∀ d, d ∈ readsOf l o → lget s.fr d = lget t.fr d) : evGuard s l o = evGuard t l o := by
  unfold evGuard
  cases hg : o.guard with
  | none => rfl
  | some p =>
    obtain ⟨j, want⟩ := p
    simp only
    cases hj : nth l j with
    | none => rfl
    | some oj =>
      simp only
      cases hd : oj.dst with
      | none => rfl
      | some d =>
        simp only
        rw [h d (by unfold readsOf; simp [hg, hj, hd])]
theorem reads_agree {s t : SS} {l : List Oper} {o : Oper} (h : ∀ d, d ∈ readsOf l o → lget s.fr d = lget t.fr d) : Agree s t (opsOf o.op) := by
  intro x hx
  cases x with
  | tmp k =>
    simp only [SS.eval]
    refine h k ?_
    unfold readsOf
    rw [List.mem_append, List.mem_filterMap]
    exact .inl ⟨_, hx, rfl⟩
  | const v => rfl
  | global g => rfl
  | func f => rfl

/-- One operation, the variables that it does not read being others. -/
theorem evOps_with {P : Program} {Γ : Tab} {s : SS} {fr : List SV} {l : List Oper} {o : Oper} {K : SS → Prop} (h : ∀ d, d ∈ readsOf l o → lget s.fr d = lget fr d) (hs : evOps P Γ l K [o] s) : evOps P Γ l (OnFr s fr o.dst K) [o] (s.with fr) := by
  have ha : Agree s (s.with fr) (opsOf o.op) := reads_agree (t := s.with fr) h
  simp only [evOps] at hs ⊢
  rw [← evGuard_congr (s := s) (t := s.with fr) h]
  split at hs
  · exact hs.elim
  · rw [← evalP_congr (s := s) (t := s.with fr) ha (fun _ => rfl)]
    split at hs
    · exact ⟨hs.1, OnFr.of (s1 := s) hs.2 rfl⟩
    · exact evEff_with ha hs
  · rename_i g hg
    rw [← evalP_congr (s := s) (t := s.with fr) ha (fun _ => rfl)]
    split at hs
    · exact ⟨hs.1, OnFr.of (s1 := s) hs.2 rfl⟩
    · exact ⟨fun e => evEff_with ha (hs.1 e), fun e => OnFr.of (s1 := s) (hs.2 e) rfl⟩

/-- What an operation comes to. -/
def Evals (P : Program) (Γ : Tab) (l : List Oper) (st : SS) (o : Oper) (v : SV) : Prop :=
  match evGuard st l o with
  | .bad => False
  | .run => ∃ vc, evalP P Γ st true o.op = some (v, vc) ∧ vc
  | .when g => ∃ v' vc, evalP P Γ st g o.op = some (v', vc) ∧ (g = true → vc) ∧ v = .cnd g v'

open Classical in
/-- What stands in a slot, where those of S are done. -/
noncomputable def slotV (l : List Oper) (fr0 : List SV) (val : Nat → SV) (S : Nat → Prop) (k : Nat) : SV :=
  if h : ∃ j o, nth l j = some o ∧ o.dst = some k ∧ S j then val (Classical.choose h) else lget fr0 k

theorem mem_writers {l : List Oper} {d j : Nat} : j ∈ writers l d ↔ ∃ o, nth l j = some o ∧ o.dst = some d := by
  unfold writers
  rw [List.mem_filter, List.mem_range]
  constructor
  · rintro ⟨h1, h2⟩
    split at h2
    · rename_i o e; exact ⟨o, e, by simpa using h2⟩
    · cases h2
  · rintro ⟨o, e, hd⟩
    refine ⟨?_, by rw [e]; simpa using hd⟩
    rw [nth_eq] at e
    exact (List.getElem?_eq_some_iff.1 e).1

structure PlanOK (l : List Oper) (n : Nat) : Prop where
  back : backB l = true
  dst : ∀ i o d, nth l i = some o → o.dst = some d → d < n ∧ ∀ j oj, nth l j = some oj → oj.dst = some d → j = i
  reads : ∀ i o d, nth l i = some o → d ∈ readsOf l o → ∀ j oj, nth l j = some oj → oj.dst = some d → j ∈ (nth (anc l) i).getD [] ∨ (loadB o.op = false ∧ i ∈ (nth (anc l) j).getD [])

theorem nth_lt {α : Type} {l : List α} {i : Nat} {x : α} (h : nth l i = some x) : i < l.length := by
  rw [nth_eq] at h; exact (List.getElem?_eq_some_iff.1 h).1
theorem nth_some {α : Type} {l : List α} {i : Nat} (h : i < l.length) : ∃ x, nth l i = some x := ⟨l[i], by rw [nth_eq]; exact List.getElem?_eq_getElem h⟩

theorem planB_ok {l : List Oper} {n : Nat} {p : Sched} (h : planB l n p = true) : PlanOK l n ∧ okS l (anc l) p [] = true := by
  unfold planB at h
  simp only [Bool.and_eq_true, List.all_eq_true, List.mem_range] at h
  obtain ⟨⟨⟨h1, h2⟩, h3⟩, h4⟩ := h
  refine ⟨⟨h1, fun i o d e hd => ?_, fun i o d e hd j oj ej hj => ?_⟩, h4⟩
  · unfold dstB at h2
    simp only [List.all_eq_true, List.mem_range] at h2
    have := h2 i (nth_lt e)
    simp only [e, hd, Bool.and_eq_true, decide_eq_true_eq, beq_iff_eq] at this
    refine ⟨this.2, fun j oj ej hj => ?_⟩
    have hm : j ∈ writers l d := mem_writers.2 ⟨oj, ej, hj⟩
    rw [this.1] at hm
    simpa using hm
  · have := h3 i (nth_lt e)
    unfold readsB at this
    simp only [e, List.all_eq_true] at this
    have := this d hd j (mem_writers.2 ⟨oj, ej, hj⟩)
    simp only [Bool.or_eq_true, Bool.and_eq_true, List.contains_iff_mem, Bool.not_eq_true'] at this
    exact this

theorem slotV_in {l : List Oper} {n : Nat} (hp : PlanOK l n) {fr0 : List SV} {val : Nat → SV} {S : Nat → Prop} {k j : Nat} {o : Oper} (e : nth l j = some o) (hd : o.dst = some k) (hS : S j) : slotV l fr0 val S k = val j := by
  have h : ∃ j o, nth l j = some o ∧ o.dst = some k ∧ S j := ⟨j, o, e, hd, hS⟩
  unfold slotV
  rw [dif_pos h]
  obtain ⟨o', h1, h2, h3⟩ := Classical.choose_spec h
  rw [(hp.dst j o k e hd).2 _ o' h1 h2]
theorem slotV_out {l : List Oper} {fr0 : List SV} {val : Nat → SV} {S : Nat → Prop} {k : Nat} (h : ∀ j o, nth l j = some o → o.dst = some k → ¬ S j) : slotV l fr0 val S k = lget fr0 k := by
  unfold slotV
  rw [dif_neg]
  rintro ⟨j, o, h1, h2, h3⟩
  exact h j o h1 h2 h3
theorem slotV_congr {l : List Oper} {n : Nat} (hp : PlanOK l n) {fr0 : List SV} {val val' : Nat → SV} {S S' : Nat → Prop} {k : Nat} (h : ∀ j o, nth l j = some o → o.dst = some k → (S j ↔ S' j) ∧ (S j → val j = val' j)) : slotV l fr0 val S k = slotV l fr0 val' S' k := by
  by_cases hx : ∃ j o, nth l j = some o ∧ o.dst = some k ∧ S j
  · obtain ⟨j, o, h1, h2, h3⟩ := hx
    rw [slotV_in hp h1 h2 h3, slotV_in hp h1 h2 ((h j o h1 h2).1.1 h3), (h j o h1 h2).2 h3]
  · rw [slotV_out (fun j o h1 h2 h3 => hx ⟨j, o, h1, h2, h3⟩), slotV_out (fun j o h1 h2 h3 => hx ⟨j, o, h1, h2, (h j o h1 h2).1.2 h3⟩)]

theorem ancL_app : ∀ (r : List Oper) (acc : List (List Nat)), ∃ rest, ancL r acc = acc ++ rest
  | [], acc => ⟨[], by simp [ancL]⟩
  | o :: r, acc => by
    obtain ⟨rest, h⟩ := ancL_app r (acc ++ [((afterB o).map fun j => j :: (nth acc j).getD []).flatten.eraseDups])
    exact ⟨[((afterB o).map fun j => j :: (nth acc j).getD []).flatten.eraseDups] ++ rest, by rw [ancL, h, List.append_assoc]⟩
theorem nth_app_left {α : Type} {a b : List α} {i : Nat} {x : α} (h : nth a i = some x) : nth (a ++ b) i = some x := by
  rw [nth_eq] at h ⊢
  rw [List.getElem?_append_left (List.getElem?_eq_some_iff.1 h).1]; exact h
theorem ancL_spec : ∀ (r : List Oper) (acc : List (List Nat)) (i : Nat) (o : Oper), nth r i = some o → ∀ j, j ∈ (nth (ancL r acc) (acc.length + i)).getD [] → ∃ d, d ∈ afterB o ∧ (j = d ∨ (d < acc.length + i ∧ j ∈ (nth (ancL r acc) d).getD []))
  | [], acc, i, o, h, j, hj => by simp [nth] at h
  | o' :: r, acc, 0, o, h, j, hj => by
    simp only [nth, Option.some.injEq] at h
    subst h
    obtain ⟨rest, hr⟩ := ancL_app r (acc ++ [((afterB o').map fun j => j :: (nth acc j).getD []).flatten.eraseDups])
    rw [ancL, hr] at hj ⊢
    rw [nth_eq, Nat.add_zero, List.append_assoc, List.getElem?_append_right (Nat.le_refl _)] at hj
    simp only [Nat.sub_self, List.cons_append, List.nil_append, List.getElem?_cons_zero, Option.getD_some, List.mem_eraseDups, List.mem_flatten, List.mem_map] at hj
    obtain ⟨m, ⟨d, hd, rfl⟩, hm⟩ := hj
    refine ⟨d, hd, ?_⟩
    rcases List.mem_cons.1 hm with h | h
    · exact .inl h
    · right
      cases hn : nth acc d with
      | none => rw [hn] at h; simp at h
      | some ars =>
        refine ⟨by have := nth_lt hn; omega, ?_⟩
        rw [List.append_assoc, nth_app_left hn]
        rw [hn] at h; exact h
  | o' :: r, acc, i + 1, o, h, j, hj => by
    simp only [nth] at h
    have hl : (acc ++ [((afterB o').map fun j => j :: (nth acc j).getD []).flatten.eraseDups]).length + i = acc.length + (i + 1) := by simp; omega
    have := ancL_spec r (acc ++ [((afterB o').map fun j => j :: (nth acc j).getD []).flatten.eraseDups]) i o h j (by rw [hl]; exact hj)
    rw [hl] at this
    exact this
/-- A set that holds with each operation what goes ahead of it holds all that goes ahead through others. -/
theorem anc_closed {l : List Oper} {S : Nat → Prop} (hS : ∀ j oj, nth l j = some oj → S j → ∀ d, d ∈ afterB oj → S d) : ∀ (i : Nat) (o : Oper), nth l i = some o → (∀ d, d ∈ afterB o → S d) → ∀ j, j ∈ (nth (anc l) i).getD [] → S j := by
  intro i
  induction i using Nat.strongRecOn with
  | ind i ih =>
    intro o ho h j hj
    obtain ⟨d, h1, h2⟩ := ancL_spec l [] i o ho j (by simpa [anc] using hj)
    rcases h2 with rfl | ⟨h2, h3⟩
    · exact h _ h1
    · have hlt : d < i := by simpa using h2
      obtain ⟨od, hod⟩ := nth_some (l := l) (i := d) (by have := nth_lt ho; omega)
      exact ih d hlt od hod (hS d od hod (h d h1)) j h3

theorem mem_afterB {o : Oper} {d : Nat} : d ∈ afterB o ↔ ∃ e, e ∈ o.after.toList ∧ Region.binds .any e = true ∧ e.on = d := by
  unfold afterB
  simp only [List.mem_map, List.mem_filter, and_assoc]

/-- Where a walk by the plan stands. -/
structure Stand (P : Program) (Γ : Tab) (l : List Oper) (n : Nat) (fr0 : List SV) (K : SS → Prop) (D : Nat → Bool) (t : SS) (L : List Nat) (p : Sched) (s : SS) (val : Nat → SV) : Prop where
  sub : ∀ j, D j = true → j < l.length → j ∈ L
  lt : ∀ j, j ∈ L → j < l.length
  ok : okS l (anc l) p L = true
  ev : evMix P Γ l K p s
  eq : t = s.with t.fr
  ls : s.fr.length = n
  lt' : t.fr.length = n
  fs : ∀ k, lget s.fr k = slotV l fr0 val (· ∈ L) k
  ft : ∀ k, lget t.fr k = slotV l fr0 val (fun j => D j = true) k
  cl : ∀ j oj, nth l j = some oj → j ∈ L → ∀ d, d ∈ afterB oj → d ∈ L
  pd : ∀ j o, nth l j = some o → j ∈ L → D j = false → ∃ st0 : SS, o.dst.isSome = true ∧ (∀ d, d ∈ readsOf l o → lget st0.fr d = slotV l fr0 val (· ∈ (nth (anc l) j).getD []) d) ∧ (loadB o.op = true → st0.hp = s.hp) ∧ Evals P Γ l st0 o (val j)

theorem put_fr {s : SS} {d : Nat} {v : SV} : (s.put (some d) v).fr = lset s.fr d v := rfl

/-- What leaves the world alone is done at once. -/
theorem eager {P : Program} {Γ : Tab} {l : List Oper} {n : Nat} (hp : PlanOK l n) {fr0 : List SV} {K : SS → Prop} {D : Nat → Bool} {t : SS} (hD : ∀ j, D j = true → j < l.length) : ∀ (p : Sched) (L : List Nat) (s : SS) (val : Nat → SV), Stand P Γ l n fr0 K D t L p s val →
    ∃ L' p' s' val', Stand P Γ l n fr0 K D t L' p' s' val' ∧ (p' = .done ∨ ∃ a, p' = .eff a)
  | .done, L, s, val, h => ⟨L, _, s, val, h, .inl rfl⟩
  | .eff a, L, s, val, h => ⟨L, _, s, val, h, .inr ⟨a, rfl⟩⟩
  | .pure i q, L, s, val, h => by
    have hok := h.ok
    simp only [okS, Bool.and_eq_true, decide_eq_true_eq, Bool.not_eq_true', List.contains_eq_mem, decide_eq_false_iff_not] at hok
    obtain ⟨⟨⟨⟨h1, h2⟩, h3⟩, h4⟩, h5⟩ := hok
    obtain ⟨o, ho⟩ := nth_some h1
    simp only [ho, Bool.and_eq_true] at h4
    obtain ⟨d, hd⟩ := Option.isSome_iff_exists.1 h4.2
    have hrd : ∀ e, e ∈ afterB o → e ∈ L := by
      unfold readyB at h3
      simp only [ho, List.all_eq_true, List.contains_iff_mem] at h3
      exact h3
    have hanc : ∀ j, j ∈ (nth (anc l) i).getD [] → j ∈ L := anc_closed (S := (· ∈ L)) h.cl i o ho hrd
    have hnot : ∀ j oj, nth l j = some oj → i ∈ (nth (anc l) j).getD [] → j ∉ L := fun j oj hj hi hL =>
      h2 (anc_closed (S := (· ∈ L)) h.cl j oj hj (h.cl j oj hj hL) i hi)
    have hDi : D i = false := by
      cases hDi : D i with
      | false => rfl
      | true => exact absurd (h.sub i hDi h1) h2
    obtain ⟨hdn, huniq⟩ := hp.dst i o d ho hd
    have main : ∀ v, Evals P Γ l s o v → evMix P Γ l K q (s.put o.dst v) → ∃ L' p' s' val', Stand P Γ l n fr0 K D t L' p' s' val' ∧ (p' = .done ∨ ∃ a, p' = .eff a) := by
      intro v hv hq
      have hold : ∀ (S : Nat → Prop) k, ¬ S i → slotV l fr0 (upd val i v) S k = slotV l fr0 val S k := fun S k hS => slotV_congr hp fun j oj _ _ => ⟨Iff.rfl, fun hj => upd_ne (by rintro rfl; exact hS hj)⟩
      refine eager hp hD q (i :: L) (s.put o.dst v) (upd val i v) ⟨fun j hj hl => List.mem_cons_of_mem _ (h.sub j hj hl), fun j hj => ?_, h5, hq, ?_, ?_, h.lt', fun k => ?_, fun k => ?_, fun j oj hj hL e he => ?_, fun j oj hj hL hDj => ?_⟩
      · rcases List.mem_cons.1 hj with rfl | hj
        · exact h1
        · exact h.lt j hj
      · rw [hd]; have := h.eq; rw [this]; rfl
      · rw [hd, put_fr, lset_length]; exact h.ls
      · rw [hd, put_fr, lget_lset, h.ls]
        by_cases hk : k = d
        · subst hk
          rw [if_pos ⟨rfl, hdn⟩, slotV_in hp ho hd (by simp), upd_same]
        · rw [if_neg (by rintro ⟨e, _⟩; exact hk e), h.fs k]
          refine slotV_congr hp fun j oj hj hjd => ?_
          have hne : j ≠ i := by rintro rfl; rw [ho] at hj; injection hj with hj; rw [← hj, hd] at hjd; injection hjd with hjd; exact hk hjd.symm
          exact ⟨by simp [hne], fun _ => (upd_ne hne).symm⟩
      · rw [h.ft k]; exact (hold _ k (by rw [hDi]; simp)).symm
      · rcases List.mem_cons.1 hL with rfl | hL
        · rw [ho] at hj; injection hj with hj; subst hj; exact List.mem_cons_of_mem _ (hrd e he)
        · exact List.mem_cons_of_mem _ (h.cl j oj hj hL e he)
      · rcases List.mem_cons.1 hL with rfl | hL2
        · rw [ho] at hj
          injection hj with hj
          subst hj
          refine ⟨s, h4.2, fun e he => ?_, fun _ => by rw [hd]; rfl, by rw [upd_same]; exact hv⟩
          rw [h.fs e]
          refine slotV_congr hp fun w ow hw hwd => ?_
          rcases hp.reads j o e ho he w ow hw hwd with hr | ⟨_, hr⟩
          · exact ⟨⟨fun _ => hr, fun _ => hanc w hr⟩, fun hwL => (upd_ne (by rintro rfl; exact h2 hwL)).symm⟩
          · have hwL := hnot w ow hw hr
            exact ⟨⟨fun hx => absurd hx hwL, fun hx => absurd (hanc w hx) hwL⟩, fun hx => absurd hx hwL⟩
        · obtain ⟨st0, q0, q1, q2, q3⟩ := h.pd j oj hj hL2 hDj
          refine ⟨st0, q0, fun e he => ?_, fun hx => by rw [q2 hx, hd]; rfl, by rw [upd_ne (by rintro rfl; exact h2 hL2)]; exact q3⟩
          rw [q1 e he]
          exact (hold _ e (fun hi => hnot j oj hj hi hL2)).symm
    have hev := h.ev
    simp only [evMix, ho] at hev
    split at hev
    · exact hev.elim
    · rename_i hg
      split at hev
      · rename_i v vc he
        exact main v (by unfold Evals; rw [hg]; exact ⟨vc, he, hev.1⟩) hev.2
      · exact hev.elim
    · rename_i g hg
      split at hev
      · rename_i v vc he
        exact main (.cnd g v) (by unfold Evals; rw [hg]; exact ⟨v, vc, he, hev.1, rfl⟩) hev.2
      · exact hev.elim

theorem alts_mem {P : Program} {Γ : Tab} {l : List Oper} {K : SS → Prop} {L : List Nat} {s : SS} {i : Nat} : ∀ (a : Alts), i ∈ altHeads a → okA l (anc l) a L = true → evAlts P Γ l K a s →
    ∃ pd q o, nth l i = some o ∧ evOps P Γ l (fun s' => heldL P Γ l pd s' ∧ evMix P Γ l K q s') [o] s ∧ i ∉ L ∧ okS l (anc l) q (i :: L) = true ∧
      (∀ j, j ∈ L → ∀ oj, nth l j = some oj → loadB oj.op = true → j ∈ pd ∨ j ∈ (nth (anc l) i).getD []) ∧ (∀ j, j ∈ pd → ∀ oj, nth l j = some oj → oj.guard = none)
  | .nil, hi, _, _ => by simp [altHeads] at hi
  | .cons i' pd q r, hi, hok, hev => by
    simp only [okA, Bool.and_eq_true, decide_eq_true_eq, Bool.not_eq_true', List.contains_eq_mem, decide_eq_false_iff_not, List.all_eq_true, Bool.or_eq_true] at hok
    obtain ⟨⟨⟨⟨⟨⟨h1, h2⟩, h3⟩, h4⟩, h5⟩, h6⟩, h7⟩ := hok
    simp only [evAlts] at hev
    simp only [altHeads] at hi
    by_cases e : i = i'
    · subst e
      obtain ⟨o, ho⟩ := nth_some h1
      have := hev.1
      simp only [ho] at this
      refine ⟨pd, q, o, ho, this, h2, h6, fun j hj oj ej hl => ?_, fun j hj oj ej => ?_⟩
      · have := h4 j hj
        simp only [ej, hl, Bool.not_true, Bool.false_eq_true, false_or, decide_eq_true_eq] at this
        exact this
      · have := h5 j hj
        simp only [ej] at this
        simpa using this
    · exact alts_mem r (by simpa [e] using hi) h7 hev.2

theorem heldL_mem {P : Program} {Γ : Tab} {l : List Oper} {s : SS} {j : Nat} : ∀ (pd : List Nat), j ∈ pd → heldL P Γ l pd s → ∃ o v vc d, nth l j = some o ∧ evalP P Γ s true o.op = some (v, vc) ∧ o.dst = some d ∧ vc ∧ v = lget s.fr d
  | [], hj, _ => by simp at hj
  | i :: r, hj, h => by
    simp only [heldL] at h
    by_cases e : j = i
    · subst e
      have := h.1
      split at this
      · rename_i o ho
        split at this
        · rename_i v vc d h1 h2; exact ⟨o, v, vc, d, ho, h1, h2, this.1, this.2⟩
        · exact this.elim
      · exact this.elim
    · exact heldL_mem r (by simpa [e] using hj) h.2

/-- A region in any order, by a plan. -/
theorem region_plan' {P : Program} {Γ : Tab} {B : Ctx} (hrd : B.rd = none) (hΓ : Γ.ok P) (hm : P.follows .mixedOrders = true) {id : Nat} {l : List Oper} {s : SS} {K : Ex → SS → Prop} (p : Sched) (n : Nat) (hn : s.fr.length = n) (hB : planB l n p = true)
    (h : evMix P Γ l (doneK (K .normal)) p s) : CodeOK P B (.region id l.toArray true) s K := by
  obtain ⟨hp, hok⟩ := planB_ok hB
  refine region_any' hrd hΓ hm hp.back (fun D t => ∃ L q s' val, (Stand P Γ l n s.fr (doneK (K .normal)) (fun j => D j && decide (j < l.length)) t L q s' val) ∧ (q = .done ∨ ∃ a, q = .eff a)) ⟨s, Sub.refl s, ?_⟩ ?_ ?_
  · refine eager hp (fun j hj => by simp at hj) p [] s (fun _ => .any) ⟨fun j hj => by simp at hj, fun j hj => by simp at hj, hok, h, rfl, hn, hn, fun k => (slotV_out fun j o _ _ hS => by simp at hS).symm, fun k => (slotV_out fun j o _ _ hS => by simp at hS).symm, fun j oj _ hj => by simp at hj, fun j o _ hj => by simp at hj⟩
  · rintro D i o t ⟨L, q, s', val, hst, hq⟩ ho hDi hah hcl
    have ho' : nth l i = some o := by rw [nth_eq]; exact ho
    have hil := nth_lt ho'
    let D1 : Nat → Bool := fun j => D j && decide (j < l.length)
    have hD1 : ∀ j, j < l.length → D1 j = D j := fun j hj => by simp [D1, hj]
    have hback := hp.back
    have haftlt : ∀ j oj, nth l j = some oj → ∀ d, d ∈ afterB oj → d < l.length := by
      intro j oj hj d hd
      obtain ⟨e, he, hbd, rfl⟩ := mem_afterB.1 hd
      unfold backB at hback
      rw [List.all_eq_true] at hback
      have hjl := nth_lt hj
      have := hback j (List.mem_range.2 hjl)
      rw [nth_eq] at hj
      rw [hj] at this
      simp only [List.all_eq_true, Bool.or_eq_true, Bool.not_eq_true', decide_eq_true_eq] at this
      have := (this e he).resolve_left (by rw [hbd]; simp)
      omega
    have hclD : ∀ j oj, nth l j = some oj → D1 j = true → ∀ d, d ∈ afterB oj → D1 d = true := by
      intro j oj hj hDj d hd
      have hjl := nth_lt hj
      rw [hD1 j hjl] at hDj
      rw [hD1 d (haftlt j oj hj d hd)]
      obtain ⟨e, he, hb, rfl⟩ := mem_afterB.1 hd
      exact hcl j oj (by rw [← nth_eq]; exact hj) hDj e he hb
    have hahD : ∀ d, d ∈ afterB o → D1 d = true := by
      intro d hd
      rw [hD1 d (haftlt i o ho' d hd)]
      obtain ⟨e, he, hb, rfl⟩ := mem_afterB.1 hd
      exact hah e he hb
    have hancD : ∀ j, j ∈ (nth (anc l) i).getD [] → D1 j = true := anc_closed (S := fun j => D1 j = true) hclD i o ho' hahD
    have hnotD : ∀ j oj, nth l j = some oj → i ∈ (nth (anc l) j).getD [] → D1 j = false := fun j oj hj hi => by
      cases hx : D1 j with
      | false => rfl
      | true =>
        have := anc_closed (S := fun j => D1 j = true) hclD j oj hj (hclD j oj hj hx) i hi
        rw [hD1 i hil, hDi] at this
        cases this
    have hDi1 : D1 i = false := by rw [hD1 i hil]; exact hDi
    have hD2 : (fun j => (if j = i then true else D j) && decide (j < l.length)) = fun j => if j = i then true else D1 j := by
      funext j
      by_cases hj : j = i
      · subst hj; simp [hil]
      · simp [hj, D1]
    have hD2lt : ∀ j, (if j = i then true else D1 j) = true → j < l.length := fun j hj => by
      by_cases e : j = i
      · subst e; exact hil
      · rw [if_neg e] at hj; simp only [D1, Bool.and_eq_true, decide_eq_true_eq] at hj; exact hj.2
    by_cases hiL : i ∈ L
    · -- it has been foreseen
      obtain ⟨st0, q0, q1, q2, q3⟩ := hst.pd i o ho' hiL hDi1
      obtain ⟨d, hd⟩ := Option.isSome_iff_exists.1 q0
      obtain ⟨hdn, huniq⟩ := hp.dst i o d ho' hd
      have hag : ∀ e, e ∈ readsOf l o → lget st0.fr e = lget t.fr e := fun e he => by
        rw [q1 e he, hst.ft e]
        refine slotV_congr hp fun w ow hw hwd => ?_
        refine ⟨⟨fun hx => hancD w hx, fun hx => ?_⟩, fun _ => rfl⟩
        rcases hp.reads i o e ho' he w ow hw hwd with hr | ⟨_, hr⟩
        · exact hr
        · have := hnotD w ow hw hr
          have hx' : D1 w = true := hx
          rw [this] at hx'; cases hx'
      have hhp : loadB o.op = true → st0.hp = t.hp := fun hx => by rw [q2 hx, hst.eq]; rfl
      have fin : ∀ v, v = val i → doneK (fun t => ∃ L q s' val, (Stand P Γ l n s.fr (doneK (K .normal)) (fun j => (if j = i then true else D j) && decide (j < l.length)) t L q s' val) ∧ (q = .done ∨ ∃ a, q = .eff a)) (t.put o.dst v) := by
        rintro v rfl
        rw [hD2]
        refine ⟨_, Sub.refl _, L, q, s', val, ⟨fun j hj hl => ?_, hst.lt, hst.ok, hst.ev, ?_, hst.ls, ?_, hst.fs, fun k => ?_, hst.cl, fun j oj hj hL hDj => ?_⟩, hq⟩
        · by_cases e : j = i
          · subst e; exact hiL
          · rw [if_neg e] at hj; exact hst.sub j hj hl
        · rw [hd]; have := hst.eq; rw [this]; rfl
        · rw [hd, put_fr, lset_length]; exact hst.lt'
        · rw [hd, put_fr, lget_lset, hst.lt']
          by_cases hk : k = d
          · subst hk
            rw [if_pos ⟨rfl, hdn⟩, slotV_in hp ho' hd (by simp)]
          · rw [if_neg (by rintro ⟨e, _⟩; exact hk e), hst.ft k]
            refine slotV_congr hp fun j oj hj hjd => ?_
            have hne : j ≠ i := by rintro rfl; rw [ho'] at hj; injection hj with hj; rw [← hj, hd] at hjd; injection hjd with hjd; exact hk hjd.symm
            exact ⟨by simp only [if_neg hne]; rfl, fun _ => rfl⟩
        · by_cases e : j = i
          · subst e; simp at hDj
          · rw [if_neg e] at hDj; exact hst.pd j oj hj hL hDj
      unfold Evals at q3
      rw [evGuard_congr hag] at q3
      simp only [evOps]
      split at q3
      · exact q3.elim
      · rename_i hg
        obtain ⟨vc, q4, q5⟩ := q3
        rw [evalP_congr (reads_agree hag) hhp] at q4
        rw [hg, q4]
        exact ⟨q5, fin _ rfl⟩
      · rename_i g hg
        obtain ⟨v', vc, q4, q5, q6⟩ := q3
        rw [evalP_congr (reads_agree hag) hhp] at q4
        simp only [hg, q4]
        exact ⟨q5, fin _ q6.symm⟩
    · -- it is the plan's next
      have hq' : ∃ a, q = .eff a := by
        rcases hq with rfl | hq
        · have := hst.ok
          simp only [okS, List.all_eq_true, List.mem_range, List.contains_iff_mem] at this
          exact absurd (this i hil) hiL
        · exact hq
      obtain ⟨a, rfl⟩ := hq'
      have hok2 := hst.ok
      simp only [okS, Bool.and_eq_true, List.all_eq_true, List.contains_iff_mem] at hok2
      obtain ⟨⟨_, k1⟩, k2⟩ := hok2
      have hrdL : ∀ e, e ∈ afterB o → e ∈ L := fun e he => hst.sub e (hahD e he) (haftlt i o ho' e he)
      have hhead : i ∈ altHeads a := k1 i (by
        unfold todo
        rw [List.mem_filter, List.mem_range]
        refine ⟨hil, ?_⟩
        unfold readyB
        simp only [ho', Bool.and_eq_true, Bool.not_eq_true', List.contains_eq_mem, decide_eq_false_iff_not, List.all_eq_true, decide_eq_true_eq]
        exact ⟨hiL, hrdL⟩)
      obtain ⟨pd, q', o', e1, e2, e3, e4, e5, e6⟩ := alts_mem a hhead k2 (by have := hst.ev; simp only [evMix] at this; exact this)
      rw [ho'] at e1
      injection e1 with e1
      subst e1
      have hnotL : ∀ j oj, nth l j = some oj → i ∈ (nth (anc l) j).getD [] → j ∉ L := fun j oj hj hi hL =>
        hiL (anc_closed (S := (· ∈ L)) hst.cl j oj hj (hst.cl j oj hj hL) i hi)
      have hag : ∀ e, e ∈ readsOf l o → lget s'.fr e = lget t.fr e := fun e he => by
        rw [hst.fs e, hst.ft e]
        refine slotV_congr hp fun w ow hw hwd => ?_
        rcases hp.reads i o e ho' he w ow hw hwd with hr | ⟨_, hr⟩
        · have hx := hancD w hr
          exact ⟨⟨fun _ => hx, fun _ => hst.sub w hx (nth_lt hw)⟩, fun _ => rfl⟩
        · have hx := hnotD w ow hw hr
          have hxL := hnotL w ow hw hr
          exact ⟨⟨fun hL => absurd hL hxL, fun hD => by have hD' : D1 w = true := hD; rw [hx] at hD'; cases hD'⟩, fun _ => rfl⟩
      have hrun := evOps_with (fr := t.fr) hag e2
      rw [← hst.eq] at hrun
      have cont : ∀ t', OnFr s' t.fr o.dst (fun s' => heldL P Γ l pd s' ∧ evMix P Γ l (doneK (K .normal)) q' s') t' → doneK (fun t => ∃ L q s' val, (Stand P Γ l n s.fr (doneK (K .normal)) (fun j => (if j = i then true else D j) && decide (j < l.length)) t L q s' val) ∧ (q = .done ∨ ∃ a, q = .eff a)) t' := by
        rintro t' ⟨s2, v, ⟨hheld, hmix⟩, hfr, rfl⟩
        rw [hD2]
        refine ⟨_, Sub.refl _, eager hp hD2lt q' (i :: L) s2 (upd val i v) ?_⟩
        have hold : ∀ (S : Nat → Prop) k, ¬ S i → slotV l s.fr (upd val i v) S k = slotV l s.fr val S k := fun S k hS => slotV_congr hp fun j oj _ _ => ⟨Iff.rfl, fun hj => upd_ne (by rintro rfl; exact hS hj)⟩
        have slots : ∀ (fr : List SV) (S S' : Nat → Prop), fr.length = n → (∀ k, lget fr k = slotV l s.fr val S k) → (∀ j, S' j ↔ j = i ∨ S j) → ¬ S i → ∀ k, lget ((s'.with fr).put o.dst v).fr k = slotV l s.fr (upd val i v) S' k := by
          intro fr S S' hlen hfr hS' hSi k
          cases hd : o.dst with
          | none =>
            show lget fr k = _
            rw [hfr k]
            refine slotV_congr hp fun j oj hj hjd => ?_
            have hne : j ≠ i := by rintro rfl; rw [ho'] at hj; injection hj with hj; rw [← hj, hd] at hjd; cases hjd
            exact ⟨by rw [hS' j]; simp [hne], fun _ => (upd_ne hne).symm⟩
          | some d =>
            obtain ⟨hdn, huniq⟩ := hp.dst i o d ho' hd
            show lget (lset fr d v) k = _
            rw [lget_lset, hlen]
            by_cases hk : k = d
            · subst hk
              rw [if_pos ⟨rfl, hdn⟩, slotV_in hp ho' hd ((hS' i).2 (.inl rfl)), upd_same]
            · rw [if_neg (by rintro ⟨e, _⟩; exact hk e), hfr k]
              refine slotV_congr hp fun j oj hj hjd => ?_
              have hne : j ≠ i := by rintro rfl; rw [ho'] at hj; injection hj with hj; rw [← hj, hd] at hjd; injection hjd with hjd; exact hk hjd.symm
              exact ⟨by rw [hS' j]; simp [hne], fun _ => (upd_ne hne).symm⟩
        have plen : ∀ fr : List SV, fr.length = n → ((s'.with fr).put o.dst v).fr.length = n := by
          intro fr hf
          cases hd : o.dst with
          | none => exact hf
          | some d => show (lset fr d v).length = n; rw [lset_length]; exact hf
        have hs2fr : s2.fr = ((s'.with s'.fr).put o.dst v).fr := hfr
        have hfs2 : ∀ k, lget s2.fr k = slotV l s.fr (upd val i v) (· ∈ i :: L) k := fun k => by
          rw [hs2fr]; exact slots s'.fr (· ∈ L) _ hst.ls hst.fs (fun j => by simp) hiL k
        refine ⟨fun j hj hl => ?_, fun j hj => ?_, e4, hmix, rfl, by rw [hs2fr]; exact plen _ hst.ls, plen _ hst.lt', hfs2, fun k => ?_, fun j oj hj hL e he => ?_, fun j oj hj hL hDj => ?_⟩
        · by_cases e : j = i
          · subst e; simp
          · rw [if_neg e] at hj; exact List.mem_cons_of_mem _ (hst.sub j hj hl)
        · rcases List.mem_cons.1 hj with rfl | hj
          · exact hil
          · exact hst.lt j hj
        · exact slots t.fr (fun j => D1 j = true) _ hst.lt' hst.ft (fun j => by by_cases e : j = i <;> simp [e]) (by rw [hDi1]; simp) k
        · rcases List.mem_cons.1 hL with rfl | hL
          · rw [ho'] at hj; injection hj with hj; subst hj; exact List.mem_cons_of_mem _ (hrdL e he)
          · exact List.mem_cons_of_mem _ (hst.cl j oj hj hL e he)
        · have hji : j ≠ i := by rintro rfl; simp at hDj
          rw [if_neg hji] at hDj
          have hL' : j ∈ L := by simpa [hji] using hL
          obtain ⟨st0, q0, q1, q2, q3⟩ := hst.pd j oj hj hL' hDj
          cases hlb : loadB oj.op with
          | false =>
            refine ⟨st0, q0, fun e he => ?_, (fun hx => nomatch hx), by rw [upd_ne hji]; exact q3⟩
            rw [q1 e he]
            exact (hold _ e (fun hi => hnotL j oj hj hi hL')).symm
          | true =>
            have hpd : j ∈ pd := by
              rcases e5 j hL' oj hj hlb with h | h
              · exact h
              · have := hancD j h
                have hDj' : D1 j = false := hDj
                rw [this] at hDj'; cases hDj'
            obtain ⟨oj', v', vc, d', f1, f2, f3, f4, f5⟩ := heldL_mem pd hpd hheld
            rw [hj] at f1
            injection f1 with f1
            subst f1
            have hval : v' = upd val i v j := by
              rw [f5, hfs2 d', slotV_in hp hj f3 (by simp [hL'])]
            refine ⟨s2, q0, fun e he => ?_, fun _ => rfl, ?_⟩
            · rw [hfs2 e]
              refine slotV_congr hp fun w ow hw hwd => ?_
              rcases hp.reads j oj e hj he w ow hw hwd with hr | ⟨hr, _⟩
              · have : w ∈ L := anc_closed (S := (· ∈ L)) hst.cl j oj hj (hst.cl j oj hj hL') w hr
                exact ⟨⟨fun _ => hr, fun _ => by simp [this]⟩, fun _ => rfl⟩
              · rw [hlb] at hr; cases hr
            · unfold Evals
              have hgn : evGuard s2 l oj = .run := by unfold evGuard; rw [e6 j hpd oj hj]
              rw [hgn]
              exact ⟨vc, by rw [← hval]; exact f2, f4⟩
      -- the same, of a longer list of what follows
      have mono : ∀ {Ka Kb : SS → Prop}, (∀ x, Ka x → Kb x) → evOps P Γ l Ka [o] t → evOps P Γ l Kb [o] t := fun {Ka Kb} hk hx => evOps_mono1 hk hx
      exact mono cont hrun
  · rintro D t ⟨L, q, s', val, hst, hq⟩ hall
    have hLall : ∀ i, i < l.length → i ∈ L := fun i hi => hst.sub i (by simp [hall i hi, hi]) hi
    have hq' : q = .done := by
      rcases hq with hq | ⟨a, rfl⟩
      · exact hq
      · have := hst.ok
        simp only [okS, Bool.and_eq_true, List.any_eq_true, List.mem_range, Bool.not_eq_true', List.contains_eq_mem, decide_eq_false_iff_not] at this
        obtain ⟨⟨⟨i, hi, hn⟩, _⟩, _⟩ := this
        exact absurd (hLall i hi) hn
    subst hq'
    have hev := hst.ev
    simp only [evMix] at hev
    have : t.fr = s'.fr := lget_ext _ _ (by rw [hst.lt', hst.ls]) fun k => by
      rw [hst.ft k, hst.fs k]
      refine slotV_congr hp fun j oj hj _ => ⟨⟨fun _ => hLall j (nth_lt hj), fun _ => by simp [hall j (nth_lt hj), nth_lt hj]⟩, fun _ => rfl⟩
    have ht : t = s' := by
      have h1 := hst.eq
      rw [this] at h1
      exact h1
    rw [ht]; exact hev
theorem region_plan {P : Program} {Γ : Tab} {B : Ctx} (hrd : B.rd = none) (hΓ : Γ.ok P) (hm : P.follows .mixedOrders = true) {id : Nat} {l : List Oper} {s : SS} {K : Ex → SS → Prop} (p : Sched) (n : Nat) (hn : s.fr.length = n) (hB : planB l n p = true)
    (h : evMix P Γ l (K .normal) p s) : CodeOK P B (.region id l.toArray true) s K :=
  region_plan' hrd hΓ hm p n hn hB (evMix_mono (fun x hx => ⟨x, Sub.refl x, hx⟩) p s h)
/-- The same, its orders led together into one state. -/
theorem region_planS {P : Program} {Γ : Tab} {B : Ctx} (hrd : B.rd = none) (hΓ : Γ.ok P) (hm : P.follows .mixedOrders = true) {id : Nat} {l : List Oper} {s : SS} {K : Ex → SS → Prop} (p : Sched) (n : Nat) (hn : s.fr.length = n) (hB : planB l n p = true) {S : SS}
    (h : evMix P Γ l (fun t => Sub t S) p s) (hK : K .normal S) : CodeOK P B (.region id l.toArray true) s K :=
  region_plan' hrd hΓ hm p n hn hB (evMix_mono (fun x hx => ⟨S, hx, hK⟩) p s h)
end Go.Eng
/- The engine, part FF: objects handed back as resources; a region by itself. -/
namespace Go.Eng
open Go
set_option linter.unusedVariables false
set_option linter.unusedSimpArgs false

/-- A region that draws no order, by itself. -/
theorem region_run {P : Program} {Γ : Tab} (hΓ : Γ.ok P) {B : Ctx} {id : Nat} {l : List Oper} {s : SS} {K : Ex → SS → Prop} (h : evOps P Γ l (K .normal) l s) : CodeOK P B (.region id l.toArray false) s K := by
  have h1 : CodeOK P { B with stop := [] } (.region id l.toArray false) s K := evCode_sound hΓ _ K s (by
    rw [evC_region]
    simp only [memId, Bool.or_false]
    exact h)
  exact h1

/-- What is handed back is folded into a resource. -/
def FoldN (R : SV → SS → Prop) (sv : SV) (post : SS) : Prop :=
  ∃ H im T ls, FoldW H im post ∧ hfind post.hp (fmap im post.nx 0) = some (T, ls) ∧ ∀ b, R (rawV (fmap im post.nx 0) b sv) ((post.fold H im b).rawAll (fmap im post.nx 0) b)
theorem contract_new {P : Program} {f : FuncId} {pre : SS} {pargs : List SV} {R' R : SV → SS → Prop} (hC : Contract P f pre pargs R') (hR : ∀ sv post, R' sv post → FoldN R sv post) : Contract P f pre pargs R := by
  intro E w vs hw0 hw hv
  obtain ⟨k1, k2⟩ := hC E w vs hw0 hw hv
  refine ⟨k1, k2.mono ?_⟩
  rintro e w' ⟨v, E', post, sv, rfl, h2, h3, h4, h5⟩
  obtain ⟨H, im, T, ls, f1, f2, f3⟩ := hR sv post h5
  obtain ⟨κ, ho⟩ := h3.own
  obtain ⟨b, cs, q1, q2, q3, q4, q5⟩ := ho.hp _ _ _ f2
  have hg := h3.fold f1 q1
  obtain ⟨κ2, ho2⟩ := hg.own
  refine ⟨v, E', (post.fold H im b).rawAll (fmap im post.nx 0) b, _, rfl, h2, ⟨hg.k, hg.kx, hg.os, hg.tape, hg.output, hg.size, hg.old, hg.mu, hg.nxρ, hg.nxθ, κ2, fun n T' ls' e => ?_, ho2.tk, ho2.rs, ho2.mu, ho2.dom⟩, rawV_den q1 _ _ h4, f3 b⟩
  obtain ⟨ls0, e1, rfl⟩ := rawHp_find _ _ _ _ e
  obtain ⟨b', cs', q1', q2', q3', q4', q5'⟩ := ho2.hp _ _ _ e1
  exact ⟨b', cs', q1', q2', rawL_den q1 _ _ q3', q4', q5'⟩
end Go.Eng
/- The engine, part GB: resources of which something is left open; contracts whose result is a row of one's own. -/
namespace Go.Eng
open Go
set_option linter.unusedVariables false
set_option linter.unusedSimpArgs false

/-- One of a family. -/
def exR {ι : Type} (f : ι → Res) : Res where
  holds μ F w := ∃ i, (f i).holds μ F w
  next μ μ' F w w' := fun ⟨i, h⟩ hk hμ hn => ⟨i, (f i).next μ μ' F w w' h hk hμ hn⟩

/-- Of every good world of one state another may be said. -/
def SSLe (s t : SS) : Prop := ∀ E w, Good E s w → Good E t w
theorem SSLe.refl (s : SS) : SSLe s s := fun _ _ h => h
theorem SSLe.resay {s : SS} (r : Nat) {R Q : Res} (hr : (r, R) ∈ s.rs) (hQ : ∀ μ F w, R.holds μ F w → Q.holds μ F w) : SSLe s { s with rs := rsSet s.rs r Q } := fun E w h => h.resay hr (fun F => hQ _ F _)
theorem SSLe.ex {s : SS} {ι : Type} (r : Nat) {f : ι → Res} (i : ι) (hr : (r, f i) ∈ s.rs) : SSLe s { s with rs := rsSet s.rs r (exR f) } := SSLe.resay r hr fun _ _ _ h => ⟨i, h⟩
theorem SSLe.pre {ι : Type} {f : ι → Res} (i : ι) : SSLe (preR (f i)) (preR (exR f)) := by
  have := SSLe.ex (s := preR (f i)) (f := f) 0 i (by simp [preR])
  simpa [preR, rsSet] using this

theorem Contract.post {P : Program} {f : FuncId} {pre : SS} {pargs : List SV} {R R' : SV → SS → Prop} (h : Contract P f pre pargs R) (hR : ∀ sv post, R sv post → ∃ post', SSLe post post' ∧ R' sv post') : Contract P f pre pargs R' := by
  intro E w vs hw0 hw hv
  obtain ⟨k1, k2⟩ := h E w vs hw0 hw hv
  refine ⟨k1, k2.mono fun e w' ⟨v, E', post, sv, h1, h2, h3, h4, h5⟩ => ?_⟩
  obtain ⟨post', q1, q2⟩ := hR sv post h5
  exact ⟨v, E', post', sv, h1, h2, q1 _ _ h3, h4, q2⟩
theorem InvC.post {P : Program} {t : TypeId} {y : Value} {name : String} {pre : SS} {pargs : List SV} {R R' : SV → SS → Prop} (h : InvC P t y name pre pargs R) (hR : ∀ sv post, R sv post → ∃ post', SSLe post post' ∧ R' sv post') : InvC P t y name pre pargs R' := by
  intro E w vs hw0 hw hv
  obtain ⟨f, ars, k1, k2⟩ := h E w vs hw0 hw hv
  refine ⟨f, ars, k1, k2.mono fun e w' ⟨v, E', post, sv, h1, h2, h3, h4, h5⟩ => ?_⟩
  obtain ⟨post', q1, q2⟩ := hR sv post h5
  exact ⟨v, E', post', sv, h1, h2, q1 _ _ h3, h4, q2⟩

/-- A resource that is one of a family is that one. -/
theorem pre_ex {ι : Type} {f : ι → Res} {E : Env} {w : World} (h : Good E (preR (exR f)) w) : ∃ i, Good E (preR (f i)) w := by
  obtain ⟨κ, ho⟩ := h.own
  obtain ⟨F, ⟨i, h1⟩, h2⟩ := ho.rs 0 (exR f) (by simp [preR])
  refine ⟨i, h.k, h.kx, h.os, h.tape, h.output, h.size, h.old, h.mu, h.nxρ, h.nxθ, κ, ho.hp, ho.tk, fun r R hr => ?_, ho.mu, ho.dom⟩
  simp only [preR, List.mem_cons, Prod.mk.injEq, List.not_mem_nil, or_false] at hr
  obtain ⟨rfl, rfl⟩ := hr
  exact ⟨F, h1, h2⟩
theorem Contract.ex {P : Program} {g : FuncId} {ι : Type} {f : ι → Res} {pargs : List SV} {R : SV → SS → Prop} (h : ∀ i, Contract P g (preR (f i)) pargs R) : Contract P g (preR (exR f)) pargs R := by
  intro E w vs hw0 hw hv
  obtain ⟨i, hi⟩ := pre_ex hw
  exact h i E w vs hw0 hi hv
theorem InvC.ex {P : Program} {t : TypeId} {y : Value} {name : String} {ι : Type} {f : ι → Res} {pargs : List SV} {R : SV → SS → Prop} (h : ∀ i, InvC P t y name (preR (f i)) pargs R) : InvC P t y name (preR (exR f)) pargs R := by
  intro E w vs hw0 hw hv
  obtain ⟨i, hi⟩ := pre_ex hw
  exact h i E w vs hw0 hi hv

/-- What is known of a row. -/
theorem code_row {P : Program} {B : Ctx} {c : Code} {s : SS} {K : Ex → SS → Prop} (r : Nat) {k : IntKind} {p : Option Addr} {cap : Nat} {l : List Int} (hr : rsFind s.rs r = some (RowR k p cap l))
    (h : l.length ≤ cap → (cap ≠ 0 → p ≠ none) → CodeOK P B c s K) : CodeOK P B c s K := by
  intro E a w hb hf hw
  obtain ⟨h0, h1, h2⟩ := hw.rowOf (rsFind_mem _ _ _ hr)
  refine h h0 (fun hc => ?_) E a w hb hf hw
  rcases h2 with rfl | ⟨b, off, T, cs, rfl, _⟩
  · exact absurd rfl hc
  · simp
theorem contract_row {P : Program} {f : FuncId} {s : SS} {pargs : List SV} {R : SV → SS → Prop} (r : Nat) {k : IntKind} {p : Option Addr} {cap : Nat} {l : List Int} (hr : rsFind s.rs r = some (RowR k p cap l))
    (h : l.length ≤ cap → (cap ≠ 0 → p ≠ none) → Contract P f s pargs R) : Contract P f s pargs R := by
  intro E w vs h0 hw hv
  obtain ⟨h1, _, h2⟩ := hw.rowOf (rsFind_mem _ _ _ hr)
  refine h h1 (fun hc => ?_) E w vs h0 hw hv
  rcases h2 with rfl | ⟨b, off, T, cs, rfl, _⟩
  · exact absurd rfl hc
  · simp

/-- A slice that is new, with its token, is a row of one's own. -/
theorem Good.thaw {E E2 : Env} {w : World} (h0 : E.w0.heap.size ≤ w.heap.size) (hx : E.Ext E2) {k : IntKind} {l : List Int} {v : Value} (hw : Good E2 ⟨[], [], [0], [], 1, 0, []⟩ w) (hv : Den E2 (.ints k (.tok 0 true) l) v)
    (hnew : ∀ a n c, v = .slice (some a) n c → ∀ ad x, E.μ ad = some x → ad.block ≠ a.block) (Z : Nat → Prop) (hZ : ∀ b, E2.w0.heap.size ≤ b → Z b) :
    ∃ p c E3, v = .slice p l.length c ∧ E3.w0 = E2.w0 ∧ E3.S0 = E2.S0 ∧ E3.k = E2.k ∧ E3.Z = Z ∧ (∀ a v, E.μ a = some v → E3.μ a = some v) ∧ (∀ a v, E3.μ a = some v → E2.μ a = some v) ∧ E3.ρ = E2.ρ ∧ E3.θ = E2.θ ∧ Good E3 ⟨[], [], [], [(0, RowR k p c l)], 1, 0, []⟩ w := by
  simp only [Den] at hv
  obtain ⟨p, c, rfl, hc, hc2, hcell, htok, hfresh⟩ := hv
  obtain ⟨κ, ho⟩ := hw.own
  obtain ⟨sz, a', len, cap, t1, t2, t3⟩ := ho.tk 0 (by simp)
  obtain ⟨a0, n0, c0, j, p', u1, u2, u3, u4, u5⟩ := htok
  rw [t1] at u1
  simp only [Option.some.injEq, Prod.mk.injEq, Value.slice.injEq] at u1 u4
  obtain ⟨rfl, rfl, rfl, rfl⟩ := u1
  obtain ⟨rfl, e1, e2⟩ := u4
  let μ3 : Addr → Option Value := fun a => match p with | some ad => if a.block = ad.block then none else E2.μ a | none => E2.μ a
  have m1 : ∀ a v, μ3 a = some v → E2.μ a = some v ∧ ∀ ad, p = some ad → a.block ≠ ad.block := by
    intro a v e
    simp only [μ3] at e
    cases p with
    | none => exact ⟨e, fun ad h => by cases h⟩
    | some ad =>
      simp only at e
      split at e
      · cases e
      · rename_i hne
        exact ⟨e, fun ad' h => by injection h with h; rw [← h]; exact hne⟩
  have m2 : ∀ a v, E.μ a = some v → μ3 a = some v := by
    intro a v e
    have e' := hx.μ a v e
    simp only [μ3]
    cases p with
    | none => exact e'
    | some ad =>
      simp only
      rw [if_neg (hnew ad _ _ rfl a v e)]
      exact e'
  refine ⟨p, c, { E2 with μ := μ3, Z := Z, hZ := hZ }, rfl, rfl, rfl, rfl, rfl, m2, fun a v e => (m1 a v e).1, rfl, rfl, ?_⟩
  refine ⟨hw.k, hw.kx, hw.os, hw.tape, hw.output, hw.size, hw.old, fun a v e => hw.mu a v (m1 a v e).1, hw.nxρ, hw.nxθ, fun b => match κ b with | some (.tok 0) => some (.res 0) | _ => none, fun n T ls e => by simp [hfind] at e, fun τ hτ => by simp at hτ, fun r R hr => ?_, fun a v e n e' => ?_, fun b key e => ?_⟩
  · simp only [List.mem_cons, Prod.mk.injEq, List.not_mem_nil, or_false] at hr
    obtain ⟨rfl, rfl⟩ := hr
    refine ⟨fun b => κ b = some (.tok 0), ⟨hc, hc2, ?_⟩, fun b hb => ⟨(ho.dom b _ hb).1, by simp only [hb], (ho.dom b _ hb).2⟩⟩
    by_cases hc0 : c = 0
    · exact .inl hc0
    · rcases u5 with u5 | rfl
      · omega
      rcases t3 with ⟨t3, rfl⟩ | ⟨b, off, T, cs, rfl, t4, t5, t6, t7, t8⟩
      · simp only [Option.map_none] at hcell
        have : l = [] := by
          cases l with
          | nil => rfl
          | cons y ys => obtain ⟨b, off, e, _⟩ := hcell 0 y (by simp); cases e
        subst this
        simp at e1
        omega
      · refine .inr ⟨b, off + j, T, cs, by simp [add_none], t4, t6, by omega, fun i x hx => ?_, fun a v e => (m1 a v e).2 ⟨b, off + j, none⟩ (by simp [add_none])⟩
        obtain ⟨b', off', q1, q2⟩ := hcell i x hx
        simp only [Option.map_some, Nat.mul_one, add_none, Option.some.injEq, Addr.mk.injEq] at q1
        obtain ⟨rfl, rfl, _⟩ := q1
        have := hw.mu _ _ q2
        obtain ⟨fz, hb, _⟩ := t6
        simpa [World.cell?, hb] using this
  · split at e' <;> cases e'
  · split at e
    · rename_i hk
      exact ho.dom b _ hk
    · cases e
/-- A function that hands back a new slice of numbers hands back a row of one's own. -/
theorem Contract.thaw {P : Program} {f : FuncId} {pargs : List SV} {k : IntKind} {l : List Int} (h : Contract P f nilSS pargs (fun sv post => sv = .ints k (.tok 0 true) l ∧ post = ⟨[], [], [0], [], 1, 0, []⟩))
    (hargs : ∀ (E : Env) (Z : Nat → Prop) (hZ : ∀ b, E.w0.heap.size ≤ b → Z b) (vs : List Value), DenL E pargs vs → DenL { E with Z := Z, hZ := hZ } pargs vs) :
    Contract P f nilSS pargs (fun sv post => ∃ p c, sv = .raw (.slice p l.length c) ∧ post = ⟨[], [], [], [(0, RowR k p c l)], 1, 0, []⟩) := by
  intro E w vs hw0 hw hv
  subst hw0
  let E1 : Env := { E with Z := fun b => E.w0.heap.size ≤ b, hZ := fun b h => h }
  have g1 : Good E1 nilSS E.w0 := ⟨hw.k, hw.kx, hw.os, hw.tape, hw.output, hw.size, hw.old, hw.mu, hw.nxρ, hw.nxθ, let ⟨κ, ho⟩ := hw.own; ⟨κ, fun n T ls e => by simp [nilSS, hfind] at e, fun τ hτ => by simp [nilSS] at hτ, fun r R hr => by simp [nilSS] at hr, ho.mu, ho.dom⟩⟩
  obtain ⟨k1, k2⟩ := h E1 E.w0 vs rfl g1 (hargs E _ _ vs hv)
  refine ⟨k1, k2.mono ?_⟩
  rintro e w' ⟨v, E2, post, sv, rfl, x1, x2, x3, rfl, rfl⟩
  have hnew : ∀ a n c, v = .slice (some a) n c → ∀ ad x, E1.μ ad = some x → ad.block ≠ a.block := by
    intro a n c e ad x hx
    have hv := x3
    simp only [Den] at hv
    obtain ⟨p, c', e', _, _, _, _, hfresh⟩ := hv
    have hz := hfresh rfl a n c e
    rw [x1.Z] at hz
    have : ad.block < E.w0.heap.size := World.block_lt_of_cell? _ ad (hw.mu ad x hx)
    have hz' : E.w0.heap.size ≤ a.block := hz
    omega
  have hsize : E1.w0.heap.size ≤ w'.heap.size := by have := x2.size; rw [x1.w0] at this; exact this
  obtain ⟨p, c, E3, rfl, q1, q2, q3, q4, q5, q6, q7, q8, q9⟩ := Good.thaw hsize x1 x2 x3 hnew E.Z (fun b hb => by rw [x1.w0] at hb; exact E.hZ b hb)
  refine ⟨_, E3, _, .raw (.slice p l.length c), rfl, ⟨q3.trans x1.k, fun n hn => by rw [q7]; exact x1.ρ n hn, fun n hn => by rw [q8]; exact x1.θ n hn, q1.trans x1.w0, q2.trans x1.S0, q5, fun a v e => x1.μnew a v (q6 a v e), q4⟩, q9, by simp only [Den], p, c, rfl, rfl⟩
theorem old_args {k : IntKind} {l : List Int} (E : Env) (Z : Nat → Prop) (hZ : ∀ b, E.w0.heap.size ≤ b → Z b) (vs : List Value) : DenL E [.ints k .old l] vs → DenL { E with Z := Z, hZ := hZ } [.ints k .old l] vs := by
  cases vs with
  | nil => simp only [DenL]; exact id
  | cons v vs =>
    simp only [DenL, Den]
    rintro ⟨⟨a, c, h1, h2, h3, h4, h5⟩, h6⟩
    refine ⟨⟨a, c, h1, h2, h3, h4, trivial⟩, ?_⟩
    cases vs with
    | nil => simp only [DenL]
    | cons u us => simp only [DenL] at h6
end Go.Eng
/- The engine, part R: a table of types, held against a program. -/
namespace Go.Eng
open Go
set_option linter.unusedVariables false
set_option linter.unusedSimpArgs false

def leafB : Value → Value → Bool
  | .int k n, .int k' n' => decide (k = k') && decide (n = n')
  | .bool b, .bool c => b == c
  | .string x, .string y => x.data.toList.isEmpty && y.data.toList.isEmpty
  | .slice none 0 0, .slice none 0 0 => true
  | .pointer none, .pointer none => true
  | .nilIface, .nilIface => true
  | .nilFunc, .nilFunc => true
  | .map none, .map none => true
  | _, _ => false
theorem leafB_sound {x y : Value} (h : leafB x y = true) : x = y := by
  unfold leafB at h
  split at h
  · simp only [Bool.and_eq_true, decide_eq_true_eq] at h; rw [h.1, h.2]
  · simp only [beq_iff_eq] at h; rw [h]
  · simp only [Bool.and_eq_true, List.isEmpty_iff] at h
    rename_i x y
    have e1 : x = ⟨#[]⟩ := by apply ByteArray.ext; apply Array.ext'; exact h.1
    have e2 : y = ⟨#[]⟩ := by apply ByteArray.ext; apply Array.ext'; exact h.2
    rw [e1, e2]
  all_goals first | rfl | (cases h)
def leavesB : List Value → List Value → Bool
  | [], [] => true
  | x :: xs, y :: ys => leafB x y && leavesB xs ys
  | _, _ => false
theorem leavesB_sound : ∀ {l m : List Value}, leavesB l m = true → l = m
  | [], [], _ => rfl
  | x :: xs, y :: ys, h => by
    simp only [leavesB, Bool.and_eq_true] at h
    rw [leafB_sound h.1, leavesB_sound h.2]
  | [], _ :: _, h => by simp [leavesB] at h
  | _ :: _, [], h => by simp [leavesB] at h

def tdB : TD → Option TypeDesc → Bool
  | .none, _ => true
  | .int k, some (.int k') => decide (k = k')
  | .bool, some .bool => true
  | .str, some .string => true
  | .struct fs, some (.struct fields) => decide (fields.toList.map (fun f => (f.offset, f.type)) = fs)
  | .slice e, some (.slice e') => decide (e = e')
  | .arr n e, some (.array n' e') => decide (n = n') && decide (e = e')
  | .ptr e, some (.pointer e') => decide (e = e')
  | .iface, some (.interface _) => true
  | .func, some (.func _ _ _) => true
  | _, _ => false
theorem tdB_sound {d : TD} {x : Option TypeDesc} (h : tdB d x = true) : d.ok x := by
  unfold tdB at h
  split at h <;> simp only [TD.ok]
  · simp only [decide_eq_true_eq] at h; rw [h]
  · simp only [decide_eq_true_eq] at h; exact ⟨_, rfl, h⟩
  · simp only [decide_eq_true_eq] at h; rw [h]
  · simp only [Bool.and_eq_true, decide_eq_true_eq] at h; rw [h.1, h.2]
  · simp only [decide_eq_true_eq] at h; rw [h]
  · exact ⟨_, rfl⟩
  · exact ⟨_, _, _, rfl⟩
  · cases h

def noneB : TD → Bool
  | .none => true
  | _ => false
def tiB (P : Program) (t : TypeId) (ti : TI) : Bool :=
  tdB ti.d (P.underlying t) && (noneB ti.d || (match P.info? t with
    | some i => decide (i.size = ti.size) && decide (i.bytes = ti.bytes) && (match i.zero with | some z => leavesB z.cells.toList ti.zero | none => false)
    | none => false))
theorem tiB_sound {P : Program} {t : TypeId} {ti : TI} (h : tiB P t ti = true) : TIok P t ti := by
  unfold tiB at h
  simp only [Bool.and_eq_true, Bool.or_eq_true] at h
  obtain ⟨h1, h2⟩ := h
  refine ⟨tdB_sound h1, ?_⟩
  rcases h2 with h2 | h2
  · left
    unfold noneB at h2
    split at h2
    · assumption
    · cases h2
  · right
    split at h2
    · rename_i i hi
      simp only [Bool.and_eq_true, decide_eq_true_eq] at h2
      obtain ⟨⟨h3, h4⟩, h5⟩ := h2
      split at h5
      · rename_i z hz
        exact ⟨i, z, hi, h3, h4, hz, leavesB_sound h5⟩
      · cases h5
    · cases h2

def tabB (P : Program) : Nat → List TI → Bool
  | _, [] => true
  | n, ti :: r => tiB P n ti && tabB P (n + 1) r
theorem tabB_sound {P : Program} : ∀ {l : List TI} {n : Nat}, tabB P n l = true → ∀ i ti, l[i]? = some ti → TIok P (n + i) ti
  | [], n, _, i, ti, h => by simp at h
  | x :: r, n, hb, 0, ti, h => by
    simp only [tabB, Bool.and_eq_true] at hb
    simp at h; subst h
    exact tiB_sound hb.1
  | x :: r, n, hb, i + 1, ti, h => by
    simp only [tabB, Bool.and_eq_true] at hb
    have := tabB_sound hb.2 i ti (by simpa using h)
    rwa [show n + 1 + i = n + (i + 1) by omega] at this

def noTI : TI := ⟨.none, 0, 0, []⟩
def tabOf (l : List TI) : Tab := fun t => l.getD t noTI
theorem tabOf_ok {P : Program} {l : List TI} (h : tabB P 0 l = true) : (tabOf l).ok P := by
  intro t
  unfold tabOf
  cases e : l[t]? with
  | none =>
    have : l.getD t noTI = noTI := by simp [List.getD, e]
    rw [this]
    exact ⟨trivial, .inl rfl⟩
  | some ti =>
    have : l.getD t noTI = ti := by simp [List.getD, e]
    rw [this]
    have := tabB_sound h t ti e
    rwa [Nat.zero_add] at this
end Go.Eng
/- The engine, part FB: the rules of evaluation, as one set. -/
namespace Go.Eng
open Go
theorem wrap_zero : IntKind.i64.wrap 0 = 0 := rfl
attribute [push_cast] slAppend cutp_zero Nat.sub_zero evAppendX evCopy rowApp appRow rowCopy rsSet wrap_zero evMix.eq_1 evMix.eq_2 evMix.eq_3 evAlts.eq_1 evAlts_cons mixN_eq heldL.eq_1 heldL.eq_2 doneK evC_skip evC_label evC_ret evC_exit evC_goto evC_region evC_seq evC_cond evC_block evC_loop evC_scope evC_rangeFunc seqK.eq_1 seqK.eq_2 seqK.eq_3 seqK.eq_4 callK_eq nilK_eq skipV evOps.eq_1 evOps.eq_2 evStill.eq_1 evStill.eq_2 evGuard evalP evEff evCall evAppend evPick evNil evField evIndexAddr evLoad evUn evConv evFieldV evIndex evSlice cut cutL evBuiltin evBuild evParts placeOf fieldOf nth leaves spl opd ovc ovcL core vcg SS.eval SS.put SS.enter SS.addBlk SS.addTok SS.setBlk SS.back lentOf lentHp lentTk lentRs lget lset hfind hset hpRen hpDel tkRen tkDelL rsRen rsDel memB fmap ren renL renT tkMem tkDel bin binI binS binE isC isT isF isNilS evSliceNil appd intsOf slTag ofV ofLeaf one allOne thenK.eq_1 thenK.eq_2 thenK.eq_3 thenK.eq_4 blockK.eq_1 blockK.eq_2 blockK.eq_3 blockK.eq_4 retK.eq_1 retK.eq_2 retK.eq_3 retK.eq_4 evRes single TD.agg allT tdT nilSS noTI rowsOf elOf pickL eqB leafEq loopN.eq_1 loopN.eq_2 scopeK.eq_1 scopeK.eq_2 scopeK.eq_3 scopeK.eq_4 SubW CallW FinW retS retF markK rsCut rsSet rsFind iterK.eq_1 iterK.eq_2 iterK.eq_3 iterEnd pendK.eq_1 pendK.eq_2 pendK.eq_3 pendK.eq_4 roundK.eq_1 roundK.eq_2 roundK.eq_3 roundK.eq_4 roundEnd assignK.eq_1 assignK.eq_2 YOK_eq setPs SS.iter memId hpSub tkSub rsSub W WL TW distincts allLt idTo SS.lt hpLt rsLt Nat.le_refl List.toList_toArray List.size_toArray List.map List.cons_append List.nil_append List.append_nil List.length_cons List.length_nil List.replicate List.take_succ_cons List.take_zero List.drop_succ_cons List.drop_zero Option.map_some Option.map_none Option.toList Option.isSome Option.isNone_none Option.isNone_some Bool.not_true Bool.not_false decide_true decide_false bne_self_eq_false Nat.add_zero Nat.zero_add Bool.or_false Bool.false_or Bool.or_true Bool.true_or Bool.and_true Bool.true_and List.mem_cons forall_eq_or_imp forall_eq List.not_mem_nil ne_eq not_false_eq_true not_true_eq_false true_and and_true and_self true_or or_true forall_const Bool.false_eq_true beq_self_eq_true Bool.not_eq_true Bool.not_eq_false imp_self implies_true false_imp_iff beq_true beq_false Bool.not_not beq_iff_eq decide_eq_true_eq decide_eq_false_iff_not bne_iff_ne beq_eq_false_iff_ne bne_eq_false_iff_eq Bool.and_eq_true Bool.and_eq_false_iff Bool.or_eq_true Bool.or_eq_false_iff Bool.not_eq_true' Bool.not_eq_false' Int.not_lt Int.not_le rawV rawL rawHp SS.rawAll SS.fold SS.unfold ptrAt rawsAt preR FoldW imN cutTag
end Go.Eng
/- The table of types of this seat's translation (by tabgen.py), held against the program. -/
namespace Go.Proofs.Ytbhkpefjnomncaa
open Go.Eng

def tyList : List TI := [noTI,
  ⟨.func, 1, 8, [.nilFunc]⟩,
  ⟨.int .i64, 1, 8, [.int .i64 0]⟩,
  ⟨.int .i64, 1, 8, [.int .i64 0]⟩,
  ⟨.bool, 1, 1, [.bool false]⟩,
  ⟨.int .u8, 1, 1, [.int .u8 0]⟩,
  ⟨.int .u8, 1, 1, [.int .u8 0]⟩,
  ⟨.struct [(0, 2), (1, 3), (2, 4), (3, 6)], 4, 24, [.int .i64 0, .int .i64 0, .bool false, .int .u8 0]⟩,
  ⟨.struct [(0, 2), (1, 3), (2, 4), (3, 6)], 4, 24, [.int .i64 0, .int .i64 0, .bool false, .int .u8 0]⟩,
  ⟨.str, 1, 16, [.string ⟨#[]⟩]⟩,
  ⟨.str, 1, 16, [.string ⟨#[]⟩]⟩,
  ⟨.str, 1, 16, [.string ⟨#[]⟩]⟩,
  ⟨.int .u64, 1, 8, [.int .u64 0]⟩,
  ⟨.struct [(0, 9), (1, 12)], 2, 24, [.string ⟨#[]⟩, .int .u64 0]⟩,
  ⟨.struct [(0, 9), (1, 12)], 2, 24, [.string ⟨#[]⟩, .int .u64 0]⟩,
  ⟨.ptr 147, 1, 8, [.pointer none]⟩,
  ⟨.ptr 150, 1, 8, [.pointer none]⟩,
  ⟨.ptr 160, 1, 8, [.pointer none]⟩,
  ⟨.struct [(0, 17)], 1, 8, [.pointer none]⟩,
  ⟨.struct [(0, 17)], 1, 8, [.pointer none]⟩,
  ⟨.iface, 1, 16, [.nilIface]⟩,
  ⟨.int .i32, 1, 4, [.int .i32 0]⟩,
  ⟨.slice 5, 1, 24, [.slice none 0 0]⟩,
  ⟨.struct [(0, 4), (1, 4), (2, 3), (3, 3), (4, 22), (5, 22), (6, 22), (7, 3), (8, 4), (9, 4), (10, 4)], 11, 112, [.bool false, .bool false, .int .i64 0, .int .i64 0, .slice none 0 0, .slice none 0 0, .slice none 0 0, .int .i64 0, .bool false, .bool false, .bool false]⟩,
  ⟨.struct [(0, 4), (1, 4), (2, 3), (3, 3), (4, 22), (5, 22), (6, 22), (7, 3), (8, 4), (9, 4), (10, 4)], 11, 112, [.bool false, .bool false, .int .i64 0, .int .i64 0, .slice none 0 0, .slice none 0 0, .slice none 0 0, .int .i64 0, .bool false, .bool false, .bool false]⟩,
  ⟨.func, 1, 8, [.nilFunc]⟩,
  ⟨.struct [(0, 4), (1, 4), (2, 3), (3, 3), (4, 22), (5, 22), (6, 22), (7, 3), (8, 4), (9, 4), (10, 4)], 11, 112, [.bool false, .bool false, .int .i64 0, .int .i64 0, .slice none 0 0, .slice none 0 0, .slice none 0 0, .int .i64 0, .bool false, .bool false, .bool false]⟩,
  ⟨.func, 1, 8, [.nilFunc]⟩,
  ⟨.int .i64, 1, 8, [.int .i64 0]⟩,
  noTI,
  ⟨.func, 1, 8, [.nilFunc]⟩,
  ⟨.ptr 33, 1, 8, [.pointer none]⟩,
  ⟨.struct [(0, 22), (1, 3), (2, 3), (3, 3)], 4, 48, [.slice none 0 0, .int .i64 0, .int .i64 0, .int .i64 0]⟩,
  ⟨.struct [(0, 22), (1, 3), (2, 3), (3, 3)], 4, 48, [.slice none 0 0, .int .i64 0, .int .i64 0, .int .i64 0]⟩,
  ⟨.func, 1, 8, [.nilFunc]⟩,
  ⟨.slice 3, 1, 24, [.slice none 0 0]⟩,
  noTI,
  ⟨.func, 1, 8, [.nilFunc]⟩,
  ⟨.func, 1, 8, [.nilFunc]⟩,
  ⟨.func, 1, 8, [.nilFunc]⟩,
  ⟨.func, 1, 8, [.nilFunc]⟩,
  ⟨.slice 47, 1, 24, [.slice none 0 0]⟩,
  ⟨.func, 1, 8, [.nilFunc]⟩,
  ⟨.struct [(0, 4), (1, 4), (2, 4), (3, 4), (4, 4), (5, 4), (6, 4), (7, 4)], 8, 8, [.bool false, .bool false, .bool false, .bool false, .bool false, .bool false, .bool false, .bool false]⟩,
  ⟨.struct [(0, 4), (1, 4), (2, 4), (3, 4), (4, 4), (5, 4), (6, 4), (7, 4)], 8, 8, [.bool false, .bool false, .bool false, .bool false, .bool false, .bool false, .bool false, .bool false]⟩,
  ⟨.func, 1, 8, [.nilFunc]⟩,
  ⟨.struct [(0, 3), (1, 3), (2, 3)], 3, 24, [.int .i64 0, .int .i64 0, .int .i64 0]⟩,
  ⟨.struct [(0, 3), (1, 3), (2, 3)], 3, 24, [.int .i64 0, .int .i64 0, .int .i64 0]⟩,
  ⟨.func, 1, 8, [.nilFunc]⟩,
  ⟨.func, 1, 8, [.nilFunc]⟩,
  ⟨.func, 1, 8, [.nilFunc]⟩,
  ⟨.func, 1, 8, [.nilFunc]⟩,
  ⟨.func, 1, 8, [.nilFunc]⟩,
  noTI,
  ⟨.func, 1, 8, [.nilFunc]⟩,
  ⟨.func, 1, 8, [.nilFunc]⟩,
  noTI,
  ⟨.func, 1, 8, [.nilFunc]⟩,
  ⟨.func, 1, 8, [.nilFunc]⟩,
  noTI,
  ⟨.func, 1, 8, [.nilFunc]⟩,
  ⟨.func, 1, 8, [.nilFunc]⟩,
  ⟨.ptr 105, 1, 8, [.pointer none]⟩,
  noTI,
  ⟨.func, 1, 8, [.nilFunc]⟩,
  ⟨.func, 1, 8, [.nilFunc]⟩,
  ⟨.func, 1, 8, [.nilFunc]⟩,
  ⟨.func, 1, 8, [.nilFunc]⟩,
  ⟨.slice 22, 1, 24, [.slice none 0 0]⟩,
  ⟨.ptr 109, 1, 8, [.pointer none]⟩,
  noTI,
  ⟨.func, 1, 8, [.nilFunc]⟩,
  ⟨.func, 1, 8, [.nilFunc]⟩,
  noTI,
  ⟨.func, 1, 8, [.nilFunc]⟩,
  ⟨.func, 1, 8, [.nilFunc]⟩,
  ⟨.func, 1, 8, [.nilFunc]⟩,
  ⟨.func, 1, 8, [.nilFunc]⟩,
  noTI,
  ⟨.func, 1, 8, [.nilFunc]⟩,
  ⟨.func, 1, 8, [.nilFunc]⟩,
  ⟨.func, 1, 8, [.nilFunc]⟩,
  ⟨.iface, 1, 16, [.nilIface]⟩,
  ⟨.iface, 1, 16, [.nilIface]⟩,
  ⟨.func, 1, 8, [.nilFunc]⟩,
  ⟨.func, 1, 8, [.nilFunc]⟩,
  ⟨.func, 1, 8, [.nilFunc]⟩,
  ⟨.func, 1, 8, [.nilFunc]⟩,
  ⟨.func, 1, 8, [.nilFunc]⟩,
  ⟨.func, 1, 8, [.nilFunc]⟩,
  ⟨.ptr 95, 1, 8, [.pointer none]⟩,
  noTI,
  ⟨.func, 1, 8, [.nilFunc]⟩,
  ⟨.func, 1, 8, [.nilFunc]⟩,
  ⟨.struct [(0, 26), (11, 83)], 12, 128, [.bool false, .bool false, .int .i64 0, .int .i64 0, .slice none 0 0, .slice none 0 0, .slice none 0 0, .int .i64 0, .bool false, .bool false, .bool false, .nilIface]⟩,
  ⟨.struct [(0, 26), (11, 83)], 12, 128, [.bool false, .bool false, .int .i64 0, .int .i64 0, .slice none 0 0, .slice none 0 0, .slice none 0 0, .int .i64 0, .bool false, .bool false, .bool false, .nilIface]⟩,
  ⟨.func, 1, 8, [.nilFunc]⟩,
  noTI,
  ⟨.func, 1, 8, [.nilFunc]⟩,
  ⟨.func, 1, 8, [.nilFunc]⟩,
  ⟨.func, 1, 8, [.nilFunc]⟩,
  ⟨.struct [(0, 4), (1, 22), (2, 3), (3, 3)], 4, 48, [.bool false, .slice none 0 0, .int .i64 0, .int .i64 0]⟩,
  ⟨.struct [(0, 4), (1, 22), (2, 3), (3, 3)], 4, 48, [.bool false, .slice none 0 0, .int .i64 0, .int .i64 0]⟩,
  ⟨.func, 1, 8, [.nilFunc]⟩,
  ⟨.struct [(0, 102)], 4, 48, [.bool false, .slice none 0 0, .int .i64 0, .int .i64 0]⟩,
  ⟨.struct [(0, 102)], 4, 48, [.bool false, .slice none 0 0, .int .i64 0, .int .i64 0]⟩,
  ⟨.func, 1, 8, [.nilFunc]⟩,
  ⟨.func, 1, 8, [.nilFunc]⟩,
  ⟨.func, 1, 8, [.nilFunc]⟩,
  ⟨.struct [(0, 102)], 4, 48, [.bool false, .slice none 0 0, .int .i64 0, .int .i64 0]⟩,
  ⟨.func, 1, 8, [.nilFunc]⟩,
  ⟨.func, 1, 8, [.nilFunc]⟩,
  noTI,
  ⟨.func, 1, 8, [.nilFunc]⟩,
  ⟨.func, 1, 8, [.nilFunc]⟩,
  ⟨.func, 1, 8, [.nilFunc]⟩,
  ⟨.struct [(0, 83)], 1, 16, [.nilIface]⟩,
  ⟨.struct [(0, 83)], 1, 16, [.nilIface]⟩,
  ⟨.ptr 22, 1, 8, [.pointer none]⟩,
  ⟨.arr 3 118, 3, 24, [.pointer none, .pointer none, .pointer none]⟩,
  ⟨.func, 1, 8, [.nilFunc]⟩,
  ⟨.func, 1, 8, [.nilFunc]⟩,
  ⟨.int .u64, 1, 8, [.int .u64 0]⟩,
  noTI,
  ⟨.func, 1, 8, [.nilFunc]⟩,
  ⟨.slice 130, 1, 24, [.slice none 0 0]⟩,
  ⟨.func, 1, 8, [.nilFunc]⟩,
  ⟨.func, 1, 8, [.nilFunc]⟩,
  ⟨.func, 1, 8, [.nilFunc]⟩,
  ⟨.struct [(0, 5), (1, 127), (2, 128)], 3, 24, [.int .u8 0, .nilFunc, .nilFunc]⟩,
  ⟨.struct [(0, 5), (1, 127), (2, 128)], 3, 24, [.int .u8 0, .nilFunc, .nilFunc]⟩,
  noTI,
  ⟨.func, 1, 8, [.nilFunc]⟩,
  ⟨.int .i64, 1, 8, [.int .i64 0]⟩,
  ⟨.func, 1, 8, [.nilFunc]⟩,
  ⟨.func, 1, 8, [.nilFunc]⟩,
  noTI,
  ⟨.func, 1, 8, [.nilFunc]⟩,
  ⟨.int .u64, 1, 8, [.int .u64 0]⟩,
  ⟨.ptr 44, 1, 8, [.pointer none]⟩,
  noTI,
  ⟨.func, 1, 8, [.nilFunc]⟩,
  ⟨.func, 1, 8, [.nilFunc]⟩,
  ⟨.ptr 133, 1, 8, [.pointer none]⟩,
  ⟨.func, 1, 8, [.nilFunc]⟩,
  ⟨.func, 1, 8, [.nilFunc]⟩,
  ⟨.struct [(0, 17), (1, 17), (2, 17), (3, 9)], 4, 40, [.pointer none, .pointer none, .pointer none, .string ⟨#[]⟩]⟩,
  ⟨.struct [(0, 17), (1, 17), (2, 17), (3, 9)], 4, 40, [.pointer none, .pointer none, .pointer none, .string ⟨#[]⟩]⟩,
  ⟨.arr 0 16, 0, 0, []⟩,
  ⟨.struct [(0, 148)], 0, 0, []⟩,
  ⟨.struct [(0, 148)], 0, 0, []⟩,
  ⟨.func, 1, 8, [.nilFunc]⟩,
  ⟨.int .u32, 1, 4, [.int .u32 0]⟩,
  ⟨.int .u8, 1, 1, [.int .u8 0]⟩,
  ⟨.int .u8, 1, 1, [.int .u8 0]⟩,
  ⟨.func, 1, 8, [.nilFunc]⟩,
  ⟨.ptr 5, 1, 8, [.pointer none]⟩,
  ⟨.int .i32, 1, 4, [.int .i32 0]⟩,
  ⟨.int .i32, 1, 4, [.int .i32 0]⟩,
  ⟨.struct [(0, 12), (1, 12), (2, 152), (3, 153), (4, 5), (5, 5), (6, 154), (7, 155), (8, 156), (9, 157), (10, 158)], 11, 48, [.int .u64 0, .int .u64 0, .int .u32 0, .int .u8 0, .int .u8 0, .int .u8 0, .int .u8 0, .nilFunc, .pointer none, .int .i32 0, .int .i32 0]⟩,
  ⟨.struct [(0, 12), (1, 12), (2, 152), (3, 153), (4, 5), (5, 5), (6, 154), (7, 155), (8, 156), (9, 157), (10, 158)], 11, 48, [.int .u64 0, .int .u64 0, .int .u32 0, .int .u8 0, .int .u8 0, .int .u8 0, .int .u8 0, .nilFunc, .pointer none, .int .i32 0, .int .i32 0]⟩,
  ⟨.ptr 102, 1, 8, [.pointer none]⟩,
  ⟨.arr 3 3, 3, 24, [.int .i64 0, .int .i64 0, .int .i64 0]⟩,
  noTI]
theorem tyListOk : tabB Try.prog 0 tyList = true := by kernel_rfl
def Γ : Tab := tabOf tyList
theorem Γok : Γ.ok Try.prog := tabOf_ok tyListOk
theorem g0 : Γ 0 = noTI := rfl
theorem g1 : Γ 1 = ⟨.func, 1, 8, [.nilFunc]⟩ := rfl
theorem g2 : Γ 2 = ⟨.int .i64, 1, 8, [.int .i64 0]⟩ := rfl
theorem g3 : Γ 3 = ⟨.int .i64, 1, 8, [.int .i64 0]⟩ := rfl
theorem g4 : Γ 4 = ⟨.bool, 1, 1, [.bool false]⟩ := rfl
theorem g5 : Γ 5 = ⟨.int .u8, 1, 1, [.int .u8 0]⟩ := rfl
theorem g6 : Γ 6 = ⟨.int .u8, 1, 1, [.int .u8 0]⟩ := rfl
theorem g7 : Γ 7 = ⟨.struct [(0, 2), (1, 3), (2, 4), (3, 6)], 4, 24, [.int .i64 0, .int .i64 0, .bool false, .int .u8 0]⟩ := rfl
theorem g8 : Γ 8 = ⟨.struct [(0, 2), (1, 3), (2, 4), (3, 6)], 4, 24, [.int .i64 0, .int .i64 0, .bool false, .int .u8 0]⟩ := rfl
theorem g9 : Γ 9 = ⟨.str, 1, 16, [.string ⟨#[]⟩]⟩ := rfl
theorem g10 : Γ 10 = ⟨.str, 1, 16, [.string ⟨#[]⟩]⟩ := rfl
theorem g11 : Γ 11 = ⟨.str, 1, 16, [.string ⟨#[]⟩]⟩ := rfl
theorem g12 : Γ 12 = ⟨.int .u64, 1, 8, [.int .u64 0]⟩ := rfl
theorem g13 : Γ 13 = ⟨.struct [(0, 9), (1, 12)], 2, 24, [.string ⟨#[]⟩, .int .u64 0]⟩ := rfl
theorem g14 : Γ 14 = ⟨.struct [(0, 9), (1, 12)], 2, 24, [.string ⟨#[]⟩, .int .u64 0]⟩ := rfl
theorem g15 : Γ 15 = ⟨.ptr 147, 1, 8, [.pointer none]⟩ := rfl
theorem g16 : Γ 16 = ⟨.ptr 150, 1, 8, [.pointer none]⟩ := rfl
theorem g17 : Γ 17 = ⟨.ptr 160, 1, 8, [.pointer none]⟩ := rfl
theorem g18 : Γ 18 = ⟨.struct [(0, 17)], 1, 8, [.pointer none]⟩ := rfl
theorem g19 : Γ 19 = ⟨.struct [(0, 17)], 1, 8, [.pointer none]⟩ := rfl
theorem g20 : Γ 20 = ⟨.iface, 1, 16, [.nilIface]⟩ := rfl
theorem g21 : Γ 21 = ⟨.int .i32, 1, 4, [.int .i32 0]⟩ := rfl
theorem g22 : Γ 22 = ⟨.slice 5, 1, 24, [.slice none 0 0]⟩ := rfl
theorem g23 : Γ 23 = ⟨.struct [(0, 4), (1, 4), (2, 3), (3, 3), (4, 22), (5, 22), (6, 22), (7, 3), (8, 4), (9, 4), (10, 4)], 11, 112, [.bool false, .bool false, .int .i64 0, .int .i64 0, .slice none 0 0, .slice none 0 0, .slice none 0 0, .int .i64 0, .bool false, .bool false, .bool false]⟩ := rfl
theorem g24 : Γ 24 = ⟨.struct [(0, 4), (1, 4), (2, 3), (3, 3), (4, 22), (5, 22), (6, 22), (7, 3), (8, 4), (9, 4), (10, 4)], 11, 112, [.bool false, .bool false, .int .i64 0, .int .i64 0, .slice none 0 0, .slice none 0 0, .slice none 0 0, .int .i64 0, .bool false, .bool false, .bool false]⟩ := rfl
theorem g25 : Γ 25 = ⟨.func, 1, 8, [.nilFunc]⟩ := rfl
theorem g26 : Γ 26 = ⟨.struct [(0, 4), (1, 4), (2, 3), (3, 3), (4, 22), (5, 22), (6, 22), (7, 3), (8, 4), (9, 4), (10, 4)], 11, 112, [.bool false, .bool false, .int .i64 0, .int .i64 0, .slice none 0 0, .slice none 0 0, .slice none 0 0, .int .i64 0, .bool false, .bool false, .bool false]⟩ := rfl
theorem g27 : Γ 27 = ⟨.func, 1, 8, [.nilFunc]⟩ := rfl
theorem g28 : Γ 28 = ⟨.int .i64, 1, 8, [.int .i64 0]⟩ := rfl
theorem g29 : Γ 29 = noTI := rfl
theorem g30 : Γ 30 = ⟨.func, 1, 8, [.nilFunc]⟩ := rfl
theorem g31 : Γ 31 = ⟨.ptr 33, 1, 8, [.pointer none]⟩ := rfl
theorem g32 : Γ 32 = ⟨.struct [(0, 22), (1, 3), (2, 3), (3, 3)], 4, 48, [.slice none 0 0, .int .i64 0, .int .i64 0, .int .i64 0]⟩ := rfl
theorem g33 : Γ 33 = ⟨.struct [(0, 22), (1, 3), (2, 3), (3, 3)], 4, 48, [.slice none 0 0, .int .i64 0, .int .i64 0, .int .i64 0]⟩ := rfl
theorem g34 : Γ 34 = ⟨.func, 1, 8, [.nilFunc]⟩ := rfl
theorem g35 : Γ 35 = ⟨.slice 3, 1, 24, [.slice none 0 0]⟩ := rfl
theorem g36 : Γ 36 = noTI := rfl
theorem g37 : Γ 37 = ⟨.func, 1, 8, [.nilFunc]⟩ := rfl
theorem g38 : Γ 38 = ⟨.func, 1, 8, [.nilFunc]⟩ := rfl
theorem g39 : Γ 39 = ⟨.func, 1, 8, [.nilFunc]⟩ := rfl
theorem g40 : Γ 40 = ⟨.func, 1, 8, [.nilFunc]⟩ := rfl
theorem g41 : Γ 41 = ⟨.slice 47, 1, 24, [.slice none 0 0]⟩ := rfl
theorem g42 : Γ 42 = ⟨.func, 1, 8, [.nilFunc]⟩ := rfl
theorem g43 : Γ 43 = ⟨.struct [(0, 4), (1, 4), (2, 4), (3, 4), (4, 4), (5, 4), (6, 4), (7, 4)], 8, 8, [.bool false, .bool false, .bool false, .bool false, .bool false, .bool false, .bool false, .bool false]⟩ := rfl
theorem g44 : Γ 44 = ⟨.struct [(0, 4), (1, 4), (2, 4), (3, 4), (4, 4), (5, 4), (6, 4), (7, 4)], 8, 8, [.bool false, .bool false, .bool false, .bool false, .bool false, .bool false, .bool false, .bool false]⟩ := rfl
theorem g45 : Γ 45 = ⟨.func, 1, 8, [.nilFunc]⟩ := rfl
theorem g46 : Γ 46 = ⟨.struct [(0, 3), (1, 3), (2, 3)], 3, 24, [.int .i64 0, .int .i64 0, .int .i64 0]⟩ := rfl
theorem g47 : Γ 47 = ⟨.struct [(0, 3), (1, 3), (2, 3)], 3, 24, [.int .i64 0, .int .i64 0, .int .i64 0]⟩ := rfl
theorem g48 : Γ 48 = ⟨.func, 1, 8, [.nilFunc]⟩ := rfl
theorem g49 : Γ 49 = ⟨.func, 1, 8, [.nilFunc]⟩ := rfl
theorem g50 : Γ 50 = ⟨.func, 1, 8, [.nilFunc]⟩ := rfl
theorem g51 : Γ 51 = ⟨.func, 1, 8, [.nilFunc]⟩ := rfl
theorem g52 : Γ 52 = ⟨.func, 1, 8, [.nilFunc]⟩ := rfl
theorem g53 : Γ 53 = noTI := rfl
theorem g54 : Γ 54 = ⟨.func, 1, 8, [.nilFunc]⟩ := rfl
theorem g55 : Γ 55 = ⟨.func, 1, 8, [.nilFunc]⟩ := rfl
theorem g56 : Γ 56 = noTI := rfl
theorem g57 : Γ 57 = ⟨.func, 1, 8, [.nilFunc]⟩ := rfl
theorem g58 : Γ 58 = ⟨.func, 1, 8, [.nilFunc]⟩ := rfl
theorem g59 : Γ 59 = noTI := rfl
theorem g60 : Γ 60 = ⟨.func, 1, 8, [.nilFunc]⟩ := rfl
theorem g61 : Γ 61 = ⟨.func, 1, 8, [.nilFunc]⟩ := rfl
theorem g62 : Γ 62 = ⟨.ptr 105, 1, 8, [.pointer none]⟩ := rfl
theorem g63 : Γ 63 = noTI := rfl
theorem g64 : Γ 64 = ⟨.func, 1, 8, [.nilFunc]⟩ := rfl
theorem g65 : Γ 65 = ⟨.func, 1, 8, [.nilFunc]⟩ := rfl
theorem g66 : Γ 66 = ⟨.func, 1, 8, [.nilFunc]⟩ := rfl
theorem g67 : Γ 67 = ⟨.func, 1, 8, [.nilFunc]⟩ := rfl
theorem g68 : Γ 68 = ⟨.slice 22, 1, 24, [.slice none 0 0]⟩ := rfl
theorem g69 : Γ 69 = ⟨.ptr 109, 1, 8, [.pointer none]⟩ := rfl
theorem g70 : Γ 70 = noTI := rfl
theorem g71 : Γ 71 = ⟨.func, 1, 8, [.nilFunc]⟩ := rfl
theorem g72 : Γ 72 = ⟨.func, 1, 8, [.nilFunc]⟩ := rfl
theorem g73 : Γ 73 = noTI := rfl
theorem g74 : Γ 74 = ⟨.func, 1, 8, [.nilFunc]⟩ := rfl
theorem g75 : Γ 75 = ⟨.func, 1, 8, [.nilFunc]⟩ := rfl
theorem g76 : Γ 76 = ⟨.func, 1, 8, [.nilFunc]⟩ := rfl
theorem g77 : Γ 77 = ⟨.func, 1, 8, [.nilFunc]⟩ := rfl
theorem g78 : Γ 78 = noTI := rfl
theorem g79 : Γ 79 = ⟨.func, 1, 8, [.nilFunc]⟩ := rfl
theorem g80 : Γ 80 = ⟨.func, 1, 8, [.nilFunc]⟩ := rfl
theorem g81 : Γ 81 = ⟨.func, 1, 8, [.nilFunc]⟩ := rfl
theorem g82 : Γ 82 = ⟨.iface, 1, 16, [.nilIface]⟩ := rfl
theorem g83 : Γ 83 = ⟨.iface, 1, 16, [.nilIface]⟩ := rfl
theorem g84 : Γ 84 = ⟨.func, 1, 8, [.nilFunc]⟩ := rfl
theorem g85 : Γ 85 = ⟨.func, 1, 8, [.nilFunc]⟩ := rfl
theorem g86 : Γ 86 = ⟨.func, 1, 8, [.nilFunc]⟩ := rfl
theorem g87 : Γ 87 = ⟨.func, 1, 8, [.nilFunc]⟩ := rfl
theorem g88 : Γ 88 = ⟨.func, 1, 8, [.nilFunc]⟩ := rfl
theorem g89 : Γ 89 = ⟨.func, 1, 8, [.nilFunc]⟩ := rfl
theorem g90 : Γ 90 = ⟨.ptr 95, 1, 8, [.pointer none]⟩ := rfl
theorem g91 : Γ 91 = noTI := rfl
theorem g92 : Γ 92 = ⟨.func, 1, 8, [.nilFunc]⟩ := rfl
theorem g93 : Γ 93 = ⟨.func, 1, 8, [.nilFunc]⟩ := rfl
theorem g94 : Γ 94 = ⟨.struct [(0, 26), (11, 83)], 12, 128, [.bool false, .bool false, .int .i64 0, .int .i64 0, .slice none 0 0, .slice none 0 0, .slice none 0 0, .int .i64 0, .bool false, .bool false, .bool false, .nilIface]⟩ := rfl
theorem g95 : Γ 95 = ⟨.struct [(0, 26), (11, 83)], 12, 128, [.bool false, .bool false, .int .i64 0, .int .i64 0, .slice none 0 0, .slice none 0 0, .slice none 0 0, .int .i64 0, .bool false, .bool false, .bool false, .nilIface]⟩ := rfl
theorem g96 : Γ 96 = ⟨.func, 1, 8, [.nilFunc]⟩ := rfl
theorem g97 : Γ 97 = noTI := rfl
theorem g98 : Γ 98 = ⟨.func, 1, 8, [.nilFunc]⟩ := rfl
theorem g99 : Γ 99 = ⟨.func, 1, 8, [.nilFunc]⟩ := rfl
theorem g100 : Γ 100 = ⟨.func, 1, 8, [.nilFunc]⟩ := rfl
theorem g101 : Γ 101 = ⟨.struct [(0, 4), (1, 22), (2, 3), (3, 3)], 4, 48, [.bool false, .slice none 0 0, .int .i64 0, .int .i64 0]⟩ := rfl
theorem g102 : Γ 102 = ⟨.struct [(0, 4), (1, 22), (2, 3), (3, 3)], 4, 48, [.bool false, .slice none 0 0, .int .i64 0, .int .i64 0]⟩ := rfl
theorem g103 : Γ 103 = ⟨.func, 1, 8, [.nilFunc]⟩ := rfl
theorem g104 : Γ 104 = ⟨.struct [(0, 102)], 4, 48, [.bool false, .slice none 0 0, .int .i64 0, .int .i64 0]⟩ := rfl
theorem g105 : Γ 105 = ⟨.struct [(0, 102)], 4, 48, [.bool false, .slice none 0 0, .int .i64 0, .int .i64 0]⟩ := rfl
theorem g106 : Γ 106 = ⟨.func, 1, 8, [.nilFunc]⟩ := rfl
theorem g107 : Γ 107 = ⟨.func, 1, 8, [.nilFunc]⟩ := rfl
theorem g108 : Γ 108 = ⟨.func, 1, 8, [.nilFunc]⟩ := rfl
theorem g109 : Γ 109 = ⟨.struct [(0, 102)], 4, 48, [.bool false, .slice none 0 0, .int .i64 0, .int .i64 0]⟩ := rfl
theorem g110 : Γ 110 = ⟨.func, 1, 8, [.nilFunc]⟩ := rfl
theorem g111 : Γ 111 = ⟨.func, 1, 8, [.nilFunc]⟩ := rfl
theorem g112 : Γ 112 = noTI := rfl
theorem g113 : Γ 113 = ⟨.func, 1, 8, [.nilFunc]⟩ := rfl
theorem g114 : Γ 114 = ⟨.func, 1, 8, [.nilFunc]⟩ := rfl
theorem g115 : Γ 115 = ⟨.func, 1, 8, [.nilFunc]⟩ := rfl
theorem g116 : Γ 116 = ⟨.struct [(0, 83)], 1, 16, [.nilIface]⟩ := rfl
theorem g117 : Γ 117 = ⟨.struct [(0, 83)], 1, 16, [.nilIface]⟩ := rfl
theorem g118 : Γ 118 = ⟨.ptr 22, 1, 8, [.pointer none]⟩ := rfl
theorem g119 : Γ 119 = ⟨.arr 3 118, 3, 24, [.pointer none, .pointer none, .pointer none]⟩ := rfl
theorem g120 : Γ 120 = ⟨.func, 1, 8, [.nilFunc]⟩ := rfl
theorem g121 : Γ 121 = ⟨.func, 1, 8, [.nilFunc]⟩ := rfl
theorem g122 : Γ 122 = ⟨.int .u64, 1, 8, [.int .u64 0]⟩ := rfl
theorem g123 : Γ 123 = noTI := rfl
theorem g124 : Γ 124 = ⟨.func, 1, 8, [.nilFunc]⟩ := rfl
theorem g125 : Γ 125 = ⟨.slice 130, 1, 24, [.slice none 0 0]⟩ := rfl
theorem g126 : Γ 126 = ⟨.func, 1, 8, [.nilFunc]⟩ := rfl
theorem g127 : Γ 127 = ⟨.func, 1, 8, [.nilFunc]⟩ := rfl
theorem g128 : Γ 128 = ⟨.func, 1, 8, [.nilFunc]⟩ := rfl
theorem g129 : Γ 129 = ⟨.struct [(0, 5), (1, 127), (2, 128)], 3, 24, [.int .u8 0, .nilFunc, .nilFunc]⟩ := rfl
theorem g130 : Γ 130 = ⟨.struct [(0, 5), (1, 127), (2, 128)], 3, 24, [.int .u8 0, .nilFunc, .nilFunc]⟩ := rfl
theorem g131 : Γ 131 = noTI := rfl
theorem g132 : Γ 132 = ⟨.func, 1, 8, [.nilFunc]⟩ := rfl
theorem g133 : Γ 133 = ⟨.int .i64, 1, 8, [.int .i64 0]⟩ := rfl
theorem g134 : Γ 134 = ⟨.func, 1, 8, [.nilFunc]⟩ := rfl
theorem g135 : Γ 135 = ⟨.func, 1, 8, [.nilFunc]⟩ := rfl
theorem g136 : Γ 136 = noTI := rfl
theorem g137 : Γ 137 = ⟨.func, 1, 8, [.nilFunc]⟩ := rfl
theorem g138 : Γ 138 = ⟨.int .u64, 1, 8, [.int .u64 0]⟩ := rfl
theorem g139 : Γ 139 = ⟨.ptr 44, 1, 8, [.pointer none]⟩ := rfl
theorem g140 : Γ 140 = noTI := rfl
theorem g141 : Γ 141 = ⟨.func, 1, 8, [.nilFunc]⟩ := rfl
theorem g142 : Γ 142 = ⟨.func, 1, 8, [.nilFunc]⟩ := rfl
theorem g143 : Γ 143 = ⟨.ptr 133, 1, 8, [.pointer none]⟩ := rfl
theorem g144 : Γ 144 = ⟨.func, 1, 8, [.nilFunc]⟩ := rfl
theorem g145 : Γ 145 = ⟨.func, 1, 8, [.nilFunc]⟩ := rfl
theorem g146 : Γ 146 = ⟨.struct [(0, 17), (1, 17), (2, 17), (3, 9)], 4, 40, [.pointer none, .pointer none, .pointer none, .string ⟨#[]⟩]⟩ := rfl
theorem g147 : Γ 147 = ⟨.struct [(0, 17), (1, 17), (2, 17), (3, 9)], 4, 40, [.pointer none, .pointer none, .pointer none, .string ⟨#[]⟩]⟩ := rfl
theorem g148 : Γ 148 = ⟨.arr 0 16, 0, 0, []⟩ := rfl
theorem g149 : Γ 149 = ⟨.struct [(0, 148)], 0, 0, []⟩ := rfl
theorem g150 : Γ 150 = ⟨.struct [(0, 148)], 0, 0, []⟩ := rfl
theorem g151 : Γ 151 = ⟨.func, 1, 8, [.nilFunc]⟩ := rfl
theorem g152 : Γ 152 = ⟨.int .u32, 1, 4, [.int .u32 0]⟩ := rfl
theorem g153 : Γ 153 = ⟨.int .u8, 1, 1, [.int .u8 0]⟩ := rfl
theorem g154 : Γ 154 = ⟨.int .u8, 1, 1, [.int .u8 0]⟩ := rfl
theorem g155 : Γ 155 = ⟨.func, 1, 8, [.nilFunc]⟩ := rfl
theorem g156 : Γ 156 = ⟨.ptr 5, 1, 8, [.pointer none]⟩ := rfl
theorem g157 : Γ 157 = ⟨.int .i32, 1, 4, [.int .i32 0]⟩ := rfl
theorem g158 : Γ 158 = ⟨.int .i32, 1, 4, [.int .i32 0]⟩ := rfl
theorem g159 : Γ 159 = ⟨.struct [(0, 12), (1, 12), (2, 152), (3, 153), (4, 5), (5, 5), (6, 154), (7, 155), (8, 156), (9, 157), (10, 158)], 11, 48, [.int .u64 0, .int .u64 0, .int .u32 0, .int .u8 0, .int .u8 0, .int .u8 0, .int .u8 0, .nilFunc, .pointer none, .int .i32 0, .int .i32 0]⟩ := rfl
theorem g160 : Γ 160 = ⟨.struct [(0, 12), (1, 12), (2, 152), (3, 153), (4, 5), (5, 5), (6, 154), (7, 155), (8, 156), (9, 157), (10, 158)], 11, 48, [.int .u64 0, .int .u64 0, .int .u32 0, .int .u8 0, .int .u8 0, .int .u8 0, .int .u8 0, .nilFunc, .pointer none, .int .i32 0, .int .i32 0]⟩ := rfl
theorem g161 : Γ 161 = ⟨.ptr 102, 1, 8, [.pointer none]⟩ := rfl
theorem g162 : Γ 162 = ⟨.arr 3 3, 3, 24, [.int .i64 0, .int .i64 0, .int .i64 0]⟩ := rfl
theorem g163 : Γ 163 = noTI := rfl
attribute [push_cast] g1 g2 g3 g4 g5 g6 g7 g8 g9 g10 g11 g12 g13 g14 g15 g16 g17 g18 g19 g20 g21 g22 g23 g24 g25 g26 g27 g28 g30 g31 g32 g33 g34 g35 g37 g38 g39 g40 g41 g42 g43 g44 g45 g46 g47 g48 g49 g50 g51 g52 g54 g55 g57 g58 g60 g61 g62 g64 g65 g66 g67 g68 g69 g71 g72 g74 g75 g76 g77 g79 g80 g81 g82 g83 g84 g85 g86 g87 g88 g89 g90 g92 g93 g94 g95 g96 g98 g99 g100 g101 g102 g103 g104 g105 g106 g107 g108 g109 g110 g111 g113 g114 g115 g116 g117 g118 g119 g120 g121 g122 g124 g125 g126 g127 g128 g129 g130 g132 g133 g134 g135 g137 g138 g139 g141 g142 g143 g144 g145 g146 g147 g148 g149 g150 g151 g152 g153 g154 g155 g156 g157 g158 g159 g160 g161 g162
end Go.Proofs.Ytbhkpefjnomncaa
/- Contracts of the small functions of the buffer's mode. -/
namespace Go.Proofs.Ytbhkpefjnomncaa
open Go Go.Eng
set_option maxHeartbeats 4000000
set_option linter.unusedSimpArgs false
set_option linter.unusedVariables false
set_option maxRecDepth 100000

def mayV (m s : Int) : Int := if m < 1 ∨ 3 < m then 1 else if s < 1 ∨ 65536 < s then 4 else 0

theorem may_c (m s : Int) : Contract Try.prog 48 nilSS [.i .i64 m, .i .i64 s] (fun sv post => sv = .i .i64 (mayV m s) ∧ post = nilSS) := by
  refine contract_ev Γok Try.func48 rfl rfl [] ?_
  simp (maxSteps := 4000000) only [slAppend, evAppendX, evCopy, rowApp, appRow, rowCopy, evAlts_cons, mixN_eq, evC_skip, evC_label, evC_ret, evC_exit, evC_goto, evC_region, evC_seq, evC_cond, evC_block, evC_loop, evC_scope, evC_rangeFunc, seqK.eq_1, seqK.eq_2, seqK.eq_3, seqK.eq_4, callK_eq, nilK_eq, skipV, evOps.eq_1, evOps.eq_2, evStill.eq_1, evStill.eq_2, evGuard, evalP, evEff, evCall, evAppend, evPick, evNil, evField, evIndexAddr, evLoad, evUn, evConv, evFieldV, evIndex, evSlice, cut, cutTag, slTag, cutL, evBuiltin, evBuild, evParts, placeOf, fieldOf, nth, leaves, spl, opd, ovc, ovcL, core, vcg, SS.eval, SS.put, SS.enter, SS.addBlk, SS.addTok, SS.setBlk, SS.back, lentOf, lentHp, lentTk, lentRs, lget, lset, hfind, hset, hpRen, hpDel, tkRen, tkDelL, rsRen, rsDel, memB, fmap, ren, renL, renT, tkMem, tkDel, bin, binI, binS, binE, isC, isT, isF, isNilS, evSliceNil, appd, intsOf, slTag, ofV, ofLeaf, one, allOne, thenK.eq_1, thenK.eq_2, thenK.eq_3, thenK.eq_4, blockK.eq_1, blockK.eq_2, blockK.eq_3, blockK.eq_4, retK.eq_1, retK.eq_2, retK.eq_3, retK.eq_4, evRes, single, TD.agg, allT, tdT, nilSS, noTI, rowsOf, elOf, pickL, eqB, leafEq, loopN.eq_1, loopN.eq_2, scopeK.eq_1, scopeK.eq_2, scopeK.eq_3, scopeK.eq_4, SubW, CallW, FinW, retS, retF, markK, rsCut, rsSet, rsFind, iterK.eq_1, iterK.eq_2, iterK.eq_3, iterEnd, pendK.eq_1, pendK.eq_2, pendK.eq_3, pendK.eq_4, roundK.eq_1, roundK.eq_2, roundK.eq_3, roundK.eq_4, roundEnd, assignK.eq_1, assignK.eq_2, YOK_eq, setPs, SS.iter, memId, hpSub, tkSub, rsSub, W, WL, TW, distincts, allLt, idTo, SS.lt, hpLt, rsLt, Nat.le_refl, List.toList_toArray, List.size_toArray, List.map, List.cons_append, List.nil_append, List.append_nil, List.length_cons, List.length_nil, List.replicate, List.take_succ_cons, List.take_zero, List.drop_succ_cons, List.drop_zero, Option.map_some, Option.map_none, Option.toList, Option.isSome, Option.isNone_none, Option.isNone_some, Int.reduceBNe, Int.reduceBEq, Int.reduceAdd, Int.reduceSub, Int.reduceMul, Int.reduceNeg, Int.reduceLT, Int.reduceLE, Bool.not_true, Bool.not_false, Nat.reduceLT, decide_true, decide_false, bne_self_eq_false, Nat.reduceAdd, Nat.reduceSub, Nat.reduceMul, Nat.reduceEqDiff, Nat.reduceLeDiff, Nat.reduceBEq, reduceIte, reduceCtorEq, Nat.add_zero, Nat.zero_add, Bool.or_false, Bool.false_or, Bool.or_true, Bool.true_or, Bool.and_true, Bool.true_and, List.mem_cons, forall_eq_or_imp, forall_eq, List.not_mem_nil, ne_eq, not_false_eq_true, not_true_eq_false, true_and, and_true, and_self, true_or, or_true, forall_const, Bool.false_eq_true, beq_self_eq_true, Bool.not_eq_true, Bool.not_eq_false, imp_self, implies_true, false_imp_iff, g1, g2, g3, g4, g5, g6, g7, g8, g9, g10, g11, g12, g13, g14, g15, g16, g17, g18, g19, g20, g21, g22, g23, g24, g25, g26, g27, g28, g30, g31, g32, g33, g34, g35, g37, g38, g39, g40, g41, g42, g43, g44, g45, g46, g47, g48, g49, g50, g51, g52, g54, g55, g57, g58, g60, g61, g62, g64, g65, g66, g67, g68, g69, g71, g72, g74, g75, g76, g77, g79, g80, g81, g82, g83, g84, g85, g86, g87, g88, g89, g90, g92, g93, g94, g95, g96, g98, g99, g100, g101, g102, g103, g104, g105, g106, g107, g108, g109, g110, g111, g113, g114, g115, g116, g117, g118, g119, g120, g121, g122, g124, g125, g126, g127, g128, g129, g130, g132, g133, g134, g135, g137, g138, g139, g141, g142, g143, g144, g145, g146, g147, g148, g149, g150, g151, g152, g153, g154, g155, g156, g157, g158, g159, g160, g161, g162, Try.f48]
  refine ⟨by simp, fun h1 => ?_, fun h1 => ⟨by simp, fun h2 => ?_, fun h2 => ?_⟩⟩ <;> refine Fin.nil rfl (psv := .i .i64 _) ⟨rfl, rfl⟩ ⟨?_, rfl⟩ <;> simp at h1 <;> simp [mayV, h1]
  · simp at h2; simp [h2]; omega
  · simp at h2; omega


theorem num_c (m : Int) : Contract Try.prog 20 nilSS [.i .i64 m] (fun sv post => sv = .i .i64 m ∧ post = nilSS) := by
  refine contract_ev Γok Try.func20 rfl rfl [] ?_
  simp (maxSteps := 4000000) only [slAppend, evAppendX, evCopy, rowApp, appRow, rowCopy, evAlts_cons, mixN_eq, evC_skip, evC_label, evC_ret, evC_exit, evC_goto, evC_region, evC_seq, evC_cond, evC_block, evC_loop, evC_scope, evC_rangeFunc, seqK.eq_1, seqK.eq_2, seqK.eq_3, seqK.eq_4, callK_eq, nilK_eq, skipV, evOps.eq_1, evOps.eq_2, evStill.eq_1, evStill.eq_2, evGuard, evalP, evEff, evCall, evAppend, evPick, evNil, evField, evIndexAddr, evLoad, evUn, evConv, evFieldV, evIndex, evSlice, cut, cutTag, slTag, cutL, evBuiltin, evBuild, evParts, placeOf, fieldOf, nth, leaves, spl, opd, ovc, ovcL, core, vcg, SS.eval, SS.put, SS.enter, SS.addBlk, SS.addTok, SS.setBlk, SS.back, lentOf, lentHp, lentTk, lentRs, lget, lset, hfind, hset, hpRen, hpDel, tkRen, tkDelL, rsRen, rsDel, memB, fmap, ren, renL, renT, tkMem, tkDel, bin, binI, binS, binE, isC, isT, isF, isNilS, evSliceNil, appd, intsOf, slTag, ofV, ofLeaf, one, allOne, thenK.eq_1, thenK.eq_2, thenK.eq_3, thenK.eq_4, blockK.eq_1, blockK.eq_2, blockK.eq_3, blockK.eq_4, retK.eq_1, retK.eq_2, retK.eq_3, retK.eq_4, evRes, single, TD.agg, allT, tdT, nilSS, noTI, rowsOf, elOf, pickL, eqB, leafEq, loopN.eq_1, loopN.eq_2, scopeK.eq_1, scopeK.eq_2, scopeK.eq_3, scopeK.eq_4, SubW, CallW, FinW, retS, retF, markK, rsCut, rsSet, rsFind, iterK.eq_1, iterK.eq_2, iterK.eq_3, iterEnd, pendK.eq_1, pendK.eq_2, pendK.eq_3, pendK.eq_4, roundK.eq_1, roundK.eq_2, roundK.eq_3, roundK.eq_4, roundEnd, assignK.eq_1, assignK.eq_2, YOK_eq, setPs, SS.iter, memId, hpSub, tkSub, rsSub, W, WL, TW, distincts, allLt, idTo, SS.lt, hpLt, rsLt, Nat.le_refl, List.toList_toArray, List.size_toArray, List.map, List.cons_append, List.nil_append, List.append_nil, List.length_cons, List.length_nil, List.replicate, List.take_succ_cons, List.take_zero, List.drop_succ_cons, List.drop_zero, Option.map_some, Option.map_none, Option.toList, Option.isSome, Option.isNone_none, Option.isNone_some, Int.reduceBNe, Int.reduceBEq, Int.reduceAdd, Int.reduceSub, Int.reduceMul, Int.reduceNeg, Int.reduceLT, Int.reduceLE, Bool.not_true, Bool.not_false, Nat.reduceLT, decide_true, decide_false, bne_self_eq_false, Nat.reduceAdd, Nat.reduceSub, Nat.reduceMul, Nat.reduceEqDiff, Nat.reduceLeDiff, Nat.reduceBEq, reduceIte, reduceCtorEq, Nat.add_zero, Nat.zero_add, Bool.or_false, Bool.false_or, Bool.or_true, Bool.true_or, Bool.and_true, Bool.true_and, List.mem_cons, forall_eq_or_imp, forall_eq, List.not_mem_nil, ne_eq, not_false_eq_true, not_true_eq_false, true_and, and_true, and_self, true_or, or_true, forall_const, Bool.false_eq_true, beq_self_eq_true, Bool.not_eq_true, Bool.not_eq_false, imp_self, implies_true, false_imp_iff, g1, g2, g3, g4, g5, g6, g7, g8, g9, g10, g11, g12, g13, g14, g15, g16, g17, g18, g19, g20, g21, g22, g23, g24, g25, g26, g27, g28, g30, g31, g32, g33, g34, g35, g37, g38, g39, g40, g41, g42, g43, g44, g45, g46, g47, g48, g49, g50, g51, g52, g54, g55, g57, g58, g60, g61, g62, g64, g65, g66, g67, g68, g69, g71, g72, g74, g75, g76, g77, g79, g80, g81, g82, g83, g84, g85, g86, g87, g88, g89, g90, g92, g93, g94, g95, g96, g98, g99, g100, g101, g102, g103, g104, g105, g106, g107, g108, g109, g110, g111, g113, g114, g115, g116, g117, g118, g119, g120, g121, g122, g124, g125, g126, g127, g128, g129, g130, g132, g133, g134, g135, g137, g138, g139, g141, g142, g143, g144, g145, g146, g147, g148, g149, g150, g151, g152, g153, g154, g155, g156, g157, g158, g159, g160, g161, g162, Try.f20]
  exact Fin.nil rfl (psv := .i .i64 _) ⟨rfl, rfl⟩ ⟨rfl, rfl⟩

theorem mixed : Try.prog.follows .mixedOrders = true := by kernel_rfl

theorem sameInts_c (l m : List Int) : Contract Try.prog 18 nilSS [.ints .i64 .old l, .ints .i64 .old m] (fun sv post => sv = .b (l == m) ∧ post = nilSS) := by
  refine contract_len 0 rfl fun hlen => ?_
  refine contract_ev Γok Try.func18 rfl rfl [] ?_
  simp (maxSteps := 4000000) only [slAppend, evAppendX, evCopy, rowApp, appRow, rowCopy, evAlts_cons, mixN_eq, evC_skip, evC_label, evC_ret, evC_exit, evC_goto, evC_region, evC_seq, evC_cond, evC_block, evC_loop, evC_scope, evC_rangeFunc, seqK.eq_1, seqK.eq_2, seqK.eq_3, seqK.eq_4, callK_eq, nilK_eq, skipV, evOps.eq_1, evOps.eq_2, evStill.eq_1, evStill.eq_2, evGuard, evalP, evEff, evCall, evAppend, evPick, evNil, evField, evIndexAddr, evLoad, evUn, evConv, evFieldV, evIndex, evSlice, cut, cutTag, slTag, cutL, evBuiltin, evBuild, evParts, placeOf, fieldOf, nth, leaves, spl, opd, ovc, ovcL, core, vcg, SS.eval, SS.put, SS.enter, SS.addBlk, SS.addTok, SS.setBlk, SS.back, lentOf, lentHp, lentTk, lentRs, lget, lset, hfind, hset, hpRen, hpDel, tkRen, tkDelL, rsRen, rsDel, memB, fmap, ren, renL, renT, tkMem, tkDel, bin, binI, binS, binE, isC, isT, isF, isNilS, evSliceNil, appd, intsOf, slTag, ofV, ofLeaf, one, allOne, thenK.eq_1, thenK.eq_2, thenK.eq_3, thenK.eq_4, blockK.eq_1, blockK.eq_2, blockK.eq_3, blockK.eq_4, retK.eq_1, retK.eq_2, retK.eq_3, retK.eq_4, evRes, single, TD.agg, allT, tdT, nilSS, noTI, rowsOf, elOf, pickL, eqB, leafEq, loopN.eq_1, loopN.eq_2, scopeK.eq_1, scopeK.eq_2, scopeK.eq_3, scopeK.eq_4, SubW, CallW, FinW, retS, retF, markK, rsCut, rsSet, rsFind, iterK.eq_1, iterK.eq_2, iterK.eq_3, iterEnd, pendK.eq_1, pendK.eq_2, pendK.eq_3, pendK.eq_4, roundK.eq_1, roundK.eq_2, roundK.eq_3, roundK.eq_4, roundEnd, assignK.eq_1, assignK.eq_2, YOK_eq, setPs, SS.iter, memId, hpSub, tkSub, rsSub, W, WL, TW, distincts, allLt, idTo, SS.lt, hpLt, rsLt, Nat.le_refl, List.toList_toArray, List.size_toArray, List.map, List.cons_append, List.nil_append, List.append_nil, List.length_cons, List.length_nil, List.replicate, List.take_succ_cons, List.take_zero, List.drop_succ_cons, List.drop_zero, Option.map_some, Option.map_none, Option.toList, Option.isSome, Option.isNone_none, Option.isNone_some, Int.reduceBNe, Int.reduceBEq, Int.reduceAdd, Int.reduceSub, Int.reduceMul, Int.reduceNeg, Int.reduceLT, Int.reduceLE, Bool.not_true, Bool.not_false, Nat.reduceLT, decide_true, decide_false, bne_self_eq_false, Nat.reduceAdd, Nat.reduceSub, Nat.reduceMul, Nat.reduceEqDiff, Nat.reduceLeDiff, Nat.reduceBEq, reduceIte, reduceCtorEq, Nat.add_zero, Nat.zero_add, Bool.or_false, Bool.false_or, Bool.or_true, Bool.true_or, Bool.and_true, Bool.true_and, List.mem_cons, forall_eq_or_imp, forall_eq, List.not_mem_nil, ne_eq, not_false_eq_true, not_true_eq_false, true_and, and_true, and_self, true_or, or_true, forall_const, Bool.false_eq_true, beq_self_eq_true, Bool.not_eq_true, Bool.not_eq_false, imp_self, implies_true, false_imp_iff, g1, g2, g3, g4, g5, g6, g7, g8, g9, g10, g11, g12, g13, g14, g15, g16, g17, g18, g19, g20, g21, g22, g23, g24, g25, g26, g27, g28, g30, g31, g32, g33, g34, g35, g37, g38, g39, g40, g41, g42, g43, g44, g45, g46, g47, g48, g49, g50, g51, g52, g54, g55, g57, g58, g60, g61, g62, g64, g65, g66, g67, g68, g69, g71, g72, g74, g75, g76, g77, g79, g80, g81, g82, g83, g84, g85, g86, g87, g88, g89, g90, g92, g93, g94, g95, g96, g98, g99, g100, g101, g102, g103, g104, g105, g106, g107, g108, g109, g110, g111, g113, g114, g115, g116, g117, g118, g119, g120, g121, g122, g124, g125, g126, g127, g128, g129, g130, g132, g133, g134, g135, g137, g138, g139, g141, g142, g143, g144, g145, g146, g147, g148, g149, g150, g151, g152, g153, g154, g155, g156, g157, g158, g159, g160, g161, g162, Try.f18]
  refine ⟨fun h1 => Fin.nil rfl (psv := .b _) rfl ⟨?_, rfl⟩, fun h1 => ?_⟩
  · simp at h1
    congr 1
    symm
    rw [beq_eq_false_iff_ne]
    rintro rfl
    exact h1 rfl
  have hl : l.length = m.length := by simp at h1; omega
  refine loop_ok (ι := {i : Nat // i ≤ l.length ∧ l.take i = m.take i}) (fun i => ⟨[.ints .i64 .old l, .ints .i64 .old m, .any, .any, .any, .i .i64 i.1] ++ List.replicate 20 .any, [], [], [], 0, 0, []⟩) (fun i => l.length - i.1) ⟨0, by simp, by simp⟩ ?_ ?_
  · refine Sub.w [] ?_
    simp (maxSteps := 4000000) only [slAppend, evAppendX, evCopy, rowApp, appRow, rowCopy, evAlts_cons, mixN_eq, evC_skip, evC_label, evC_ret, evC_exit, evC_goto, evC_region, evC_seq, evC_cond, evC_block, evC_loop, evC_scope, evC_rangeFunc, seqK.eq_1, seqK.eq_2, seqK.eq_3, seqK.eq_4, callK_eq, nilK_eq, skipV, evOps.eq_1, evOps.eq_2, evStill.eq_1, evStill.eq_2, evGuard, evalP, evEff, evCall, evAppend, evPick, evNil, evField, evIndexAddr, evLoad, evUn, evConv, evFieldV, evIndex, evSlice, cut, cutTag, slTag, cutL, evBuiltin, evBuild, evParts, placeOf, fieldOf, nth, leaves, spl, opd, ovc, ovcL, core, vcg, SS.eval, SS.put, SS.enter, SS.addBlk, SS.addTok, SS.setBlk, SS.back, lentOf, lentHp, lentTk, lentRs, lget, lset, hfind, hset, hpRen, hpDel, tkRen, tkDelL, rsRen, rsDel, memB, fmap, ren, renL, renT, tkMem, tkDel, bin, binI, binS, binE, isC, isT, isF, isNilS, evSliceNil, appd, intsOf, slTag, ofV, ofLeaf, one, allOne, thenK.eq_1, thenK.eq_2, thenK.eq_3, thenK.eq_4, blockK.eq_1, blockK.eq_2, blockK.eq_3, blockK.eq_4, retK.eq_1, retK.eq_2, retK.eq_3, retK.eq_4, evRes, single, TD.agg, allT, tdT, nilSS, noTI, rowsOf, elOf, pickL, eqB, leafEq, loopN.eq_1, loopN.eq_2, scopeK.eq_1, scopeK.eq_2, scopeK.eq_3, scopeK.eq_4, SubW, CallW, FinW, retS, retF, markK, rsCut, rsSet, rsFind, iterK.eq_1, iterK.eq_2, iterK.eq_3, iterEnd, pendK.eq_1, pendK.eq_2, pendK.eq_3, pendK.eq_4, roundK.eq_1, roundK.eq_2, roundK.eq_3, roundK.eq_4, roundEnd, assignK.eq_1, assignK.eq_2, YOK_eq, setPs, SS.iter, memId, hpSub, tkSub, rsSub, W, WL, TW, distincts, allLt, idTo, SS.lt, hpLt, rsLt, Nat.le_refl, List.toList_toArray, List.size_toArray, List.map, List.cons_append, List.nil_append, List.append_nil, List.length_cons, List.length_nil, List.replicate, List.take_succ_cons, List.take_zero, List.drop_succ_cons, List.drop_zero, Option.map_some, Option.map_none, Option.toList, Option.isSome, Option.isNone_none, Option.isNone_some, Int.reduceBNe, Int.reduceBEq, Int.reduceAdd, Int.reduceSub, Int.reduceMul, Int.reduceNeg, Int.reduceLT, Int.reduceLE, Bool.not_true, Bool.not_false, Nat.reduceLT, decide_true, decide_false, bne_self_eq_false, Nat.reduceAdd, Nat.reduceSub, Nat.reduceMul, Nat.reduceEqDiff, Nat.reduceLeDiff, Nat.reduceBEq, reduceIte, reduceCtorEq, Nat.add_zero, Nat.zero_add, Bool.or_false, Bool.false_or, Bool.or_true, Bool.true_or, Bool.and_true, Bool.true_and, List.mem_cons, forall_eq_or_imp, forall_eq, List.not_mem_nil, ne_eq, not_false_eq_true, not_true_eq_false, true_and, and_true, and_self, true_or, or_true, forall_const, Bool.false_eq_true, beq_self_eq_true, Bool.not_eq_true, Bool.not_eq_false, imp_self, implies_true, false_imp_iff, g1, g2, g3, g4, g5, g6, g7, g8, g9, g10, g11, g12, g13, g14, g15, g16, g17, g18, g19, g20, g21, g22, g23, g24, g25, g26, g27, g28, g30, g31, g32, g33, g34, g35, g37, g38, g39, g40, g41, g42, g43, g44, g45, g46, g47, g48, g49, g50, g51, g52, g54, g55, g57, g58, g60, g61, g62, g64, g65, g66, g67, g68, g69, g71, g72, g74, g75, g76, g77, g79, g80, g81, g82, g83, g84, g85, g86, g87, g88, g89, g90, g92, g93, g94, g95, g96, g98, g99, g100, g101, g102, g103, g104, g105, g106, g107, g108, g109, g110, g111, g113, g114, g115, g116, g117, g118, g119, g120, g121, g122, g124, g125, g126, g127, g128, g129, g130, g132, g133, g134, g135, g137, g138, g139, g141, g142, g143, g144, g145, g146, g147, g148, g149, g150, g151, g152, g153, g154, g155, g156, g157, g158, g159, g160, g161, g162]
    rfl
  · rintro ⟨i, hi, hp⟩
    refine evCode_sound Γok _ _ _ ?_
    simp (maxSteps := 4000000) only [slAppend, evAppendX, evCopy, rowApp, appRow, rowCopy, evAlts_cons, mixN_eq, evC_skip, evC_label, evC_ret, evC_exit, evC_goto, evC_region, evC_seq, evC_cond, evC_block, evC_loop, evC_scope, evC_rangeFunc, seqK.eq_1, seqK.eq_2, seqK.eq_3, seqK.eq_4, callK_eq, nilK_eq, skipV, evOps.eq_1, evOps.eq_2, evStill.eq_1, evStill.eq_2, evGuard, evalP, evEff, evCall, evAppend, evPick, evNil, evField, evIndexAddr, evLoad, evUn, evConv, evFieldV, evIndex, evSlice, cut, cutTag, slTag, cutL, evBuiltin, evBuild, evParts, placeOf, fieldOf, nth, leaves, spl, opd, ovc, ovcL, core, vcg, SS.eval, SS.put, SS.enter, SS.addBlk, SS.addTok, SS.setBlk, SS.back, lentOf, lentHp, lentTk, lentRs, lget, lset, hfind, hset, hpRen, hpDel, tkRen, tkDelL, rsRen, rsDel, memB, fmap, ren, renL, renT, tkMem, tkDel, bin, binI, binS, binE, isC, isT, isF, isNilS, evSliceNil, appd, intsOf, slTag, ofV, ofLeaf, one, allOne, thenK.eq_1, thenK.eq_2, thenK.eq_3, thenK.eq_4, blockK.eq_1, blockK.eq_2, blockK.eq_3, blockK.eq_4, retK.eq_1, retK.eq_2, retK.eq_3, retK.eq_4, evRes, single, TD.agg, allT, tdT, nilSS, noTI, rowsOf, elOf, pickL, eqB, leafEq, loopN.eq_1, loopN.eq_2, scopeK.eq_1, scopeK.eq_2, scopeK.eq_3, scopeK.eq_4, SubW, CallW, FinW, retS, retF, markK, rsCut, rsSet, rsFind, iterK.eq_1, iterK.eq_2, iterK.eq_3, iterEnd, pendK.eq_1, pendK.eq_2, pendK.eq_3, pendK.eq_4, roundK.eq_1, roundK.eq_2, roundK.eq_3, roundK.eq_4, roundEnd, assignK.eq_1, assignK.eq_2, YOK_eq, setPs, SS.iter, memId, hpSub, tkSub, rsSub, W, WL, TW, distincts, allLt, idTo, SS.lt, hpLt, rsLt, Nat.le_refl, List.toList_toArray, List.size_toArray, List.map, List.cons_append, List.nil_append, List.append_nil, List.length_cons, List.length_nil, List.replicate, List.take_succ_cons, List.take_zero, List.drop_succ_cons, List.drop_zero, Option.map_some, Option.map_none, Option.toList, Option.isSome, Option.isNone_none, Option.isNone_some, Int.reduceBNe, Int.reduceBEq, Int.reduceAdd, Int.reduceSub, Int.reduceMul, Int.reduceNeg, Int.reduceLT, Int.reduceLE, Bool.not_true, Bool.not_false, Nat.reduceLT, decide_true, decide_false, bne_self_eq_false, Nat.reduceAdd, Nat.reduceSub, Nat.reduceMul, Nat.reduceEqDiff, Nat.reduceLeDiff, Nat.reduceBEq, reduceIte, reduceCtorEq, Nat.add_zero, Nat.zero_add, Bool.or_false, Bool.false_or, Bool.or_true, Bool.true_or, Bool.and_true, Bool.true_and, List.mem_cons, forall_eq_or_imp, forall_eq, List.not_mem_nil, ne_eq, not_false_eq_true, not_true_eq_false, true_and, and_true, and_self, true_or, or_true, forall_const, Bool.false_eq_true, beq_self_eq_true, Bool.not_eq_true, Bool.not_eq_false, imp_self, implies_true, false_imp_iff, g1, g2, g3, g4, g5, g6, g7, g8, g9, g10, g11, g12, g13, g14, g15, g16, g17, g18, g19, g20, g21, g22, g23, g24, g25, g26, g27, g28, g30, g31, g32, g33, g34, g35, g37, g38, g39, g40, g41, g42, g43, g44, g45, g46, g47, g48, g49, g50, g51, g52, g54, g55, g57, g58, g60, g61, g62, g64, g65, g66, g67, g68, g69, g71, g72, g74, g75, g76, g77, g79, g80, g81, g82, g83, g84, g85, g86, g87, g88, g89, g90, g92, g93, g94, g95, g96, g98, g99, g100, g101, g102, g103, g104, g105, g106, g107, g108, g109, g110, g111, g113, g114, g115, g116, g117, g118, g119, g120, g121, g122, g124, g125, g126, g127, g128, g129, g130, g132, g133, g134, g135, g137, g138, g139, g141, g142, g143, g144, g145, g146, g147, g148, g149, g150, g151, g152, g153, g154, g155, g156, g157, g158, g159, g160, g161, g162]
    refine ⟨fun h2 => ?_, fun h2 => ?_⟩
    · have hi2 : i < l.length := by simpa using h2
      refine region_still rfl Γok mixed (by kernel_rfl) ?_
      simp (maxSteps := 4000000) only [slAppend, evAppendX, evCopy, rowApp, appRow, rowCopy, evAlts_cons, mixN_eq, evC_skip, evC_label, evC_ret, evC_exit, evC_goto, evC_region, evC_seq, evC_cond, evC_block, evC_loop, evC_scope, evC_rangeFunc, seqK.eq_1, seqK.eq_2, seqK.eq_3, seqK.eq_4, callK_eq, nilK_eq, skipV, evOps.eq_1, evOps.eq_2, evStill.eq_1, evStill.eq_2, evGuard, evalP, evEff, evCall, evAppend, evPick, evNil, evField, evIndexAddr, evLoad, evUn, evConv, evFieldV, evIndex, evSlice, cut, cutTag, slTag, cutL, evBuiltin, evBuild, evParts, placeOf, fieldOf, nth, leaves, spl, opd, ovc, ovcL, core, vcg, SS.eval, SS.put, SS.enter, SS.addBlk, SS.addTok, SS.setBlk, SS.back, lentOf, lentHp, lentTk, lentRs, lget, lset, hfind, hset, hpRen, hpDel, tkRen, tkDelL, rsRen, rsDel, memB, fmap, ren, renL, renT, tkMem, tkDel, bin, binI, binS, binE, isC, isT, isF, isNilS, evSliceNil, appd, intsOf, slTag, ofV, ofLeaf, one, allOne, thenK.eq_1, thenK.eq_2, thenK.eq_3, thenK.eq_4, blockK.eq_1, blockK.eq_2, blockK.eq_3, blockK.eq_4, retK.eq_1, retK.eq_2, retK.eq_3, retK.eq_4, evRes, single, TD.agg, allT, tdT, nilSS, noTI, rowsOf, elOf, pickL, eqB, leafEq, loopN.eq_1, loopN.eq_2, scopeK.eq_1, scopeK.eq_2, scopeK.eq_3, scopeK.eq_4, SubW, CallW, FinW, retS, retF, markK, rsCut, rsSet, rsFind, iterK.eq_1, iterK.eq_2, iterK.eq_3, iterEnd, pendK.eq_1, pendK.eq_2, pendK.eq_3, pendK.eq_4, roundK.eq_1, roundK.eq_2, roundK.eq_3, roundK.eq_4, roundEnd, assignK.eq_1, assignK.eq_2, YOK_eq, setPs, SS.iter, memId, hpSub, tkSub, rsSub, W, WL, TW, distincts, allLt, idTo, SS.lt, hpLt, rsLt, Nat.le_refl, List.toList_toArray, List.size_toArray, List.map, List.cons_append, List.nil_append, List.append_nil, List.length_cons, List.length_nil, List.replicate, List.take_succ_cons, List.take_zero, List.drop_succ_cons, List.drop_zero, Option.map_some, Option.map_none, Option.toList, Option.isSome, Option.isNone_none, Option.isNone_some, Int.reduceBNe, Int.reduceBEq, Int.reduceAdd, Int.reduceSub, Int.reduceMul, Int.reduceNeg, Int.reduceLT, Int.reduceLE, Bool.not_true, Bool.not_false, Nat.reduceLT, decide_true, decide_false, bne_self_eq_false, Nat.reduceAdd, Nat.reduceSub, Nat.reduceMul, Nat.reduceEqDiff, Nat.reduceLeDiff, Nat.reduceBEq, reduceIte, reduceCtorEq, Nat.add_zero, Nat.zero_add, Bool.or_false, Bool.false_or, Bool.or_true, Bool.true_or, Bool.and_true, Bool.true_and, List.mem_cons, forall_eq_or_imp, forall_eq, List.not_mem_nil, ne_eq, not_false_eq_true, not_true_eq_false, true_and, and_true, and_self, true_or, or_true, forall_const, Bool.false_eq_true, beq_self_eq_true, Bool.not_eq_true, Bool.not_eq_false, imp_self, implies_true, false_imp_iff, g1, g2, g3, g4, g5, g6, g7, g8, g9, g10, g11, g12, g13, g14, g15, g16, g17, g18, g19, g20, g21, g22, g23, g24, g25, g26, g27, g28, g30, g31, g32, g33, g34, g35, g37, g38, g39, g40, g41, g42, g43, g44, g45, g46, g47, g48, g49, g50, g51, g52, g54, g55, g57, g58, g60, g61, g62, g64, g65, g66, g67, g68, g69, g71, g72, g74, g75, g76, g77, g79, g80, g81, g82, g83, g84, g85, g86, g87, g88, g89, g90, g92, g93, g94, g95, g96, g98, g99, g100, g101, g102, g103, g104, g105, g106, g107, g108, g109, g110, g111, g113, g114, g115, g116, g117, g118, g119, g120, g121, g122, g124, g125, g126, g127, g128, g129, g130, g132, g133, g134, g135, g137, g138, g139, g141, g142, g143, g144, g145, g146, g147, g148, g149, g150, g151, g152, g153, g154, g155, g156, g157, g158, g159, g160, g161, g162]
      have e1 : l.getD (i : Int).toNat 0 = l[i] := by simp [List.getD, hi2]
      have e2 : m.getD (i : Int).toNat 0 = m[i] := by simp [List.getD, hl ▸ hi2]
      rw [e1, e2]
      refine ⟨by omega, by omega, fun h3 => Fin.nil rfl (psv := .b _) rfl ⟨?_, rfl⟩, fun h3 => ⟨⟨i + 1, hi2, ?_⟩, ?_, Sub.w [] ?_⟩⟩
      · simp at h3
        congr 1
        symm
        rw [beq_eq_false_iff_ne]
        rintro rfl
        exact h3 rfl
      · simp at h3
        rw [List.take_succ_eq_append_getElem hi2, List.take_succ_eq_append_getElem (hl ▸ hi2), hp, h3]
      · simp only; omega
      · simp (maxSteps := 4000000) only [slAppend, evAppendX, evCopy, rowApp, appRow, rowCopy, evAlts_cons, mixN_eq, evC_skip, evC_label, evC_ret, evC_exit, evC_goto, evC_region, evC_seq, evC_cond, evC_block, evC_loop, evC_scope, evC_rangeFunc, seqK.eq_1, seqK.eq_2, seqK.eq_3, seqK.eq_4, callK_eq, nilK_eq, skipV, evOps.eq_1, evOps.eq_2, evStill.eq_1, evStill.eq_2, evGuard, evalP, evEff, evCall, evAppend, evPick, evNil, evField, evIndexAddr, evLoad, evUn, evConv, evFieldV, evIndex, evSlice, cut, cutTag, slTag, cutL, evBuiltin, evBuild, evParts, placeOf, fieldOf, nth, leaves, spl, opd, ovc, ovcL, core, vcg, SS.eval, SS.put, SS.enter, SS.addBlk, SS.addTok, SS.setBlk, SS.back, lentOf, lentHp, lentTk, lentRs, lget, lset, hfind, hset, hpRen, hpDel, tkRen, tkDelL, rsRen, rsDel, memB, fmap, ren, renL, renT, tkMem, tkDel, bin, binI, binS, binE, isC, isT, isF, isNilS, evSliceNil, appd, intsOf, slTag, ofV, ofLeaf, one, allOne, thenK.eq_1, thenK.eq_2, thenK.eq_3, thenK.eq_4, blockK.eq_1, blockK.eq_2, blockK.eq_3, blockK.eq_4, retK.eq_1, retK.eq_2, retK.eq_3, retK.eq_4, evRes, single, TD.agg, allT, tdT, nilSS, noTI, rowsOf, elOf, pickL, eqB, leafEq, loopN.eq_1, loopN.eq_2, scopeK.eq_1, scopeK.eq_2, scopeK.eq_3, scopeK.eq_4, SubW, CallW, FinW, retS, retF, markK, rsCut, rsSet, rsFind, iterK.eq_1, iterK.eq_2, iterK.eq_3, iterEnd, pendK.eq_1, pendK.eq_2, pendK.eq_3, pendK.eq_4, roundK.eq_1, roundK.eq_2, roundK.eq_3, roundK.eq_4, roundEnd, assignK.eq_1, assignK.eq_2, YOK_eq, setPs, SS.iter, memId, hpSub, tkSub, rsSub, W, WL, TW, distincts, allLt, idTo, SS.lt, hpLt, rsLt, Nat.le_refl, List.toList_toArray, List.size_toArray, List.map, List.cons_append, List.nil_append, List.append_nil, List.length_cons, List.length_nil, List.replicate, List.take_succ_cons, List.take_zero, List.drop_succ_cons, List.drop_zero, Option.map_some, Option.map_none, Option.toList, Option.isSome, Option.isNone_none, Option.isNone_some, Int.reduceBNe, Int.reduceBEq, Int.reduceAdd, Int.reduceSub, Int.reduceMul, Int.reduceNeg, Int.reduceLT, Int.reduceLE, Bool.not_true, Bool.not_false, Nat.reduceLT, decide_true, decide_false, bne_self_eq_false, Nat.reduceAdd, Nat.reduceSub, Nat.reduceMul, Nat.reduceEqDiff, Nat.reduceLeDiff, Nat.reduceBEq, reduceIte, reduceCtorEq, Nat.add_zero, Nat.zero_add, Bool.or_false, Bool.false_or, Bool.or_true, Bool.true_or, Bool.and_true, Bool.true_and, List.mem_cons, forall_eq_or_imp, forall_eq, List.not_mem_nil, ne_eq, not_false_eq_true, not_true_eq_false, true_and, and_true, and_self, true_or, or_true, forall_const, Bool.false_eq_true, beq_self_eq_true, Bool.not_eq_true, Bool.not_eq_false, imp_self, implies_true, false_imp_iff, g1, g2, g3, g4, g5, g6, g7, g8, g9, g10, g11, g12, g13, g14, g15, g16, g17, g18, g19, g20, g21, g22, g23, g24, g25, g26, g27, g28, g30, g31, g32, g33, g34, g35, g37, g38, g39, g40, g41, g42, g43, g44, g45, g46, g47, g48, g49, g50, g51, g52, g54, g55, g57, g58, g60, g61, g62, g64, g65, g66, g67, g68, g69, g71, g72, g74, g75, g76, g77, g79, g80, g81, g82, g83, g84, g85, g86, g87, g88, g89, g90, g92, g93, g94, g95, g96, g98, g99, g100, g101, g102, g103, g104, g105, g106, g107, g108, g109, g110, g111, g113, g114, g115, g116, g117, g118, g119, g120, g121, g122, g124, g125, g126, g127, g128, g129, g130, g132, g133, g134, g135, g137, g138, g139, g141, g142, g143, g144, g145, g146, g147, g148, g149, g150, g151, g152, g153, g154, g155, g156, g157, g158, g159, g160, g161, g162]
        rw [wrap64 (by omega) (by omega)]
        rfl
    · have hi2 : i = l.length := by simp at h2; omega
      refine Fin.nil rfl (psv := .b _) rfl ⟨?_, rfl⟩
      subst hi2
      rw [List.take_length, hl, List.take_length] at hp
      simp [hp]
end Go.Proofs.Ytbhkpefjnomncaa
/- Raws by what they answer; the tries over one. -/
namespace Go.Proofs.Ytbhkpefjnomncaa
open Go Go.Eng
set_option maxHeartbeats 4000000
set_option linter.unusedSimpArgs false
set_option linter.unusedVariables false
set_option maxRecDepth 100000

theorem bclone_c (l : List Int) (hl : l.length ≤ 140737488355328) : Contract Try.prog 64 nilSS [.ints .u8 .old l] (fun sv post => sv = .ints .u8 (.tok 0 true) l ∧ post = ⟨[], [], [0], [], 1, 0, []⟩) := by
  refine contract_ev Γok Try.func64 rfl rfl [] ?_
  simp (maxSteps := 4000000) only [push_cast, Int.reduceEq, Int.reduceBNe, Int.reduceBEq, Int.reduceAdd, Int.reduceSub, Int.reduceMul, Int.reduceNeg, Int.reduceLT, Int.reduceLE, Int.reduceToNat, Nat.reduceLT, Nat.reduceAdd, Nat.reduceSub, Nat.reduceMul, Nat.reduceEqDiff, Nat.reduceLeDiff, Nat.reduceBEq, reduceIte, reduceCtorEq, Try.f64]
  rintro c hc
  refine ⟨fun h => ?_, fun h => ⟨by omega, Fin.w [1] _ _ (by simp (maxSteps := 4000000) only [push_cast, Int.reduceEq, Int.reduceBNe, Int.reduceBEq, Int.reduceAdd, Int.reduceSub, Int.reduceMul, Int.reduceNeg, Int.reduceLT, Int.reduceLE, Int.reduceToNat, Nat.reduceLT, Nat.reduceAdd, Nat.reduceSub, Nat.reduceMul, Nat.reduceEqDiff, Nat.reduceLeDiff, Nat.reduceBEq, reduceIte, reduceCtorEq]) ⟨rfl, rfl⟩⟩⟩
  have hn := hc h
  subst hn
  exact Fin.wt [0] (.ints .u8 (.tok 0 true) []) ⟨[], [], [0], [], 1, 0, []⟩ (by simp (maxSteps := 4000000) only [push_cast, Int.reduceEq, Int.reduceBNe, Int.reduceBEq, Int.reduceAdd, Int.reduceSub, Int.reduceMul, Int.reduceNeg, Int.reduceLT, Int.reduceLE, Int.reduceToNat, Nat.reduceLT, Nat.reduceAdd, Nat.reduceSub, Nat.reduceMul, Nat.reduceEqDiff, Nat.reduceLeDiff, Nat.reduceBEq, reduceIte, reduceCtorEq]) ⟨rfl, rfl⟩

theorem passing_c (e : Int) : Contract Try.prog 81 nilSS [.i .i64 e] (fun sv post => sv = .b (e == 22 || e == 23) ∧ post = nilSS) := by
  refine contract_ev Γok Try.func81 rfl rfl [] ?_
  simp (maxSteps := 4000000) only [push_cast, Int.reduceEq, Int.reduceBNe, Int.reduceBEq, Int.reduceAdd, Int.reduceSub, Int.reduceMul, Int.reduceNeg, Int.reduceLT, Int.reduceLE, Int.reduceToNat, Nat.reduceLT, Nat.reduceAdd, Nat.reduceSub, Nat.reduceMul, Nat.reduceEqDiff, Nat.reduceLeDiff, Nat.reduceBEq, reduceIte, reduceCtorEq, Try.f81]
  exact Fin.nil rfl (psv := .b _) rfl ⟨rfl, rfl⟩

theorem out_c (T : TypeId) (p : Int) (h1 : 0 ≤ p) (h2 : p ≤ 100000) : Contract Try.prog 82 ⟨[], [(0, T, [.i .i64 p])], [], [], 1, 1, []⟩ [.ptr 0 0] (fun sv post => sv = .b (decide (8192 ≤ p + 1)) ∧ post = ⟨[], [(0, T, [.i .i64 (p + 1)])], [], [], 1, 1, []⟩) := by
  refine contract_ev Γok Try.func82 rfl rfl [] ?_
  simp (maxSteps := 4000000) only [push_cast, Int.reduceEq, Int.reduceBNe, Int.reduceBEq, Int.reduceAdd, Int.reduceSub, Int.reduceMul, Int.reduceNeg, Int.reduceLT, Int.reduceLE, Int.reduceToNat, Nat.reduceLT, Nat.reduceAdd, Nat.reduceSub, Nat.reduceMul, Nat.reduceEqDiff, Nat.reduceLeDiff, Nat.reduceBEq, reduceIte, reduceCtorEq, Try.f82]
  rw [wrap64 (n := p + 1) (by omega) (by omega)]
  exact Fin.w [0] _ _ (by simp (maxSteps := 4000000) only [push_cast, Int.reduceEq, Int.reduceBNe, Int.reduceBEq, Int.reduceAdd, Int.reduceSub, Int.reduceMul, Int.reduceNeg, Int.reduceLT, Int.reduceLE, Int.reduceToNat, Nat.reduceLT, Nat.reduceAdd, Nat.reduceSub, Nat.reduceMul, Nat.reduceEqDiff, Nat.reduceLeDiff, Nat.reduceBEq, reduceIte, reduceCtorEq]) ⟨rfl, rfl⟩

/-- A Raw: what it holds, by states; what it answers. -/
structure RawM where
  σ : Type
  t : TypeId
  y : Value
  res : σ → Res
  ok : σ → Prop
  rd : σ → Int → σ × List Int × Int
  wr : σ → List Int → σ × Int × Int
  sk : σ → Int → Int → σ × Int × Int
  rm : σ → Nat := fun _ => 1125899906842624
/-- As an interface value. -/
def RawM.v (M : RawM) : SV := .ifc M.t (.raw M.y)
structure RawM.Rd (M : RawM) : Prop where
  keep : ∀ s n, M.ok s → 1 ≤ n → n ≤ 1048576 → M.ok (M.rd s n).1
  run : ∀ s n, M.ok s → 1 ≤ n → n ≤ 1048576 → InvC Try.prog M.t M.y "Read" (preR (M.res s)) [.i .i64 n] (fun sv post => sv = .tup [.ints .u8 .old (M.rd s n).2.1, .i .i64 (M.rd s n).2.2] ∧ post = preR (M.res (M.rd s n).1))
structure RawM.Wr (M : RawM) : Prop where
  nil : NilOK Try.prog "Write" M.v
  keep : ∀ s l, M.ok s → l ≠ [] → l.length ≤ 1048576 → l.length ≤ M.rm s → M.ok (M.wr s l).1 ∧ M.rm s ≤ M.rm (M.wr s l).1 + (if (M.wr s l).2.2 = 0 ∧ (M.wr s l).2.1 ≤ l.length then (M.wr s l).2.1.toNat else 0)
  run : ∀ s l, M.ok s → l ≠ [] → l.length ≤ 1048576 → l.length ≤ M.rm s → InvC Try.prog M.t M.y "Write" (preR (M.res s)) [.ints .u8 .old l] (fun sv post => sv = .tup [.i .i64 (M.wr s l).2.1, .i .i64 (M.wr s l).2.2] ∧ post = preR (M.res (M.wr s l).1))
structure RawM.Sk (M : RawM) : Prop where
  keep : ∀ s o w, M.ok s → M.ok (M.sk s o w).1
  run : ∀ s o w, M.ok s → InvC Try.prog M.t M.y "Seek" (preR (M.res s)) [.i .i64 o, .i .i64 w] (fun sv post => sv = .tup [.i .i64 (M.sk s o w).2.1, .i .i64 (M.sk s o w).2.2] ∧ post = preR (M.res (M.sk s o w).1))

/-- A read that is tried. -/
def RawM.some (M : RawM) (n : Int) : Nat → M.σ → M.σ × List Int × Int
  | 0, g => (g, [], 81)
  | k + 1, g =>
    if (M.rd g n).2.2 = 22 ∨ (M.rd g n).2.2 = 23 then (if k = 0 then ((M.rd g n).1, [], 81) else M.some n k (M.rd g n).1)
    else if (M.rd g n).2.2 ≠ 0 then ((M.rd g n).1, [], (M.rd g n).2.2)
    else if n < (M.rd g n).2.1.length then ((M.rd g n).1, [], 82)
    else ((M.rd g n).1, (M.rd g n).2.1, 0)
def someV (M : RawM) (g : M.σ) (n : Int) : M.σ × List Int × Int := M.some n 8192 g

theorem RawM.some_ok (M : RawM) (hR : M.Rd) (n : Int) (h1 : 1 ≤ n) (h2 : n ≤ 1048576) : ∀ (k : Nat) (g : M.σ), M.ok g → M.ok (M.some n k g).1
  | 0, g, h => h
  | k + 1, g, h => by
    have hk := hR.keep g n h h1 h2
    simp only [RawM.some]
    split
    · split
      · exact hk
      · exact M.some_ok hR n h1 h2 k _ hk
    · split
      · exact hk
      · split <;> exact hk
theorem someV_len (M : RawM) (n : Int) (h1 : 1 ≤ n) : ∀ (k : Nat) (g : M.σ), (M.some n k g).2.1.length ≤ n
  | 0, g => by simp [RawM.some]; omega
  | k + 1, g => by
    simp only [RawM.some]
    split
    · split
      · simp; omega
      · exact someV_len M n h1 k _
    · split
      · simp; omega
      · split
        · simp; omega
        · simp; omega
theorem someV_err (M : RawM) (n : Int) : ∀ (k : Nat) (g : M.σ), (M.some n k g).2.2 ≠ 0 → (M.some n k g).2.1 = []
  | 0, g, _ => rfl
  | k + 1, g, h => by
    simp only [RawM.some] at h ⊢
    split
    · split
      · rfl
      · rename_i h1 h2
        rw [if_pos h1, if_neg h2] at h
        exact someV_err M n k _ h
    · rename_i h1
      rw [if_neg h1] at h
      split
      · rfl
      · rename_i h2
        rw [if_neg h2] at h
        split
        · rfl
        · rename_i h3
          rw [if_neg h3] at h
          exact absurd rfl h

theorem someR_c (M : RawM) (hR : M.Rd) (g : M.σ) (hg : M.ok g) (n : Int) (h1 : 1 ≤ n) (h2 : n ≤ 1048576) :
    Contract Try.prog 83 (preR (M.res g)) [M.v, .i .i64 n]
      (fun sv post => sv = .tup [.ints .u8 .old (someV M g n).2.1, .i .i64 (someV M g n).2.2] ∧ post = preR (M.res (someV M g n).1)) := by
  refine contract_ev Γok Try.func83 rfl rfl [] ?_
  simp (maxSteps := 4000000) only [push_cast, Int.reduceEq, Int.reduceBNe, Int.reduceBEq, Int.reduceAdd, Int.reduceSub, Int.reduceMul, Int.reduceNeg, Int.reduceLT, Int.reduceLE, Int.reduceToNat, Nat.reduceLT, Nat.reduceAdd, Nat.reduceSub, Nat.reduceMul, Nat.reduceEqDiff, Nat.reduceLeDiff, Nat.reduceBEq, reduceIte, reduceCtorEq, Try.f83, RawM.v]
  refine ⟨fun h => by omega, fun h => ?_⟩
  refine loop_ok (ι := {x : Nat × M.σ // x.1 < 8192 ∧ M.ok x.2 ∧ M.some n (x.1 + 1) x.2 = someV M g n}) (fun x => ⟨[M.v, .i .i64 n, .any, .any, .ints .u8 .old [], .i .i64 0, .ptr 1 0] ++ List.replicate 30 .any, [(1, 133, [.i .i64 (8191 - x.1.1)])], [], [(0, M.res x.1.2)], 2, 1, []⟩) (fun x => x.1.1) ⟨(8191, g), by omega, hg, rfl⟩ ?_ ?_
  · refine Sub.w [0, 1] ?_
    simp (maxSteps := 4000000) only [push_cast, Int.reduceEq, Int.reduceBNe, Int.reduceBEq, Int.reduceAdd, Int.reduceSub, Int.reduceMul, Int.reduceNeg, Int.reduceLT, Int.reduceLE, Int.reduceToNat, Nat.reduceLT, Nat.reduceAdd, Nat.reduceSub, Nat.reduceMul, Nat.reduceEqDiff, Nat.reduceLeDiff, Nat.reduceBEq, reduceIte, reduceCtorEq, RawM.v]
  · rintro ⟨⟨k, g'⟩, hk, hok, he⟩
    simp only at hk hok he
    refine evCode_sound Γok _ _ _ ?_
    simp (maxSteps := 4000000) only [push_cast, Int.reduceEq, Int.reduceBNe, Int.reduceBEq, Int.reduceAdd, Int.reduceSub, Int.reduceMul, Int.reduceNeg, Int.reduceLT, Int.reduceLE, Int.reduceToNat, Nat.reduceLT, Nat.reduceAdd, Nat.reduceSub, Nat.reduceMul, Nat.reduceEqDiff, Nat.reduceLeDiff, Nat.reduceBEq, reduceIte, reduceCtorEq, RawM.v]
    refine inv_w (hR.run g' n hok h1 h2) [0] (by simp (maxSteps := 4000000) only [push_cast, Int.reduceEq, Int.reduceBNe, Int.reduceBEq, Int.reduceAdd, Int.reduceSub, Int.reduceMul, Int.reduceNeg, Int.reduceLT, Int.reduceLE, Int.reduceToNat, Nat.reduceLT, Nat.reduceAdd, Nat.reduceSub, Nat.reduceMul, Nat.reduceEqDiff, Nat.reduceLeDiff, Nat.reduceBEq, reduceIte, reduceCtorEq]) ?_
    rintro sv post ⟨rfl, rfl⟩
    simp (maxSteps := 4000000) only [push_cast, Int.reduceEq, Int.reduceBNe, Int.reduceBEq, Int.reduceAdd, Int.reduceSub, Int.reduceMul, Int.reduceNeg, Int.reduceLT, Int.reduceLE, Int.reduceToNat, Nat.reduceLT, Nat.reduceAdd, Nat.reduceSub, Nat.reduceMul, Nat.reduceEqDiff, Nat.reduceLeDiff, Nat.reduceBEq, reduceIte, reduceCtorEq]
    refine call_w (passing_c (M.rd g' n).2.2) [] (by simp (maxSteps := 4000000) only [push_cast, Int.reduceEq, Int.reduceBNe, Int.reduceBEq, Int.reduceAdd, Int.reduceSub, Int.reduceMul, Int.reduceNeg, Int.reduceLT, Int.reduceLE, Int.reduceToNat, Nat.reduceLT, Nat.reduceAdd, Nat.reduceSub, Nat.reduceMul, Nat.reduceEqDiff, Nat.reduceLeDiff, Nat.reduceBEq, reduceIte, reduceCtorEq]) ?_
    rintro sv post ⟨rfl, rfl⟩
    simp (maxSteps := 4000000) only [push_cast, Int.reduceEq, Int.reduceBNe, Int.reduceBEq, Int.reduceAdd, Int.reduceSub, Int.reduceMul, Int.reduceNeg, Int.reduceLT, Int.reduceLE, Int.reduceToNat, Nat.reduceLT, Nat.reduceAdd, Nat.reduceSub, Nat.reduceMul, Nat.reduceEqDiff, Nat.reduceLeDiff, Nat.reduceBEq, reduceIte, reduceCtorEq]
    have hkeep := hR.keep g' n hok h1 h2
    simp only [RawM.some] at he
    refine ⟨fun hp => ?_, fun hp => ?_⟩
    · rw [if_pos hp] at he
      refine call_w (out_c 133 (8191 - k) (by omega) (by omega)) [1] (by simp (maxSteps := 4000000) only [push_cast, Int.reduceEq, Int.reduceBNe, Int.reduceBEq, Int.reduceAdd, Int.reduceSub, Int.reduceMul, Int.reduceNeg, Int.reduceLT, Int.reduceLE, Int.reduceToNat, Nat.reduceLT, Nat.reduceAdd, Nat.reduceSub, Nat.reduceMul, Nat.reduceEqDiff, Nat.reduceLeDiff, Nat.reduceBEq, reduceIte, reduceCtorEq]) ?_
      rintro sv post ⟨rfl, rfl⟩
      simp (maxSteps := 4000000) only [push_cast, Int.reduceEq, Int.reduceBNe, Int.reduceBEq, Int.reduceAdd, Int.reduceSub, Int.reduceMul, Int.reduceNeg, Int.reduceLT, Int.reduceLE, Int.reduceToNat, Nat.reduceLT, Nat.reduceAdd, Nat.reduceSub, Nat.reduceMul, Nat.reduceEqDiff, Nat.reduceLeDiff, Nat.reduceBEq, reduceIte, reduceCtorEq]
      refine ⟨fun hq => ?_, fun hq => ?_⟩
      · rw [if_pos (by omega)] at he
        rw [← he]
        exact Fin.w [0] (.tup [.ints .u8 .old [], .i .i64 81]) _ (by simp (maxSteps := 4000000) only [push_cast, Int.reduceEq, Int.reduceBNe, Int.reduceBEq, Int.reduceAdd, Int.reduceSub, Int.reduceMul, Int.reduceNeg, Int.reduceLT, Int.reduceLE, Int.reduceToNat, Nat.reduceLT, Nat.reduceAdd, Nat.reduceSub, Nat.reduceMul, Nat.reduceEqDiff, Nat.reduceLeDiff, Nat.reduceBEq, reduceIte, reduceCtorEq]) ⟨rfl, rfl⟩
      · rw [if_neg (by omega)] at he
        obtain ⟨k', rfl⟩ : ∃ k', k = k' + 1 := ⟨k - 1, by omega⟩
        refine ⟨⟨(k', (M.rd g' n).1), by omega, hkeep, he⟩, by simp only; omega, Sub.w [0, 1] ?_⟩
        simp (maxSteps := 4000000) only [push_cast, Int.reduceEq, Int.reduceBNe, Int.reduceBEq, Int.reduceAdd, Int.reduceSub, Int.reduceMul, Int.reduceNeg, Int.reduceLT, Int.reduceLE, Int.reduceToNat, Nat.reduceLT, Nat.reduceAdd, Nat.reduceSub, Nat.reduceMul, Nat.reduceEqDiff, Nat.reduceLeDiff, Nat.reduceBEq, reduceIte, reduceCtorEq, RawM.v]
        omega
    · rw [if_neg (by omega)] at he
      refine ⟨fun hq => ?_, fun hq => ⟨fun hr => ?_, fun hr => ?_⟩⟩
      · rw [if_pos hq] at he
        rw [← he]
        exact Fin.w [0] (.tup [.ints .u8 .old [], .i .i64 _]) _ (by simp (maxSteps := 4000000) only [push_cast, Int.reduceEq, Int.reduceBNe, Int.reduceBEq, Int.reduceAdd, Int.reduceSub, Int.reduceMul, Int.reduceNeg, Int.reduceLT, Int.reduceLE, Int.reduceToNat, Nat.reduceLT, Nat.reduceAdd, Nat.reduceSub, Nat.reduceMul, Nat.reduceEqDiff, Nat.reduceLeDiff, Nat.reduceBEq, reduceIte, reduceCtorEq]) ⟨rfl, rfl⟩
      · rw [if_neg (by omega), if_pos hr] at he
        rw [← he]
        exact Fin.w [0] (.tup [.ints .u8 .old [], .i .i64 82]) _ (by simp (maxSteps := 4000000) only [push_cast, Int.reduceEq, Int.reduceBNe, Int.reduceBEq, Int.reduceAdd, Int.reduceSub, Int.reduceMul, Int.reduceNeg, Int.reduceLT, Int.reduceLE, Int.reduceToNat, Nat.reduceLT, Nat.reduceAdd, Nat.reduceSub, Nat.reduceMul, Nat.reduceEqDiff, Nat.reduceLeDiff, Nat.reduceBEq, reduceIte, reduceCtorEq]) ⟨rfl, rfl⟩
      · rw [if_neg (by omega), if_neg (by omega)] at he
        rw [← he]
        exact Fin.w [0] (.tup [.ints .u8 .old _, .i .i64 0]) _ (by simp (maxSteps := 4000000) only [push_cast, Int.reduceEq, Int.reduceBNe, Int.reduceBEq, Int.reduceAdd, Int.reduceSub, Int.reduceMul, Int.reduceNeg, Int.reduceLT, Int.reduceLE, Int.reduceToNat, Nat.reduceLT, Nat.reduceAdd, Nat.reduceSub, Nat.reduceMul, Nat.reduceEqDiff, Nat.reduceLeDiff, Nat.reduceBEq, reduceIte, reduceCtorEq]) ⟨rfl, rfl⟩
end Go.Proofs.Ytbhkpefjnomncaa
