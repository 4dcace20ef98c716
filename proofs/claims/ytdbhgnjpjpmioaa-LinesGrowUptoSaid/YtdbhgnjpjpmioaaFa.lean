/- The engine, part FA: contracts over resources; methods of interface values whose content is not seen. -/
import Derived.Test.YtdbhgnjpjpmioaaEz
namespace Go.Eng
open Go
set_option linter.unusedVariables false
set_option linter.unusedSimpArgs false

def NNT : Tag → Prop
  | .tok _ _ => False
  | _ => True
mutual
/-- No name stands in it. -/
def NN : SV → Prop
  | .ints _ t _ => NNT t
  | .sl _ t _ el => NNT t ∧ ∀ i j, NN (el i j)
  | .ep _ g => ∀ d, NN (g d)
  | .ptr _ _ => False
  | .agg l => NNL l
  | .tup l => NNL l
  | .ifc _ x => NN x
  | .fn _ a c => NNL a ∧ NNL c
  | .cnd _ x => NN x
  | _ => True
def NNL : List SV → Prop
  | [] => True
  | x :: r => NN x ∧ NNL r
end
structure LeN (E E' : Env) : Prop where
  μ : ∀ a v, E.μ a = some v → E'.μ a = some v
  mt : ∀ b, E.Z b → E'.Z b
theorem TagOK.nn {E E' : Env} (h : LeN E E') {sz : Nat} {v : Value} : ∀ {t : Tag}, NNT t → TagOK E sz v t → TagOK E' sz v t
  | .old, _, k => trivial
  | .new, _, k => fun a n c e => h.mt _ (k a n c e)
  | .nil, _, k => k
  | .tok _ _, hn, _ => by simp only [NNT] at hn
mutual
theorem Den.nn {E E' : Env} (h : LeN E E') : ∀ (x : SV) (v : Value), NN x → Den E x v → Den E' x v
  | .i k n, v, _, hd => by simpa only [Den] using hd
  | .b c, v, _, hd => by simpa only [Den] using hd
  | .s x, v, _, hd => by simpa only [Den] using hd
  | .ptr n off, v, hn, hd => by simp only [NN] at hn
  | .nilp, v, _, hd => by simpa only [Den] using hd
  | .ints k tg l, v, hn, hd => by
      simp only [Den] at hd ⊢
      simp only [NN] at hn
      obtain ⟨a, cap, h1, h2, h3, h4, h5⟩ := hd
      exact ⟨a, cap, h1, h2, h3, fun i x e => let ⟨b, off, p, q⟩ := h4 i x e; ⟨b, off, p, h.μ _ _ q⟩, h5.nn h hn⟩
  | .sl sz tg n el, v, hn, hd => by
      simp only [Den] at hd ⊢
      simp only [NN] at hn
      obtain ⟨a, cap, h1, h2, h3, h4, h5⟩ := hd
      refine ⟨a, cap, h1, h2, h3, fun i hi => ?_, h5.nn h hn.1⟩
      obtain ⟨b, off, p, q⟩ := h4 i hi
      refine ⟨b, off, p, fun j hj => ?_⟩
      obtain ⟨x, r, s⟩ := q j hj
      exact ⟨x, h.μ _ _ r, Den.nn h (el i j) x (hn.2 i j) s⟩
  | .ep n get, v, hn, hd => by
      simp only [Den] at hd ⊢
      simp only [NN] at hn
      obtain ⟨b, off, p, q⟩ := hd
      refine ⟨b, off, p, fun d hd => ?_⟩
      obtain ⟨x, r, s⟩ := q d hd
      exact ⟨x, h.μ _ _ r, Den.nn h (get d) x (hn d) s⟩
  | .agg l, v, hn, hd => by
      simp only [Den] at hd ⊢
      simp only [NN] at hn
      obtain ⟨cs, p, q⟩ := hd
      exact ⟨cs, p, DenL.nn h l cs hn q⟩
  | .tup l, v, hn, hd => by
      simp only [Den] at hd ⊢
      simp only [NN] at hn
      obtain ⟨cs, p, q⟩ := hd
      exact ⟨cs, p, DenL.nn h l cs hn q⟩
  | .nili, v, _, hd => by simpa only [Den] using hd
  | .ifc t x, v, hn, hd => by
      simp only [Den] at hd ⊢
      simp only [NN] at hn
      obtain ⟨y, p, q⟩ := hd
      exact ⟨y, p, Den.nn h x y hn q⟩
  | .fn f first cap, v, hn, hd => by
      simp only [Den] at hd ⊢
      simp only [NN] at hn
      obtain ⟨fs, cs, p, q, r⟩ := hd
      exact ⟨fs, cs, p, DenL.nn h first fs hn.1 q, DenL.nn h cap cs hn.2 r⟩
  | .nilf, v, _, hd => by simpa only [Den] using hd
  | .raw x, v, _, hd => by simpa only [Den] using hd
  | .cnd g x, v, hn, hd => by
      simp only [Den] at hd ⊢
      simp only [NN] at hn
      exact ⟨fun e => Den.nn h x v hn (hd.1 e), hd.2⟩
  | .any, v, _, hd => by simp only [Den]
theorem DenL.nn {E E' : Env} (h : LeN E E') : ∀ (l : List SV) (cs : List Value), NNL l → DenL E l cs → DenL E' l cs
  | [], [], _, _ => by simp only [DenL]
  | x :: xs, v :: vs, hn, hd => by
      simp only [DenL] at hd ⊢
      simp only [NNL] at hn
      exact ⟨Den.nn h x v hn.1 hd.1, DenL.nn h xs vs hn.2 hd.2⟩
  | [], _ :: _, _, hd => by simp only [DenL] at hd
  | _ :: _, [], _, hd => by simp only [DenL] at hd
end

/-- One resource came in, or goes out. -/
def preR (R : Res) : SS := ⟨[], [], [], [(0, R)], 1, 1, []⟩

/-- What a call's end says. -/
def EndsAs (E : Env) (R : SV → SS → Prop) (e : Ending) (w' : World) : Prop := ∃ v E' post sv, e = .returned v ∧ E.Ext E' ∧ Good E' post w' ∧ Den E' sv v ∧ R sv post

/-- What a method's contract over the parts of its receiver says over the receiver as one resource. -/
def FoldR (root : Nat) (R : SV → SS → Prop) (sv : SV) (post : SS) : Prop :=
  ∃ H' im psv, FoldW H' im post ∧ fmap im post.nx 0 = 0 ∧ W false (fun n => n) psv sv ∧ NN psv ∧ R psv (preR (H'.res root))

theorem unfold_pre {E : Env} {w : World} {H : SS} {root : Nat} (hw0 : E.w0 = w) (hw : Good E (preR (H.res root)) w) (hk1 : 1 ≤ H.k) (hkx : H.k ≤ H.nx) :
    ∃ E1, E1.w0 = w ∧ E1.S0 = E.S0 ∧ E1.μ = E.μ ∧ E1.ρ 0 = some root ∧ Good E1 H w ∧ E1.k = H.k ∧ E1.Z = E.Z := by
  obtain ⟨κ, ho⟩ := hw.own
  obtain ⟨F, ⟨ρ, θ, κH, hp⟩, hF⟩ := ho.rs 0 (H.res root) (by simp [preR])
  refine ⟨⟨w, E.S0, ρ, θ, E.μ, H.k, E.Z, by rw [← hw0]; exact E.hZ⟩, rfl, rfl, rfl, hp.root, ⟨rfl, hkx, rfl, rfl, rfl, Nat.le_refl _, fun _ _ _ => rfl, hw.mu, hp.nxρ, hp.nxθ, κH, fun n T ls e => ?_, fun τ hτ => ?_, fun r R hr => ?_, hp.mu, fun b key e => ?_⟩, rfl, rfl⟩
  · obtain ⟨b, cs, q1, q2, q3, q4⟩ := hp.hp n T ls e
    have := (hF b (hp.dom _ _ q4)).2.2
    refine ⟨b, cs, q1, q2, q3 _ rfl rfl rfl, q4, ?_⟩
    unfold Mut at this ⊢
    rw [hw0] at this
    exact this
  · obtain ⟨sz, a, len, cap, q1, q2, q3⟩ := hp.tk τ hτ
    refine ⟨sz, a, len, cap, q1, q2, ?_⟩
    rcases q3 with q3 | ⟨b, off, T, cs, q4, q5, q6, q7, q8⟩
    · exact .inl q3
    · refine .inr ⟨b, off, T, cs, q4, q5, ?_, q6, q7, q8⟩
      have := (hF b (hp.dom _ _ q5)).2.2
      unfold Mut at this ⊢
      rw [hw0] at this
      exact this
  · obtain ⟨G, q1, q2⟩ := hp.rs r R hr
    refine ⟨G, q1, fun b hb => ?_⟩
    have h3 := hF b (hp.dom _ _ (q2 b hb))
    refine ⟨h3.1, q2 b hb, ?_⟩
    have := h3.2.2
    unfold Mut at this ⊢
    rw [hw0] at this
    exact this
  · have h3 := hF b (hp.dom _ _ e)
    refine ⟨h3.1, ?_⟩
    have := h3.2.2
    unfold Mut at this ⊢
    rw [hw0] at this
    exact this

theorem fold_post {E E1 E2 : Env} {w w' : World} {H0 : Res} {root : Nat} {R : SV → SS → Prop} {sv : SV} {post : SS} {v : Value} (hw0 : E.w0 = w) (hw : Good E (preR H0) w) (e1 : E1.w0 = w) (e2 : E1.S0 = E.S0) (e3 : E1.μ = E.μ) (e4 : E1.ρ 0 = some root) (e5 : E1.Z = E.Z) (hk : 1 ≤ E1.k)
    (hx : E1.Ext E2) (hp : Good E2 post w') (hd : Den E2 sv v) (hR : FoldR root R sv post) :
    ∃ E', E.Ext E' ∧ ∃ psv post', Good E' post' w' ∧ Den E' psv v ∧ R psv post' := by
  obtain ⟨H', im, psv, hf, h0, h1, h2, h3⟩ := hR
  have hroot : E2.ρ (fmap im post.nx 0) = some root := by rw [h0, hx.ρ 0 (by omega)]; exact e4
  obtain ⟨κ, ho⟩ := hp.own
  have hpart := fold_part hp ho hf hroot
  have hmt : ∀ b, Mut E2 b → Mut E b := fun b hb => by
    have := (Mut.ext hx).2 hb
    unfold Mut at this ⊢
    rw [e1, e2] at this
    rw [hw0]; exact this
  let E3 : Env := { E with μ := E2.μ }
  refine ⟨E3, ⟨rfl, fun _ _ => rfl, fun _ _ => rfl, rfl, rfl, fun a v e => hx.μ a v (by rw [e3]; exact e), fun a v e => ?_, rfl⟩, psv, _, ?_, ?_, h3⟩
  · rcases hx.μnew a v e with h | h
    · rw [e3] at h; exact .inl h
    · refine .inr ?_
      unfold Mut at h ⊢
      rw [e1, e2] at h
      rw [hw0]; exact h
  · have s1 := hp.size
    rw [hx.w0, e1] at s1
    refine ⟨hw.k, hw.kx, ?_, ?_, ?_, ?_, fun b hb hs => ?_, hp.mu, hw.nxρ, hw.nxθ, fun b => match κ b with | some key => (match Key.ren (finv (fmap im post.nx) (imN im post.nx)) key with | some _ => some (.res 0) | none => none) | none => none, fun n T ls e => by simp [preR, hfind] at e, fun τ hτ => by simp [preR] at hτ, fun r R hr => ?_, fun a v e n e' => ?_, fun b key e => ?_⟩
    · rw [hp.os, hx.w0, e1]; show w.os = E.w0.os; rw [hw0]
    · rw [hp.tape, hx.w0, e1]; show w.tape = E.w0.tape; rw [hw0]
    · rw [hp.output, hx.w0, e1]; show w.output = E.w0.output; rw [hw0]
    · show E.w0.heap.size ≤ _; rw [hw0]; exact s1
    · have hb' : b < E.w0.heap.size := hb
      have := hp.old b (by rw [hx.w0, e1, ← hw0]; exact hb') (fun h => hs (by rw [hx.S0, e2] at h; exact h))
      rw [this, hx.w0, e1]; show w.heap[b]? = E.w0.heap[b]?; rw [hw0]
    · simp only [preR, List.mem_cons, Prod.mk.injEq, List.not_mem_nil, or_false] at hr
      obtain ⟨rfl, rfl⟩ := hr
      refine ⟨_, ⟨_, _, _, hpart⟩, fun b hb => ?_⟩
      obtain ⟨key, hb⟩ := hb
      cases hk : κ b with
      | none => simp [hk] at hb
      | some key0 =>
        simp only [hk, Option.bind_some] at hb
        simp only [hb]
        exact ⟨(ho.dom _ _ hk).1, trivial, hmt _ (ho.dom _ _ hk).2⟩
    · split at e'
      · split at e' <;> cases e'
      · cases e'
    · cases hk : κ b with
      | none => simp [hk] at e
      | some key0 => exact ⟨(ho.dom _ _ hk).1, hmt _ (ho.dom _ _ hk).2⟩
  · exact Den.nn (E := E2) (E' := E3) ⟨fun _ _ h => h, fun b hb => by rw [hx.Z, e5] at hb; exact hb⟩ _ _ h2 (W_den (f := fun n => n) (imp := false) ⟨fun _ => rfl, fun _ => rfl, rfl, fun _ _ h => h⟩ _ _ _ h1 hd)

/-- A method's contract over its receiver as one resource. -/
theorem contract_res {P : Program} {f : FuncId} {H : SS} (root : Nat) {args : List SV} {R' R : SV → SS → Prop} (hk1 : 1 ≤ H.k) (hkx : H.k ≤ H.nx) (hC : Contract P f H (.ptr 0 0 :: args) R') (hn : NNL args)
    (hR : ∀ sv post, R' sv post → FoldR root R sv post) : Contract P f (preR (H.res root)) (.raw (.pointer (some ⟨root, 0, none⟩)) :: args) R := by
  intro E w vs hw0 hw hv
  obtain ⟨E1, e1, e2, e3, e4, e5, e6, e7⟩ := unfold_pre hw0 hw hk1 hkx
  have hv1 : DenL E1 (.ptr 0 0 :: args) vs := by
    cases vs with
    | nil => simp only [DenL] at hv
    | cons v0 vs =>
      simp only [DenL] at hv ⊢
      refine ⟨?_, DenL.nn ⟨fun a v e => by rw [e3]; exact e, fun b hb => by rw [e7]; exact hb⟩ _ _ hn hv.2⟩
      have := hv.1
      simp only [Den] at this ⊢
      exact ⟨root, e4, this⟩
  obtain ⟨q1, q2⟩ := hC E1 w vs e1 e5 hv1
  refine ⟨q1, q2.mono ?_⟩
  rintro e w' ⟨v, E2, post, sv, rfl, k1, k2, k3, k4⟩
  obtain ⟨E', r1, psv, post', r2, r3, r4⟩ := fold_post hw0 hw e1 e2 e3 e4 e7 (by omega) k1 k2 k3 (hR sv post k4)
  exact ⟨v, E', post', psv, rfl, r1, r2, r3, r4⟩

/-- A contract of a method that is called through an interface value of type t and content y. -/
def InvC (P : Program) (t : TypeId) (y : Value) (name : String) (pre : SS) (pargs : List SV) (R : SV → SS → Prop) : Prop :=
  ∀ E w vs, E.w0 = w → Good E pre w → DenL E pargs vs → ∃ f as, (callMethod (.iface t y) name vs.toArray).run P w = .ok (.enter f as) w ∧
    Calls P f as w (fun e w' => ∃ v E' post sv, e = .returned v ∧ E.Ext E' ∧ Good E' post w' ∧ Den E' sv v ∧ R sv post)

theorem invC_of {P : Program} {t : TypeId} {name : String} {f : FuncId} (hm : MethodIs P t name f) {root : Nat} {pre : SS} {pargs : List SV} {R : SV → SS → Prop} (hC : Contract P f pre (.raw (.pointer (some ⟨root, 0, none⟩)) :: pargs) R) :
    InvC P t (.pointer (some ⟨root, 0, none⟩)) name pre pargs R := by
  intro E w vs hw0 hw hv
  obtain ⟨k1, k2⟩ := hC E w (.pointer (some ⟨root, 0, none⟩) :: vs) hw0 hw (by simp only [DenL, Den]; exact ⟨trivial, hv⟩)
  refine ⟨f, (.pointer (some ⟨root, 0, none⟩) :: vs).toArray, ?_, k2⟩
  rw [← k1]
  simp only [callMethod, Sem.run_bind, run_program, Result.andThen_ok, hm root 0 w]
  congr 2
  apply Array.ext'; simp

theorem InvC.mono {P : Program} {t : TypeId} {y : Value} {name : String} {pre : SS} {pargs : List SV} {R R' : SV → SS → Prop} (h : InvC P t y name pre pargs R) (hR : ∀ sv post, R sv post → R' sv post) : InvC P t y name pre pargs R' := by
  intro E w vs hw0 hw hv
  obtain ⟨f, as, k1, k2⟩ := h E w vs hw0 hw hv
  exact ⟨f, as, k1, k2.mono fun e w' ⟨v, E', post, sv, h1, h2, h3, h4, h5⟩ => ⟨v, E', post, sv, h1, h2, h3, h4, hR _ _ h5⟩⟩
theorem Contract.mono {P : Program} {f : FuncId} {pre : SS} {pargs : List SV} {R R' : SV → SS → Prop} (h : Contract P f pre pargs R) (hR : ∀ sv post, R sv post → R' sv post) : Contract P f pre pargs R' := by
  intro E w vs hw0 hw hv
  obtain ⟨k1, k2⟩ := h E w vs hw0 hw hv
  exact ⟨k1, k2.mono fun e w' ⟨v, E', post, sv, h1, h2, h3, h4, h5⟩ => ⟨v, E', post, sv, h1, h2, h3, h4, hR _ _ h5⟩⟩

/-- A callee's view of a caller's state, and back. -/
theorem lend {pre : SS} {pargs : List SV} {R : SV → SS → Prop} (im : List Nat) {st : SS} {args : List SV} {K : SV → SS → Prop} (h : CallW im pre pargs st args)
    (hK : ∀ sv post, R sv post → K (ren (fmap (im.take pre.k) st.nx) sv) (st.back (lentOf im st.nx pre) (im.take pre.k) post)) {E : Env} {w : World} {vs : List Value} (hw : Good E st w) (hv : DenL E args vs) :
    ∃ E', E'.w0 = w ∧ Good E' pre w ∧ DenL E' pargs vs ∧ ∀ e w', (∃ v E1 post sv, e = .returned v ∧ E'.Ext E1 ∧ Good E1 post w' ∧ Den E1 sv v ∧ R sv post) → CallPost E st K e w' := by
  obtain ⟨hd, hl, hlen, hk, hlt, h1, h2, h3, ha⟩ := h
  obtain ⟨κ, ho⟩ := hw.own
  have hinj := fmap_inj im st.nx hd hl
  let E' : Env := { w0 := w, S0 := fun b => ∃ key, κ b = some key ∧ key.name ∈ lentOf im st.nx pre, ρ := fun n => E.ρ (fmap im st.nx n), θ := fun n => E.θ (fmap im st.nx n), μ := E.μ, k := pre.k, Z := E.Z, hZ := fun b hb => E.hZ b (Nat.le_trans hw.size hb) }
  have hp : Pull false (fmap im st.nx) E E' := ⟨fun _ => rfl, fun _ => rfl, rfl, fun _ _ h => h⟩
  have hg : Good E' pre w := by
    refine ⟨rfl, hk, rfl, rfl, rfl, Nat.le_refl _, fun _ _ _ => rfl, hw.mu, fun n hn => hw.nxρ _ ?_, fun n hn => hw.nxθ _ ?_, _, ho.pull hinj hp h1 h2 h3 (fun n => fmap im st.nx n ∈ lentOf im st.nx pre) (fun n T ls e => List.mem_append_left _ (lentHp_find _ _ n T ls e)) (fun τ hτ => List.mem_append_right _ (List.mem_append_left _ (lentTk_mem _ _ τ hτ))) (fun r R hr => List.mem_append_right _ (List.mem_append_right _ (lentRs_mem _ _ r R hr))) ?_⟩
    · rw [fmap_ge im st.nx n (by omega)]; omega
    · rw [fmap_ge im st.nx n (by omega)]; omega
    · intro b key n hκ hn hN _
      exact .inr ⟨key, hκ, by rw [hn]; exact hN⟩
  refine ⟨E', rfl, hg, WL_den hp _ _ _ ha hv, ?_⟩
  rintro e w' ⟨v, E1, post, sv, rfl, k1, k2, k3, k4⟩
  have hw0 : E1.w0 = w := k1.w0
  have hS0 : E1.S0 = fun b => ∃ key, κ b = some key ∧ key.name ∈ lentOf im st.nx pre := k1.S0
  have hkl : (im.take pre.k).length = pre.k := by simp; omega
  obtain ⟨E2, r1, r2, r3⟩ := back_good (ik := im.take pre.k) hw ho (distincts_take _ _ hd) (allLt_take _ _ hl) hw0 k1.Z hS0 (fun n b hn e => by rw [k1.ρ n (by show n < pre.k; omega)] at e; rw [fmap_take _ _ _ _ (by omega)]; exact e) (fun n b hn e => by rw [k1.θ n (by show n < pre.k; omega)] at e; rw [fmap_take _ _ _ _ (by omega)]; exact e) k1.μ (fun a v e => by
      rcases k1.μnew a v e with h | h
      · exact .inl h
      · exact .inr ((Mut.ext k1).1 h)) k2
  · exact ⟨v, E2, _, _, rfl, r1, r3, Den.ren r2 _ _ k3, ⟨rfl, rfl⟩, hK sv post k4⟩

theorem inv_w {P : Program} {t : TypeId} {y : Value} {name : String} {pre : SS} {pargs : List SV} {R : SV → SS → Prop} (hC : InvC P t y name pre pargs R) (im : List Nat) {st : SS} {args : List SV} {K : SV → SS → Prop}
    (h : CallW im pre pargs st args) (hK : ∀ sv post, R sv post → K (ren (fmap (im.take pre.k) st.nx) sv) (st.back (lentOf im st.nx pre) (im.take pre.k) post)) : InvOK P (.ifc t (.raw y)) name args st K := by
  intro E w r vs hw hr hv
  simp only [Den] at hr
  obtain ⟨y', rfl, rfl⟩ := hr
  obtain ⟨E', e1, e2, e3, e4⟩ := lend im h hK hw hv
  obtain ⟨f, as, k1, k2⟩ := hC E' w vs e1 e2 e3
  exact ⟨f, as, k1, k2.mono e4⟩
end Go.Eng
