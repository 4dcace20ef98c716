/- The engine, part FC: a region in any order, by one walk: what leaves the world alone first, the rest as the edges order it. -/
import Derived.Test.YtdbhgnjpjpmioaaFa
namespace Go.Eng
open Go
set_option linter.unusedVariables false
set_option linter.unusedSimpArgs false

/-- The operands that an operation's value hangs on. -/
def opsOf : Op → List Operand
  | .move x => [x]
  | .assign x => [x]
  | .pick c a b => [c, a, b]
  | .box _ v => [v]
  | .build _ ps => ps.toList.map (·.2)
  | .buildSlice _ _ ps => ps.toList.map (·.2)
  | .load _ x => [x]
  | .store _ a v => [a, v]
  | .nilCheck x => [x]
  | .binOp _ _ x y _ => [x, y]
  | .unOp _ _ x => [x]
  | .convert _ _ x => [x]
  | .makeInterface _ x => [x]
  | .makeFunc _ a c => a.toList ++ c.toList
  | .makeSlice _ n c => [n, c]
  | .slice _ x lo hi _ => x :: (lo.toList ++ hi.toList)
  | .fieldAddr _ x _ => [x]
  | .field _ x _ => [x]
  | .indexAddr _ x i => [x, i]
  | .index _ x i => [x, i]
  | .range _ x => [x]
  | .extract x _ => [x]
  | .call c => (match c.callee with | .value f => [f] | .invoke r _ => [r] | .builtin _ => []) ++ c.args.toList
  | _ => []

def Agree (s t : SS) (l : List Operand) : Prop := ∀ x, x ∈ l → s.eval x = t.eval x
theorem Agree.opd {s t : SS} {l : List Operand} (h : Agree s t l) {x : Operand} (hx : x ∈ l) : opd s x = opd t x := by unfold Eng.opd; rw [h x hx]
theorem Agree.ovc {s t : SS} {l : List Operand} (h : Agree s t l) {x : Operand} (hx : x ∈ l) (g : Bool) : ovc s g x = ovc t g x := by unfold Eng.ovc; rw [h x hx]
theorem Agree.map {s t : SS} {l m : List Operand} (h : Agree s t l) (hm : ∀ x, x ∈ m → x ∈ l) : m.map (Eng.opd s) = m.map (Eng.opd t) := List.map_congr_left fun x hx => h.opd (hm x hx)
theorem Agree.ovcL {s t : SS} {l : List Operand} (h : Agree s t l) (g : Bool) : ∀ (m : List Operand), (∀ x, x ∈ m → x ∈ l) → ovcL s g m = ovcL t g m
  | [], _ => rfl
  | x :: r, hm => by simp only [Eng.ovcL]; rw [h.ovc (hm x (by simp)) g, Agree.ovcL h g r (fun y hy => hm y (by simp [hy]))]
theorem Agree.symm {s t : SS} {l : List Operand} (h : Agree s t l) : Agree t s l := fun x hx => (h x hx).symm

def loadB : Op → Bool
  | .load _ _ => true
  | _ => false

/-- The value of an operation hangs on its operands, and on memory where it loads. -/
theorem evalP_congr {P : Program} {Γ : Tab} {s t : SS} {g : Bool} {op : Op} (h : Agree s t (opsOf op)) (hh : loadB op = true → s.hp = t.hp) : evalP P Γ s g op = evalP P Γ t g op := by
  cases op with
  | move x => simp only [evalP]; rw [h.opd (by simp [opsOf]), h.ovc (by simp [opsOf])]
  | assign x => simp only [evalP]; rw [h.opd (by simp [opsOf]), h.ovc (by simp [opsOf])]
  | pick c a b => simp only [evalP, evPick]; simp only [h.opd (show c ∈ _ by simp [opsOf]), h.ovc (show c ∈ _ by simp [opsOf]), h.opd (show a ∈ _ by simp [opsOf]), h.ovc (show a ∈ _ by simp [opsOf]), h.opd (show b ∈ _ by simp [opsOf]), h.ovc (show b ∈ _ by simp [opsOf])]
  | build T ps =>
    simp only [evalP, evBuild]
    have e1 : (ps.toList.map fun p => (p.1, opd s p.2)) = ps.toList.map fun p => (p.1, opd t p.2) := List.map_congr_left fun p hp => by rw [h.opd (by simp only [opsOf, List.mem_map]; exact ⟨p, hp, rfl⟩)]
    rw [e1, h.ovcL g (ps.toList.map fun p => p.2) (fun x hx => by simpa [opsOf] using hx)]
  | load T x => simp only [evalP, evLoad]; rw [h.opd (show x ∈ _ by simp [opsOf]), h.ovc (show x ∈ _ by simp [opsOf]), hh rfl]
  | nilCheck x => simp only [evalP, evNil]; rw [h.opd (show x ∈ _ by simp [opsOf]), h.ovc (show x ∈ _ by simp [opsOf])]
  | binOp o T x y _ => simp only [evalP]; rw [h.opd (show x ∈ _ by simp [opsOf]), h.ovc (show x ∈ _ by simp [opsOf]), h.opd (show y ∈ _ by simp [opsOf]), h.ovc (show y ∈ _ by simp [opsOf])]
  | unOp o T x => simp only [evalP]; rw [h.opd (show x ∈ _ by simp [opsOf]), h.ovc (show x ∈ _ by simp [opsOf])]
  | convert S D x => simp only [evalP]; rw [h.opd (show x ∈ _ by simp [opsOf]), h.ovc (show x ∈ _ by simp [opsOf])]
  | makeInterface T x => simp only [evalP]; rw [h.opd (show x ∈ _ by simp [opsOf]), h.ovc (show x ∈ _ by simp [opsOf])]
  | makeFunc f a c => simp only [evalP]; rw [h.map (fun x hx => by simp [opsOf] at hx ⊢; exact .inl hx), h.map (m := c.toList) (fun x hx => by simp [opsOf] at hx ⊢; exact .inr hx), h.ovcL g a.toList (fun x hx => by simp [opsOf] at hx ⊢; exact .inl hx), h.ovcL g c.toList (fun x hx => by simp [opsOf] at hx ⊢; exact .inr hx)]
  | slice T x lo hi mx =>
    cases mx with
    | some _ => rfl
    | none =>
      simp only [evalP]
      have e1 : lo.map (opd s) = lo.map (opd t) := by
        cases lo with
        | none => rfl
        | some y => simp only [Option.map_some]; rw [h.opd (by simp [opsOf])]
      have e2 : hi.map (opd s) = hi.map (opd t) := by
        cases hi with
        | none => rfl
        | some y => simp only [Option.map_some]; rw [h.opd (by simp [opsOf])]
      rw [e1, e2, h.opd (show x ∈ _ by simp [opsOf]), h.ovc (show x ∈ _ by simp [opsOf]), h.ovcL g lo.toList (fun y hy => by simp only [opsOf, List.mem_cons, List.mem_append]; exact .inr (.inl hy)), h.ovcL g hi.toList (fun y hy => by simp only [opsOf, List.mem_cons, List.mem_append]; exact .inr (.inr hy))]
  | fieldAddr T x f => simp only [evalP, evField]; rw [h.opd (show x ∈ _ by simp [opsOf]), h.ovc (show x ∈ _ by simp [opsOf])]
  | field T x f => simp only [evalP]; rw [h.opd (show x ∈ _ by simp [opsOf]), h.ovc (show x ∈ _ by simp [opsOf])]
  | indexAddr T x i => simp only [evalP, evIndexAddr]; rw [h.opd (show x ∈ _ by simp [opsOf]), h.ovc (show x ∈ _ by simp [opsOf]), h.opd (show i ∈ _ by simp [opsOf]), h.ovc (show i ∈ _ by simp [opsOf])]
  | index T x i => simp only [evalP]; rw [h.opd (show x ∈ _ by simp [opsOf]), h.ovc (show x ∈ _ by simp [opsOf]), h.opd (show i ∈ _ by simp [opsOf]), h.ovc (show i ∈ _ by simp [opsOf])]
  | extract x n => simp only [evalP]; rw [h.opd (show x ∈ _ by simp [opsOf]), h.ovc (show x ∈ _ by simp [opsOf])]
  | call c =>
    simp only [evalP]
    have hm : ∀ x, x ∈ c.args.toList → x ∈ opsOf (.call c) := fun x hx => by simp only [opsOf, List.mem_append]; exact .inr hx
    rw [h.map hm, h.ovcL g _ hm]
  | _ => rfl

/-- The same but for the variables. -/
def SS.with (s : SS) (fr : List SV) : SS := { s with fr := fr }
theorem with_put (s : SS) (fr : List SV) (d : Option Nat) (v : SV) : (s.with fr).put d v = (s.put d v).with ((s.with fr).put d v).fr := by
  cases d <;> rfl

theorem CallOK.with {P : Program} {f : FuncId} {args : List SV} {s : SS} (fr : List SV) {K : SV → SS → Prop} (h : CallOK P f args s K) :
    CallOK P f args (s.with fr) (fun sv t' => ∃ s', K sv s' ∧ s'.fr = s.fr ∧ t' = s'.with fr) := by
  intro E w vs hw hv
  obtain ⟨q1, q2⟩ := h E w vs ⟨hw.k, hw.kx, hw.os, hw.tape, hw.output, hw.size, hw.old, hw.mu, hw.nxρ, hw.nxθ, let ⟨κ, k⟩ := hw.own; ⟨κ, k.hp, k.tk, k.rs, k.mu, k.dom⟩⟩ hv
  refine ⟨q1, q2.mono ?_⟩
  rintro e w' ⟨v, E', st', sv, rfl, h1, h2, h3, ⟨h4, h5⟩, h6⟩
  exact ⟨v, E', st'.with fr, sv, rfl, h1, ⟨h2.k, h2.kx, h2.os, h2.tape, h2.output, h2.size, h2.old, h2.mu, h2.nxρ, h2.nxθ, let ⟨κ, k⟩ := h2.own; ⟨κ, k.hp, k.tk, k.rs, k.mu, k.dom⟩⟩, h3, ⟨rfl, h5⟩, st', h6, h4, rfl⟩
theorem InvOK.with {P : Program} {r : SV} {name : String} {args : List SV} {s : SS} (fr : List SV) {K : SV → SS → Prop} (h : InvOK P r name args s K) :
    InvOK P r name args (s.with fr) (fun sv t' => ∃ s', K sv s' ∧ s'.fr = s.fr ∧ t' = s'.with fr) := by
  intro E w r vs hw hr hv
  obtain ⟨f, as, q1, q2⟩ := h E w r vs ⟨hw.k, hw.kx, hw.os, hw.tape, hw.output, hw.size, hw.old, hw.mu, hw.nxρ, hw.nxθ, let ⟨κ, k⟩ := hw.own; ⟨κ, k.hp, k.tk, k.rs, k.mu, k.dom⟩⟩ hr hv
  refine ⟨f, as, q1, q2.mono ?_⟩
  rintro e w' ⟨v, E', st', sv, rfl, h1, h2, h3, ⟨h4, h5⟩, h6⟩
  exact ⟨v, E', st'.with fr, sv, rfl, h1, ⟨h2.k, h2.kx, h2.os, h2.tape, h2.output, h2.size, h2.old, h2.mu, h2.nxρ, h2.nxθ, let ⟨κ, k⟩ := h2.own; ⟨κ, k.hp, k.tk, k.rs, k.mu, k.dom⟩⟩, h3, ⟨rfl, h5⟩, st', h6, h4, rfl⟩
theorem CallOK.mono {P : Program} {f : FuncId} {args : List SV} {s : SS} {K K' : SV → SS → Prop} (h : CallOK P f args s K) (hk : ∀ sv t, K sv t → K' sv t) : CallOK P f args s K' := by
  intro E w vs hw hv
  obtain ⟨q1, q2⟩ := h E w vs hw hv
  exact ⟨q1, q2.mono fun e w' ⟨⟨v, E', st', sv, h0, h1, h2, h3, h4, h6⟩⟩ => ⟨v, E', st', sv, h0, h1, h2, h3, h4, hk _ _ h6⟩⟩
theorem InvOK.mono {P : Program} {r : SV} {name : String} {args : List SV} {s : SS} {K K' : SV → SS → Prop} (h : InvOK P r name args s K) (hk : ∀ sv t, K sv t → K' sv t) : InvOK P r name args s K' := by
  intro E w r vs hw hr hv
  obtain ⟨f, as, q1, q2⟩ := h E w r vs hw hr hv
  exact ⟨f, as, q1, q2.mono fun e w' ⟨⟨v, E', st', sv, h0, h1, h2, h3, h4, h6⟩⟩ => ⟨v, E', st', sv, h0, h1, h2, h3, h4, hk _ _ h6⟩⟩

/-- What follows, where the variables are others. -/
def OnFr (s : SS) (fr : List SV) (d : Option Tmp) (K : SS → Prop) (t' : SS) : Prop := ∃ s' v, K s' ∧ s'.fr = (s.put d v).fr ∧ t' = s'.with ((s.with fr).put d v).fr
theorem OnFr.of {s s1 : SS} {fr : List SV} {d : Option Tmp} {v : SV} {K : SS → Prop} (h : K (s1.put d v)) (hs : s1.fr = s.fr) : OnFr s fr d K ((s1.with fr).put d v) := by
  refine ⟨_, v, h, ?_, ?_⟩
  · cases d with
    | none => exact hs
    | some d => simp only [SS.put]; rw [hs]
  · rw [with_put]
    cases d with
    | none => rfl
    | some d => rfl

theorem evAppend_with {Γ : Tab} {s : SS} (fr : List SV) {d : Option Tmp} {t t2 : TypeId} {x y : SV} {K K' : SS → Prop} (hk : ∀ (s1 : SS) (v : SV), s1.fr = s.fr → K (s1.put d v) → K' ((s1.with fr).put d v)) (h : evAppend Γ s d t t2 x y K) : evAppend Γ (s.with fr) d t t2 x y K' := by
  unfold evAppend at h ⊢
  split at h
  · split at h
    · split at h
      · split at h
        · rename_i hc
          refine (if_pos (show _ ∧ tkMem (s.with fr).tk _ = true from hc)).symm ▸ ?_
          obtain ⟨h1, h2, h3, h4, h5, h6⟩ := h
          exact ⟨h1, h2, h3, h4, h5, hk ({ s with tk := s.nx :: tkDel s.tk _, nx := s.nx + 1 }) _ rfl h6⟩
        · exact h.elim
      · obtain ⟨h1, h2, h3, h4, h5, h6⟩ := h
        exact ⟨h1, h2, h3, h4, h5, hk ({ s with tk := s.nx :: s.tk, nx := s.nx + 1 }) _ rfl h6⟩
      · exact h.elim
    · exact h.elim
  · exact h.elim

/-- An operation's effect hangs on its operands alone. -/
theorem evEff_with' {P : Program} {Γ : Tab} {s : SS} {fr : List SV} {o : Oper} {K K' : SS → Prop} (hk : ∀ (s1 : SS) (v : SV), s1.fr = s.fr → K (s1.put o.dst v) → K' ((s1.with fr).put o.dst v)) (h : Agree s (s.with fr) (opsOf o.op)) (hs : evEff P Γ s o K) : evEff P Γ (s.with fr) o K' := by
  have hop : ∀ {x : Operand}, x ∈ opsOf o.op → opd (s.with fr) x = opd s x := fun hx => (h.opd hx).symm
  have hov : ∀ {x : Operand}, x ∈ opsOf o.op → ∀ g, ovc (s.with fr) g x = ovc s g x := fun hx g => (h.ovc hx g).symm
  have hovL : ∀ m : List Operand, (∀ x, x ∈ m → x ∈ opsOf o.op) → ∀ g, ovcL (s.with fr) g m = ovcL s g m := fun m hm g => (h.ovcL g m hm).symm
  have hmap : ∀ ps : Array (Nat × Operand), (∀ x, x ∈ ps.toList.map (·.2) → x ∈ opsOf o.op) → (ps.toList.map fun p => (p.1, opd (s.with fr) p.2)) = ps.toList.map fun p => (p.1, opd s p.2) := fun ps hp => List.map_congr_left fun p hpp => by rw [hop (hp _ (List.mem_map.2 ⟨p, hpp, rfl⟩))]
  unfold evEff at hs ⊢
  generalize ho : o.op = op at *
  cases op with
  | alloc t => exact ⟨hs.1, hk (s.addBlk _ _) _ rfl hs.2⟩
  | box t x =>
    simp only at hs ⊢
    rw [hop (show x ∈ _ by simp [opsOf]), hov (show x ∈ _ by simp [opsOf])]
    split at hs
    · exact ⟨hs.1, hk (s.addBlk _ _) _ rfl hs.2⟩
    · exact hs.elim
  | store t ad x =>
    simp only at hs ⊢
    rw [hop (show ad ∈ _ by simp [opsOf]), hop (show x ∈ _ by simp [opsOf]), hov (show ad ∈ _ by simp [opsOf]), hov (show x ∈ _ by simp [opsOf])]
    split at hs
    · rename_i n off ls e1 e2
      show (match hfind s.hp n with | some (_, l) => _ | none => False)
      split at hs
      · rename_i T l e3
        obtain ⟨h1, h2, h3, h4, h5, h6, h7⟩ := hs
        rw [e3]
        exact ⟨h1, h2, h3, h4, h5, h6, hk (s.setBlk _ _) _ rfl h7⟩
      · exact hs.elim
    · exact hs.elim
  | buildSlice t len parts =>
    simp only at hs ⊢
    rw [hmap parts (fun x hx => by simpa [opsOf] using hx), hovL _ (fun x hx => by simpa [opsOf] using hx)]
    split at hs
    · split at hs
      · split at hs
        · obtain ⟨h1, h2, h3, h4, h5, h6⟩ := hs
          exact ⟨h1, h2, h3, h4, h5, hk (s.addTok) _ rfl h6⟩
        · exact hs.elim
      · split at hs
        · obtain ⟨h1, h2, h3, h4, h6⟩ := hs
          exact ⟨h1, h2, h3, h4, hk (s.addTok) _ rfl h6⟩
        · exact hs.elim
    · exact hs.elim
  | range t x =>
    simp only at hs ⊢
    rw [hop (show x ∈ _ by simp [opsOf]), hov (show x ∈ _ by simp [opsOf])]
    split at hs
    · exact ⟨hs.1, fun b => hk ({ s with rs := (s.nx, RObj b _) :: s.rs, nx := s.nx + 1 }) _ rfl (hs.2 b)⟩
    · exact hs.elim
  | makeSlice t n c =>
    simp only at hs ⊢
    rw [hop (show n ∈ _ by simp [opsOf]), hop (show c ∈ _ by simp [opsOf]), hov (show n ∈ _ by simp [opsOf]), hov (show c ∈ _ by simp [opsOf])]
    split at hs
    · split at hs
      · obtain ⟨h1, h2, h3, h4, h5, h6, h7, h8, h9⟩ := hs
        exact ⟨h1, h2, h3, h4, h5, h6, h7, h8, hk (s.addTok) _ rfl h9⟩
      · exact hs.elim
    · exact hs.elim
  | convert S D x =>
    simp only at hs ⊢
    rw [hop (show x ∈ _ by simp [opsOf]), hov (show x ∈ _ by simp [opsOf])]
    split at hs
    · obtain ⟨h1, h2, h3, h4, h6, h5⟩ := hs
      exact ⟨h1, h2, h3, h4, h6, hk (s) _ rfl h5⟩
    · obtain ⟨h1, h2, h3, h5⟩ := hs
      exact ⟨h1, h2, h3, hk (s.addTok) _ rfl h5⟩
    · exact hs.elim
  | binOp b T x y _ =>
    simp only at hs ⊢
    rw [hop (show x ∈ _ by simp [opsOf]), hop (show y ∈ _ by simp [opsOf]), hov (show x ∈ _ by simp [opsOf]), hov (show y ∈ _ by simp [opsOf])]
    split at hs
    · refine ⟨hs.1, ?_⟩
      have h2 := hs.2
      have nk : ∀ c, nilK K s o.dst c → nilK K' (s.with fr) o.dst c := fun c hc => hk (s) _ rfl hc
      unfold evSliceNil at h2 ⊢
      split at h2
      · exact nk _ h2
      · exact nk _ h2
      · exact fun c hc => nk _ (h2 c hc)
      · exact fun c hc => nk _ (h2 c hc)
      · exact fun c hc => nk _ (h2 c hc)
      · exact fun c hc => nk _ (h2 c hc)
      · exact h2.elim
    · split at hs
      · split at hs
        · obtain ⟨h1, h2, h3, h5⟩ := hs
          exact ⟨h1, h2, h3, hk (s) _ rfl h5⟩
        · exact hs.elim
      · exact hs.elim
    · exact hs.elim
  | call c =>
    simp only at hs ⊢
    have ck : ∀ sv t', (∃ s', callK K o.dst sv s' ∧ s'.fr = s.fr ∧ t' = s'.with fr) → callK K' o.dst sv t' := by
      rintro sv t' ⟨s', h1, h2, rfl⟩
      exact hk (s') _ h2 h1
    have hm : ∀ x, x ∈ c.args.toList → x ∈ opsOf (.call c) := fun x hx => by simp only [opsOf, List.mem_append]; exact .inr hx
    unfold evCall at hs ⊢
    generalize hcal : c.callee = cal at *
    have hopc : ∀ {x : Operand}, x ∈ (match cal with | .value f => [f] | .invoke r _ => [r] | .builtin _ => []) → x ∈ opsOf (.call c) := fun hx => by simp only [opsOf, hcal, List.mem_append]; exact .inl hx
    cases cal with
    | value f =>
      simp only at hs ⊢
      rw [hop (x := f) (hopc (by simp)), hov (x := f) (hopc (by simp)), hovL _ hm, show c.args.toList.map (opd (s.with fr)) = c.args.toList.map (opd s) from (h.map hm).symm]
      split at hs
      · exact ⟨hs.1, hs.2.1, (hs.2.2.with fr).mono ck⟩
      · exact hs.elim
    | invoke r name =>
      simp only at hs ⊢
      rw [hop (x := r) (hopc (by simp)), hov (x := r) (hopc (by simp)), hovL _ hm, show c.args.toList.map (opd (s.with fr)) = c.args.toList.map (opd s) from (h.map hm).symm]
      exact ⟨hs.1, hs.2.1, (hs.2.2.with fr).mono ck⟩
    | builtin b =>
      cases b <;> simp only at hs ⊢ <;> try exact hs.elim
      split at hs
      · rename_i x y t t2 e1 e2
        have hx : x ∈ opsOf (.call c) := hm x (by rw [e1]; simp)
        have hy : y ∈ opsOf (.call c) := hm y (by rw [e1]; simp)
        rw [hop hx, hop hy, hov hx, hov hy]
        exact ⟨hs.1, hs.2.1, evAppend_with fr hk hs.2.2⟩
      · exact hs.elim
  | _ => exact hs.elim
theorem evEff_with {P : Program} {Γ : Tab} {s : SS} {fr : List SV} {o : Oper} {K : SS → Prop} (h : Agree s (s.with fr) (opsOf o.op)) (hs : evEff P Γ s o K) : evEff P Γ (s.with fr) o (OnFr s fr o.dst K) :=
  evEff_with' (fun _ _ h2 h1 => OnFr.of h1 h2) h hs
theorem evEff_mono {P : Program} {Γ : Tab} {s : SS} {o : Oper} {K K' : SS → Prop} (hk : ∀ x, K x → K' x) (hs : evEff P Γ s o K) : evEff P Γ s o K' :=
  evEff_with' (fr := s.fr) (fun s1 v h2 h1 => by
    have : s1.with s.fr = s1 := by rw [← h2]; rfl
    rw [this]; exact hk _ h1) (fun _ _ => rfl) hs
theorem evOps_mono1 {P : Program} {Γ : Tab} {s : SS} {l : List Oper} {o : Oper} {K K' : SS → Prop} (hk : ∀ x, K x → K' x) (hs : evOps P Γ l K [o] s) : evOps P Γ l K' [o] s := by
  simp only [evOps] at hs ⊢
  split at hs
  · exact hs.elim
  · split at hs
    · exact ⟨hs.1, hk _ hs.2⟩
    · exact evEff_mono hk hs
  · split at hs
    · exact ⟨hs.1, hk _ hs.2⟩
    · exact ⟨fun e => evEff_mono hk (hs.1 e), fun e => hk _ (hs.2 e)⟩
end Go.Eng
