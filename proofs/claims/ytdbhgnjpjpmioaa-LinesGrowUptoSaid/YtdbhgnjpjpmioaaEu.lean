/- The engine, part U: small helps. -/
import Derived.Test.YtdbhgnjpjpmioaaEq
namespace Go.Eng
open Go
set_option linter.unusedVariables false
set_option linter.unusedSimpArgs false

theorem Sub.trans {a b c : SS} (h : Sub a b) (k : Sub b c) : Sub a c := fun E x w hf hw => by
  obtain ⟨E1, p1, p2, p3⟩ := h E x w hf hw
  obtain ⟨E2, q1, q2, q3⟩ := k E1 x w p2 p3
  exact ⟨E2, p1.trans q1, q2, q3⟩

theorem denL_weak {E : Env} {x : SV} : ∀ (l : List SV) (cs : List Value) (j : Nat), DenL E l cs → (∀ v, Den E (lget l j) v → Den E x v) → DenL E (lset l j x) cs
  | [], [], j, h, _ => by simp only [lset, DenL]
  | y :: ys, v :: vs, 0, h, k => by
    simp only [DenL] at h
    simp only [lset, DenL]
    exact ⟨k v h.1, h.2⟩
  | y :: ys, v :: vs, j + 1, h, k => by
    simp only [DenL] at h
    simp only [lset, DenL]
    exact ⟨h.1, denL_weak ys vs j h.2 k⟩
  | [], _ :: _, j, h, _ => by simp only [DenL] at h
  | _ :: _, [], j, h, _ => by simp only [DenL] at h

/-- The nil slice in a cell has a token. -/
theorem Sub.tokHp {s : SS} (n j : Nat) {T : TypeId} {l : List SV} {k : IntKind} (h1 : hfind s.hp n = some (T, l)) (h2 : lget l j = .ints k .nil []) :
    Sub s { s with hp := hset s.hp n (lset l j (.ints k (.tok s.nx true) [])), tk := s.nx :: s.tk, nx := s.nx + 1 } := by
  intro E a w hf hw
  obtain ⟨E', q1, q2, q3, q4, q5⟩ := hw.tok_none 1 none 0
  obtain ⟨κ, ho⟩ := q5.own
  refine ⟨E', q1.ext, ⟨(hf.mono q1).tmps, hf.defers⟩, q5.k, q5.kx, q5.os, q5.tape, q5.output, q5.size, q5.old, q5.mu, q5.nxρ, q5.nxθ, κ, fun m T' ls e => ?_, ho.tk, ho.rs, ho.mu, ho.dom⟩
  by_cases hm : m = n
  · subst hm
    have := hfind_hset_same s.hp m T l (lset l j (.ints k (.tok s.nx true) [])) h1
    rw [this] at e
    simp only [Option.some.injEq, Prod.mk.injEq] at e
    obtain ⟨rfl, rfl⟩ := e
    obtain ⟨b, cs, p1, p2, p3, p4, p5⟩ := ho.hp _ _ _ h1
    exact ⟨b, cs, p1, p2, denL_weak _ _ _ p3 (fun v hv => nil_tok q2 (by rw [h2] at hv; exact hv)), p4, p5⟩
  · have := hfind_hset_ne s.hp n m (lset l j (.ints k (.tok s.nx true) [])) hm
    rw [this] at e
    exact ho.hp _ _ _ e

/-- The nil slice in a variable has a token. -/
theorem Sub.tokFr {s : SS} (j : Nat) {k : IntKind} (h2 : lget s.fr j = .ints k .nil []) :
    Sub s { s with fr := lset s.fr j (.ints k (.tok s.nx true) []), tk := s.nx :: s.tk, nx := s.nx + 1 } := by
  intro E a w hf hw
  obtain ⟨E', q1, q2, q3, q4, q5⟩ := hw.tok_none 1 none 0
  refine ⟨E', q1.ext, ⟨denL_weak _ _ _ (hf.mono q1).tmps (fun v hv => nil_tok q2 (by rw [h2] at hv; exact hv)), hf.defers⟩, ⟨q5.k, q5.kx, q5.os, q5.tape, q5.output, q5.size, q5.old, q5.mu, q5.nxρ, q5.nxθ, let ⟨κ, k⟩ := q5.own; ⟨κ, k.hp, k.tk, k.rs, k.mu, k.dom⟩⟩⟩

/-- Nothing came in but what stays. -/
theorem Fin.nil {R : SV → SS → Prop} {sv psv : SV} {s : SS} (hk : s.k = 0) (hw : W false (fmap [] s.nx) psv sv) (h : R psv nilSS) : Fin R sv s :=
  .inl ⟨[], psv, nilSS, ⟨trivial, trivial, Nat.le_refl _, by rw [hk]; rfl, Nat.le_refl _, by rw [hk]; trivial⟩, hw, trivial, trivial, trivial, h⟩

theorem den_len {E : Env} {k : IntKind} {t : Tag} {l : List Int} {v : Value} (h : Den E (.ints k t l) v) : l.length ≤ 9223372036854775807 := by
  simp only [Den] at h
  obtain ⟨a, cap, h1, h2, h3, _⟩ := h
  omega
/-- No slice is longer than a length can tell. -/
theorem contract_len {P : Program} {f : FuncId} {pre : SS} {pargs : List SV} {R : SV → SS → Prop} (j : Nat) {k : IntKind} {t : Tag} {l : List Int} (hj : lget pargs j = .ints k t l)
    (h : l.length ≤ 9223372036854775807 → Contract P f pre pargs R) : Contract P f pre pargs R := by
  intro E w vs h0 hw hv
  have := denL_get pargs vs j undef hv
  rw [hj] at this
  exact h (den_len this) E w vs h0 hw hv
theorem code_len {P : Program} {B : Ctx} {c : Code} {s : SS} {K : Ex → SS → Prop} (j : Nat) {k : IntKind} {t : Tag} {l : List Int} (hj : lget s.fr j = .ints k t l)
    (h : l.length ≤ 9223372036854775807 → CodeOK P B c s K) : CodeOK P B c s K := by
  intro E a w hb hf hw
  have := denL_get s.fr a.tmps.toList j undef hf.tmps
  rw [hj] at this
  exact h (den_len this) E a w hb hf hw
theorem wrap64 {n : Int} (h1 : -9223372036854775808 ≤ n) (h2 : n ≤ 9223372036854775807) : IntKind.i64.wrap n = n := by
  rw [IntKind.wrap_i64]; omega

/-- 'Sub.of', its conditions in one. -/
def SubW (im : List Nat) (s t : SS) : Prop :=
  distincts im ∧ allLt s.nx im ∧ im.length ≤ t.nx ∧ t.k = s.k ∧ t.k ≤ t.nx ∧ idTo im s.nx s.k ∧ t.df = s.df ∧ WL false (fmap im s.nx) t.fr s.fr ∧ hpSub false (fmap im s.nx) s.hp t.hp ∧ tkSub (fmap im s.nx) s.tk t.tk ∧ rsSub (fmap im s.nx) s.rs t.rs
theorem Sub.w {s t : SS} (im : List Nat) (h : SubW im s t) : Sub s t :=
  let ⟨h1, h2, h3, h4, h5, h6, h7, h8, h9, h10, h11⟩ := h
  Sub.of im h1 h2 h3 h4 h5 (idTo_all h6) h7 h8 h9 h10 h11

/-- 'call_of', its conditions in one. -/
def CallW (im : List Nat) (pre : SS) (pargs : List SV) (st : SS) (args : List SV) : Prop :=
  distincts im ∧ allLt st.nx im ∧ im.length = pre.nx ∧ pre.k ≤ pre.nx ∧ pre.lt pre.nx ∧ hpSub false (fmap im st.nx) st.hp pre.hp ∧ tkSub (fmap im st.nx) st.tk pre.tk ∧ rsSub (fmap im st.nx) st.rs pre.rs ∧ WL false (fmap im st.nx) pargs args
theorem call_w {P : Program} {f : FuncId} {pre : SS} {pargs : List SV} {R : SV → SS → Prop} (hC : Contract P f pre pargs R) (im : List Nat) {st : SS} {args : List SV} {K : SV → SS → Prop}
    (h : CallW im pre pargs st args) (hK : ∀ sv post, R sv post → K (ren (fmap (im.take pre.k) st.nx) sv) (st.back (lentOf im st.nx pre) (im.take pre.k) post)) : CallOK P f args st K :=
  let ⟨h1, h2, h3, h4, h5, h6, h7, h8, h9⟩ := h
  call_of hC im h1 h2 h3 h4 h5 h6 h7 h8 h9 hK

def FinW (im : List Nat) (psv : SV) (post : SS) (sv : SV) (s : SS) : Prop :=
  (distincts im ∧ allLt s.nx im ∧ im.length ≤ post.nx ∧ post.k = s.k ∧ post.k ≤ post.nx ∧ idTo im s.nx s.k) ∧ W false (fmap im s.nx) psv sv ∧
    hpSub false (fmap im s.nx) s.hp post.hp ∧ tkSub (fmap im s.nx) s.tk post.tk ∧ rsSub (fmap im s.nx) s.rs post.rs
theorem Fin.w {R : SV → SS → Prop} {sv : SV} {s : SS} (im : List Nat) (psv : SV) (post : SS) (h : FinW im psv post sv s) (hR : R psv post) : Fin R sv s :=
  let ⟨h1, h2, h3, h4, h5⟩ := h
  .inl ⟨im, psv, post, h1, h2, h3, h4, h5, hR⟩
theorem Fin.wt {R : SV → SS → Prop} {k : IntKind} {s : SS} (im : List Nat) (psv : SV) (post : SS) (h : FinW im psv post (.ints k (.tok s.nx true) []) { s with tk := s.nx :: s.tk, nx := s.nx + 1 }) (hR : R psv post) : Fin R (.ints k .nil []) s :=
  let ⟨h1, h2, h3, h4, h5⟩ := h
  .inr ⟨k, rfl, im, psv, post, h1, h2, h3, h4, h5, hR⟩

theorem TW_self {f : Nat → Nat} (hf : ∀ n, f n = n) : ∀ t : Tag, TW false f t t
  | .old => trivial
  | .new => rfl
  | .nil => trivial
  | .tok τ b => ⟨(hf τ).symm, fun h => ⟨h, rfl⟩⟩
mutual
theorem W_self {f : Nat → Nat} (hf : ∀ n, f n = n) : ∀ x : SV, W false f x x
  | .any => by simp only [W]
  | .i k n => by simp only [W]; exact ⟨trivial, trivial⟩
  | .b c => by simp only [W]
  | .s x => by simp only [W]
  | .ptr n o => by simp only [W]; exact ⟨(hf n).symm, trivial⟩
  | .nilp => by simp only [W]
  | .ints k t l => by simp only [W]; exact ⟨.inl trivial, trivial, TW_self hf t⟩
  | .sl sz t n el => by simp only [W]; exact ⟨trivial, trivial, TW_self hf t, fun i _ j _ => W_self hf (el i j)⟩
  | .ep n g => by simp only [W]; exact ⟨Nat.le_refl _, fun d _ => W_self hf (g d)⟩
  | .agg l => by simp only [W]; exact WL_self hf l
  | .tup l => by simp only [W]; exact WL_self hf l
  | .nili => by simp only [W]
  | .ifc t x => by simp only [W]; exact ⟨trivial, W_self hf x⟩
  | .fn g a c => by simp only [W]; exact ⟨trivial, WL_self hf a, WL_self hf c⟩
  | .nilf => by simp only [W]
  | .raw x => by simp only [W]
  | .cnd g x => by simp only [W]; exact ⟨trivial, W_self hf x⟩
theorem WL_self {f : Nat → Nat} (hf : ∀ n, f n = n) : ∀ l : List SV, WL false f l l
  | [] => by simp only [WL]
  | x :: r => by simp only [WL]; exact ⟨W_self hf x, WL_self hf r⟩
end
end Go.Eng
