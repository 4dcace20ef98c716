/- The engine, part J: operations that make or write memory, and calls. -/
import Derived.Test.YtdbhgnjpjpmioaaEi
namespace Go.Eng
open Go
set_option linter.unusedVariables false
set_option linter.unusedSimpArgs false

def one : SV → Bool
  | .agg _ => false
  | .tup _ => false
  | .raw _ => false
  | .any => false
  | .cnd _ _ => false
  | _ => true
def allOne : List SV → Bool
  | [] => true
  | x :: r => one x && allOne r

theorem one_sound {E : Env} {x : SV} {v : Value} (h : Den E x v) (h1 : one x = true) : v.oneCell' = true := by
  cases x <;> simp only [one, reduceCtorEq, Bool.false_eq_true] at h1 <;> simp only [Den] at h
  case i => subst h; rfl
  case b => subst h; rfl
  case s => subst h; rfl
  case ptr => obtain ⟨b, _, rfl⟩ := h; rfl
  case nilp => subst h; rfl
  case ints => obtain ⟨p, c, rfl, _⟩ := h; rfl
  case sl => obtain ⟨p, c, rfl, _⟩ := h; rfl
  case ep => obtain ⟨p, c, rfl, _⟩ := h; rfl
  case nili => subst h; rfl
  case ifc => obtain ⟨y, rfl, _⟩ := h; rfl
  case fn => obtain ⟨fs, cs, rfl, _⟩ := h; rfl
  case nilf => subst h; rfl

theorem allOne_sound {E : Env} : ∀ {l : List SV} {vs : List Value}, DenL E l vs → allOne l = true → ∀ v ∈ vs, v.oneCell' = true
  | [], [], _, _, v, hv => by simp at hv
  | x :: xs, v :: vs, h, h1, u, hu => by
    simp only [DenL] at h
    simp only [allOne, Bool.and_eq_true] at h1
    rcases List.mem_cons.1 hu with rfl | hu
    · exact one_sound h.1 h1.1
    · exact allOne_sound h.2 h1.2 u hu
  | [], _ :: _, h, _, _, _ => by simp only [DenL] at h
  | _ :: _, [], h, _, _, _ => by simp only [DenL] at h

/-- The end of a row is marked, as the model does where bytes come of a text. -/
theorem Good.mark {E : Env} {st : SS} {w : World} (h : Good E st w) (P : Program) {b off : Nat} (hmut : Mut E b) {ad : Addr} {x : Value} (hμ : E.μ ad = some x) (hb : ad.block = b) :
    ∃ w', (markStringish ⟨b, off, none⟩).run P w = .ok () w' ∧ Good E st w' := by
  obtain ⟨κ, hk⟩ := h.own
  have hc := h.mu ad x hμ
  obtain ⟨c, el, fz, hcell⟩ : ∃ c el fz, w.heap[b]? = some (.cells c el fz) := by
    unfold World.cell? at hc
    rw [hb] at hc
    split at hc
    · rename_i c el fz e; exact ⟨c, el, fz, e⟩
    · cases hc
  obtain ⟨lo, hi⟩ := fz
  let fz' : Nat × Nat := if lo == hi then (c.size, c.size + 1) else (min lo c.size, max hi (c.size + 1))
  have hlt : b < w.heap.size := (Array.getElem?_eq_some_iff.1 hcell).1
  have hrun : (markStringish ⟨b, off, none⟩).run P w = .ok () (w.freeze ⟨b, c.size, none⟩ 1) := by
    simp [markStringish, World.shape?, hcell]
  have hsame : (w.freeze ⟨b, c.size, none⟩ 1).heap[b]? = some (.cells c el fz') := by
    obtain ⟨h1, h2⟩ := Array.getElem?_eq_some_iff.1 hcell
    simp only [World.freeze]
    rw [if_neg (by decide)]
    simp only
    rw [Array.getElem?_eq_getElem (by simpa using h1), Array.getElem_modify_self, h2]
  have hother : ∀ d, d ≠ b → (w.freeze ⟨b, c.size, none⟩ 1).heap[d]? = w.heap[d]? := fun d hd => by
    simp only [World.freeze]
    rw [if_neg (by decide)]
    simp only
    rw [Array.getElem?_modify, if_neg (Ne.symm hd)]
  have hsz : (w.freeze ⟨b, c.size, none⟩ 1).heap.size = w.heap.size := by
    simp only [World.freeze]
    rw [if_neg (by decide)]
    simp
  have hcells : ∀ a v, w.cell? a = some v → (w.freeze ⟨b, c.size, none⟩ 1).cell? a = some v := fun a v e => by
    by_cases hd : a.block = b
    · unfold World.cell? at e ⊢
      rw [hd] at e ⊢
      rw [hsame]; rw [hcell] at e; exact e
    · rw [World.cell?_of_block (hother _ hd)]; exact e
  have hnb : ∀ n, κ b ≠ some (.blk n) := fun n => by have := hk.mu ad x hμ n; rwa [hb] at this
  have e1 : (w.freeze ⟨b, c.size, none⟩ 1).os = w.os := by simp only [World.freeze]; rw [if_neg (by decide)]
  have e2 : (w.freeze ⟨b, c.size, none⟩ 1).tape = w.tape := by simp only [World.freeze]; rw [if_neg (by decide)]
  have e3 : (w.freeze ⟨b, c.size, none⟩ 1).output = w.output := by simp only [World.freeze]; rw [if_neg (by decide)]
  refine ⟨_, hrun, h.k, h.kx, e1.trans h.os, e2.trans h.tape, e3.trans h.output, by rw [hsz]; exact h.size, fun d hd hs => ?_, fun a v e => hcells a v (h.mu a v e), h.nxρ, h.nxθ, κ, fun n T ls e => ?_, fun τ hτ => ?_, fun r R hr => ?_, hk.mu, fun d k e => by rw [hsz]; exact hk.dom d k e⟩
  · rw [hother d]
    · exact h.old d hd hs
    · rintro rfl
      rcases hmut with hm | hm
      · omega
      · exact hs hm
  · obtain ⟨d, cs, q1, q2, q3, q4, q5⟩ := hk.hp n T ls e
    have hne : d ≠ b := by rintro rfl; exact hnb _ q4
    exact ⟨d, cs, q1, by rw [hother d hne]; exact q2, q3, q4, q5⟩
  · obtain ⟨sz, a, len, cap, q1, q2, q3⟩ := hk.tk τ hτ
    refine ⟨sz, a, len, cap, q1, q2, ?_⟩
    rcases q3 with q3 | ⟨d, o, T, cs, q4, q5, q6, ⟨fz2, q7, q7'⟩, q8, q9⟩
    · exact .inl q3
    · by_cases hd : d = b
      · subst hd
        rw [hcell] at q7
        injection q7 with q7
        injection q7 with i1 i2 i3
        subst i1 i2 i3
        refine .inr ⟨d, o, el, c, q4, q5, q6, ⟨fz', hsame, .inr ?_⟩, q8, q9⟩
        show c.size ≤ (if lo == hi then (c.size, c.size + 1) else (min lo c.size, max hi (c.size + 1))).1
        rcases q7' with q7' | q7'
        · injection q7' with j1 j2
          subst j1 j2
          simp
        · simp only at q7'
          split
          · simp
          · simp only; omega
      · exact .inr ⟨d, o, T, cs, q4, q5, q6, ⟨fz2, by rw [hother d hd]; exact q7, q7'⟩, q8, q9⟩
  · obtain ⟨F, p1, p2⟩ := hk.rs r R hr
    refine ⟨F, R.next _ _ F _ _ p1 (fun d hd => ?_) (fun _ _ h => h) (fun _ _ h => .inl h), fun d hd => ⟨by rw [hsz]; exact (p2 d hd).1, (p2 d hd).2⟩⟩
    by_cases hdb : d = b
    · subst hdb
      refine .inr ⟨⟨ad, x, hμ, hb⟩, c, el, _, fz', hcell, hsame, fun q7' => ?_⟩
      show c.size ≤ (if lo == hi then (c.size, c.size + 1) else (min lo c.size, max hi (c.size + 1))).1
      rcases q7' with q7' | q7'
      · injection q7' with j1 j2
        subst j1 j2
        simp
      · simp only at q7'
        split
        · simp
        · simp only; omega
    · exact .inl (hother d hdb)

/-- What a call comes to: of any caller's good world. -/
structure CallPost (E : Env) (st : SS) (K : SV → SS → Prop) (e : Ending) (w' : World) : Prop where
  out : ∃ v E' st' sv, e = .returned v ∧ E.Le E' ∧ Good E' st' w' ∧ Den E' sv v ∧ (st'.fr = st.fr ∧ st'.df = st.df) ∧ K sv st'

def CallOK (P : Program) (f : FuncId) (args : List SV) (st : SS) (K : SV → SS → Prop) : Prop :=
  ∀ E w vs, Good E st w → DenL E args vs → (callFunc f vs.toArray).run P w = .ok (.enter f vs.toArray) w ∧ Calls P f vs.toArray w (CallPost E st K)

/-- A call of a method through an interface value. -/
def InvOK (P : Program) (recv : SV) (name : String) (args : List SV) (st : SS) (K : SV → SS → Prop) : Prop :=
  ∀ E w r vs, Good E st w → Den E recv r → DenL E args vs → ∃ f as, (callMethod r name vs.toArray).run P w = .ok (.enter f as) w ∧ Calls P f as w (CallPost E st K)

/-- What a function without a body answers. -/
def ExtOK (P : Program) (f : FuncId) (args : List SV) (st : SS) (K : SV → SS → Prop) : Prop :=
  ∀ E w vs, Good E st w → DenL E args vs → ∃ v E' st' sv w', (callFunc f vs.toArray).run P w = .ok (.value v) w' ∧ E.Le E' ∧ Good E' st' w' ∧ Den E' sv v ∧ (st'.fr = st.fr ∧ st'.df = st.df) ∧ K sv st'

def SS.addBlk (st : SS) (T : TypeId) (ls : List SV) : SS := { st with hp := (st.nx, T, ls) :: st.hp, nx := st.nx + 1 }
def SS.addTok (st : SS) : SS := { st with tk := st.nx :: st.tk, nx := st.nx + 1 }
def SS.reTok (st : SS) (τ : Nat) : SS := { st with tk := st.nx :: tkDel st.tk τ, nx := st.nx + 1 }
def SS.setBlk (st : SS) (n : Nat) (l : List SV) : SS := { st with hp := hset st.hp n l }

def tkMem : List Nat → Nat → Bool
  | [], _ => false
  | m :: r, n => if m = n then true else tkMem r n
theorem tkMem_sound : ∀ (l : List Nat) (n : Nat), tkMem l n = true → n ∈ l
  | [], n, h => by simp [tkMem] at h
  | m :: r, n, h => by
    simp only [tkMem] at h
    split at h
    · rename_i e; simp [e]
    · exact List.mem_cons_of_mem _ (tkMem_sound r n h)

def intsOf (k : IntKind) : List (Nat × SV) → Nat → Option (List Int)
  | [], _ => some []
  | (i, .i k' n) :: r, j =>
    if i = j ∧ k' = k then
      match intsOf k r (j + 1) with
      | some l => some (n :: l)
      | none => none
    else none
  | _ :: _, _ => none

/-- The bytes or numbers that are appended. -/
def appd (k : IntKind) : SV → Option (List Int)
  | .ints k' _ l => if k = k' then some l else none
  | .s x => if k = .u8 then some (x.data.toList.map fun b => (b.toNat : Int)) else none
  | _ => none

def evAppend (Γ : Tab) (st : SS) (dst : Option Tmp) (t : TypeId) (t2 : TypeId) (s x : SV) (K : SS → Prop) : Prop :=
  match (Γ t).d with
  | .slice e =>
    match (Γ e).d with
    | .int k =>
      match s, appd k x with
      | .ints k' (.tok τ b) l, some m =>
        if k = k' ∧ tkMem st.tk τ = true then (Γ e).size = 1 ∧ ((Γ t2).d = .slice e ∨ (Γ t2).d = .str) ∧ (l.length + m.length) * (Γ e).bytes ≤ 140737488355328 ∧ 0 < (Γ e).bytes ∧ (Γ e).zero.length = 1 ∧ K (({ st with tk := st.nx :: tkDel st.tk τ, nx := st.nx + 1 } : SS).put dst (.ints k (.tok st.nx b) (l ++ m)))
        else False
      | .ints _ .nil [], some m => (Γ e).size = 1 ∧ ((Γ t2).d = .slice e ∨ (Γ t2).d = .str) ∧ m.length * (Γ e).bytes ≤ 140737488355328 ∧ 0 < (Γ e).bytes ∧ (Γ e).zero.length = 1 ∧ K (({ st with tk := st.nx :: st.tk, nx := st.nx + 1 } : SS).put dst (.ints k (.tok st.nx true) m))
      | _, _ => False
    | _ => False
  | _ => False

theorem Good.drewN {E : Env} {st : SS} {w : World} (h : Good E st w) : Good E st w.drew := h.congr rfl rfl rfl rfl

theorem run_lenOf_slice {P : Program} {w : World} (p : Option Addr) (n c : Nat) : (Builtin.lenOf (.slice p n c)).run P w = .ok n w := by simp [Builtin.lenOf]

/-- The cells of what is appended. -/
theorem appd_run {P : Program} {Γ : Tab} (hΓ : Γ.ok P) {E : Env} {k : IntKind} {x : SV} {m : List Int} {v : Value} (h : appd k x = some m) (hx : Den E x v) {w : World} (hmu : ∀ a v, E.μ a = some v → w.cell? a = some v) :
    (Builtin.lenOf v).run P w = .ok m.length w ∧ (Builtin.firstCells 1 m.length v).run P w = .ok (m.map (Value.int k)).toArray w := by
  unfold appd at h
  split at h
  · split at h
    · rename_i k' tg l hk
      subst hk
      simp only [Option.some.injEq] at h
      subst h
      simp only [Den] at hx
      obtain ⟨p, cap, rfl, hc, hc2, q, ht⟩ := hx
      refine ⟨run_lenOf_slice _ _ _, ?_⟩
      cases p with
      | none =>
        have : l = [] := by
          cases l with
          | nil => rfl
          | cons y ys => obtain ⟨b, off, e, _⟩ := q 0 y (by simp); cases e
        subst this
        simp [Builtin.firstCells]
      | some ad =>
        have hl := run_loadCells_list (P := P) w ad (l.map (Value.int k)) (fun j v hj => by
          simp only [List.getElem?_map, Option.map_eq_some_iff] at hj
          obtain ⟨n, hj, rfl⟩ := hj
          obtain ⟨b, off, e, hm⟩ := q j n hj
          injection e with e
          rw [e, addr_add]
          exact hmu _ _ hm)
        rw [List.length_map] at hl
        simp [Builtin.firstCells, hl]
    · cases h
  · split at h
    · rename_i y hk
      subst hk
      simp only [Option.some.injEq] at h
      subst h
      simp only [Den] at hx
      subst hx
      have hsz : (y.data.toList.map fun b => (b.toNat : Int)).length = y.size := by simp
      rw [hsz]
      refine ⟨by simp [Builtin.lenOf], ?_⟩
      simp [Builtin.firstCells]
      apply Array.ext'
      simp
    · cases h
  · cases h
theorem run_grow {P : Program} {w : World} {t t2 ty e : TypeId} {i : TypeInfo} {z : Value} {d2 : TypeDesc} (ht : P.underlying t = some (.slice e)) (ht2 : P.underlying t2 = some d2) (hd2 : ∀ k, d2 ≠ .int k) (hi : P.info? e = some i) (hz : i.zero = some z) (h1 : i.size = 1)
    {base : Option Addr} {sLen sCap n : Nat} {x : Value} {olds news : List Value} (hx : (Builtin.lenOf x).run P w = .ok n w) (ho : (Builtin.firstCells 1 sLen (.slice base sLen sCap)).run P w.drew = .ok olds.toArray w.drew) (hn : (Builtin.firstCells 1 n x).run P w.drew = .ok news.toArray w.drew)
    (hg : sCap < sLen + n) (h63 : ((sLen + n : Nat) : Int) ≤ 9223372036854775807) (hb : (sLen + n) * i.bytes ≤ 140737488355328) (hb0 : 0 < i.bytes) :
    (Builtin.append_ #[t, t2] ty #[.slice base sLen sCap, x]).run P w = .ok (.slice (some ⟨w.heap.size, 0, none⟩) (sLen + n) (grownCap w (sLen + n) sCap e))
      (w.drew.alloc (.cells ((olds ++ news).toArray ++ Builtin.zeroCells z.cells (grownCap w (sLen + n) sCap e - (sLen + n))) e)) := by
  have hn' : ¬ (sLen + n ≤ sCap) := by omega
  have h63' : ¬ (9223372036854775807 < ((sLen : Int) + (n : Int))) := by omega
  have h48 := growslice_fits (need := sLen + n) (old := sCap) hg hb
  have h48' : ¬ (281474976710656 < Builtin.nextslicecap (sLen + n) sCap * i.bytes) := by omega
  have hm : (match d2 with | .int _ => true | _ => false) = false := by
    cases d2 <;> first | rfl | exact absurd rfl (hd2 _)
  have hb1 : i.bytes ≠ 0 := by omega
  simp [Builtin.append_, run_underlying ht, run_underlying ht2, sizeOf, typeInfo, zeroValue, hi, hz, h1, hx, hm, hn', h63', h48', Question.forced, ho, hn, newRow, grownCap, hb1]
  cases d2 <;> first | exact absurd rfl (hd2 _) | (simp [hx, hn', h63', h48', ho, hn]; congr 2; apply Array.ext'; simp; done) | (simp_all; congr 2; apply Array.ext'; simp; done)

theorem run_room {P : Program} {w w' : World} {t t2 ty e : TypeId} {i : TypeInfo} {d2 : TypeDesc} (ht : P.underlying t = some (.slice e)) (ht2 : P.underlying t2 = some d2) (hd2 : ∀ k, d2 ≠ .int k) (hi : P.info? e = some i) (h1 : i.size = 1)
    {base : Option Addr} {sLen sCap n : Nat} {x : Value} {news : List Value} (hx : (Builtin.lenOf x).run P w = .ok n w) (hn : (Builtin.firstCells 1 n x).run P w = .ok news.toArray w)
    (hg : sLen + n ≤ sCap) (hst : match base with | some ad => (storeCells (ad.add (sLen * 1)) news).run P w = .ok () w' | none => w' = w) :
    (Builtin.append_ #[t, t2] ty #[.slice base sLen sCap, x]).run P w = .ok (.slice base (sLen + n) sCap) w' := by
  cases base with
  | none =>
    simp only at hst
    subst hst
    simp [Builtin.append_, run_underlying ht, run_underlying ht2, sizeOf, typeInfo, hi, h1]
    cases d2 <;> first | exact absurd rfl (hd2 _) | (simp [hx, hg, hn]; done)
  | some ad =>
    simp only [Nat.mul_one] at hst
    simp [Builtin.append_, run_underlying ht, run_underlying ht2, sizeOf, typeInfo, hi, h1]
    cases d2 <;> first | exact absurd rfl (hd2 _) | (simp [hx, hg, hn, hst]; done)

theorem Good.fewerTok {E : Env} {st : SS} {w : World} (h : Good E st w) {tk : List Nat} (ht : ∀ x, x ∈ tk → x ∈ st.tk) : Good E { st with tk := tk } w := by
  obtain ⟨κ, k⟩ := h.own
  exact ⟨h.k, h.kx, h.os, h.tape, h.output, h.size, h.old, h.mu, h.nxρ, h.nxθ, κ, k.hp, fun τ hτ => k.tk τ (ht τ hτ), k.rs, k.mu, k.dom⟩

theorem map_get (k : IntKind) (l : List Int) (i : Nat) (x : Int) (h : l[i]? = some x) : (l.map (Value.int k))[i]? = some (.int k x) := by simp [h]

theorem td_slice_str {Γ : Tab} {P : Program} (hΓ : Γ.ok P) {t2 e : TypeId} (h : (Γ t2).d = .slice e ∨ (Γ t2).d = .str) : ∃ d2, P.underlying t2 = some d2 ∧ ∀ k, d2 ≠ .int k := by
  have := (hΓ t2).und
  rcases h with h | h <;> rw [h] at this <;> simp only [TD.ok] at this <;> exact ⟨_, this, by simp⟩

/-- What a new row of numbers with a token comes to. -/
theorem new_ints {E : Env} {st : SS} {w : World} (h : Good E st w) (k : IntKind) (T : TypeId) (l : List Int) (zs : Array Value) (cap : Nat) (hc : l.length ≤ cap) (hz : cap ≤ l.length + zs.size) (h63 : cap ≤ 9223372036854775807) (fz : Nat × Nat := (0, 0)) (hfz : fz = (0, 0) ∨ l.length + zs.size ≤ fz.1 := by exact .inl rfl) :
    ∃ E', E.Le E' ∧ Good E' { st with tk := st.nx :: st.tk, nx := st.nx + 1 } (w.alloc (.cells ((l.map (Value.int k)).toArray ++ zs) T fz)) ∧ Den E' (.ints k (.tok st.nx true) l) (.slice (some ⟨w.heap.size, 0, none⟩) l.length cap) := by
  obtain ⟨E', h1, h2, h3, h4, h5⟩ := h.alloc_tok ((l.map (Value.int k)).toArray ++ zs) T 1 l.length cap hc (by simp; omega) fz (by simpa using hfz)
  refine ⟨E', h1, h5, ?_⟩
  simp only [Den]
  refine ⟨_, cap, rfl, hc, h63, fun i x hx => ⟨_, 0, rfl, ?_⟩, by rw [h2]; exact TokV.self hc, fun _ a n c e => ?_⟩
  · have hi : i < l.length := by
      rcases Nat.lt_or_ge i l.length with h' | h'
      · exact h'
      · rw [List.getElem?_eq_none h'] at hx; cases hx
    rw [Nat.zero_add]
    refine h3 i _ (by omega) ?_
    rw [Array.getElem?_append_left (by simpa using hi)]
    simpa using map_get k l i x hx
  · simp only [Value.slice.injEq, Option.some.injEq] at e
    rw [← e.1]
    exact h4

theorem tok_weak {E : Env} {k : IntKind} {τ : Nat} {l : List Int} {v : Value} (b : Bool) (h : Den E (.ints k (.tok τ true) l) v) : Den E (.ints k (.tok τ b) l) v := by
  simp only [Den] at h ⊢
  obtain ⟨a, c, h1, h2, h3, h4, h5, h6⟩ := h
  exact ⟨a, c, h1, h2, h3, h4, h5, fun _ => h6 rfl⟩

theorem evAppend_sound {P : Program} {Γ : Tab} (hΓ : Γ.ok P) {E : Env} {st : SS} {w : World} (hw : Good E st w) {dst : Option Tmp} {t t2 ty : TypeId} {s x : SV} {vs vx : Value} (hs : Den E s vs) (hx : Den E x vx) {K : SS → Prop}
    (h : evAppend Γ st dst t t2 s x K) : ∃ v w' E' st' sv, (Builtin.append_ #[t, t2] ty #[vs, vx]).run P w = .ok v w' ∧ E.Le E' ∧ Good E' st' w' ∧ Den E' sv v ∧ (st'.fr = st.fr ∧ st'.df = st.df) ∧ K (st'.put dst sv) := by
  unfold evAppend at h
  split at h
  · rename_i e e1
    have hd := (hΓ t).und
    rw [e1] at hd
    simp only [TD.ok] at hd
    split at h
    · rename_i k e2
      split at h
      · rename_i k' τ b l m e3
        split at h
        · rename_i hk
          obtain ⟨rfl, hmem⟩ := hk
          obtain ⟨h1, h2, h3, h4, h5, hK⟩ := h
          obtain ⟨i, z, hi, his, hib, hiz, hzc⟩ := Tab.info hΓ e (by rw [e2]; simp)
          obtain ⟨d2, hd2, hd2'⟩ := td_slice_str hΓ h2
          have hτ := tkMem_sound _ _ hmem
          have hs' := hs
          simp only [Den] at hs
          obtain ⟨p, cap, rfl, hc, hc63, q, hθ, hfresh⟩ := hs
          obtain ⟨r1, r2⟩ := appd_run (P := P) hΓ e3 hx hw.mu
          obtain ⟨a0, n0, c0, j0, p', hθ, hnc, hj0, hv0, hp0⟩ := hθ
          simp only [Value.slice.injEq] at hv0
          obtain ⟨rfl, hn0, hc0⟩ := hv0
          by_cases hg : l.length + m.length ≤ cap
          · obtain ⟨E', w', k1, k2, k3, k4, k5, k6⟩ := hw.grow hτ hθ (m.map (Value.int k)) m.length (by simp) (by omega) (by omega) P (by
              intro v hv; simp only [List.mem_map] at hv; obtain ⟨n, _, rfl⟩ := hv; rfl)
            refine ⟨_, w', E', { st with tk := st.nx :: tkDel st.tk τ, nx := st.nx + 1 }, _, run_room hd hd2 hd2' hi (his.trans h1) r1 r2 hg ?_, k1, k4, ?_, ⟨rfl, rfl⟩, hK⟩
            · rcases hp0 with hp0 | rfl
              · have hm0 : m = [] := by
                  have : m.length = 0 := by omega
                  simpa using this
                subst hm0
                have hw' : w' = w := by
                  cases a0 with
                  | none => exact k5.1
                  | some ad =>
                    simp only [List.map_nil, storeCells, Sem.run_pure, Result.ok.injEq] at k5
                    exact k5.2.symm
                cases p with
                | none => exact hw'
                | some ad => simp only [List.map_nil, storeCells, Sem.run_pure]; rw [hw']
              · cases a0 with
                | none => exact k5.1
                | some ad =>
                  simp only [Option.map_some]
                  rw [Addr_add_add, ← Nat.add_mul, show j0 + l.length = n0 by omega]
                  exact k5
            · simp only [Den]
              refine ⟨p, cap, by rw [List.length_append], by rw [List.length_append]; exact hg, hc63, fun j y hy => ?_, ⟨a0, n0 + m.length, c0, j0, p, k3, by omega, by omega, by simp only [Value.slice.injEq]; exact ⟨trivial, by omega, by omega⟩, hp0⟩, fun hb a n c ee => ?_⟩
              · rcases Nat.lt_or_ge j l.length with hj | hj
                · rw [List.getElem?_append_left hj] at hy
                  obtain ⟨b', off, e5, e6⟩ := q j y hy
                  exact ⟨b', off, e5, k1.μ _ _ e6⟩
                · rw [List.getElem?_append_right hj] at hy
                  obtain ⟨b', off, e5, e6⟩ := k6 (j - l.length) _ (map_get k m _ y hy)
                  have hjm : j - l.length < m.length := by
                    rcases Nat.lt_or_ge (j - l.length) m.length with h' | h'
                    · exact h'
                    · rw [List.getElem?_eq_none h'] at hy; cases hy
                  rcases hp0 with hp0 | rfl
                  · omega
                  · subst e5
                    refine ⟨b', off + j0, ?_, ?_⟩
                    · simp only [Option.map_some, Addr.add]
                      split
                      · rename_i hj; simp [hj]
                      · simp
                    · rw [show off + n0 * 1 + (j - l.length) = off + j0 + j by omega] at e6
                      exact e6
              · simp only [Value.slice.injEq] at ee
                rw [k1.Z]; exact hfresh hb a _ _ (by rw [ee.1])
          · obtain ⟨r1', r2'⟩ := appd_run (P := P) (w := w.drew) hΓ e3 hx (fun a v e => hw.mu a v e)
            have ho := (appd_run (P := P) (k := k) (x := .ints k (.tok τ b) l) (m := l) (w := w.drew) hΓ (by simp [appd]) hs' (fun a v e => hw.mu a v e)).2
            have hbound : l.length + m.length ≤ 140737488355328 := by
              have : (l.length + m.length) * 1 ≤ (l.length + m.length) * (Γ e).bytes := Nat.mul_le_mul_left _ h4
              omega
            have hrun := run_grow (ty := ty) hd hd2 hd2' hi hiz (his.trans h1) (base := p) (sLen := l.length) (sCap := cap) r1 ho r2' (by omega) (by omega) (by rw [hib]; exact h3) (by rw [hib]; exact h4)
            have hgc1 := grownCap_ge w (l.length + m.length) cap e
            have hgc2 := grownCap_le_maxLen w (l.length + m.length) cap e (by unfold maxLen; omega)
            obtain ⟨E', k1, k2, k3⟩ := new_ints hw.drewN k e (l ++ m) (Builtin.zeroCells z.cells (grownCap w (l.length + m.length) cap e - (l.length + m.length))) (grownCap w (l.length + m.length) cap e)
              (by rw [List.length_append]; exact hgc1) (by
                rw [List.length_append, size_zeroCells]
                have : z.cells.size = 1 := by rw [← Array.length_toList, hzc, h5]
                rw [this]; omega) (by unfold maxLen at hgc2; omega)
            refine ⟨_, _, E', { st with tk := st.nx :: tkDel st.tk τ, nx := st.nx + 1 }, _, hrun, k1, ?_, by rw [List.length_append] at k3; exact tok_weak b k3, ⟨rfl, rfl⟩, hK⟩
            rw [← List.map_append]
            exact k2.fewerTok (st := { st with tk := st.nx :: st.tk, nx := st.nx + 1 }) (fun y hy => by
              rcases List.mem_cons.1 hy with rfl | hy
              · simp
              · exact List.mem_cons_of_mem _ (tkDel_mem _ _ _ hy).1)
        · exact h.elim
      · rename_i k' m e3
        obtain ⟨h1, h2, h3, h4, h5, hK⟩ := h
        obtain ⟨i, z, hi, his, hib, hiz, hzc⟩ := Tab.info hΓ e (by rw [e2]; simp)
        obtain ⟨d2, hd2, hd2'⟩ := td_slice_str hΓ h2
        have hs' := hs
        simp only [Den] at hs
        obtain ⟨p, cap, _, hc, hc63, q, hnil⟩ := hs
        simp only [TagOK] at hnil
        subst hnil
        obtain ⟨r1, r2⟩ := appd_run (P := P) hΓ e3 hx hw.mu
        by_cases hm : m = []
        · subst hm
          obtain ⟨E', k1, k2, k3, k4, k5⟩ := hw.tok_none 1 none 0
          refine ⟨_, w, E', { st with tk := st.nx :: st.tk, nx := st.nx + 1 }, _, run_room hd hd2 hd2' hi (his.trans h1) (base := none) (sLen := 0) (sCap := 0) r1 r2 (by simp) rfl, k1, k5, ?_, ⟨rfl, rfl⟩, hK⟩
          simp only [Den]
          exact ⟨none, 0, rfl, by simp, by omega, fun i x hx => by simp at hx, by rw [k2]; exact TokV.self (Nat.le_refl _), fun _ a n c e => by simp at e⟩
        · have hpos : 0 < m.length := List.length_pos_iff.2 hm
          obtain ⟨r1', r2'⟩ := appd_run (P := P) (w := w.drew) hΓ e3 hx (fun a v e => hw.mu a v e)
          have hbound : m.length ≤ 140737488355328 := by
            have : m.length * 1 ≤ m.length * (Γ e).bytes := Nat.mul_le_mul_left _ h4
            omega
          have hrun := run_grow (ty := ty) (olds := []) hd hd2 hd2' hi hiz (his.trans h1) (base := none) (sLen := 0) (sCap := 0) r1 (by simp [Builtin.firstCells]) r2' (by omega) (by omega) (by rw [hib, Nat.zero_add]; exact h3) (by rw [hib]; exact h4)
          simp only [Nat.zero_add, List.nil_append] at hrun
          have hgc1 := grownCap_ge w m.length 0 e
          have hgc2 := grownCap_le_maxLen w m.length 0 e (by unfold maxLen; omega)
          obtain ⟨E', k1, k2, k3⟩ := new_ints hw.drewN k e m (Builtin.zeroCells z.cells (grownCap w m.length 0 e - m.length)) (grownCap w m.length 0 e) hgc1 (by
              rw [size_zeroCells]
              have : z.cells.size = 1 := by rw [← Array.length_toList, hzc, h5]
              rw [this]; omega) (by unfold maxLen at hgc2; omega)
          exact ⟨_, _, E', { st with tk := st.nx :: st.tk, nx := st.nx + 1 }, _, hrun, k1, k2, k3, ⟨rfl, rfl⟩, hK⟩
      · exact h.elim
    · exact h.elim
  · exact h.elim
end Go.Eng
