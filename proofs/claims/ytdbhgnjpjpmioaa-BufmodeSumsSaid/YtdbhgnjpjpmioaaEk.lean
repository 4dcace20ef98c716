/- The engine, part K: one operation, a region, a function's code. -/
import Derived.Test.YtdbhgnjpjpmioaaEj
import Derived.Laws.IdiomStrings
import Derived.Laws.MakeOwn
import Derived.Laws.OwnMore
namespace Go.Eng
open Go
set_option linter.unusedVariables false
set_option linter.unusedSimpArgs false

def isNilS : Operand → Bool
  | .const (.slice none 0 0) => true
  | _ => false

def evSliceNil (op : BinOp) (x : SV) (K : Bool → Prop) : Prop :=
  match op, x with
  | .eql, .ints _ .nil _ => K true
  | .neq, .ints _ .nil _ => K false
  | .eql, .ints _ _ l => ∀ c, (c = true → l = []) → K c
  | .neq, .ints _ _ l => ∀ c, (c = false → l = []) → K c
  | .eql, .sl _ _ n _ => ∀ c, (c = true → n = 0) → K c
  | .neq, .sl _ _ n _ => ∀ c, (c = false → n = 0) → K c
  | _, _ => False

/-- What follows a call. -/
def callK (K : SS → Prop) (dst : Option Tmp) (sv : SV) (st : SS) : Prop := K (st.put dst sv)
theorem callK_eq {K : SS → Prop} {dst : Option Tmp} {sv : SV} {st : SS} : callK K dst sv st = K (st.put dst sv) := rfl
def nilK (K : SS → Prop) (st : SS) (dst : Option Tmp) (c : Bool) : Prop := K (st.put dst (.b c))
theorem nilK_eq {K : SS → Prop} {st : SS} {dst : Option Tmp} {c : Bool} : nilK K st dst c = K (st.put dst (.b c)) := rfl

def evCall (P : Program) (Γ : Tab) (st : SS) (dst : Option Tmp) (c : Call) (K : SS → Prop) : Prop :=
  match c.callee with
  | .value f =>
    match opd st f with
    | .fn (.func f') first cap => ovc st true f ∧ ovcL st true c.args.toList ∧ CallOK P f' (first ++ c.args.toList.map (opd st) ++ cap) st (callK K dst)
    | _ => False
  | .invoke r name => ovc st true r ∧ ovcL st true c.args.toList ∧ InvOK P (opd st r) name (c.args.toList.map (opd st)) st (callK K dst)
  | .builtin .append =>
    match c.args.toList, c.argTypes.toList with
    | [s, x], [t, t2] => ovc st true s ∧ ovc st true x ∧ evAppend Γ st dst t t2 (opd st s) (opd st x) K
    | _, _ => False
  | _ => False

/-- A text's bytes. -/
def bytesOf (y : ByteArray) : List Int := y.data.toList.map fun b => (b.toNat : Int)

def evEff (P : Program) (Γ : Tab) (st : SS) (o : Oper) (K : SS → Prop) : Prop :=
  match o.op with
  | .alloc t => (Γ t).d ≠ .none ∧ K ((st.addBlk t ((Γ t).zero.map ofLeaf)).put o.dst (.ptr st.nx 0))
  | .box t x =>
    match leaves (opd st x) with
    | some ls => ovc st true x ∧ K ((st.addBlk t ls).put o.dst (.ptr st.nx 0))
    | none => False
  | .store t ad x =>
    match opd st ad, leaves (opd st x) with
    | .ptr n off, some ls =>
      match hfind st.hp n with
      | some (_, l) => ovc st true ad ∧ ovc st true x ∧ (Γ t).d ≠ .none ∧ ls.length = (Γ t).size ∧ off + ls.length ≤ l.length ∧ allOne ls = true ∧ K ((st.setBlk n (spl l off ls)).put o.dst (.raw undef))
      | none => False
    | _, _ => False
  | .buildSlice t len parts =>
    match (Γ t).d with
    | .slice e =>
      match (Γ e).d with
      | .int k =>
        match intsOf k (parts.toList.map fun p => (p.1, opd st p.2)) 0 with
        | some l => ovcL st true (parts.toList.map (·.2)) ∧ l.length = len ∧ len ≤ 16777216 ∧ (Γ e).size = 1 ∧ (Γ e).zero.length = 1 ∧ K (st.addTok.put o.dst (.ints k (.tok st.nx true) l))
        | none => False
      | _ => False
    | _ => False
  | .makeSlice t n c =>
    match opd st n, opd st c, (Γ t).d with
    | .i _ n', .i _ c', .slice e =>
      match (Γ e).d with
      | .int k => ovc st true n ∧ ovc st true c ∧ 0 ≤ n' ∧ n' ≤ c' ∧ ((Γ e).bytes : Int) * c' ≤ 281474976710656 ∧ c' ≤ 9223372036854775807 ∧ (Γ e).size = 1 ∧ (Γ e).zero = [Value.int k 0] ∧ K (st.addTok.put o.dst (.ints k (.tok st.nx true) (List.replicate n'.toNat 0)))
      | _ => False
    | _, _, _ => False
  | .convert s d x =>
    match opd st x, (Γ s).d, (Γ d).d with
    | .ints .u8 (.tok τ true) l, .slice e, .slice _ => ovc st true x ∧ s = d ∧ (Γ e).d = .int .u8 ∧ l ≠ [] ∧ K (st.put o.dst (.ints .u8 (.tok τ true) l))
    | .ints .u8 .new l, .slice e, .slice _ => ovc st true x ∧ s = d ∧ (Γ e).d = .int .u8 ∧ l ≠ [] ∧ K (st.put o.dst (.ints .u8 .new l))
    | .s y, .str, .slice e => ovc st true x ∧ (Γ e).d = .int .u8 ∧ y.size ≤ 140737488355328 ∧ K (st.addTok.put o.dst (.ints .u8 (.tok st.nx true) (bytesOf y)))
    | _, _, _ => False
  | .binOp op t x y _ =>
    match (Γ t).d, isNilS y with
    | .slice _, true => ovc st true x ∧ evSliceNil op (opd st x) (nilK K st o.dst)
    | _, _ => False
  | .call c => evCall P Γ st o.dst c K
  | _ => False

theorem wp_value {P : Program} {o : Oper} {a : Act} {w w' : World} {next : Act → World → Prop} {Q : Exit → Act → World → Prop} {v : Value} (h : (execOp a.eval o).run P w = .ok (.value v) w') (hn : next (a.put o.dst v) w') : o.wp P a w next Q := by
  unfold Oper.wp; rw [h]; exact hn

theorem wp_skip' {P : Program} {o : Oper} {a : Act} {w w' : World} {next : Act → World → Prop} {Q : Exit → Act → World → Prop} (h : (execOp a.eval o).run P w = .ok .skip w') (hn : next (a.put o.dst undef) w') : o.wp P a w next Q := by
  unfold Oper.wp; rw [h]; exact hn

theorem wp_enter {P : Program} {o : Oper} {a : Act} {w w' : World} {next : Act → World → Prop} {Q : Exit → Act → World → Prop} {f : FuncId} {as : Array Value} (h : (execOp a.eval o).run P w = .ok (.enter f as) w')
    (hn : Calls P f as w' (fun e w'' => ∃ v, e = .returned v ∧ next (a.put o.dst v) w'')) : o.wp P a w next Q := by
  unfold Oper.wp; rw [h]
  show Calls _ _ _ _ _
  refine hn.mono ?_
  rintro e w'' ⟨v, rfl, h⟩
  exact h

theorem denL_append' {E : Env} {l m n : List SV} {cs ds es : List Value} (h : DenL E l cs) (k : DenL E m ds) (j : DenL E n es) : DenL E (l ++ m ++ n) (cs ++ ds ++ es) := denL_append _ _ _ _ (denL_append _ _ _ _ h k) j

theorem evCall_sound {P : Program} {Γ : Tab} (hΓ : Γ.ok P) {E : Env} {st : SS} {a : Act} {w : World} (hf : Fr E st a) (hw : Good E st w) {o : Oper} {c : Call} (ho : o.op = .call c) {K : SS → Prop} (h : evCall P Γ st o.dst c K)
    {next : Act → World → Prop} {Q : Exit → Act → World → Prop} (hn : ∀ E' st' a' w', E.Le E' → Fr E' st' a' → Good E' st' w' → K st' → next a' w') : o.wp P a w next Q := by
  have fin : ∀ {v : Value} {E' : Env} {st' : SS} {sv : SV} {w' : World}, E.Le E' → Good E' st' w' → Den E' sv v → (st'.fr = st.fr ∧ st'.df = st.df) → K (st'.put o.dst sv) → next (a.put o.dst v) w' := by
    intro v E' st' sv w' h1 h2 h3 h4 h5
    refine hn E' (st'.put o.dst sv) _ w' h1 (Fr.put ?_ _ h3) (h2.put _ _) h5
    exact ⟨by rw [h4.1]; exact DenL.mono h1 _ _ hf.tmps, by rw [h4.2]; exact hf.defers⟩
  unfold evCall at h
  split at h
  · rename_i f e1
    split at h
    · rename_i f' first cap e2
      obtain ⟨h1, h2, h3⟩ := h
      have hd := opd_den hf rfl h1
      rw [e2] at hd
      simp only [Den] at hd
      obtain ⟨fs, cs, ev, d1, d2⟩ := hd
      obtain ⟨k1, k2⟩ := h3 E w _ hw (denL_append' d1 (denL_ops hf rfl _ h2) d2)
      refine wp_enter (w' := w) ?_ (k2.mono ?_)
      · rw [← k1]
        simp only [execOp, ho, resolve, e1, ev, Deferred.ofValue, Sem.run_bind, Sem.run_pure, Result.andThen_ok, invoke]
        congr 2
        apply Array.ext'; simp
      · rintro e w'' ⟨v, E', st', sv, rfl, q1, q2, q3, q4, q5⟩
        exact ⟨v, rfl, fin q1 q2 q3 q4 q5⟩
    · exact h.elim
  · rename_i r name e1
    obtain ⟨h1, h2, h3⟩ := h
    obtain ⟨f', as, k1, k2⟩ := h3 E w _ _ hw (opd_den hf rfl h1) (denL_ops hf rfl _ h2)
    refine wp_enter (w' := w) (f := f') (as := as) ?_ (k2.mono ?_)
    · rw [← k1]
      have e0 : (#[a.eval r] ++ c.args.map a.eval) = ((a.eval r) :: c.args.toList.map a.eval).toArray := by apply Array.ext'; simp
      simp only [execOp, ho, resolve, e1, Sem.run_bind, Sem.run_pure, Result.andThen_ok, invoke]
      rw [e0]
      simp only [List.getElem?_toArray, List.getElem?_cons_zero]
      congr 2
      apply Array.ext'; simp
      rw [List.take_of_length_le (by simp)]
    · rintro e w'' ⟨v, E', st', sv, rfl, q1, q2, q3, q4, q5⟩
      exact ⟨v, rfl, fin q1 q2 q3 q4 q5⟩
  · rename_i e1
    split at h
    · rename_i s x t t2 e2 e3
      obtain ⟨h1, h2, h3⟩ := h
      obtain ⟨v, w', E', st', sv, q0, q1, q2, q3, q4, q5⟩ := evAppend_sound (ty := o.type) hΓ hw (opd_den hf rfl h1) (opd_den hf rfl h2) h3
      refine wp_value (v := v) (w' := w') ?_ (fin q1 q2 q3 q4 q5)
      have e2' : c.args = #[s, x] := by apply Array.ext'; simpa using e2
      have e3' : c.argTypes = #[t, t2] := by apply Array.ext'; simpa using e3
      simp only [execOp, ho, resolve, e1, e2', e3', Sem.run_bind, Sem.run_pure, Result.andThen_ok, invoke, builtin]
      simp [q0]
    · exact h.elim
  · exact h.elim

theorem run_zero {P : Program} {t : TypeId} {i : TypeInfo} {z : Value} (h : P.info? t = some i) (hz : i.zero = some z) (w : World) : (zeroValue t).run P w = .ok z w := by simp [zeroValue, typeInfo, h, hz]

theorem evSliceNil_sound {P : Program} {w : World} {E : Env} {op : BinOp} {t e : TypeId} (hd : P.underlying t = some (.slice e)) {x : SV} {vx : Value} (hx : Den E x vx) {K : Bool → Prop} (h : evSliceNil op x K) {xo yo : Operand} :
    ∃ c, (do eqGuard op t xo yo vx (.slice none 0 0); binOp op t vx (.slice none 0 0) : Sem Value).run P w = .ok (.bool c) w ∧ K c := by
  have run : ∀ (p : Option Addr) (n c : Nat), (do eqGuard .eql t xo yo (.slice p n c) (.slice none 0 0); binOp .eql t (.slice p n c) (.slice none 0 0) : Sem Value).run P w = .ok (.bool p.isNone) w := by
    intro p n c
    simp [eqGuard]
    refine eql_of (by simp) (by simp) (by simp) (by simp) fun d => ?_
    cases p <;> simp [Op.equalIn, run_underlying hd]
  have run2 : ∀ (p : Option Addr) (n c : Nat), (do eqGuard .neq t xo yo (.slice p n c) (.slice none 0 0); binOp .neq t (.slice p n c) (.slice none 0 0) : Sem Value).run P w = .ok (.bool (!p.isNone)) w := by
    intro p n c
    have := neq_of (P := P) (w := w) (t := t) (x := .slice p n c) (y := .slice none 0 0) (b := p.isNone) (by simp) (by simp) (by simp) (by simp) (fun d => by cases p <;> simp [Op.equalIn, run_underlying hd])
    simpa [eqGuard] using this
  unfold evSliceNil at h
  split at h
  · simp only [Den] at hx; obtain ⟨p, c, _, _, _, _, hn⟩ := hx; simp only [TagOK] at hn; subst hn; exact ⟨true, run none 0 0, h⟩
  · simp only [Den] at hx; obtain ⟨p, c, _, _, _, _, hn⟩ := hx; simp only [TagOK] at hn; subst hn; exact ⟨false, run2 none 0 0, h⟩
  · rename_i l _
    simp only [Den] at hx; obtain ⟨p, c, rfl, _, _, q, _⟩ := hx
    refine ⟨_, run p _ c, h _ fun hn => ?_⟩
    cases l with
    | nil => rfl
    | cons y ys => obtain ⟨b, off, e, _⟩ := q 0 y (by simp); subst e; simp at hn
  · rename_i l _
    simp only [Den] at hx; obtain ⟨p, c, rfl, _, _, q, _⟩ := hx
    refine ⟨_, run2 p _ c, h _ fun hn => ?_⟩
    cases l with
    | nil => rfl
    | cons y ys => obtain ⟨b, off, e, _⟩ := q 0 y (by simp); subst e; simp at hn
  · rename_i n el
    simp only [Den] at hx; obtain ⟨p, c, rfl, _, _, q, _⟩ := hx
    refine ⟨_, run p _ c, h _ fun hn => ?_⟩
    cases n with
    | zero => rfl
    | succ n => obtain ⟨b, off, e, _⟩ := q 0 (by omega); subst e; simp at hn
  · rename_i n el
    simp only [Den] at hx; obtain ⟨p, c, rfl, _, _, q, _⟩ := hx
    refine ⟨_, run2 p _ c, h _ fun hn => ?_⟩
    cases n with
    | zero => rfl
    | succ n => obtain ⟨b, off, e, _⟩ := q 0 (by omega); subst e; simp at hn
  · exact h.elim

theorem isNilS_eval {a : Act} {y : Operand} (h : isNilS y = true) : a.eval y = .slice none 0 0 := by
  unfold isNilS at h
  split at h
  · rfl
  · cases h

theorem intsOf_sound {E : Env} {k : IntKind} : ∀ (ps : List (Nat × SV)) (j : Nat) (l : List Int) (vs : List (Nat × Value)), intsOf k ps j = some l → vs.map (·.1) = ps.map (·.1) → DenL E (ps.map (·.2)) (vs.map (·.2)) →
    vs = (l.map (Value.int k)).mapIdx (fun i v => (j + i, v))
  | [], j, l, vs, h, h1, _ => by
    simp only [intsOf, Option.some.injEq] at h
    subst h
    simpa using h1
  | (i, .i k' n) :: r, j, l, [], h, h1, h2 => by simp at h1
  | (i, .i k' n) :: r, j, l, (i', v) :: vr, h, h1, h2 => by
    simp only [intsOf] at h
    split at h
    · rename_i hc
      obtain ⟨rfl, rfl⟩ := hc
      split at h
      · rename_i l' e
        simp only [Option.some.injEq] at h
        subst h
        simp only [List.map_cons, List.cons.injEq] at h1
        obtain ⟨rfl, h1⟩ := h1
        simp only [List.map_cons, DenL, Den] at h2
        obtain ⟨rfl, h2⟩ := h2
        have := intsOf_sound r _ l' vr e h1 h2
        rw [this]
        simp only [List.map_cons, List.mapIdx_cons, Nat.add_zero, List.cons.injEq, true_and]
        congr 1
        funext i v
        rw [Nat.add_assoc, Nat.add_comm 1 i]
      · cases h
    · cases h
  | (i, .b _) :: r, j, l, vs, h, _, _ => by simp [intsOf] at h
  | (i, .s _) :: r, j, l, vs, h, _, _ => by simp [intsOf] at h
  | (i, .ptr _ _) :: r, j, l, vs, h, _, _ => by simp [intsOf] at h
  | (i, .nilp) :: r, j, l, vs, h, _, _ => by simp [intsOf] at h
  | (i, .ints _ _ _) :: r, j, l, vs, h, _, _ => by simp [intsOf] at h
  | (i, .sl _ _ _ _) :: r, j, l, vs, h, _, _ => by simp [intsOf] at h
  | (i, .ep _ _) :: r, j, l, vs, h, _, _ => by simp [intsOf] at h
  | (i, .agg _) :: r, j, l, vs, h, _, _ => by simp [intsOf] at h
  | (i, .tup _) :: r, j, l, vs, h, _, _ => by simp [intsOf] at h
  | (i, .nili) :: r, j, l, vs, h, _, _ => by simp [intsOf] at h
  | (i, .ifc _ _) :: r, j, l, vs, h, _, _ => by simp [intsOf] at h
  | (i, .fn _ _ _) :: r, j, l, vs, h, _, _ => by simp [intsOf] at h
  | (i, .nilf) :: r, j, l, vs, h, _, _ => by simp [intsOf] at h
  | (i, .raw _) :: r, j, l, vs, h, _, _ => by simp [intsOf] at h
  | (i, .cnd _ _) :: r, j, l, vs, h, _, _ => by simp [intsOf] at h
  | (i, .any) :: r, j, l, vs, h, _, _ => by simp [intsOf] at h

/-- A row of numbers written out. -/
theorem fill_ints (k : IntKind) : ∀ (l : List Int) (j : Nat) (cs : Array Value), j + l.length = cs.size → (∀ i, i < j → True) →
    Instr.fill (fun i => some (i * 1, 1)) cs ((l.map (Value.int k)).mapIdx (fun i v => (j + i, v))) = some (cs.toList.take j ++ l.map (Value.int k)).toArray
  | [], j, cs, hj, _ => by
    simp [Instr.fill]
    have : cs.size ≤ j := by simp at hj; omega
    apply Array.ext'; simp; rw [List.take_of_length_le (by simpa using this)]
  | n :: r, j, cs, hj, _ => by
    simp only [List.map_cons, List.mapIdx_cons, Nat.add_zero, Instr.fill]
    have hlt : j < cs.size := by simp at hj; omega
    rw [if_neg (by simp [Value.cells]; omega)]
    have e1 : ((Value.int k n).cells.zipIdx.foldl (fun (cs : Array Value) (p : Value × Nat) => cs.setIfInBounds (j * 1 + p.2) p.1) cs) = cs.setIfInBounds j (.int k n) := by simp [Value.cells]
    have ih := fill_ints k r (j + 1) (cs.setIfInBounds j (.int k n)) (by simp at hj ⊢; omega) (fun _ _ => trivial)
    rw [show (fun i (v : Value) => (j + (i + 1), v)) = (fun i v => (j + 1 + i, v)) by funext i v; congr 1; omega]
    rw [e1, ih]
    congr 2
    simp only [Array.toList_setIfInBounds]
    rw [List.take_set]
    apply List.ext_getElem?
    intro i
    simp only [List.getElem?_append, List.length_set, List.length_take, Array.length_toList, List.getElem?_set, List.getElem?_take]
    by_cases h1 : i < j
    · rw [if_pos (by omega), if_neg (by omega), if_pos (by omega), if_pos (by omega), if_pos (by omega)]
    · by_cases h2 : i = j
      · subst h2
        rw [if_pos (by omega), if_pos rfl, if_pos (by omega), if_neg (by omega)]
        simp [Nat.min_eq_left (Nat.le_of_lt hlt)]
      · rw [if_neg (by omega), if_neg (by omega)]
        rw [show i - min j cs.size = (i - min (j + 1) cs.size) + 1 by omega]
        simp

theorem evEff_sound {P : Program} {Γ : Tab} (hΓ : Γ.ok P) {E : Env} {st : SS} {a : Act} {w : World} (hf : Fr E st a) (hw : Good E st w) {o : Oper} {K : SS → Prop} (h : evEff P Γ st o K)
    {next : Act → World → Prop} {Q : Exit → Act → World → Prop} (hn : ∀ E' st' a' w', E.Le E' → Fr E' st' a' → Good E' st' w' → K st' → next a' w') : o.wp P a w next Q := by
  have fin : ∀ {v : Value} {E' : Env} {st' : SS} {sv : SV} {w' : World}, E.Le E' → Good E' st' w' → Den E' sv v → (st'.fr = st.fr ∧ st'.df = st.df) → K (st'.put o.dst sv) → next (a.put o.dst v) w' := by
    intro v E' st' sv w' h1 h2 h3 h4 h5
    refine hn E' (st'.put o.dst sv) _ w' h1 (Fr.put ?_ _ h3) (h2.put _ _) h5
    exact ⟨by rw [h4.1]; exact DenL.mono h1 _ _ hf.tmps, by rw [h4.2]; exact hf.defers⟩
  unfold evEff at h
  split at h
  · rename_i t ho
    obtain ⟨h1, h2⟩ := h
    obtain ⟨i, z, hi, his, hib, hiz, hzc⟩ := Tab.info hΓ t h1
    obtain ⟨E', q1, q2, q3⟩ := hw.alloc_named (ls := (Γ t).zero.map ofLeaf) (cs := z.cells) t (by rw [hzc]; exact denL_ofLeaf E _)
    refine wp_value (v := .pointer (some ⟨w.heap.size, 0, none⟩)) (w' := w.alloc (.cells z.cells t)) ?_ (fin q1 q3 (by simp only [Den]; exact ⟨_, q2, rfl⟩) ⟨rfl, rfl⟩ h2)
    simp only [execOp, ho]
    simp [Instr.alloc, run_zero hi hiz, newVar, newRow]
    try rfl
  · rename_i t x ho
    split at h
    · rename_i ls e1
      obtain ⟨h1, h2⟩ := h
      have hx := opd_den hf rfl h1
      obtain ⟨E', q1, q2, q3⟩ := hw.alloc_named (ls := ls) (cs := (a.eval x).cells) t (denL_leaves hx e1)
      refine wp_value (v := .pointer (some ⟨w.heap.size, 0, none⟩)) (w' := w.alloc (.cells (a.eval x).cells t)) ?_ (fin q1 q3 (by simp only [Den]; exact ⟨_, q2, rfl⟩) ⟨rfl, rfl⟩ h2)
      simp only [execOp, ho]
      simp [Instr.box, newVar, newRow]
      try rfl
    · exact h.elim
  · rename_i t ad x ho
    split at h
    · rename_i n off ls e1 e2
      split at h
      · rename_i T l e3
        obtain ⟨h1, h2, h3, h4, h5, h6, h7⟩ := h
        have hx := opd_den hf rfl h2
        have hlv := denL_leaves hx e2
        have hp := opd_den hf rfl h1
        rw [e1] at hp
        simp only [Den] at hp
        obtain ⟨b', hb', ep⟩ := hp
        obtain ⟨b, w', q1, q2, q3⟩ := hw.store e3 off hlv h5 P (allOne_sound hlv h6)
        obtain rfl : b' = b := by rw [q1] at hb'; injection hb' with e; exact e.symm
        obtain ⟨i, z, hi, his, hib, hiz, hzc⟩ := Tab.info hΓ t h3
        have hsz : (a.eval x).cells.size = i.size := by rw [← Array.length_toList, leaves_one hx e2, h4, his]
        refine wp_skip' (w' := w') ?_ (fin (Env.Le.refl E) q3 (by simp only [Den]) ⟨rfl, rfl⟩ h7)
        simp only [execOp, ho]
        simp [Instr.storeAt, Instr.sureAddr, ep, storeVar, run_sizeOf' hi, hsz, q2]
      · exact h.elim
    · exact h.elim
  · rename_i t len parts ho
    split at h
    · rename_i e e1
      have hd := (hΓ t).und
      rw [e1] at hd
      simp only [TD.ok] at hd
      split at h
      · rename_i k e2
        split at h
        · rename_i l e3
          obtain ⟨h1, h2, h3, h4, h5, h6⟩ := h
          obtain ⟨i, z, hi, his, hib, hiz, hzc⟩ := Tab.info hΓ e (by rw [e2]; simp)
          have hden := denL_ops hf rfl _ h1
          have hvs := intsOf_sound (E := E) (k := k) _ 0 l (parts.toList.map fun p => (p.1, a.eval p.2)) e3 (by simp [Function.comp_def]) (by simpa [Function.comp_def] using hden)
          have hparts : (parts.map fun (p : Nat × Operand) => (p.1, a.eval p.2)).toList = parts.toList.map fun p => (p.1, a.eval p.2) := by simp
          obtain ⟨E', q1, q2, q3⟩ := new_ints hw k e l #[] l.length (Nat.le_refl _) (by simp) (by omega)
          refine wp_value (v := .slice (some ⟨w.heap.size, 0, none⟩) len len) (w' := w.alloc (.cells ((l.map (Value.int k)).toArray) e)) ?_ (fin q1 (st' := st.addTok) (by rw [Array.append_empty] at q2; exact q2) (by rw [h2] at q3; exact q3) ⟨rfl, rfl⟩ h6)
          have h16 : ¬ (16777216 < len * 1) := by omega
          have his1 : i.size = 1 := his.trans h4
          simp only [execOp, ho]
          have hrun : (Instr.buildSlice t len (parts.map fun (p : Nat × Operand) => (p.1, a.eval p.2))).run P w = .ok (.slice (some ⟨w.heap.size, 0, none⟩) len len) (w.alloc (.cells ((l.map (Value.int k)).toArray) e)) := by
            simp only [Instr.buildSlice, Sem.run_bind, run_underlying hd, Result.andThen_ok, run_sizeOf' hi, his1]
            rw [if_neg (by simpa using h16)]
            by_cases h0 : len = 0
            · subst h0
              have hl0 : l = [] := by simpa using h2
              subst hl0
              have hv0 : (parts.map fun (p : Nat × Operand) => (p.1, a.eval p.2)).toList = [] := by rw [hparts, hvs]; simp
              rw [hv0]
              simp [Instr.fill, newRow]
              rw [show Array.range 0 = #[] from rfl]
              simp
            · have hfill := fill_ints k l 0 ((Array.range (len * 1)).map (fun j => z.cells[j % z.cells.size]!)) (by simp [h2]) (fun _ _ => trivial)
              rw [if_neg (by omega)]
              simp only [Sem.run_bind, Sem.run_pure, Result.andThen_ok, run_zero hi hiz]
              rw [hparts, hvs, hfill]
              simp [newRow]
              try rfl
          rw [Sem.run_bind, hrun]
          rfl
        · exact h.elim
      · exact h.elim
    · exact h.elim
  · rename_i t n c ho
    split at h
    · rename_i k1 n' k2 c' e x1 x2 x3
      split at h
      · rename_i k y1
        obtain ⟨h1, h2, h3, h4, h5, h6, h7, h8, h9⟩ := h
        have hd := (hΓ t).und
        rw [x3] at hd
        simp only [TD.ok] at hd
        obtain ⟨i, z, hi, his, hib, hiz, hzc⟩ := Tab.info hΓ e (by rw [y1]; simp)
        have dn := opd_den hf rfl h1
        have dc := opd_den hf rfl h2
        rw [x1] at dn
        rw [x2] at dc
        simp only [Den] at dn dc
        have hz1 : z.cells = #[Value.int k 0] := by apply Array.ext'; rw [hzc, h8]
        have hr := run_make (P := P) w t e i z hd hi hiz k1 k2 n' c' h3 h4 (by rw [hib]; exact h5) h6
        rw [hz1, his, h7] at hr
        have hm : madeCells #[Value.int k 0] (c'.toNat * 1) = ((List.replicate n'.toNat (0 : Int)).map (Value.int k)).toArray ++ (List.replicate (c'.toNat - n'.toNat) (Value.int k 0)).toArray := by
          apply Array.ext'
          rw [toList_madeCells_one]
          simp [List.replicate_append_replicate]
          omega
        rw [hm] at hr
        obtain ⟨E', q1, q2, q3⟩ := new_ints hw k e (List.replicate n'.toNat 0) (List.replicate (c'.toNat - n'.toNat) (Value.int k 0)).toArray c'.toNat (by simp; omega) (by simp; omega) (by omega)
        rw [List.length_replicate] at q3
        refine wp_value (v := .slice (some ⟨w.heap.size, 0, none⟩) n'.toNat c'.toNat) ?_ (fin q1 (st' := st.addTok) q2 q3 ⟨rfl, rfl⟩ h9)
        simp only [execOp, ho]
        rw [dn, dc, Sem.run_bind, hr]
        rfl
      · exact h.elim
    · exact h.elim
  · rename_i s d x ho
    have mark : ∀ (tg : Tag) (l : List Int), (∀ v, TagOK E 1 v tg → ∀ a n c, v = .slice (some a) n c → Mut E a.block) → opd st x = .ints .u8 tg l → ∀ e e', (Γ s).d = .slice e → (Γ d).d = .slice e' → ovc st true x → s = d → (Γ e).d = .int .u8 → l ≠ [] → K (st.put o.dst (.ints .u8 tg l)) → o.wp P a w next Q := by
      intro tg l htg e1 e e' e2 e3 h1 h2 h3 h4 h5
      subst h2
      have dx := opd_den hf rfl h1
      rw [e1] at dx
      have dx' := dx
      simp only [Den] at dx
      obtain ⟨p, cap, hv, hc, h63, q, ht⟩ := dx
      obtain ⟨y, ys, rfl⟩ := List.exists_cons_of_ne_nil h4
      obtain ⟨b, off, rfl, hμ⟩ := q 0 y (by simp)
      have hmut := htg _ ht ⟨b, off, none⟩ _ _ hv
      obtain ⟨w', k1, k2⟩ := hw.mark P (b := b) (off := off) hmut hμ rfl
      have hs := (hΓ s).und
      rw [e2] at hs
      have hu := (hΓ e).und
      rw [h3] at hu
      simp only [TD.ok] at hs hu
      refine wp_value (v := a.eval x) (w' := w') ?_ (fin (Env.Le.refl E) k2 dx' ⟨rfl, rfl⟩ h5)
      simp only [execOp, ho, hv]
      have : (convert s s (.slice (some ⟨b, off, none⟩) (y :: ys).length cap)).run P w = .ok (.slice (some ⟨b, off, none⟩) (y :: ys).length cap) w' := by
        simp [convert, run_underlying hs, run_underlying hu, k1]
      rw [Sem.run_bind, this]
      rfl
    split at h
    · rename_i τ l e e' x1 x2 x3
      obtain ⟨h1, h2, h3, h4, h5⟩ := h
      exact mark _ _ (fun v hv a n c e => by simp only [TagOK] at hv; exact hv.2 trivial a n c e) x1 _ _ x2 x3 h1 h2 h3 h4 h5
    · rename_i l e e' x1 x2 x3
      obtain ⟨h1, h2, h3, h4, h5⟩ := h
      exact mark _ _ (fun v hv a n c e => by simp only [TagOK] at hv; exact hv a n c e) x1 _ _ x2 x3 h1 h2 h3 h4 h5
    · rename_i y e x1 x2 x3
      obtain ⟨h1, h3, h4, h5⟩ := h
      have dx := opd_den hf rfl h1
      rw [x1] at dx
      simp only [Den] at dx
      have hs := (hΓ s).und
      rw [x2] at hs
      have hd := (hΓ d).und
      rw [x3] at hd
      have hu := (hΓ e).und
      rw [h3] at hu
      simp only [TD.ok] at hs hd hu
      have hr := run_bytes_of_string (P := P) w s d e y hs hd hu
      have hgc1 := grownCap_ge w y.size 0 e
      have hgc2 := grownCap_le_maxLen w y.size 0 e (by unfold maxLen; omega)
      generalize hg : grownCap w y.size 0 e = cap at hr hgc1 hgc2
      have hrow : bytesRow y cap = ((bytesOf y).map (Value.int .u8)).toArray ++ Array.replicate (cap - y.size) (.int .u8 0) := by
        unfold bytesRow bytesOf
        congr 1
        apply Array.ext'
        simp [Function.comp_def]
      have hlen : (bytesOf y).length = y.size := by simp [bytesOf]
      obtain ⟨E', q1, q2, q3⟩ := new_ints hw.drewN .u8 e (bytesOf y) (Array.replicate (cap - y.size) (.int .u8 0)) cap (by rw [hlen]; exact hgc1) (by rw [hlen]; simp; omega) (by unfold maxLen at hgc2; omega) ((bytesRow y cap).size, (bytesRow y cap).size + 1) (.inr (by rw [hrow]; simp))
      rw [hlen] at q3
      rw [← hrow] at q2
      refine wp_value (v := .slice (some ⟨w.heap.size, 0, none⟩) y.size cap) ?_ (fin q1 (st' := st.addTok) q2 q3 ⟨rfl, rfl⟩ h5)
      simp only [execOp, ho, dx]
      rw [Sem.run_bind, hr]
      rfl
    · exact h.elim
  · rename_i op t x y ty ho
    split at h
    · rename_i e e1 e2
      obtain ⟨h1, h2⟩ := h
      have hd := (hΓ t).und
      rw [e1] at hd
      simp only [TD.ok] at hd
      obtain ⟨c, q1, q2⟩ := evSliceNil_sound (P := P) (w := w) hd (opd_den hf rfl h1) h2 (xo := x) (yo := y)
      refine wp_value (v := .bool c) (w' := w) ?_ (fin (Env.Le.refl E) hw (by simp only [Den]) ⟨rfl, rfl⟩ q2)
      simp only [execOp, ho]
      rw [isNilS_eval (a := a) e2]
      rw [Sem.run_bind, q1]
      rfl
    · exact h.elim
  · rename_i c ho
    exact evCall_sound hΓ hf hw ho h hn
  · exact h.elim
end Go.Eng
