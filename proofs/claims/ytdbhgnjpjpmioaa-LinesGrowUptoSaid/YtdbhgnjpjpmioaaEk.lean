/- The engine, part K: one operation, a region, a function's code. -/
import Derived.Test.YtdbhgnjpjpmioaaEj
import Derived.Laws.IdiomStrings
import Derived.Laws.MakeOwn
import Derived.Laws.OwnMore
import Derived.Laws.StructEq
namespace Go.Eng
open Go
set_option linter.unusedVariables false
set_option linter.unusedSimpArgs false

def isNilS : Operand → Bool
  | .const (.slice none 0 0) => true
  | _ => false

def evSliceNil (op : BinOp) (x : SV) (K : Bool → Prop) : Prop :=
  match op, x with
  | .eql, .ints _ .nil _ => K true
  | .neq, .ints _ .nil _ => K false
  | .eql, .ints _ _ l => ∀ c, (c = true → l = []) → K c
  | .neq, .ints _ _ l => ∀ c, (c = false → l = []) → K c
  | .eql, .sl _ _ n _ => ∀ c, (c = true → n = 0) → K c
  | .neq, .sl _ _ n _ => ∀ c, (c = false → n = 0) → K c
  | _, _ => False

/-- What follows a call. -/
def callK (K : SS → Prop) (dst : Option Tmp) (sv : SV) (st : SS) : Prop := K (st.put dst sv)
theorem callK_eq {K : SS → Prop} {dst : Option Tmp} {sv : SV} {st : SS} : callK K dst sv st = K (st.put dst sv) := rfl
def nilK (K : SS → Prop) (st : SS) (dst : Option Tmp) (c : Bool) : Prop := K (st.put dst (.b c))
theorem nilK_eq {K : SS → Prop} {st : SS} {dst : Option Tmp} {c : Bool} : nilK K st dst c = K (st.put dst (.b c)) := rfl

def evCall (P : Program) (Γ : Tab) (st : SS) (dst : Option Tmp) (c : Call) (K : SS → Prop) : Prop :=
  match c.callee with
  | .value f =>
    match opd st f with
    | .fn (.func f') first cap => ovc st true f ∧ ovcL st true c.args.toList ∧ CallOK P f' (first ++ c.args.toList.map (opd st) ++ cap) st (callK K dst)
    | _ => False
  | .invoke r name => ovc st true r ∧ ovcL st true c.args.toList ∧ InvOK P (opd st r) name (c.args.toList.map (opd st)) st (callK K dst)
  | .builtin .append =>
    match c.args.toList, c.argTypes.toList with
    | [s, x], [t, t2] => ovc st true s ∧ ovc st true x ∧ evAppend Γ st dst t t2 (opd st s) (opd st x) K
    | _, _ => False
  | _ => False

def pickL : List (List SV) → Nat → List SV
  | [], _ => []
  | x :: _, 0 => x
  | _ :: r, n + 1 => pickL r n
def elOf (L : List (List SV)) (i j : Nat) : SV := lget (pickL L i) j
/-- Parts in a row, each of so many cells. -/
def rowsOf (sz : Nat) : List (Nat × SV) → Nat → Option (List (List SV))
  | [], _ => some []
  | (i, x) :: r, j =>
    match leaves x with
    | some ls =>
      if i = j ∧ ls.length = sz then
        match rowsOf sz r (j + 1) with
        | some L => some (ls :: L)
        | none => none
      else none
    | none => none
/-- '==' of two plain structs. -/
def leafEq (d : TD) (x y : SV) : Option Bool :=
  match d, x, y with
  | .bool, .b a, .b b => some (a == b)
  | .int k, .i k1 a, .i k2 b => if k1 = k ∧ k2 = k then some (a == b) else none
  | .str, .s a, .s b => some (a == b)
  | _, _, _ => none
def eqB (Γ : Tab) (xs ys : List SV) : List (Nat × TypeId) → Option Bool
  | [] => some true
  | (o, t) :: r =>
    match nth xs o, nth ys o with
    | some x, some y =>
      match leafEq (Γ t).d x y with
      | some a =>
        match eqB Γ xs ys r with
        | some c => some (a && c)
        | none => none
      | none => none
    | _, _ => none
def eqPlain (P : Program) (t : TypeId) : Bool := !P.eqGuardType P.depth t && !P.stoodInHeld t && (P.fieldsOf t).toList.all fun f => f.name != "_"

/-- A text's bytes. -/
def bytesOf (y : ByteArray) : List Int := y.data.toList.map fun b => (b.toNat : Int)

def evEff (P : Program) (Γ : Tab) (st : SS) (o : Oper) (K : SS → Prop) : Prop :=
  match o.op with
  | .alloc t => (Γ t).d ≠ .none ∧ K ((st.addBlk t ((Γ t).zero.map ofLeaf)).put o.dst (.ptr st.nx 0))
  | .box t x =>
    match leaves (opd st x) with
    | some ls => ovc st true x ∧ K ((st.addBlk t ls).put o.dst (.ptr st.nx 0))
    | none => False
  | .store t ad x =>
    match opd st ad, leaves (opd st x) with
    | .ptr n off, some ls =>
      match hfind st.hp n with
      | some (_, l) => ovc st true ad ∧ ovc st true x ∧ (Γ t).d ≠ .none ∧ ls.length = (Γ t).size ∧ off + ls.length ≤ l.length ∧ allOne ls = true ∧ K ((st.setBlk n (spl l off ls)).put o.dst (.raw undef))
      | none => False
    | _, _ => False
  | .buildSlice t len parts =>
    match (Γ t).d with
    | .slice e =>
      match (Γ e).d with
      | .int k =>
        match intsOf k (parts.toList.map fun p => (p.1, opd st p.2)) 0 with
        | some l => ovcL st true (parts.toList.map (·.2)) ∧ l.length = len ∧ len ≤ 16777216 ∧ (Γ e).size = 1 ∧ (Γ e).zero.length = 1 ∧ K (st.addTok.put o.dst (.ints k (.tok st.nx true) l))
        | none => False
      | _ =>
        match rowsOf (Γ e).size (parts.toList.map fun p => (p.1, opd st p.2)) 0 with
        | some L => ovcL st true (parts.toList.map (·.2)) ∧ L.length = len ∧ (len ≤ 16777216 ∧ len * (Γ e).size ≤ 16777216) ∧ (Γ e).d ≠ .none ∧ K (st.addTok.put o.dst (.sl (Γ e).size (.tok st.nx true) len (elOf L)))
        | none => False
    | _ => False
  | .range t x =>
    match opd st x, (Γ t).d with
    | .s y, .str => ovc st true x ∧ ∀ b : Nat, K (({ st with rs := (st.nx, RObj b (.stringIter y 0)) :: st.rs, nx := st.nx + 1 } : SS).put o.dst (.raw (.pointer (some ⟨b, 0, none⟩))))
    | _, _ => False
  | .makeSlice t n c =>
    match opd st n, opd st c, (Γ t).d with
    | .i _ n', .i _ c', .slice e =>
      match (Γ e).d with
      | .int k => ovc st true n ∧ ovc st true c ∧ 0 ≤ n' ∧ n' ≤ c' ∧ ((Γ e).bytes : Int) * c' ≤ 281474976710656 ∧ c' ≤ 9223372036854775807 ∧ (Γ e).size = 1 ∧ (Γ e).zero = [Value.int k 0] ∧ K (st.addTok.put o.dst (.ints k (.tok st.nx true) (List.replicate n'.toNat 0)))
      | _ => False
    | _, _, _ => False
  | .convert s d x =>
    match opd st x, (Γ s).d, (Γ d).d with
    | .ints .u8 (.tok τ b) l, .slice e, .slice _ => ovc st true x ∧ s = d ∧ (Γ e).d = .int .u8 ∧ l ≠ [] ∧ tkMem st.tk τ = true ∧ K (st.put o.dst (.ints .u8 (.tok τ b) l))
    | .s y, .str, .slice e => ovc st true x ∧ (Γ e).d = .int .u8 ∧ y.size ≤ 140737488355328 ∧ K (st.addTok.put o.dst (.ints .u8 (.tok st.nx true) (bytesOf y)))
    | _, _, _ => False
  | .binOp op t x y _ =>
    match (Γ t).d, isNilS y with
    | .slice _, true => ovc st true x ∧ evSliceNil op (opd st x) (nilK K st o.dst)
    | .struct fs, _ =>
      match op, opd st x, opd st y with
      | .eql, .agg xs, .agg ys =>
        match eqB Γ xs ys fs with
        | some c => ovc st true x ∧ ovc st true y ∧ eqPlain P t = true ∧ K (st.put o.dst (.b c))
        | none => False
      | _, _, _ => False
    | _, _ => False
  | .call c => evCall P Γ st o.dst c K
  | _ => False

theorem wp_value {P : Program} {o : Oper} {a : Act} {w w' : World} {next : Act → World → Prop} {Q : Exit → Act → World → Prop} {v : Value} (h : (execOp a.eval o).run P w = .ok (.value v) w') (hn : next (a.put o.dst v) w') : o.wp P a w next Q := by
  unfold Oper.wp; rw [h]; exact hn

theorem wp_skip' {P : Program} {o : Oper} {a : Act} {w w' : World} {next : Act → World → Prop} {Q : Exit → Act → World → Prop} (h : (execOp a.eval o).run P w = .ok .skip w') (hn : next (a.put o.dst undef) w') : o.wp P a w next Q := by
  unfold Oper.wp; rw [h]; exact hn

theorem wp_enter {P : Program} {o : Oper} {a : Act} {w w' : World} {next : Act → World → Prop} {Q : Exit → Act → World → Prop} {f : FuncId} {as : Array Value} (h : (execOp a.eval o).run P w = .ok (.enter f as) w')
    (hn : Calls P f as w' (fun e w'' => ∃ v, e = .returned v ∧ next (a.put o.dst v) w'')) : o.wp P a w next Q := by
  unfold Oper.wp; rw [h]
  show Calls _ _ _ _ _
  refine hn.mono ?_
  rintro e w'' ⟨v, rfl, h⟩
  exact h

theorem denL_append' {E : Env} {l m n : List SV} {cs ds es : List Value} (h : DenL E l cs) (k : DenL E m ds) (j : DenL E n es) : DenL E (l ++ m ++ n) (cs ++ ds ++ es) := denL_append _ _ _ _ (denL_append _ _ _ _ h k) j

theorem evCall_sound {P : Program} {Γ : Tab} (hΓ : Γ.ok P) {E : Env} {st : SS} {a : Act} {w : World} (hf : Fr E st a) (hw : Good E st w) {o : Oper} {c : Call} (ho : o.op = .call c) {K : SS → Prop} (h : evCall P Γ st o.dst c K)
    {next : Act → World → Prop} {Q : Exit → Act → World → Prop} (hn : ∀ E' st' a' w', E.Le E' → Fr E' st' a' → Good E' st' w' → K st' → next a' w') : o.wp P a w next Q := by
  have fin : ∀ {v : Value} {E' : Env} {st' : SS} {sv : SV} {w' : World}, E.Le E' → Good E' st' w' → Den E' sv v → (st'.fr = st.fr ∧ st'.df = st.df) → K (st'.put o.dst sv) → next (a.put o.dst v) w' := by
    intro v E' st' sv w' h1 h2 h3 h4 h5
    refine hn E' (st'.put o.dst sv) _ w' h1 (Fr.put ?_ _ h3) (h2.put _ _) h5
    exact ⟨by rw [h4.1]; exact DenL.mono h1 _ _ hf.tmps, by rw [h4.2]; exact hf.defers⟩
  unfold evCall at h
  split at h
  · rename_i f e1
    split at h
    · rename_i f' first cap e2
      obtain ⟨h1, h2, h3⟩ := h
      have hd := opd_den hf rfl h1
      rw [e2] at hd
      simp only [Den] at hd
      obtain ⟨fs, cs, ev, d1, d2⟩ := hd
      obtain ⟨k1, k2⟩ := h3 E w _ hw (denL_append' d1 (denL_ops hf rfl _ h2) d2)
      refine wp_enter (w' := w) ?_ (k2.mono ?_)
      · rw [← k1]
        simp only [execOp, ho, resolve, e1, ev, Deferred.ofValue, Sem.run_bind, Sem.run_pure, Result.andThen_ok, invoke]
        congr 2
        apply Array.ext'; simp
      · rintro e w'' ⟨v, E', st', sv, rfl, q1, q2, q3, q4, q5⟩
        exact ⟨v, rfl, fin q1 q2 q3 q4 q5⟩
    · exact h.elim
  · rename_i r name e1
    obtain ⟨h1, h2, h3⟩ := h
    obtain ⟨f', as, k1, k2⟩ := h3 E w _ _ hw (opd_den hf rfl h1) (denL_ops hf rfl _ h2)
    refine wp_enter (w' := w) (f := f') (as := as) ?_ (k2.mono ?_)
    · rw [← k1]
      have e0 : (#[a.eval r] ++ c.args.map a.eval) = ((a.eval r) :: c.args.toList.map a.eval).toArray := by apply Array.ext'; simp
      simp only [execOp, ho, resolve, e1, Sem.run_bind, Sem.run_pure, Result.andThen_ok, invoke]
      rw [e0]
      simp only [List.getElem?_toArray, List.getElem?_cons_zero]
      congr 2
      apply Array.ext'; simp
      rw [List.take_of_length_le (by simp)]
    · rintro e w'' ⟨v, E', st', sv, rfl, q1, q2, q3, q4, q5⟩
      exact ⟨v, rfl, fin q1 q2 q3 q4 q5⟩
  · rename_i e1
    split at h
    · rename_i s x t t2 e2 e3
      obtain ⟨h1, h2, h3⟩ := h
      obtain ⟨v, w', E', st', sv, q0, q1, q2, q3, q4, q5⟩ := evAppend_sound (ty := o.type) hΓ hw (opd_den hf rfl h1) (opd_den hf rfl h2) h3
      refine wp_value (v := v) (w' := w') ?_ (fin q1 q2 q3 q4 q5)
      have e2' : c.args = #[s, x] := by apply Array.ext'; simpa using e2
      have e3' : c.argTypes = #[t, t2] := by apply Array.ext'; simpa using e3
      simp only [execOp, ho, resolve, e1, e2', e3', Sem.run_bind, Sem.run_pure, Result.andThen_ok, invoke, builtin]
      simp [q0]
    · exact h.elim
  · exact h.elim

theorem run_zero {P : Program} {t : TypeId} {i : TypeInfo} {z : Value} (h : P.info? t = some i) (hz : i.zero = some z) (w : World) : (zeroValue t).run P w = .ok z w := by simp [zeroValue, typeInfo, h, hz]

theorem evSliceNil_sound {P : Program} {w : World} {E : Env} {op : BinOp} {t e : TypeId} (hd : P.underlying t = some (.slice e)) {x : SV} {vx : Value} (hx : Den E x vx) {K : Bool → Prop} (h : evSliceNil op x K) {xo yo : Operand} :
    ∃ c, (do eqGuard op t xo yo vx (.slice none 0 0); binOp op t vx (.slice none 0 0) : Sem Value).run P w = .ok (.bool c) w ∧ K c := by
  have run : ∀ (p : Option Addr) (n c : Nat), (do eqGuard .eql t xo yo (.slice p n c) (.slice none 0 0); binOp .eql t (.slice p n c) (.slice none 0 0) : Sem Value).run P w = .ok (.bool p.isNone) w := by
    intro p n c
    simp [eqGuard]
    refine eql_of (by simp) (by simp) (by simp) (by simp) fun d => ?_
    cases p <;> simp [Op.equalIn, run_underlying hd]
  have run2 : ∀ (p : Option Addr) (n c : Nat), (do eqGuard .neq t xo yo (.slice p n c) (.slice none 0 0); binOp .neq t (.slice p n c) (.slice none 0 0) : Sem Value).run P w = .ok (.bool (!p.isNone)) w := by
    intro p n c
    have := neq_of (P := P) (w := w) (t := t) (x := .slice p n c) (y := .slice none 0 0) (b := p.isNone) (by simp) (by simp) (by simp) (by simp) (fun d => by cases p <;> simp [Op.equalIn, run_underlying hd])
    simpa [eqGuard] using this
  unfold evSliceNil at h
  split at h
  · simp only [Den] at hx; obtain ⟨p, c, _, _, _, _, hn⟩ := hx; simp only [TagOK] at hn; subst hn; exact ⟨true, run none 0 0, h⟩
  · simp only [Den] at hx; obtain ⟨p, c, _, _, _, _, hn⟩ := hx; simp only [TagOK] at hn; subst hn; exact ⟨false, run2 none 0 0, h⟩
  · rename_i l _
    simp only [Den] at hx; obtain ⟨p, c, rfl, _, _, q, _⟩ := hx
    refine ⟨_, run p _ c, h _ fun hn => ?_⟩
    cases l with
    | nil => rfl
    | cons y ys => obtain ⟨b, off, e, _⟩ := q 0 y (by simp); subst e; simp at hn
  · rename_i l _
    simp only [Den] at hx; obtain ⟨p, c, rfl, _, _, q, _⟩ := hx
    refine ⟨_, run2 p _ c, h _ fun hn => ?_⟩
    cases l with
    | nil => rfl
    | cons y ys => obtain ⟨b, off, e, _⟩ := q 0 y (by simp); subst e; simp at hn
  · rename_i n el
    simp only [Den] at hx; obtain ⟨p, c, rfl, _, _, q, _⟩ := hx
    refine ⟨_, run p _ c, h _ fun hn => ?_⟩
    cases n with
    | zero => rfl
    | succ n => obtain ⟨b, off, e, _⟩ := q 0 (by omega); subst e; simp at hn
  · rename_i n el
    simp only [Den] at hx; obtain ⟨p, c, rfl, _, _, q, _⟩ := hx
    refine ⟨_, run2 p _ c, h _ fun hn => ?_⟩
    cases n with
    | zero => rfl
    | succ n => obtain ⟨b, off, e, _⟩ := q 0 (by omega); subst e; simp at hn
  · exact h.elim

theorem isNilS_eval {a : Act} {y : Operand} (h : isNilS y = true) : a.eval y = .slice none 0 0 := by
  unfold isNilS at h
  split at h
  · rfl
  · cases h

theorem intsOf_sound {E : Env} {k : IntKind} : ∀ (ps : List (Nat × SV)) (j : Nat) (l : List Int) (vs : List (Nat × Value)), intsOf k ps j = some l → vs.map (·.1) = ps.map (·.1) → DenL E (ps.map (·.2)) (vs.map (·.2)) →
    vs = (l.map (Value.int k)).mapIdx (fun i v => (j + i, v))
  | [], j, l, vs, h, h1, _ => by
    simp only [intsOf, Option.some.injEq] at h
    subst h
    simpa using h1
  | (i, .i k' n) :: r, j, l, [], h, h1, h2 => by simp at h1
  | (i, .i k' n) :: r, j, l, (i', v) :: vr, h, h1, h2 => by
    simp only [intsOf] at h
    split at h
    · rename_i hc
      obtain ⟨rfl, rfl⟩ := hc
      split at h
      · rename_i l' e
        simp only [Option.some.injEq] at h
        subst h
        simp only [List.map_cons, List.cons.injEq] at h1
        obtain ⟨rfl, h1⟩ := h1
        simp only [List.map_cons, DenL, Den] at h2
        obtain ⟨rfl, h2⟩ := h2
        have := intsOf_sound r _ l' vr e h1 h2
        rw [this]
        simp only [List.map_cons, List.mapIdx_cons, Nat.add_zero, List.cons.injEq, true_and]
        congr 1
        funext i v
        rw [Nat.add_assoc, Nat.add_comm 1 i]
      · cases h
    · cases h
  | (i, .b _) :: r, j, l, vs, h, _, _ => by simp [intsOf] at h
  | (i, .s _) :: r, j, l, vs, h, _, _ => by simp [intsOf] at h
  | (i, .ptr _ _) :: r, j, l, vs, h, _, _ => by simp [intsOf] at h
  | (i, .nilp) :: r, j, l, vs, h, _, _ => by simp [intsOf] at h
  | (i, .ints _ _ _) :: r, j, l, vs, h, _, _ => by simp [intsOf] at h
  | (i, .sl _ _ _ _) :: r, j, l, vs, h, _, _ => by simp [intsOf] at h
  | (i, .ep _ _) :: r, j, l, vs, h, _, _ => by simp [intsOf] at h
  | (i, .agg _) :: r, j, l, vs, h, _, _ => by simp [intsOf] at h
  | (i, .tup _) :: r, j, l, vs, h, _, _ => by simp [intsOf] at h
  | (i, .nili) :: r, j, l, vs, h, _, _ => by simp [intsOf] at h
  | (i, .ifc _ _) :: r, j, l, vs, h, _, _ => by simp [intsOf] at h
  | (i, .fn _ _ _) :: r, j, l, vs, h, _, _ => by simp [intsOf] at h
  | (i, .nilf) :: r, j, l, vs, h, _, _ => by simp [intsOf] at h
  | (i, .raw _) :: r, j, l, vs, h, _, _ => by simp [intsOf] at h
  | (i, .cnd _ _) :: r, j, l, vs, h, _, _ => by simp [intsOf] at h
  | (i, .any) :: r, j, l, vs, h, _, _ => by simp [intsOf] at h

/-- A row of numbers written out. -/
theorem fill_ints (k : IntKind) : ∀ (l : List Int) (j : Nat) (cs : Array Value), j + l.length = cs.size → (∀ i, i < j → True) →
    Instr.fill (fun i => some (i * 1, 1)) cs ((l.map (Value.int k)).mapIdx (fun i v => (j + i, v))) = some (cs.toList.take j ++ l.map (Value.int k)).toArray
  | [], j, cs, hj, _ => by
    simp [Instr.fill]
    have : cs.size ≤ j := by simp at hj; omega
    apply Array.ext'; simp; rw [List.take_of_length_le (by simpa using this)]
  | n :: r, j, cs, hj, _ => by
    simp only [List.map_cons, List.mapIdx_cons, Nat.add_zero, Instr.fill]
    have hlt : j < cs.size := by simp at hj; omega
    rw [if_neg (by simp [Value.cells]; omega)]
    have e1 : ((Value.int k n).cells.zipIdx.foldl (fun (cs : Array Value) (p : Value × Nat) => cs.setIfInBounds (j * 1 + p.2) p.1) cs) = cs.setIfInBounds j (.int k n) := by simp [Value.cells]
    have ih := fill_ints k r (j + 1) (cs.setIfInBounds j (.int k n)) (by simp at hj ⊢; omega) (fun _ _ => trivial)
    rw [show (fun i (v : Value) => (j + (i + 1), v)) = (fun i v => (j + 1 + i, v)) by funext i v; congr 1; omega]
    rw [e1, ih]
    congr 2
    simp only [Array.toList_setIfInBounds]
    rw [List.take_set]
    apply List.ext_getElem?
    intro i
    simp only [List.getElem?_append, List.length_set, List.length_take, Array.length_toList, List.getElem?_set, List.getElem?_take]
    by_cases h1 : i < j
    · rw [if_pos (by omega), if_neg (by omega), if_pos (by omega), if_pos (by omega), if_pos (by omega)]
    · by_cases h2 : i = j
      · subst h2
        rw [if_pos (by omega), if_pos rfl, if_pos (by omega), if_neg (by omega)]
        simp [Nat.min_eq_left (Nat.le_of_lt hlt)]
      · rw [if_neg (by omega), if_neg (by omega)]
        rw [show i - min j cs.size = (i - min (j + 1) cs.size) + 1 by omega]
        simp

theorem fill_rows (sz : Nat) : ∀ (vs : List Value) (j : Nat) (cs : Array Value), (j + vs.length) * sz = cs.size → (∀ v ∈ vs, v.cells.size = sz) →
    ∃ cs', Instr.fill (fun i => some (i * sz, sz)) cs (vs.mapIdx (fun i v => (j + i, v))) = some cs' ∧ cs'.size = cs.size ∧ (∀ k, k < j * sz → cs'[k]? = cs[k]?) ∧ ∀ i v, vs[i]? = some v → ∀ d, d < sz → cs'[(j + i) * sz + d]? = v.cells[d]?
  | [], j, cs, hj, _ => ⟨cs, by simp [Instr.fill], rfl, fun _ _ => rfl, fun i v h => by simp at h⟩
  | v :: r, j, cs, hj, hs => by
    have hv := hs v (by simp)
    have hm : (j + (v :: r).length) * sz = j * sz + (sz + r.length * sz) := by simp [Nat.add_mul]; omega
    simp only [List.mapIdx_cons, Nat.add_zero, Instr.fill]
    rw [if_neg (by rw [hv]; simp; omega)]
    have e1 : (v.cells.zipIdx.foldl (fun (cs : Array Value) (p : Value × Nat) => cs.setIfInBounds (j * sz + p.2) p.1) cs) = (splV cs.toList (j * sz) v.cells.toList).toArray := by
      have := foldl_set v.cells.toList 0 (j * sz) cs
      rw [Nat.add_zero] at this
      rw [← this, ← Array.foldl_toList, Array.toList_zipIdx]
    rw [e1]
    have hget : ∀ k, (splV cs.toList (j * sz) v.cells.toList).toArray[k]? = if j * sz ≤ k ∧ k < j * sz + sz then v.cells[k - j * sz]? else cs[k]? := fun k => by
      rw [List.getElem?_toArray, splV_getElem]
      have h1 : v.cells.toList.length = sz := by simpa using hv
      have h2 : cs.toList.length = cs.size := by simp
      rw [h1, h2]
      by_cases hk : j * sz ≤ k ∧ k < j * sz + sz
      · rw [if_pos hk, if_pos ⟨hk.1, hk.2, by omega⟩]; simp
      · rw [if_neg hk, if_neg (by omega)]; simp
    have hsz : (splV cs.toList (j * sz) v.cells.toList).toArray.size = cs.size := by
      have a1 : ∀ k, k < cs.size → k < (splV cs.toList (j * sz) v.cells.toList).toArray.size := fun k hk => by
        rcases Nat.lt_or_ge k (splV cs.toList (j * sz) v.cells.toList).toArray.size with h | h
        · exact h
        · have := hget k
          rw [Array.getElem?_eq_none h] at this
          split at this
          · rename_i hk2
            rw [Array.getElem?_eq_getElem (by rw [hv]; omega)] at this; cases this
          · rw [Array.getElem?_eq_getElem hk] at this; cases this
      have a2 : ∀ k, k < (splV cs.toList (j * sz) v.cells.toList).toArray.size → k < cs.size := fun k hk => by
        rcases Nat.lt_or_ge k cs.size with h | h
        · exact h
        · have := hget k
          rw [Array.getElem?_eq_getElem hk, if_neg (by omega), Array.getElem?_eq_none h] at this
          cases this
      rcases Nat.lt_trichotomy (splV cs.toList (j * sz) v.cells.toList).toArray.size cs.size with h | h | h
      · have := a1 _ h; omega
      · exact h
      · have := a2 _ h; omega
    obtain ⟨cs', q1, q2, q3, q4⟩ := fill_rows sz r (j + 1) (splV cs.toList (j * sz) v.cells.toList).toArray (by rw [hsz, ← hj, hm, Nat.add_mul, Nat.add_mul]; omega) (fun u hu => hs u (List.mem_cons_of_mem _ hu))
    refine ⟨cs', ?_, by rw [q2, hsz], fun k hk => ?_, fun i u hu d hd => ?_⟩
    · rw [show (fun i (v : Value) => (j + (i + 1), v)) = (fun i v => (j + 1 + i, v)) by funext i v; congr 1; omega]
      exact q1
    · rw [q3 k (by rw [Nat.add_mul]; omega), hget, if_neg (by omega)]
    · cases i with
      | zero =>
        simp only [List.getElem?_cons_zero, Option.some.injEq] at hu
        subst hu
        rw [Nat.add_zero, q3 _ (by rw [Nat.add_mul]; omega), hget, if_pos ⟨by omega, by omega⟩]
        congr 1
        omega
      | succ i =>
        simp only [List.getElem?_cons_succ] at hu
        have := q4 i u hu d hd
        rw [show j + (i + 1) = j + 1 + i by omega]
        exact this

theorem rowsOf_sound {E : Env} {sz : Nat} : ∀ (ps : List (Nat × SV)) (j : Nat) (L : List (List SV)) (vs : List (Nat × Value)), rowsOf sz ps j = some L → vs.map (·.1) = ps.map (·.1) → DenL E (ps.map (·.2)) (vs.map (·.2)) →
    ∃ us : List Value, vs = us.mapIdx (fun i v => (j + i, v)) ∧ us.length = L.length ∧ (∀ v ∈ us, v.cells.size = sz) ∧ ∀ i v, us[i]? = some v → DenL E (pickL L i) v.cells.toList
  | [], j, L, vs, h, h1, _ => by
    simp only [rowsOf, Option.some.injEq] at h
    subst h
    have : vs = [] := by simpa using h1
    subst this
    exact ⟨[], rfl, rfl, fun v hv => by simp at hv, fun i v hv => by simp at hv⟩
  | (i, x) :: r, j, L, [], h, h1, h2 => by simp at h1
  | (i, x) :: r, j, L, (i', v) :: vr, h, h1, h2 => by
    simp only [rowsOf] at h
    split at h
    · rename_i ls e
      split at h
      · rename_i hc
        obtain ⟨rfl, hlen⟩ := hc
        split at h
        · rename_i L' e'
          simp only [Option.some.injEq] at h
          subst h
          simp only [List.map_cons, List.cons.injEq] at h1
          obtain ⟨rfl, h1⟩ := h1
          simp only [List.map_cons, DenL] at h2
          obtain ⟨us, p1, p2, p3, p4⟩ := rowsOf_sound r _ L' vr e' h1 h2.2
          have hd := denL_leaves h2.1 e
          have hsz : v.cells.size = sz := by rw [← Array.length_toList, denL_length _ _ hd, hlen]
          refine ⟨v :: us, ?_, by simp [p2], fun u hu => ?_, fun k u hu => ?_⟩
          · rw [List.mapIdx_cons, p1]
            congr 1
            congr 1
            funext k u
            congr 1
            omega
          · rcases List.mem_cons.1 hu with rfl | hu
            · exact hsz
            · exact p3 u hu
          · cases k with
            | zero =>
              simp only [List.getElem?_cons_zero, Option.some.injEq] at hu
              subst hu
              exact hd
            | succ k => exact p4 k u (by simpa using hu)
        · cases h
      · cases h
    · cases h

theorem eqB_sound {P : Program} {Γ : Tab} (hΓ : Γ.ok P) {E : Env} {w : World} {xs ys : List SV} {vx vy : List Value} (hx : DenL E xs vx) (hy : DenL E ys vy) (d : Nat) : ∀ (fs : List Field) (c : Bool), eqB Γ xs ys (fs.map fun f => (f.offset, f.type)) = some c → (fs.all fun f => f.name != "_") = true →
    (Op.eqFields (d + 1) vx.toArray vy.toArray fs).run P w = .ok c w
  | [], c, h, _ => by
    simp only [List.map_nil, eqB, Option.some.injEq] at h
    subst h
    simp [Op.eqFields]
  | f :: r, c, h, hn => by
    simp only [List.all_cons, Bool.and_eq_true, bne_iff_ne, ne_eq] at hn
    simp only [List.map_cons, eqB] at h
    have und := (hΓ f.type).und
    have hcell : ∀ (l : List SV) (cs : List Value) (x : SV), DenL E l cs → nth l f.offset = some x → ∃ v, cs[f.offset]? = some v ∧ Den E x v := fun l cs x hl hnx => by
      rw [nth_eq] at hnx
      have hlt : f.offset < l.length := (List.getElem?_eq_some_iff.1 hnx).1
      have hlen := denL_length _ _ hl
      refine ⟨cs[f.offset]'(by omega), List.getElem?_eq_getElem (by omega), ?_⟩
      have := denL_get l cs f.offset undef hl
      rw [List.getElem?_eq_getElem (by omega)] at this
      have h2 : lget l f.offset = x := by
        have aux : ∀ (l : List SV) (n : Nat) (x : SV), l[n]? = some x → lget l n = x := by
          intro l
          induction l with
          | nil => intro n x h; simp at h
          | cons y r ih => intro n x h; cases n with
            | zero => simpa [lget] using h
            | succ n => simp only [lget]; exact ih n x (by simpa using h)
        exact aux _ _ _ hnx
      rw [h2] at this
      exact this
    split at h
    · rename_i x y e2 e3
      split at h
      · rename_i a e1
        split at h
        · rename_i c' e4
          simp only [Option.some.injEq] at h
          subst h
          obtain ⟨v1, p1, p2⟩ := hcell _ _ _ hx e2
          obtain ⟨v2, p3, p4⟩ := hcell _ _ _ hy e3
          have ih := eqB_sound (P := P) (w := w) hΓ hx hy d r c' e4 hn.2
          have main : (part f.type vx.toArray f.offset).run P w = .ok v1 w ∧ (part f.type vy.toArray f.offset).run P w = .ok v2 w ∧ (Op.equalIn (d + 1) f.type v1 v2).run P w = .ok a w := by
            unfold leafEq at e1
            split at e1
            · rename_i a' b' e5
              simp only [Option.some.injEq] at e1
              subst e1
              rw [e5] at und
              simp only [TD.ok] at und
              simp only [Den] at p2 p4
              subst p2; subst p4
              exact ⟨by simp [part, isAgg, run_underlying und, p1], by simp [part, isAgg, run_underlying und, p3], run_equalIn_bool' w d f.type a' b' und⟩
            · rename_i k k1 a' k2 b' e5
              split at e1
              · rename_i hk
                obtain ⟨rfl, rfl⟩ := hk
                simp only [Option.some.injEq] at e1
                subst e1
                rw [e5] at und
                simp only [TD.ok] at und
                simp only [Den] at p2 p4
                subst p2; subst p4
                exact ⟨by simp [part, isAgg, run_underlying und, p1], by simp [part, isAgg, run_underlying und, p3], by simp [Op.equalIn, run_underlying und]⟩
              · cases e1
            · rename_i a' b' e5
              simp only [Option.some.injEq] at e1
              subst e1
              rw [e5] at und
              simp only [TD.ok] at und
              simp only [Den] at p2 p4
              subst p2; subst p4
              exact ⟨by simp [part, isAgg, run_underlying und, p1], by simp [part, isAgg, run_underlying und, p3], by simp [Op.equalIn, run_underlying und]⟩
            · cases e1
          obtain ⟨q1, q2, q3⟩ := main
          simp only [Op.eqFields]
          rw [if_pos hn.1]
          simp only [Sem.run_bind, q1, q2, Result.andThen_ok, q3]
          cases hab : a
          · simp
          · simpa using ih
        · cases h
      · cases h
    · cases h

theorem evEff_sound {P : Program} {Γ : Tab} (hΓ : Γ.ok P) {E : Env} {st : SS} {a : Act} {w : World} (hf : Fr E st a) (hw : Good E st w) {o : Oper} {K : SS → Prop} (h : evEff P Γ st o K)
    {next : Act → World → Prop} {Q : Exit → Act → World → Prop} (hn : ∀ E' st' a' w', E.Le E' → Fr E' st' a' → Good E' st' w' → K st' → next a' w') : o.wp P a w next Q := by
  have fin : ∀ {v : Value} {E' : Env} {st' : SS} {sv : SV} {w' : World}, E.Le E' → Good E' st' w' → Den E' sv v → (st'.fr = st.fr ∧ st'.df = st.df) → K (st'.put o.dst sv) → next (a.put o.dst v) w' := by
    intro v E' st' sv w' h1 h2 h3 h4 h5
    refine hn E' (st'.put o.dst sv) _ w' h1 (Fr.put ?_ _ h3) (h2.put _ _) h5
    exact ⟨by rw [h4.1]; exact DenL.mono h1 _ _ hf.tmps, by rw [h4.2]; exact hf.defers⟩
  unfold evEff at h
  split at h
  · rename_i t ho
    obtain ⟨h1, h2⟩ := h
    obtain ⟨i, z, hi, his, hib, hiz, hzc⟩ := Tab.info hΓ t h1
    obtain ⟨E', q1, q2, q3⟩ := hw.alloc_named (ls := (Γ t).zero.map ofLeaf) (cs := z.cells) t (by rw [hzc]; exact denL_ofLeaf E _)
    refine wp_value (v := .pointer (some ⟨w.heap.size, 0, none⟩)) (w' := w.alloc (.cells z.cells t)) ?_ (fin q1 q3 (by simp only [Den]; exact ⟨_, q2, rfl⟩) ⟨rfl, rfl⟩ h2)
    simp only [execOp, ho]
    simp [Instr.alloc, run_zero hi hiz, newVar, newRow]
    try rfl
  · rename_i t x ho
    split at h
    · rename_i ls e1
      obtain ⟨h1, h2⟩ := h
      have hx := opd_den hf rfl h1
      obtain ⟨E', q1, q2, q3⟩ := hw.alloc_named (ls := ls) (cs := (a.eval x).cells) t (denL_leaves hx e1)
      refine wp_value (v := .pointer (some ⟨w.heap.size, 0, none⟩)) (w' := w.alloc (.cells (a.eval x).cells t)) ?_ (fin q1 q3 (by simp only [Den]; exact ⟨_, q2, rfl⟩) ⟨rfl, rfl⟩ h2)
      simp only [execOp, ho]
      simp [Instr.box, newVar, newRow]
      try rfl
    · exact h.elim
  · rename_i t ad x ho
    split at h
    · rename_i n off ls e1 e2
      split at h
      · rename_i T l e3
        obtain ⟨h1, h2, h3, h4, h5, h6, h7⟩ := h
        have hx := opd_den hf rfl h2
        have hlv := denL_leaves hx e2
        have hp := opd_den hf rfl h1
        rw [e1] at hp
        simp only [Den] at hp
        obtain ⟨b', hb', ep⟩ := hp
        obtain ⟨b, w', q1, q2, q3⟩ := hw.store e3 off hlv h5 P (allOne_sound hlv h6)
        obtain rfl : b' = b := by rw [q1] at hb'; injection hb' with e; exact e.symm
        obtain ⟨i, z, hi, his, hib, hiz, hzc⟩ := Tab.info hΓ t h3
        have hsz : (a.eval x).cells.size = i.size := by rw [← Array.length_toList, leaves_one hx e2, h4, his]
        refine wp_skip' (w' := w') ?_ (fin (Env.Le.refl E) q3 (by simp only [Den]) ⟨rfl, rfl⟩ h7)
        simp only [execOp, ho]
        simp [Instr.storeAt, Instr.sureAddr, ep, storeVar, run_sizeOf' hi, hsz, q2]
      · exact h.elim
    · exact h.elim
  · rename_i t len parts ho
    split at h
    · rename_i e e1
      have hd := (hΓ t).und
      rw [e1] at hd
      simp only [TD.ok] at hd
      split at h
      · rename_i k e2
        split at h
        · rename_i l e3
          obtain ⟨h1, h2, h3, h4, h5, h6⟩ := h
          obtain ⟨i, z, hi, his, hib, hiz, hzc⟩ := Tab.info hΓ e (by rw [e2]; simp)
          have hden := denL_ops hf rfl _ h1
          have hvs := intsOf_sound (E := E) (k := k) _ 0 l (parts.toList.map fun p => (p.1, a.eval p.2)) e3 (by simp [Function.comp_def]) (by simpa [Function.comp_def] using hden)
          have hparts : (parts.map fun (p : Nat × Operand) => (p.1, a.eval p.2)).toList = parts.toList.map fun p => (p.1, a.eval p.2) := by simp
          obtain ⟨E', q1, q2, q3⟩ := new_ints hw k e l #[] l.length (Nat.le_refl _) (by simp) (by omega)
          refine wp_value (v := .slice (some ⟨w.heap.size, 0, none⟩) len len) (w' := w.alloc (.cells ((l.map (Value.int k)).toArray) e)) ?_ (fin q1 (st' := st.addTok) (by rw [Array.append_empty] at q2; exact q2) (by rw [h2] at q3; exact q3) ⟨rfl, rfl⟩ h6)
          have h16 : ¬ (16777216 < len * 1) := by omega
          have his1 : i.size = 1 := his.trans h4
          simp only [execOp, ho]
          have hrun : (Instr.buildSlice t len (parts.map fun (p : Nat × Operand) => (p.1, a.eval p.2))).run P w = .ok (.slice (some ⟨w.heap.size, 0, none⟩) len len) (w.alloc (.cells ((l.map (Value.int k)).toArray) e)) := by
            simp only [Instr.buildSlice, Sem.run_bind, run_underlying hd, Result.andThen_ok, run_sizeOf' hi, his1]
            rw [if_neg (by simpa using h16)]
            by_cases h0 : len = 0
            · subst h0
              have hl0 : l = [] := by simpa using h2
              subst hl0
              have hv0 : (parts.map fun (p : Nat × Operand) => (p.1, a.eval p.2)).toList = [] := by rw [hparts, hvs]; simp
              rw [hv0]
              simp [Instr.fill, newRow]
              rw [show Array.range 0 = #[] from rfl]
              simp
            · have hfill := fill_ints k l 0 ((Array.range (len * 1)).map (fun j => z.cells[j % z.cells.size]!)) (by simp [h2]) (fun _ _ => trivial)
              rw [if_neg (by omega)]
              simp only [Sem.run_bind, Sem.run_pure, Result.andThen_ok, run_zero hi hiz]
              rw [hparts, hvs, hfill]
              simp [newRow]
              try rfl
          rw [Sem.run_bind, hrun]
          rfl
        · exact h.elim
      · split at h
        · rename_i L e3
          obtain ⟨h1, h2, ⟨h3', h3⟩, h4, h5⟩ := h
          obtain ⟨i, z, hi, his, hib, hiz, hzc⟩ := Tab.info hΓ e h4
          have hden := denL_ops hf rfl _ h1
          obtain ⟨us, p1, p2, p3, p4⟩ := rowsOf_sound (E := E) _ 0 L (parts.toList.map fun p => (p.1, a.eval p.2)) e3 (by simp [Function.comp_def]) (by simpa [Function.comp_def] using hden)
          have hlen : us.length = len := p2.trans h2
          obtain ⟨cs', f1, f2, f3, f4⟩ := fill_rows (Γ e).size us 0 ((Array.range (len * (Γ e).size)).map (fun j => (if len * (Γ e).size = 0 then #[] else z.cells)[j % (if len * (Γ e).size = 0 then (#[] : Array Value) else z.cells).size]!)) (by simp [hlen]) p3
          obtain ⟨E', q1, q2, q3, q4, q5⟩ := hw.alloc_tok cs' e (Γ e).size len len (Nat.le_refl _) (by rw [f2]; simp)
          have hparts : (parts.map fun (p : Nat × Operand) => (p.1, a.eval p.2)).toList = us.mapIdx (fun i v => (0 + i, v)) := by rw [← p1]; simp
          refine wp_value (v := .slice (some ⟨w.heap.size, 0, none⟩) len len) (w' := w.alloc (.cells cs' e)) ?_ (fin q1 (st' := st.addTok) q5 ?_ ⟨rfl, rfl⟩ h5)
          · simp only [execOp, ho]
            have hrun : (Instr.buildSlice t len (parts.map fun (p : Nat × Operand) => (p.1, a.eval p.2))).run P w = .ok (.slice (some ⟨w.heap.size, 0, none⟩) len len) (w.alloc (.cells cs' e)) := by
              have h16 : ¬ (16777216 < len * (Γ e).size) := by omega
              simp only [Instr.buildSlice, Sem.run_bind, run_underlying hd, Result.andThen_ok, run_sizeOf' hi, his]
              rw [if_neg (by simpa using h16)]
              by_cases h0 : len * (Γ e).size = 0
              · simp only [if_pos h0] at f1
                simp only [if_pos h0, Sem.run_bind, Sem.run_pure, Result.andThen_ok]
                rw [hparts, f1]
                simp [newRow]
              · rw [if_neg h0]
                simp only [if_neg h0] at f1
                simp only [Sem.run_bind, Sem.run_pure, Result.andThen_ok, run_zero hi hiz]
                rw [hparts, f1]
                simp [newRow]
            rw [Sem.run_bind, hrun]
            rfl
          · simp only [Den]
            have hcap' : len ≤ 9223372036854775807 := by omega
            refine ⟨_, len, rfl, Nat.le_refl _, hcap', fun i hi => ⟨_, 0, rfl, fun j hj => ?_⟩, by rw [q2]; exact TokV.self (Nat.le_refl _), fun _ a n c ee => ?_⟩
            · have hu : us[i]? = some us[i] := List.getElem?_eq_getElem (by omega)
              have hc := f4 i us[i] hu j hj
              have hsz := p3 us[i] (List.getElem_mem _)
              have hc' : us[i].cells[j]? = some (us[i].cells[j]'(by omega)) := Array.getElem?_eq_getElem (by omega)
              rw [hc', Nat.zero_add] at hc
              have hlt : i * (Γ e).size + j < len * (Γ e).size := by
                have : (i + 1) * (Γ e).size ≤ len * (Γ e).size := Nat.mul_le_mul_right _ hi
                rw [Nat.add_mul] at this
                omega
              refine ⟨_, by rw [Nat.zero_add]; exact q3 _ _ hlt hc, ?_⟩
              have hdl := p4 i us[i] hu
              have := denL_get _ _ j undef hdl
              have hj2 : us[i].cells.toList[j]? = some (us[i].cells[j]'(by omega)) := by rw [Array.getElem?_toList]; exact hc'
              rw [hj2] at this
              exact Den.mono q1 _ _ this
            · injection ee with ee1
              injection ee1 with ee1
              rw [← ee1]; exact q4
        · exact h.elim
    · exact h.elim
  · rename_i t x ho
    split at h
    · rename_i y x1 x2
      obtain ⟨h1, h2⟩ := h
      have dx := opd_den hf rfl h1
      rw [x1] at dx
      simp only [Den] at dx
      have hd := (hΓ t).und
      rw [x2] at hd
      simp only [TD.ok] at hd
      refine wp_value (v := .pointer (some ⟨w.heap.size, 0, none⟩)) (w' := w.alloc (.stringIter y 0)) ?_ (fin (Env.Le.refl E) (hw.alloc_res (.stringIter y 0)) (by simp only [Den]) ⟨rfl, rfl⟩ (h2 w.heap.size))
      simp only [execOp, ho, dx]
      simp [Instr.range, run_underlying hd, newObj]
      rfl
    · exact h.elim
  · rename_i t n c ho
    split at h
    · rename_i k1 n' k2 c' e x1 x2 x3
      split at h
      · rename_i k y1
        obtain ⟨h1, h2, h3, h4, h5, h6, h7, h8, h9⟩ := h
        have hd := (hΓ t).und
        rw [x3] at hd
        simp only [TD.ok] at hd
        obtain ⟨i, z, hi, his, hib, hiz, hzc⟩ := Tab.info hΓ e (by rw [y1]; simp)
        have dn := opd_den hf rfl h1
        have dc := opd_den hf rfl h2
        rw [x1] at dn
        rw [x2] at dc
        simp only [Den] at dn dc
        have hz1 : z.cells = #[Value.int k 0] := by apply Array.ext'; rw [hzc, h8]
        have hr := run_make (P := P) w t e i z hd hi hiz k1 k2 n' c' h3 h4 (by rw [hib]; exact h5) h6
        rw [hz1, his, h7] at hr
        have hm : madeCells #[Value.int k 0] (c'.toNat * 1) = ((List.replicate n'.toNat (0 : Int)).map (Value.int k)).toArray ++ (List.replicate (c'.toNat - n'.toNat) (Value.int k 0)).toArray := by
          apply Array.ext'
          rw [toList_madeCells_one]
          simp [List.replicate_append_replicate]
          omega
        rw [hm] at hr
        obtain ⟨E', q1, q2, q3⟩ := new_ints hw k e (List.replicate n'.toNat 0) (List.replicate (c'.toNat - n'.toNat) (Value.int k 0)).toArray c'.toNat (by simp; omega) (by simp; omega) (by omega)
        rw [List.length_replicate] at q3
        refine wp_value (v := .slice (some ⟨w.heap.size, 0, none⟩) n'.toNat c'.toNat) ?_ (fin q1 (st' := st.addTok) q2 q3 ⟨rfl, rfl⟩ h9)
        simp only [execOp, ho]
        rw [dn, dc, Sem.run_bind, hr]
        rfl
      · exact h.elim
    · exact h.elim
  · rename_i s d x ho
    have mark : ∀ (tg : Tag) (l : List Int), (∀ v, TagOK E 1 v tg → ∀ a n c, 0 < n → v = .slice (some a) n c → Mut E a.block) → opd st x = .ints .u8 tg l → ∀ e e', (Γ s).d = .slice e → (Γ d).d = .slice e' → ovc st true x → s = d → (Γ e).d = .int .u8 → l ≠ [] → K (st.put o.dst (.ints .u8 tg l)) → o.wp P a w next Q := by
      intro tg l htg e1 e e' e2 e3 h1 h2 h3 h4 h5
      subst h2
      have dx := opd_den hf rfl h1
      rw [e1] at dx
      have dx' := dx
      simp only [Den] at dx
      obtain ⟨p, cap, hv, hc, h63, q, ht⟩ := dx
      obtain ⟨y, ys, rfl⟩ := List.exists_cons_of_ne_nil h4
      obtain ⟨b, off, rfl, hμ⟩ := q 0 y (by simp)
      have hmut := htg _ ht ⟨b, off, none⟩ _ _ (by simp) hv
      obtain ⟨w', k1, k2⟩ := hw.mark P (b := b) (off := off) hmut hμ rfl
      have hs := (hΓ s).und
      rw [e2] at hs
      have hu := (hΓ e).und
      rw [h3] at hu
      simp only [TD.ok] at hs hu
      refine wp_value (v := a.eval x) (w' := w') ?_ (fin (Env.Le.refl E) k2 dx' ⟨rfl, rfl⟩ h5)
      simp only [execOp, ho, hv]
      have : (convert s s (.slice (some ⟨b, off, none⟩) (y :: ys).length cap)).run P w = .ok (.slice (some ⟨b, off, none⟩) (y :: ys).length cap) w' := by
        simp [convert, run_underlying hs, run_underlying hu, k1]
      rw [Sem.run_bind, this]
      rfl
    split at h
    · rename_i τ b l e e' x1 x2 x3
      obtain ⟨h1, h2, h3, h4, h6, h5⟩ := h
      refine mark _ _ (fun v hv a n c hn e => ?_) x1 _ _ x2 x3 h1 h2 h3 h4 h5
      simp only [TagOK] at hv
      obtain ⟨⟨a0, n0, c0, j, p, e1, e2, e3, e4, e5⟩, _⟩ := hv
      obtain ⟨κ, hk⟩ := hw.own
      obtain ⟨sz, a', len, cap, q1, q2, q3⟩ := hk.tk τ (tkMem_sound _ _ h6)
      rw [e1] at q1
      simp only [Option.some.injEq, Prod.mk.injEq, Value.slice.injEq] at q1
      obtain ⟨rfl, rfl, rfl, rfl⟩ := q1
      rw [e] at e4
      simp only [Value.slice.injEq] at e4
      obtain ⟨rfl, rfl, rfl⟩ := e4
      rcases q3 with q3 | ⟨b', off, T, cs, rfl, q5, q6, _⟩
      · rcases e5 with e5 | e5
        · omega
        · rw [q3.2] at e5; cases e5
      · rcases e5 with e5 | e5
        · omega
        · simp only [Option.map_some, Option.some.injEq] at e5
          rw [e5]
          simp only [Addr.add]
          split <;> exact q6
    · rename_i y e x1 x2 x3
      obtain ⟨h1, h3, h4, h5⟩ := h
      have dx := opd_den hf rfl h1
      rw [x1] at dx
      simp only [Den] at dx
      have hs := (hΓ s).und
      rw [x2] at hs
      have hd := (hΓ d).und
      rw [x3] at hd
      have hu := (hΓ e).und
      rw [h3] at hu
      simp only [TD.ok] at hs hd hu
      have hr := run_bytes_of_string (P := P) w s d e y hs hd hu
      have hgc1 := grownCap_ge w y.size 0 e
      have hgc2 := grownCap_le_maxLen w y.size 0 e (by unfold maxLen; omega)
      generalize hg : grownCap w y.size 0 e = cap at hr hgc1 hgc2
      have hrow : bytesRow y cap = ((bytesOf y).map (Value.int .u8)).toArray ++ Array.replicate (cap - y.size) (.int .u8 0) := by
        unfold bytesRow bytesOf
        congr 1
        apply Array.ext'
        simp [Function.comp_def]
      have hlen : (bytesOf y).length = y.size := by simp [bytesOf]
      obtain ⟨E', q1, q2, q3⟩ := new_ints hw.drewN .u8 e (bytesOf y) (Array.replicate (cap - y.size) (.int .u8 0)) cap (by rw [hlen]; exact hgc1) (by rw [hlen]; simp; omega) (by unfold maxLen at hgc2; omega) ((bytesRow y cap).size, (bytesRow y cap).size + 1) (.inr (by rw [hrow]; simp))
      rw [hlen] at q3
      rw [← hrow] at q2
      refine wp_value (v := .slice (some ⟨w.heap.size, 0, none⟩) y.size cap) ?_ (fin q1 (st' := st.addTok) q2 q3 ⟨rfl, rfl⟩ h5)
      simp only [execOp, ho, dx]
      rw [Sem.run_bind, hr]
      rfl
    · exact h.elim
  · rename_i op t x y ty ho
    split at h
    · rename_i e e1 e2
      obtain ⟨h1, h2⟩ := h
      have hd := (hΓ t).und
      rw [e1] at hd
      simp only [TD.ok] at hd
      obtain ⟨c, q1, q2⟩ := evSliceNil_sound (P := P) (w := w) hd (opd_den hf rfl h1) h2 (xo := x) (yo := y)
      refine wp_value (v := .bool c) (w' := w) ?_ (fin (Env.Le.refl E) hw (by simp only [Den]) ⟨rfl, rfl⟩ q2)
      simp only [execOp, ho]
      rw [isNilS_eval (a := a) e2]
      rw [Sem.run_bind, q1]
      rfl
    · rename_i fs e1
      split at h
      · rename_i xs ys x1 x2
        split at h
        · rename_i c e3
          obtain ⟨h1, h2, h3, h4⟩ := h
          have dx := opd_den hf rfl h1
          have dy := opd_den hf rfl h2
          rw [x1] at dx
          rw [x2] at dy
          simp only [Den] at dx dy
          obtain ⟨vx, v1, dx⟩ := dx
          obtain ⟨vy, v2, dy⟩ := dy
          have hd := (hΓ t).und
          rw [e1] at hd
          simp only [TD.ok] at hd
          obtain ⟨fields, hd, hfs⟩ := hd
          have hfo : P.fieldsOf t = fields := by simp [Program.fieldsOf, hd]
          unfold eqPlain at h3
          simp only [Bool.and_eq_true, Bool.not_eq_true'] at h3
          have hq := eqB_sound (P := P) (w := w) hΓ dx dy 9998 fields.toList c (by rw [hfs]; exact e3) (by rw [← hfo]; exact h3.2)
          refine wp_value (v := .bool c) (w' := w) ?_ (fin (Env.Le.refl E) hw (by simp only [Den]) ⟨rfl, rfl⟩ h4)
          simp only [execOp, ho, v1, v2]
          have r1 := run_eqGuard_agg (P := P) w .eql t x y vx.toArray vy.toArray h3.1.1
          have r2 := run_eql_struct (P := P) w t vx.toArray vy.toArray
          rw [run_equalIn_struct w 9999 t _ _ (by rw [hfo]; exact hd) h3.1.2, hfo, hq] at r2
          simp only [Sem.run_bind, r1, Result.andThen_ok, r2]
          rfl
        · exact h.elim
      · exact h.elim
    · exact h.elim
  · rename_i c ho
    exact evCall_sound hΓ hf hw ho h hn
  · exact h.elim
end Go.Eng
