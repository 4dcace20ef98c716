/- Texts joined, in order: Ek, El. -/
import Derived.Test.YtlgpcngfcglanaaGreatZEaGc
import Derived.Laws.IdiomStrings
import Derived.Laws.MakeOwn
import Derived.Laws.OwnMore
import Derived.Laws.StructEq
import Derived.Maps.RangeRun
import Derived.TacticsIn
/- The engine, part K: one operation, a region, a function's code. -/
namespace Go.Eng
open Go Go.MapKept
set_option linter.unusedVariables false
set_option linter.unusedSimpArgs false

def isNilS : Operand → Bool
  | .const (.slice none 0 0) => true
  | _ => false

/-- A capacity that is the text's own constant 64: the slice is a row that is written. -/
def isRoom : Operand → Bool
  | .const (.int _ 64) => true
  | _ => false
theorem isRoom_eval {a : Act} {c : Operand} (h : isRoom c = true) : ∃ k, a.eval c = .int k 64 := by
  unfold isRoom at h
  split at h
  · exact ⟨_, rfl⟩
  · cases h
theorem Good.rsMap {E : Env} {st : SS} {w : World} (h : Good E st w) {rs' : List (Nat × Res)} (hr : ∀ r R, (r, R) ∈ rs' → ∃ Q, (r, Q) ∈ st.rs ∧ ∀ F, Q.holds E.μ F w → R.holds E.μ F w) : Good E { st with rs := rs' } w := by
  obtain ⟨κ, hk⟩ := h.own
  refine ⟨h.k, h.kx, h.os, h.tape, h.output, h.size, h.old, h.mu, h.nxρ, h.nxθ, κ, hk.hp, hk.tk, fun m R hm => ?_, hk.mu, hk.dom⟩
  obtain ⟨Q, q1, q2⟩ := hr m R hm
  obtain ⟨F, h1, h2⟩ := hk.rs _ _ q1
  exact ⟨F, q2 F h1, h2⟩

def evSliceNil (op : BinOp) (x : SV) (K : Bool → Prop) : Prop :=
  match op, x with
  | .eql, .ints _ .nil _ => K true
  | .neq, .ints _ .nil _ => K false
  | .eql, .ints _ _ l => ∀ c, (c = true → l = []) → K c
  | .neq, .ints _ _ l => ∀ c, (c = false → l = []) → K c
  | .eql, .sl _ _ n _ => ∀ c, (c = true → n = 0) → K c
  | .neq, .sl _ _ n _ => ∀ c, (c = false → n = 0) → K c
  | .eql, .raw (.slice p _ _) => (p = none → K true) ∧ (p ≠ none → K false)
  | .neq, .raw (.slice p _ _) => (p = none → K false) ∧ (p ≠ none → K true)
  | _, _ => False

/-- What follows a call. -/
def callK (K : SS → Prop) (dst : Option Tmp) (sv : SV) (st : SS) : Prop := K (st.put dst sv)
theorem callK_eq {K : SS → Prop} {dst : Option Tmp} {sv : SV} {st : SS} : callK K dst sv st = K (st.put dst sv) := rfl
def nilK (K : SS → Prop) (st : SS) (dst : Option Tmp) (c : Bool) : Prop := K (st.put dst (.b c))
theorem nilK_eq {K : SS → Prop} {st : SS} {dst : Option Tmp} {c : Bool} : nilK K st dst c = K (st.put dst (.b c)) := rfl

/-- An append: to numbers, or to a row of one's own; of numbers, or of what a row shows. -/
def evAppendX (Γ : Tab) (st : SS) (dst : Option Tmp) (t t2 : TypeId) (s x : SV) (K : SS → Prop) : Prop :=
  match s with
  | .raw v => match v with
    | .slice p n c => rowApp Γ st dst t t2 p n c x K
    | _ => False
  | s => match x with
    | .raw v => match v with
      | .slice p n c => appRow Γ st dst t t2 s p n K
      | _ => False
    | .sl sz tg m el => match (Γ t).d with
      | .slice e => slAppend Γ st dst e t2 s (.sl sz tg m el) K
      | _ => False
    | x => evAppend Γ st dst t t2 s x K
def evCopy (Γ : Tab) (st : SS) (dst : Option Tmp) (t : TypeId) (s x : SV) (K : SS → Prop) : Prop :=
  match s with
  | .raw v => match v with
    | .slice p n c => rowCopy Γ st dst t p n x K
    | _ => False
  | _ => False
theorem evAppendX_sound {P : Program} {Γ : Tab} (hΓ : Γ.ok P) {E : Env} {st : SS} {w : World} (hw : Good E st w) {dst : Option Tmp} {t t2 ty : TypeId} {s x : SV} {vs vx : Value} (hs : Den E s vs) (hx : Den E x vx) {K : SS → Prop}
    (h : evAppendX Γ st dst t t2 s x K) : ∃ v w' E' st' sv, (Builtin.append_ #[t, t2] ty #[vs, vx]).run P w = .ok v w' ∧ E.Le E' ∧ Good E' st' w' ∧ Den E' sv v ∧ (st'.fr = st.fr ∧ st'.df = st.df) ∧ K (st'.put dst sv) := by
  unfold evAppendX at h
  split at h
  · split at h
    · simp only [Den] at hs
      subst hs
      exact rowApp_sound hΓ hw hx h
    · exact h.elim
  · split at h
    · split at h
      · simp only [Den] at hx
        subst hx
        exact appRow_sound hΓ hw hs h
      · exact h.elim
    · split at h
      · rename_i e1
        have hd := (hΓ t).und
        rw [e1] at hd
        exact slAppend_sound hΓ hw hd hs hx h
      · exact h.elim
    · exact evAppend_sound hΓ hw hs (fun k m e w' hh => appd_run hΓ e hx (fun a v e => by rw [cell_heap hh]; exact hw.mu a v e)) h
theorem evCopy_sound {P : Program} {Γ : Tab} (hΓ : Γ.ok P) {E : Env} {st : SS} {w : World} (hw : Good E st w) {dst : Option Tmp} {t t2 ty : TypeId} {s x : SV} {vs vx : Value} (hs : Den E s vs) (hx : Den E x vx) {K : SS → Prop}
    (h : evCopy Γ st dst t s x K) : ∃ v w' E' st' sv, (Builtin.copy_ #[t, t2] ty #[vs, vx]).run P w = .ok v w' ∧ E.Le E' ∧ Good E' st' w' ∧ Den E' sv v ∧ (st'.fr = st.fr ∧ st'.df = st.df) ∧ K (st'.put dst sv) := by
  unfold evCopy at h
  split at h
  · split at h
    · simp only [Den] at hs
      subst hs
      exact rowCopy_sound hΓ hw hx h
    · exact h.elim
  · exact h.elim

def evCall (P : Program) (Γ : Tab) (st : SS) (dst : Option Tmp) (c : Call) (K : SS → Prop) : Prop :=
  match c.callee with
  | .value f =>
    match opd st f with
    | .fn (.func f') first cap => ovc st true f ∧ ovcL st true c.args.toList ∧ CallOK P f' (first ++ c.args.toList.map (opd st) ++ cap) st (callK K dst)
    | _ => False
  | .invoke r name => ovc st true r ∧ ovcL st true c.args.toList ∧ InvOK P (opd st r) name (c.args.toList.map (opd st)) st (callK K dst)
  | .builtin .append =>
    match c.args.toList, c.argTypes.toList with
    | [s, x], [t, t2] => ovc st true s ∧ ovc st true x ∧ evAppendX Γ st dst t t2 (opd st s) (opd st x) K
    | _, _ => False
  | .builtin .copy =>
    match c.args.toList, c.argTypes.toList with
    | [s, x], [t, t2] => ovc st true s ∧ ovc st true x ∧ evCopy Γ st dst t (opd st s) (opd st x) K
    | _, _ => False
  | .builtin .len =>
    match c.args.toList, c.argTypes.toList with
    | [x], [t] => match (Γ t).d with
      | .map _ _ => match evLenM st true x with
        | some (r, vc) => vc ∧ K (st.put dst r)
        | none => False
      | _ => False
    | _, _ => False
  | _ => False

def pickL : List (List SV) → Nat → List SV
  | [], _ => []
  | x :: _, 0 => x
  | _ :: r, n + 1 => pickL r n
def elOf (L : List (List SV)) (i j : Nat) : SV := lget (pickL L i) j
/-- Parts in a row, each of so many cells. -/
def rowsOf (sz : Nat) : List (Nat × SV) → Nat → Option (List (List SV))
  | [], _ => some []
  | (i, x) :: r, j =>
    match leaves x with
    | some ls =>
      if i = j ∧ ls.length = sz then
        match rowsOf sz r (j + 1) with
        | some L => some (ls :: L)
        | none => none
      else none
    | none => none
/-- '==' of two plain structs. -/
def leafEq (d : TD) (x y : SV) : Option Bool :=
  match d, x, y with
  | .bool, .b a, .b b => some (a == b)
  | .int k, .i k1 a, .i k2 b => if k1 = k ∧ k2 = k then some (a == b) else none
  | .str, .s a, .s b => some (a == b)
  | _, _, _ => none
def eqB (Γ : Tab) (xs ys : List SV) : List (Nat × TypeId) → Option Bool
  | [] => some true
  | (o, t) :: r =>
    match nth xs o, nth ys o with
    | some x, some y =>
      match leafEq (Γ t).d x y with
      | some a =>
        match eqB Γ xs ys r with
        | some c => some (a && c)
        | none => none
      | none => none
    | _, _ => none
def eqPlain (P : Program) (t : TypeId) : Bool := !P.eqGuardType P.depth t && !P.stoodInHeld t && (P.fieldsOf t).toList.all fun f => f.name != "_"

/-- A text's bytes. -/
def bytesOf (y : ByteArray) : List Int := y.data.toList.map fun b => (b.toNat : Int)

/-- A map with one entry set. -/
def mapPut (l : List SV) (f : Option (Nat × SV)) (k v : SV) (K : List SV → Prop) : Prop :=
  match f with
  | none => K (l ++ [k, v])
  | some (m, _) => K (lset l (2 * m + 1) v)

def evenB : List SV → Bool
  | [] => true
  | _ :: r => match r with
    | [] => false
    | _ :: r => evenB r
def litsB : List SV → Bool
  | [] => true
  | .i .i64 k :: r => decide (0 ≤ k) && litsB r
  | _ => false
def seenB (j : Nat) : List SV → Bool
  | [] => false
  | .i _ k :: r => decide (k = (j : Int)) || seenB j r
  | _ :: r => seenB j r
/-- The entries that were not handed out. -/
def candL : List SV → Nat → List SV → List (Nat × SV × SV)
  | [], _, _ => []
  | k :: r, j, seen => match r with
    | [] => []
    | v :: r => if seenB j seen then candL r (j + 1) seen else (j, k, v) :: candL r (j + 1) seen
def nextAll : List (Nat × SV × SV) → (Nat → SV → SV → Prop) → Prop
  | [], _ => True
  | (j, k, v) :: r, f => f j k v ∧ nextAll r f
def nextK (l : List (Nat × SV × SV)) (K0 : Prop) (f : Nat → SV → SV → Prop) : Prop :=
  match l with
  | [] => K0
  | x :: r => nextAll (x :: r) f

def evEff (P : Program) (Γ : Tab) (st : SS) (o : Oper) (K : SS → Prop) : Prop :=
  match o.op with
  | .makeMap _ none => K ((st.addBlk 1000000 []).put o.dst (.mp st.nx))
  | .mapUpdate t m k v =>
    match opd st m, (Γ t).d with
    | .mp n, .map kt _ =>
      match hfind st.hp n with
      | some (T, l) => ovc st true m ∧ ovc st true k ∧ ovc st true v ∧ T = 1000000 ∧ keyB (Γ kt).d (opd st k) = true ∧ keysB (Γ kt).d l = true ∧
          mapPut l (findE (opd st k) l 0) (opd st k) (opd st v) (fun l' => K ((st.setBlk n l').put o.dst (.raw undef)))
      | none => False
    | _, _ => False
  | .alloc t => (Γ t).d ≠ .none ∧ t < 1000000 ∧ K ((st.addBlk t ((Γ t).zero.map ofLeaf)).put o.dst (.ptr st.nx 0))
  | .box t x =>
    match leaves (opd st x) with
    | some ls => ovc st true x ∧ t < 1000000 ∧ K ((st.addBlk t ls).put o.dst (.ptr st.nx 0))
    | none => False
  | .store t ad x =>
    match opd st ad, leaves (opd st x) with
    | .ptr n off, some ls =>
      match hfind st.hp n with
      | some (T, l) => ovc st true ad ∧ ovc st true x ∧ (Γ t).d ≠ .none ∧ ls.length = (Γ t).size ∧ off + ls.length ≤ l.length ∧ allOne ls = true ∧ T < 1000000 ∧ K ((st.setBlk n (spl l off ls)).put o.dst (.raw undef))
      | none => False
    | .raw (.pointer q), some ls =>
      if (Γ t).size = 1 then ovc st true ad ∧ ovc st true x ∧ (Γ t).d ≠ .none ∧ ∃ r k p0 c0 l0 i n, (r, RowR k p0 c0 l0) ∈ st.rs ∧ i < l0.length ∧ q = p0.map (·.add i) ∧ ls = [.i k n] ∧
        K (({ st with rs := rsSet st.rs r (RowR k p0 c0 (l0.set i n)) } : SS).put o.dst (.raw undef))
      else ovc st true ad ∧ ovc st true x ∧ (Γ t).d ≠ .none ∧ allOne ls = true ∧ ls.length = (Γ t).size ∧ ls ≠ [] ∧ ∃ r k p0 c0 i, (r, RowR k p0 c0 []) ∈ st.rs ∧ i + ls.length ≤ c0 ∧ q = p0.map (·.add i) ∧
        K (({ st with rs := rsSet st.rs r (RowR k p0 c0 []) } : SS).put o.dst (.raw undef))
    | _, _ => False
  | .load t x =>
    match opd st x with
    | .raw (.pointer q) => ovc st true x ∧ (Γ t).d.agg = false ∧ (Γ t).d ≠ .none ∧ ∃ r k p0 c0 l0 i, (r, RowR k p0 c0 l0) ∈ st.rs ∧ i < l0.length ∧ q = p0.map (·.add i) ∧ K (st.put o.dst (.i k (l0.getD i 0)))
    | _ => False
  | .buildSlice t len parts =>
    match (Γ t).d with
    | .slice e =>
      match (Γ e).d with
      | .int k =>
        match intsOf k (parts.toList.map fun p => (p.1, opd st p.2)) 0 with
        | some l => ovcL st true (parts.toList.map (·.2)) ∧ l.length = len ∧ len ≤ 16777216 ∧ (Γ e).size = 1 ∧ (Γ e).zero.length = 1 ∧ K (st.addTok.put o.dst (.ints k (.tok st.nx true) l))
        | none => False
      | _ =>
        match rowsOf (Γ e).size (parts.toList.map fun p => (p.1, opd st p.2)) 0 with
        | some L => ovcL st true (parts.toList.map (·.2)) ∧ L.length = len ∧ (len ≤ 16777216 ∧ len * (Γ e).size ≤ 16777216) ∧ (Γ e).d ≠ .none ∧ K (st.addTok.put o.dst (.sl (Γ e).size (.tok st.nx true) len (elOf L)))
        | none => False
    | _ => False
  | .range t x =>
    match opd st x, (Γ t).d with
    | .s y, .str => ovc st true x ∧ ∀ b : Nat, K (({ st with rs := (st.nx, RObj b (.stringIter y 0)) :: st.rs, nx := st.nx + 1 } : SS).put o.dst (.raw (.pointer (some ⟨b, 0, none⟩))))
    | .mp n, .map _ _ =>
      match hfind st.hp n with
      | some (T, l) => ovc st true x ∧ T = 1000000 ∧ evenB l = true ∧ K ((st.addBlk 1000001 [.mp n, .i .i64 ((pairsN l : Nat) : Int)]).put o.dst (.ptr st.nx 0))
      | none => False
    | _, _ => False
  | .next it false =>
    match opd st it with
    | .ptr i 0 =>
      match hfind st.hp i with
      | some (T, .mp n :: .i .i64 c :: seen) =>
        match hfind st.hp n with
        | some (T2, l) => ovc st true it ∧ T = 1000001 ∧ T2 = 1000000 ∧ evenB l = true ∧ litsB seen = true ∧ c = ((pairsN l : Nat) : Int) ∧
            nextK (candL l 0 seen) (K (st.put o.dst (.tup [.b false]))) (fun j k v => K ((st.setBlk i (.mp n :: .i .i64 c :: (seen ++ [.i .i64 (j : Int)]))).put o.dst (.tup [.b true, k, v])))
        | none => False
      | _ => False
    | _ => False
  | .makeSlice t n c =>
    match isRoom c with
    | true =>
      match opd st n, (Γ t).d with
      | .i _ n', .slice e =>
        match (Γ e).d with
        | .int k => ovc st true n ∧ 0 ≤ n' ∧ n' ≤ 64 ∧ ((Γ e).bytes : Int) * 64 ≤ 281474976710656 ∧ (Γ e).size = 1 ∧ (Γ e).zero = [Value.int k 0] ∧
            ∀ b : Nat, K (({ st with rs := (st.nx, RowZ e k (some ⟨b, 0, none⟩) 64 (List.replicate n'.toNat 0)) :: st.rs, nx := st.nx + 1 } : SS).put o.dst (.raw (.slice (some ⟨b, 0, none⟩) n'.toNat 64)))
        | _ => False
      | _, _ => False
    | false =>
      match opd st n, opd st c, (Γ t).d with
      | .i _ n', .i _ c', .slice e =>
        match (Γ e).d with
        | .int k => ovc st true n ∧ ovc st true c ∧ 0 ≤ n' ∧ n' ≤ c' ∧ ((Γ e).bytes : Int) * c' ≤ 281474976710656 ∧ c' ≤ 9223372036854775807 ∧ (Γ e).size = 1 ∧ (Γ e).zero = [Value.int k 0] ∧ K (st.addTok.put o.dst (.ints k (.tok st.nx true) (List.replicate n'.toNat 0)))
        | _ => False
      | _, _, _ => False
  | .convert s d x =>
    match opd st x, (Γ s).d, (Γ d).d with
    | .ints .u8 (.tok τ b) l, .slice e, .slice _ => ovc st true x ∧ s = d ∧ (Γ e).d = .int .u8 ∧ l ≠ [] ∧ tkMem st.tk τ = true ∧ K (st.put o.dst (.ints .u8 (.tok τ b) l))
    | .s y, .str, .slice e => ovc st true x ∧ (Γ e).d = .int .u8 ∧ y.size ≤ 140737488355328 ∧ K (st.addTok.put o.dst (.ints .u8 (.tok st.nx true) (bytesOf y)))
    | .raw (.slice p n _), .slice e, .str => ovc st true x ∧ (Γ e).d = .int .u8 ∧ ∃ m, RdOK st.rs .u8 p n m ∧ K (st.put o.dst (.s (strOf m)))
    | _, _, _ => False
  | .binOp op t x y _ =>
    match (Γ t).d, isNilS y with
    | .slice _, true => ovc st true x ∧ evSliceNil op (opd st x) (nilK K st o.dst)
    | .struct fs, _ =>
      match op, opd st x, opd st y with
      | .eql, .agg xs, .agg ys =>
        match eqB Γ xs ys fs with
        | some c => ovc st true x ∧ ovc st true y ∧ eqPlain P t = true ∧ K (st.put o.dst (.b c))
        | none => False
      | .neq, .agg xs, .agg ys =>
        match eqB Γ xs ys fs with
        | some c => ovc st true x ∧ ovc st true y ∧ eqPlain P t = true ∧ K (st.put o.dst (.b (!c)))
        | none => False
      | _, _, _ => False
    | _, _ => False
  | .call c => evCall P Γ st o.dst c K
  | _ => False

theorem wp_value {P : Program} {o : Oper} {a : Act} {w w' : World} {next : Act → World → Prop} {Q : Exit → Act → World → Prop} {v : Value} (h : (execOp a.eval o).run P w = .ok (.value v) w') (hn : next (a.put o.dst v) w') : o.wp P a w next Q := by
  unfold Oper.wp; rw [h]; exact hn

theorem wp_skip' {P : Program} {o : Oper} {a : Act} {w w' : World} {next : Act → World → Prop} {Q : Exit → Act → World → Prop} (h : (execOp a.eval o).run P w = .ok .skip w') (hn : next (a.put o.dst undef) w') : o.wp P a w next Q := by
  unfold Oper.wp; rw [h]; exact hn

theorem wp_enter {P : Program} {o : Oper} {a : Act} {w w' : World} {next : Act → World → Prop} {Q : Exit → Act → World → Prop} {f : FuncId} {ars : Array Value} (h : (execOp a.eval o).run P w = .ok (.enter f ars) w')
    (hn : Calls P f ars w' (fun e w'' => ∃ v, e = .returned v ∧ next (a.put o.dst v) w'')) : o.wp P a w next Q := by
  unfold Oper.wp; rw [h]
  show Calls _ _ _ _ _
  refine hn.mono ?_
  rintro e w'' ⟨v, rfl, h⟩
  exact h

theorem denL_append' {E : Env} {l m n : List SV} {cs ds es : List Value} (h : DenL E l cs) (k : DenL E m ds) (j : DenL E n es) : DenL E (l ++ m ++ n) (cs ++ ds ++ es) := denL_append _ _ _ _ (denL_append _ _ _ _ h k) j

theorem evCall_sound {P : Program} {Γ : Tab} (hΓ : Γ.ok P) {E : Env} {st : SS} {a : Act} {w : World} (hf : Fr E st a) (hw : Good E st w) {o : Oper} {c : Call} (ho : o.op = .call c) {K : SS → Prop} (h : evCall P Γ st o.dst c K)
    {next : Act → World → Prop} {Q : Exit → Act → World → Prop} (hn : ∀ E' st' a' w', E.Le E' → Fr E' st' a' → Good E' st' w' → K st' → next a' w') : o.wp P a w next Q := by
  have fin : ∀ {v : Value} {E' : Env} {st' : SS} {sv : SV} {w' : World}, E.Le E' → Good E' st' w' → Den E' sv v → (st'.fr = st.fr ∧ st'.df = st.df) → K (st'.put o.dst sv) → next (a.put o.dst v) w' := by
    intro v E' st' sv w' h1 h2 h3 h4 h5
    refine hn E' (st'.put o.dst sv) _ w' h1 (Fr.put ?_ _ h3) (h2.put _ _) h5
    exact ⟨by rw [h4.1]; exact DenL.mono h1 _ _ hf.tmps, by rw [h4.2]; exact hf.defers⟩
  unfold evCall at h
  split at h
  · rename_i f e1
    split at h
    · rename_i f' first cap e2
      obtain ⟨h1, h2, h3⟩ := h
      have hd := opd_den hf rfl h1
      rw [e2] at hd
      simp only [Den] at hd
      obtain ⟨fs, cs, ev, d1, d2⟩ := hd
      rcases h3 with h3 | ⟨sv, h3, h4⟩
      · obtain ⟨k1, k2⟩ := h3 E w _ hw (denL_append' d1 (denL_ops hf rfl _ h2) d2)
        refine wp_enter (w' := w) ?_ (k2.mono ?_)
        · rw [← k1]
          simp only [execOp, ho, resolve, e1, ev, Deferred.ofValue, Sem.run_bind, Sem.run_pure, Result.andThen_ok, invoke]
          congr 2
          apply Array.ext'; simp
        · rintro e w'' ⟨v, E', st', sv, rfl, q1, q2, q3, q4, q5⟩
          exact ⟨v, rfl, fin q1 q2 q3 q4 q5⟩
      · obtain ⟨v, k1, k2⟩ := h3 E w _ (denL_append' d1 (denL_ops hf rfl _ h2) d2)
        refine wp_value (v := v) (w' := w) ?_ (fin (Env.Le.refl E) hw k2 ⟨rfl, rfl⟩ h4)
        rw [← k1]
        simp only [execOp, ho, resolve, e1, ev, Deferred.ofValue, Sem.run_bind, Sem.run_pure, Result.andThen_ok, invoke]
        congr 2
        apply Array.ext'; simp
    · exact h.elim
  · rename_i r name e1
    obtain ⟨h1, h2, h3⟩ := h
    obtain ⟨f', ars, k1, k2⟩ := h3 E w _ _ hw (opd_den hf rfl h1) (denL_ops hf rfl _ h2)
    refine wp_enter (w' := w) (f := f') (ars := ars) ?_ (k2.mono ?_)
    · rw [← k1]
      have e0 : (#[a.eval r] ++ c.args.map a.eval) = ((a.eval r) :: c.args.toList.map a.eval).toArray := by apply Array.ext'; simp
      simp only [execOp, ho, resolve, e1, Sem.run_bind, Sem.run_pure, Result.andThen_ok, invoke]
      rw [e0]
      simp only [List.getElem?_toArray, List.getElem?_cons_zero]
      congr 2
      apply Array.ext'; simp
      rw [List.take_of_length_le (by simp)]
    · rintro e w'' ⟨v, E', st', sv, rfl, q1, q2, q3, q4, q5⟩
      exact ⟨v, rfl, fin q1 q2 q3 q4 q5⟩
  · rename_i e1
    split at h
    · rename_i s x t t2 e2 e3
      obtain ⟨h1, h2, h3⟩ := h
      obtain ⟨v, w', E', st', sv, q0, q1, q2, q3, q4, q5⟩ := evAppendX_sound (ty := o.type) hΓ hw (opd_den hf rfl h1) (opd_den hf rfl h2) h3
      refine wp_value (v := v) (w' := w') ?_ (fin q1 q2 q3 q4 q5)
      have e2' : c.args = #[s, x] := by apply Array.ext'; simpa using e2
      have e3' : c.argTypes = #[t, t2] := by apply Array.ext'; simpa using e3
      simp only [execOp, ho, resolve, e1, e2', e3', Sem.run_bind, Sem.run_pure, Result.andThen_ok, invoke, builtin]
      simp [q0]
    · exact h.elim
  · rename_i e1
    split at h
    · rename_i s x t t2 e2 e3
      obtain ⟨h1, h2, h3⟩ := h
      obtain ⟨v, w', E', st', sv, q0, q1, q2, q3, q4, q5⟩ := evCopy_sound (t2 := t2) (ty := o.type) hΓ hw (opd_den hf rfl h1) (opd_den hf rfl h2) h3
      refine wp_value (v := v) (w' := w') ?_ (fin q1 q2 q3 q4 q5)
      have e2' : c.args = #[s, x] := by apply Array.ext'; simpa using e2
      have e3' : c.argTypes = #[t, t2] := by apply Array.ext'; simpa using e3
      simp only [execOp, ho, resolve, e1, e2', e3', Sem.run_bind, Sem.run_pure, Result.andThen_ok, invoke, builtin]
      simp [q0]
    · exact h.elim
  · rename_i e1
    split at h
    · rename_i x t e2 e3
      split at h
      · rename_i kt et e4
        split at h
        · rename_i r vc e5
          obtain ⟨v, q0, q1⟩ := evLenM_sound (ty := o.type) hΓ hf hw rfl e4 e5 h.1
          refine wp_value (v := v) (w' := w) ?_ (fin (Env.Le.refl E) hw q1 ⟨rfl, rfl⟩ h.2)
          have e2' : c.args = #[x] := by apply Array.ext'; simpa using e2
          have e3' : c.argTypes = #[t] := by apply Array.ext'; simpa using e3
          simp only [execOp, ho, resolve, e1, e2', e3', Sem.run_bind, Sem.run_pure, Result.andThen_ok, invoke, builtin]
          simp [q0]
        · exact h.elim
      · exact h.elim
    · exact h.elim
  · exact h.elim

theorem run_zero {P : Program} {t : TypeId} {i : TypeInfo} {z : Value} (h : P.info? t = some i) (hz : i.zero = some z) (w : World) : (zeroValue t).run P w = .ok z w := by simp [zeroValue, typeInfo, h, hz]

theorem evSliceNil_sound {P : Program} {w : World} {E : Env} {op : BinOp} {t e : TypeId} (hd : P.underlying t = some (.slice e)) {x : SV} {vx : Value} (hx : Den E x vx) {K : Bool → Prop} (h : evSliceNil op x K) {xo yo : Operand} :
    ∃ c, (do eqGuard op t xo yo vx (.slice none 0 0); binOp op t vx (.slice none 0 0) : Sem Value).run P w = .ok (.bool c) w ∧ K c := by
  have run : ∀ (p : Option Addr) (n c : Nat), (do eqGuard .eql t xo yo (.slice p n c) (.slice none 0 0); binOp .eql t (.slice p n c) (.slice none 0 0) : Sem Value).run P w = .ok (.bool p.isNone) w := by
    intro p n c
    simp [eqGuard]
    refine eql_of (by simp) (by simp) (by simp) (by simp) fun d => ?_
    cases p <;> simp [Op.equalIn, run_underlying hd]
  have run2 : ∀ (p : Option Addr) (n c : Nat), (do eqGuard .neq t xo yo (.slice p n c) (.slice none 0 0); binOp .neq t (.slice p n c) (.slice none 0 0) : Sem Value).run P w = .ok (.bool (!p.isNone)) w := by
    intro p n c
    have := neq_of (P := P) (w := w) (t := t) (x := .slice p n c) (y := .slice none 0 0) (b := p.isNone) (by simp) (by simp) (by simp) (by simp) (fun d => by cases p <;> simp [Op.equalIn, run_underlying hd])
    simpa [eqGuard] using this
  unfold evSliceNil at h
  split at h
  · simp only [Den] at hx; obtain ⟨p, c, _, _, _, _, hn⟩ := hx; simp only [TagOK] at hn; subst hn; exact ⟨true, run none 0 0, h⟩
  · simp only [Den] at hx; obtain ⟨p, c, _, _, _, _, hn⟩ := hx; simp only [TagOK] at hn; subst hn; exact ⟨false, run2 none 0 0, h⟩
  · rename_i l _
    simp only [Den] at hx; obtain ⟨p, c, rfl, _, _, q, _⟩ := hx
    refine ⟨_, run p _ c, h _ fun hn => ?_⟩
    cases l with
    | nil => rfl
    | cons y ys => obtain ⟨b, off, e, _⟩ := q 0 y (by simp); subst e; simp at hn
  · rename_i l _
    simp only [Den] at hx; obtain ⟨p, c, rfl, _, _, q, _⟩ := hx
    refine ⟨_, run2 p _ c, h _ fun hn => ?_⟩
    cases l with
    | nil => rfl
    | cons y ys => obtain ⟨b, off, e, _⟩ := q 0 y (by simp); subst e; simp at hn
  · rename_i n el
    simp only [Den] at hx; obtain ⟨p, c, rfl, _, _, q, _⟩ := hx
    refine ⟨_, run p _ c, h _ fun hn => ?_⟩
    cases n with
    | zero => rfl
    | succ n => obtain ⟨b, off, e, _⟩ := q 0 (by omega); subst e; simp at hn
  · rename_i n el
    simp only [Den] at hx; obtain ⟨p, c, rfl, _, _, q, _⟩ := hx
    refine ⟨_, run2 p _ c, h _ fun hn => ?_⟩
    cases n with
    | zero => rfl
    | succ n => obtain ⟨b, off, e, _⟩ := q 0 (by omega); subst e; simp at hn
  · simp only [Den] at hx
    subst hx
    rename_i p n c
    refine ⟨_, run p n c, ?_⟩
    cases p with
    | none => exact h.1 rfl
    | some a => exact h.2 (by simp)
  · simp only [Den] at hx
    subst hx
    rename_i p n c
    refine ⟨_, run2 p n c, ?_⟩
    cases p with
    | none => exact h.1 rfl
    | some a => exact h.2 (by simp)
  · exact h.elim

theorem isNilS_eval {a : Act} {y : Operand} (h : isNilS y = true) : a.eval y = .slice none 0 0 := by
  unfold isNilS at h
  split at h
  · rfl
  · cases h

theorem intsOf_sound {E : Env} {k : IntKind} : ∀ (ps : List (Nat × SV)) (j : Nat) (l : List Int) (vs : List (Nat × Value)), intsOf k ps j = some l → vs.map (·.1) = ps.map (·.1) → DenL E (ps.map (·.2)) (vs.map (·.2)) →
    vs = (l.map (Value.int k)).mapIdx (fun i v => (j + i, v))
  | [], j, l, vs, h, h1, _ => by
    simp only [intsOf, Option.some.injEq] at h
    subst h
    simpa using h1
  | (i, .i k' n) :: r, j, l, [], h, h1, h2 => by simp at h1
  | (i, .i k' n) :: r, j, l, (i', v) :: vr, h, h1, h2 => by
    simp only [intsOf] at h
    split at h
    · rename_i hc
      obtain ⟨rfl, rfl⟩ := hc
      split at h
      · rename_i l' e
        simp only [Option.some.injEq] at h
        subst h
        simp only [List.map_cons, List.cons.injEq] at h1
        obtain ⟨rfl, h1⟩ := h1
        simp only [List.map_cons, DenL, Den] at h2
        obtain ⟨rfl, h2⟩ := h2
        have := intsOf_sound r _ l' vr e h1 h2
        rw [this]
        simp only [List.map_cons, List.mapIdx_cons, Nat.add_zero, List.cons.injEq, true_and]
        congr 1
        funext i v
        rw [Nat.add_assoc, Nat.add_comm 1 i]
      · cases h
    · cases h
  | (i, .b _) :: r, j, l, vs, h, _, _ => by simp [intsOf] at h
  | (i, .s _) :: r, j, l, vs, h, _, _ => by simp [intsOf] at h
  | (i, .ptr _ _) :: r, j, l, vs, h, _, _ => by simp [intsOf] at h
  | (i, .nilp) :: r, j, l, vs, h, _, _ => by simp [intsOf] at h
  | (i, .mp _) :: r, j, l, vs, h, _, _ => by simp [intsOf] at h
  | (i, .ints _ _ _) :: r, j, l, vs, h, _, _ => by simp [intsOf] at h
  | (i, .sl _ _ _ _) :: r, j, l, vs, h, _, _ => by simp [intsOf] at h
  | (i, .ep _ _) :: r, j, l, vs, h, _, _ => by simp [intsOf] at h
  | (i, .agg _) :: r, j, l, vs, h, _, _ => by simp [intsOf] at h
  | (i, .tup _) :: r, j, l, vs, h, _, _ => by simp [intsOf] at h
  | (i, .nili) :: r, j, l, vs, h, _, _ => by simp [intsOf] at h
  | (i, .ifc _ _) :: r, j, l, vs, h, _, _ => by simp [intsOf] at h
  | (i, .fn _ _ _) :: r, j, l, vs, h, _, _ => by simp [intsOf] at h
  | (i, .nilf) :: r, j, l, vs, h, _, _ => by simp [intsOf] at h
  | (i, .raw _) :: r, j, l, vs, h, _, _ => by simp [intsOf] at h
  | (i, .cnd _ _) :: r, j, l, vs, h, _, _ => by simp [intsOf] at h
  | (i, .any) :: r, j, l, vs, h, _, _ => by simp [intsOf] at h

/-- A row of numbers written out. -/
theorem fill_ints (k : IntKind) : ∀ (l : List Int) (j : Nat) (cs : Array Value), j + l.length = cs.size → (∀ i, i < j → True) →
    Instr.fill (fun i => some (i * 1, 1)) cs ((l.map (Value.int k)).mapIdx (fun i v => (j + i, v))) = some (cs.toList.take j ++ l.map (Value.int k)).toArray
  | [], j, cs, hj, _ => by
    simp [Instr.fill]
    have : cs.size ≤ j := by simp at hj; omega
    apply Array.ext'; simp; rw [List.take_of_length_le (by simpa using this)]
  | n :: r, j, cs, hj, _ => by
    simp only [List.map_cons, List.mapIdx_cons, Nat.add_zero, Instr.fill]
    have hlt : j < cs.size := by simp at hj; omega
    rw [if_neg (by simp [Value.cells]; omega)]
    have e1 : ((Value.int k n).cells.zipIdx.foldl (fun (cs : Array Value) (p : Value × Nat) => cs.setIfInBounds (j * 1 + p.2) p.1) cs) = cs.setIfInBounds j (.int k n) := by simp [Value.cells]
    have ih := fill_ints k r (j + 1) (cs.setIfInBounds j (.int k n)) (by simp at hj ⊢; omega) (fun _ _ => trivial)
    rw [show (fun i (v : Value) => (j + (i + 1), v)) = (fun i v => (j + 1 + i, v)) by funext i v; congr 1; omega]
    rw [e1, ih]
    congr 2
    simp only [Array.toList_setIfInBounds]
    rw [List.take_set]
    apply List.ext_getElem?
    intro i
    simp only [List.getElem?_append, List.length_set, List.length_take, Array.length_toList, List.getElem?_set, List.getElem?_take]
    by_cases h1 : i < j
    · rw [if_pos (by omega), if_neg (by omega), if_pos (by omega), if_pos (by omega), if_pos (by omega)]
    · by_cases h2 : i = j
      · subst h2
        rw [if_pos (by omega), if_pos rfl, if_pos (by omega), if_neg (by omega)]
        simp [Nat.min_eq_left (Nat.le_of_lt hlt)]
      · rw [if_neg (by omega), if_neg (by omega)]
        rw [show i - min j cs.size = (i - min (j + 1) cs.size) + 1 by omega]
        simp

theorem fill_rows (sz : Nat) : ∀ (vs : List Value) (j : Nat) (cs : Array Value), (j + vs.length) * sz = cs.size → (∀ v ∈ vs, v.cells.size = sz) →
    ∃ cs', Instr.fill (fun i => some (i * sz, sz)) cs (vs.mapIdx (fun i v => (j + i, v))) = some cs' ∧ cs'.size = cs.size ∧ (∀ k, k < j * sz → cs'[k]? = cs[k]?) ∧ ∀ i v, vs[i]? = some v → ∀ d, d < sz → cs'[(j + i) * sz + d]? = v.cells[d]?
  | [], j, cs, hj, _ => ⟨cs, by simp [Instr.fill], rfl, fun _ _ => rfl, fun i v h => by simp at h⟩
  | v :: r, j, cs, hj, hs => by
    have hv := hs v (by simp)
    have hm : (j + (v :: r).length) * sz = j * sz + (sz + r.length * sz) := by simp [Nat.add_mul]; omega
    simp only [List.mapIdx_cons, Nat.add_zero, Instr.fill]
    rw [if_neg (by rw [hv]; simp; omega)]
    have e1 : (v.cells.zipIdx.foldl (fun (cs : Array Value) (p : Value × Nat) => cs.setIfInBounds (j * sz + p.2) p.1) cs) = (splV cs.toList (j * sz) v.cells.toList).toArray := by
      have := foldl_set v.cells.toList 0 (j * sz) cs
      rw [Nat.add_zero] at this
      rw [← this, ← Array.foldl_toList, Array.toList_zipIdx]
    rw [e1]
    have hget : ∀ k, (splV cs.toList (j * sz) v.cells.toList).toArray[k]? = if j * sz ≤ k ∧ k < j * sz + sz then v.cells[k - j * sz]? else cs[k]? := fun k => by
      rw [List.getElem?_toArray, splV_getElem]
      have h1 : v.cells.toList.length = sz := by simpa using hv
      have h2 : cs.toList.length = cs.size := by simp
      rw [h1, h2]
      by_cases hk : j * sz ≤ k ∧ k < j * sz + sz
      · rw [if_pos hk, if_pos ⟨hk.1, hk.2, by omega⟩]; simp
      · rw [if_neg hk, if_neg (by omega)]; simp
    have hsz : (splV cs.toList (j * sz) v.cells.toList).toArray.size = cs.size := by
      have a1 : ∀ k, k < cs.size → k < (splV cs.toList (j * sz) v.cells.toList).toArray.size := fun k hk => by
        rcases Nat.lt_or_ge k (splV cs.toList (j * sz) v.cells.toList).toArray.size with h | h
        · exact h
        · have := hget k
          rw [Array.getElem?_eq_none h] at this
          split at this
          · rename_i hk2
            rw [Array.getElem?_eq_getElem (by rw [hv]; omega)] at this; cases this
          · rw [Array.getElem?_eq_getElem hk] at this; cases this
      have a2 : ∀ k, k < (splV cs.toList (j * sz) v.cells.toList).toArray.size → k < cs.size := fun k hk => by
        rcases Nat.lt_or_ge k cs.size with h | h
        · exact h
        · have := hget k
          rw [Array.getElem?_eq_getElem hk, if_neg (by omega), Array.getElem?_eq_none h] at this
          cases this
      rcases Nat.lt_trichotomy (splV cs.toList (j * sz) v.cells.toList).toArray.size cs.size with h | h | h
      · have := a1 _ h; omega
      · exact h
      · have := a2 _ h; omega
    obtain ⟨cs', q1, q2, q3, q4⟩ := fill_rows sz r (j + 1) (splV cs.toList (j * sz) v.cells.toList).toArray (by rw [hsz, ← hj, hm, Nat.add_mul, Nat.add_mul]; omega) (fun u hu => hs u (List.mem_cons_of_mem _ hu))
    refine ⟨cs', ?_, by rw [q2, hsz], fun k hk => ?_, fun i u hu d hd => ?_⟩
    · rw [show (fun i (v : Value) => (j + (i + 1), v)) = (fun i v => (j + 1 + i, v)) by funext i v; congr 1; omega]
      exact q1
    · rw [q3 k (by rw [Nat.add_mul]; omega), hget, if_neg (by omega)]
    · cases i with
      | zero =>
        simp only [List.getElem?_cons_zero, Option.some.injEq] at hu
        subst hu
        rw [Nat.add_zero, q3 _ (by rw [Nat.add_mul]; omega), hget, if_pos ⟨by omega, by omega⟩]
        congr 1
        omega
      | succ i =>
        simp only [List.getElem?_cons_succ] at hu
        have := q4 i u hu d hd
        rw [show j + (i + 1) = j + 1 + i by omega]
        exact this

theorem rowsOf_sound {E : Env} {sz : Nat} : ∀ (ps : List (Nat × SV)) (j : Nat) (L : List (List SV)) (vs : List (Nat × Value)), rowsOf sz ps j = some L → vs.map (·.1) = ps.map (·.1) → DenL E (ps.map (·.2)) (vs.map (·.2)) →
    ∃ us : List Value, vs = us.mapIdx (fun i v => (j + i, v)) ∧ us.length = L.length ∧ (∀ v ∈ us, v.cells.size = sz) ∧ ∀ i v, us[i]? = some v → DenL E (pickL L i) v.cells.toList
  | [], j, L, vs, h, h1, _ => by
    simp only [rowsOf, Option.some.injEq] at h
    subst h
    have : vs = [] := by simpa using h1
    subst this
    exact ⟨[], rfl, rfl, fun v hv => by simp at hv, fun i v hv => by simp at hv⟩
  | (i, x) :: r, j, L, [], h, h1, h2 => by simp at h1
  | (i, x) :: r, j, L, (i', v) :: vr, h, h1, h2 => by
    simp only [rowsOf] at h
    split at h
    · rename_i ls e
      split at h
      · rename_i hc
        obtain ⟨rfl, hlen⟩ := hc
        split at h
        · rename_i L' e'
          simp only [Option.some.injEq] at h
          subst h
          simp only [List.map_cons, List.cons.injEq] at h1
          obtain ⟨rfl, h1⟩ := h1
          simp only [List.map_cons, DenL] at h2
          obtain ⟨us, p1, p2, p3, p4⟩ := rowsOf_sound r _ L' vr e' h1 h2.2
          have hd := denL_leaves h2.1 e
          have hsz : v.cells.size = sz := by rw [← Array.length_toList, denL_length _ _ hd, hlen]
          refine ⟨v :: us, ?_, by simp [p2], fun u hu => ?_, fun k u hu => ?_⟩
          · rw [List.mapIdx_cons, p1]
            congr 1
            congr 1
            funext k u
            congr 1
            omega
          · rcases List.mem_cons.1 hu with rfl | hu
            · exact hsz
            · exact p3 u hu
          · cases k with
            | zero =>
              simp only [List.getElem?_cons_zero, Option.some.injEq] at hu
              subst hu
              exact hd
            | succ k => exact p4 k u (by simpa using hu)
        · cases h
      · cases h
    · cases h

theorem eqB_sound {P : Program} {Γ : Tab} (hΓ : Γ.ok P) {E : Env} {w : World} {xs ys : List SV} {vx vy : List Value} (hx : DenL E xs vx) (hy : DenL E ys vy) (d : Nat) : ∀ (fs : List Field) (c : Bool), eqB Γ xs ys (fs.map fun f => (f.offset, f.type)) = some c → (fs.all fun f => f.name != "_") = true →
    (Op.eqFields (d + 1) vx.toArray vy.toArray fs).run P w = .ok c w
  | [], c, h, _ => by
    simp only [List.map_nil, eqB, Option.some.injEq] at h
    subst h
    simp [Op.eqFields]
  | f :: r, c, h, hn => by
    simp only [List.all_cons, Bool.and_eq_true, bne_iff_ne, ne_eq] at hn
    simp only [List.map_cons, eqB] at h
    have und := (hΓ f.type).und
    have hcell : ∀ (l : List SV) (cs : List Value) (x : SV), DenL E l cs → nth l f.offset = some x → ∃ v, cs[f.offset]? = some v ∧ Den E x v := fun l cs x hl hnx => by
      rw [nth_eq] at hnx
      have hlt : f.offset < l.length := (List.getElem?_eq_some_iff.1 hnx).1
      have hlen := denL_length _ _ hl
      refine ⟨cs[f.offset]'(by omega), List.getElem?_eq_getElem (by omega), ?_⟩
      have := denL_get l cs f.offset undef hl
      rw [List.getElem?_eq_getElem (by omega)] at this
      have h2 : lget l f.offset = x := by
        have aux : ∀ (l : List SV) (n : Nat) (x : SV), l[n]? = some x → lget l n = x := by
          intro l
          induction l with
          | nil => intro n x h; simp at h
          | cons y r ih => intro n x h; cases n with
            | zero => simpa [lget] using h
            | succ n => simp only [lget]; exact ih n x (by simpa using h)
        exact aux _ _ _ hnx
      rw [h2] at this
      exact this
    split at h
    · rename_i x y e2 e3
      split at h
      · rename_i a e1
        split at h
        · rename_i c' e4
          simp only [Option.some.injEq] at h
          subst h
          obtain ⟨v1, p1, p2⟩ := hcell _ _ _ hx e2
          obtain ⟨v2, p3, p4⟩ := hcell _ _ _ hy e3
          have ih := eqB_sound (P := P) (w := w) hΓ hx hy d r c' e4 hn.2
          have main : (part f.type vx.toArray f.offset).run P w = .ok v1 w ∧ (part f.type vy.toArray f.offset).run P w = .ok v2 w ∧ (Op.equalIn (d + 1) f.type v1 v2).run P w = .ok a w := by
            unfold leafEq at e1
            split at e1
            · rename_i a' b' e5
              simp only [Option.some.injEq] at e1
              subst e1
              rw [e5] at und
              simp only [TD.ok] at und
              simp only [Den] at p2 p4
              subst p2; subst p4
              exact ⟨by simp [part, isAgg, run_underlying und, p1], by simp [part, isAgg, run_underlying und, p3], run_equalIn_bool' w d f.type a' b' und⟩
            · rename_i k k1 a' k2 b' e5
              split at e1
              · rename_i hk
                obtain ⟨rfl, rfl⟩ := hk
                simp only [Option.some.injEq] at e1
                subst e1
                rw [e5] at und
                simp only [TD.ok] at und
                simp only [Den] at p2 p4
                subst p2; subst p4
                exact ⟨by simp [part, isAgg, run_underlying und, p1], by simp [part, isAgg, run_underlying und, p3], by simp [Op.equalIn, run_underlying und]⟩
              · cases e1
            · rename_i a' b' e5
              simp only [Option.some.injEq] at e1
              subst e1
              rw [e5] at und
              simp only [TD.ok] at und
              simp only [Den] at p2 p4
              subst p2; subst p4
              exact ⟨by simp [part, isAgg, run_underlying und, p1], by simp [part, isAgg, run_underlying und, p3], by simp [Op.equalIn, run_underlying und]⟩
            · cases e1
          obtain ⟨q1, q2, q3⟩ := main
          simp only [Op.eqFields]
          rw [if_pos hn.1]
          simp only [Sem.run_bind, q1, q2, Result.andThen_ok, q3]
          cases hab : a
          · simp
          · simpa using ih
        · cases h
      · cases h
    · cases h

theorem lset_denL {E : Env} (l : List SV) (cs : List Value) (j : Nat) (x : SV) (v : Value) (h : DenL E l cs) (hx : Den E x v) : DenL E (lset l j x) (cs.set j v) := denL_set l cs j x v h hx
theorem ents_app (cs : List Value) (k v : Value) : ∀ (m : Nat) (cs : List Value) (i : Nat), cs.length = 2 * m → entsOf (cs ++ [k, v]) i = entsOf cs i ++ [⟨k, v, i + m⟩]
  | 0, [], i, _ => rfl
  | m + 1, a :: b :: cs, i, h => by
    simp only [List.cons_append, entsOf, List.cons.injEq, true_and]
    rw [ents_app cs k v m cs (i + 1) (by simp at h; omega), show i + 1 + m = i + (m + 1) by omega]
  | 0, _ :: _, i, h => by simp at h
  | m + 1, [], i, h => by simp at h
  | m + 1, [_], i, h => by simp at h; omega
theorem ents_set (kv v : Value) : ∀ (m : Nat) (cs : List Value) (i : Nat), cs[2 * m]? = some kv → 2 * m + 1 < cs.length → entsOf (cs.set (2 * m + 1) v) i = (entsOf cs i).modify m (fun e => { e with key := kv, val := v })
  | 0, a :: b :: cs, i, h, _ => by
    simp at h
    subst h
    simp [entsOf]
  | m + 1, a :: b :: cs, i, h, hl => by
    rw [show 2 * (m + 1) + 1 = 2 * m + 1 + 1 + 1 by omega]
    simp only [List.set_cons_succ, entsOf, List.modify_succ_cons, List.cons.injEq, true_and]
    exact ents_set kv v m cs (i + 1) (by rw [show 2 * (m + 1) = 2 * m + 1 + 1 by omega] at h; simpa using h) (by simp at hl; omega)
  | _, [], i, h, _ => by simp at h
  | _, [_], i, h, hl => by simp at hl
theorem keysB_even : ∀ {d : TD} {l : List SV}, keysB d l = true → ∃ m, l.length = 2 * m
  | d, [], _ => ⟨0, rfl⟩
  | d, [_], h => by simp [keysB] at h
  | d, _ :: _ :: r, h => by
    simp only [keysB, Bool.and_eq_true] at h
    obtain ⟨m, hm⟩ := keysB_even h.2
    exact ⟨m + 1, by simp; omega⟩
theorem ents_len : ∀ (m : Nat) (cs : List Value) (i : Nat), cs.length = 2 * m → (entsOf cs i).length = m
  | 0, [], i, _ => rfl
  | m + 1, a :: b :: cs, i, h => by
    simp only [entsOf, List.length_cons]
    rw [ents_len m cs (i + 1) (by simp at h; omega)]
  | 0, _ :: _, i, h => by simp at h
  | m + 1, [], i, h => by simp at h
  | m + 1, [_], i, h => by simp at h; omega
/-- A named map is written. -/
theorem Good.setMap {E : Env} {st : SS} {w : World} (h : Good E st w) {n : Nat} {T : TypeId} {l l' : List SV} {cs' : Array Value} (hn : hfind st.hp n = some (T, l)) (hT : 1000000 ≤ T) (hd : DenL E l' cs'.toList) {b : Nat} (hb : E.ρ n = some b) :
    Good E { st with hp := hset st.hp n l' } { w with heap := w.heap.setIfInBounds b (objOf T cs') } := by
  obtain ⟨κ, hk⟩ := h.own
  obtain ⟨b', cs, hb', hblk, hden, hκ, hmut⟩ := hk.hp _ _ _ hn
  rw [hb] at hb'
  injection hb' with hb'
  subst hb'
  obtain ⟨hs1, hs2⟩ := heap_set (o' := objOf T cs') hblk
  have hsize : (w.heap.setIfInBounds b (objOf T cs')).size = w.heap.size := by simp
  have hother : ∀ b1, b1 ≠ b → (w.heap.setIfInBounds b (objOf T cs'))[b1]? = w.heap[b1]? := hs2
  refine ⟨h.k, h.kx, h.os, h.tape, h.output, by show _ ≤ (w.heap.setIfInBounds b (objOf T cs')).size; rw [hsize]; exact h.size, fun b1 hb1 hs => ?_, fun ad v e => ?_, h.nxρ, h.nxθ, κ, ?_, ?_, ?_, hk.mu, ?_⟩
  · show (w.heap.setIfInBounds b (objOf T cs'))[b1]? = _
    rw [hother b1]
    · exact h.old b1 hb1 hs
    · rintro rfl
      rcases hmut with hm | hm
      · omega
      · exact hs hm
  · have hne : ad.block ≠ b := by
      intro e'
      exact hk.mu ad v e n (by rw [e']; exact hκ)
    have := h.mu ad v e
    have hh : ({ w with heap := w.heap.setIfInBounds b (objOf T cs') } : World).cell? ad = w.cell? ad := by
      have hb2 := hother _ hne
      simp only [World.cell?]
      rw [hb2]
    rw [hh]
    exact this
  · intro m T' ls' e
    by_cases hm : m = n
    · subst hm
      have := hfind_hset_same st.hp m T l l' hn
      rw [this] at e
      simp only [Option.some.injEq, Prod.mk.injEq] at e
      obtain ⟨rfl, rfl⟩ := e
      exact ⟨b, cs', hb, hs1, hd, hκ, hmut⟩
    · have := hfind_hset_ne st.hp n m l' hm
      rw [this] at e
      obtain ⟨b1, cs1, q1, q2, q3, q4, q5⟩ := hk.hp _ _ _ e
      have hne : b1 ≠ b := by rintro rfl; rw [hκ] at q4; injection q4 with q4; injection q4 with q4; exact hm q4.symm
      exact ⟨b1, cs1, q1, (hother b1 hne).trans q2, q3, q4, q5⟩
  · intro x hx
    obtain ⟨sz', a', len', cap', q1, q2, q3⟩ := hk.tk x hx
    refine ⟨sz', a', len', cap', q1, q2, ?_⟩
    rcases q3 with q3 | ⟨b1, off1, T', cs1, q4, q5, q6, q7, q8, q9⟩
    · exact .inl q3
    · have hne : b1 ≠ b := by rintro rfl; rw [hκ] at q5; cases q5
      exact .inr ⟨b1, off1, T', cs1, q4, q5, q6, q7.congr (hother b1 hne), q8, q9⟩
  · intro r R hr
    obtain ⟨F, q1, q2⟩ := hk.rs r R hr
    have hne : ∀ b1, F b1 → b1 ≠ b := by rintro b1 hF rfl; have := (q2 _ hF).2.1; rw [hκ] at this; cases this
    exact ⟨F, R.loc q1 (fun b1 hF => hother b1 (hne b1 hF)), fun b1 hF => ⟨by show _ < (w.heap.setIfInBounds b (objOf T cs')).size; rw [hsize]; exact (q2 b1 hF).1, (q2 b1 hF).2⟩⟩
  · intro b1 k e
    show _ < (w.heap.setIfInBounds b (objOf T cs')).size ∧ _
    rw [hsize]; exact hk.dom b1 k e
theorem Good.mapPut {P : Program} {Γ : Tab} (hΓ : Γ.ok P) {E : Env} {st : SS} {w : World} (h : Good E st w) {t kt et : TypeId} (hm : P.underlying t = some (.map kt et)) {n b : Nat} {l : List SV} (hn : hfind st.hp n = some (1000000, l)) (hb : E.ρ n = some b) {key val : SV} {kv vv : Value}
    (hk : keyB (Γ kt).d key = true) (hks : keysB (Γ kt).d l = true) (hkv : Den E key kv) (hvv : Den E val vv) {K : List SV → Prop} (hK : Go.Eng.mapPut l (findE key l 0) key val K) :
    ∃ w', (Instr.mapUpdate t (.map (some b)) kv vv).run P w = .ok () w' ∧ ∃ l', Good E { st with hp := hset st.hp n l' } w' ∧ K l' := by
  obtain ⟨κ, ho⟩ := h.own
  obtain ⟨b', cs, hb', hblk, hden, -, -⟩ := ho.hp _ _ _ hn
  rw [hb] at hb'
  injection hb' with hb'
  subst hb'
  obtain ⟨desc, hu⟩ := keyB_some (hΓ kt).und hk
  have hkey := (keyB_den (hΓ kt).und hu hk hkv).1
  have hblk' := hblk
  rw [objOf_map] at hblk'
  obtain ⟨m0, hm0⟩ := keysB_even hks
  have hlen : cs.toList.length = 2 * m0 := by rw [denL_length _ _ hden, hm0]
  have hcsz : cs.size / 2 = m0 := by have : cs.size = 2 * m0 := by simpa using hlen
                                     omega
  rcases findNow_ents (hΓ kt).und hu hk hkv l cs.toList 0 0 hden hks with ⟨p1, p2⟩ | ⟨m, x, v, p1, p2, p3, p4, p5, p6, p7⟩
  · rw [p1] at hK
    simp only [Go.Eng.mapPut] at hK
    have hw' := h.setMap (l' := l ++ [key, val]) (cs' := (cs.toList ++ [kv, vv]).toArray) hn (Nat.le_refl _) (by simpa using denL_append _ _ _ _ hden (by simp only [DenL]; exact ⟨hkv, hvv, trivial⟩)) hb
    refine ⟨_, ?_, _, hw', hK⟩
    rw [objOf_map]
    have e2 : (cs.toList ++ [kv, vv]).toArray.size / 2 = cs.size / 2 + 1 := by simp
    rw [e2]
    have e1 := ents_app cs.toList kv vv m0 cs.toList 0 hlen
    simp only [List.toList_toArray] 
    rw [e1]
    simp [Instr.mapUpdate, run_underlying hm, Go.MapKept.run_getObj_map hblk', Go.MapKept.run_checkKey hu hkey, Go.MapKept.run_findKey hu p2, Go.MapKept.run_setObj_map _ hblk', Result.andThen, hcsz]
  · rw [p1] at hK
    simp only [Go.Eng.mapPut, Nat.zero_add] at hK
    have hw' := h.setMap (l' := lset l (2 * m + 1) val) (cs' := (cs.toList.set (2 * m + 1) vv).toArray) hn (Nat.le_refl _) (by simpa using lset_denL _ _ _ _ _ hden hvv) hb
    refine ⟨_, ?_, _, hw', hK⟩
    rw [objOf_map]
    have e2 : (cs.toList.set (2 * m + 1) vv).toArray.size / 2 = cs.size / 2 := by simp
    rw [e2]
    have e1 := ents_set kv vv m cs.toList 0 p6 (by rw [denL_length _ _ hden]; exact p7)
    simp only [List.toList_toArray]
    rw [e1]
    have hget : (entsOf cs.toList 0)[m]? = some ⟨kv, v, m⟩ := by
      have aux : ∀ (m : Nat) (cs : List Value) (i : Nat), cs[2 * m]? = some kv → cs[2 * m + 1]? = some v → (entsOf cs i)[m]? = some ⟨kv, v, i + m⟩ := by
        intro m
        induction m with
        | zero => intro cs i h1 h2; match cs, h1, h2 with
          | a :: b :: r, h1, h2 => simp at h1 h2; subst h1 h2; simp [entsOf]
          | [_], h1, h2 => simp at h2
        | succ m ih => intro cs i h1 h2; match cs, h1, h2 with
          | a :: b :: r, h1, h2 =>
            rw [show 2 * (m + 1) = 2 * m + 1 + 1 by omega] at h1
            rw [show 2 * (m + 1) + 1 = 2 * m + 1 + 1 + 1 by omega] at h2
            simp only [entsOf, List.getElem?_cons_succ]
            rw [ih r (i + 1) (by simpa using h1) (by simpa using h2)]
            congr 2
            omega
          | [_], h1, h2 => rw [show 2 * (m + 1) = 2 * m + 1 + 1 by omega] at h1; simp at h1
          | [], h1, h2 => simp at h1
      simpa using aux m cs.toList 0 p6 p5
    have hmod : ∀ (l : List MapEntry) (f : MapEntry → MapEntry), (l.toArray.modify m f) = (l.modify m f).toArray := by intro l f; simp
    simp [Instr.mapUpdate, run_underlying hm, Go.MapKept.run_getObj_map hblk', Go.MapKept.run_checkKey hu hkey, Go.MapKept.run_findKey hu p2, Go.MapKept.run_setObj_map _ hblk', Result.andThen, hget, Go.MapKept.run_keyThatStays hkey]

theorem denL_consK {E : Env} {x : SV} {xs : List SV} {vs : List Value} (h : DenL E (x :: xs) vs) : ∃ v r, vs = v :: r ∧ Den E x v ∧ DenL E xs r := by
  cases vs with
  | nil => simp only [DenL] at h
  | cons v r => simp only [DenL] at h; exact ⟨v, r, rfl, h.1, h.2⟩
theorem nextAll_mem : ∀ {l : List (Nat × SV × SV)} {f : Nat → SV → SV → Prop}, nextAll l f → ∀ j k v, (j, k, v) ∈ l → f j k v
  | (j0, k0, v0) :: r, f, h, j, k, v, hm => by
    simp only [nextAll] at h
    rcases List.mem_cons.1 hm with e | hm
    · simp only [Prod.mk.injEq] at e
      obtain ⟨rfl, rfl, rfl⟩ := e
      exact h.1
    · exact nextAll_mem h.2 j k v hm
theorem nextAll_mono {f g : Nat → SV → SV → Prop} (h : ∀ j k v, f j k v → g j k v) : ∀ {l : List (Nat × SV × SV)}, nextAll l f → nextAll l g
  | [], _ => trivial
  | (j, k, v) :: r, hf => ⟨h j k v hf.1, nextAll_mono h hf.2⟩
/-- An entry of a map that is told. -/
theorem ents_mem {E : Env} : ∀ (l : List SV) (cs : List Value) (i : Nat), DenL E l cs → ∀ e, e ∈ entsOf cs i → ∃ k v, Den E k e.key ∧ Den E v e.val ∧ i ≤ e.born ∧ ∀ seen, seenB e.born seen = false → (e.born, k, v) ∈ candL l i seen
  | [], [], i, _, e, he => by simp [entsOf] at he
  | k :: v :: r, a :: b :: cs, i, hl, e, he => by
    simp only [DenL] at hl
    simp only [entsOf, List.mem_cons] at he
    rcases he with rfl | he
    · exact ⟨k, v, hl.1, hl.2.1, Nat.le_refl _, fun seen hs => by simp [candL, hs]⟩
    · obtain ⟨k', v', h1, h2, h3, h4⟩ := ents_mem r cs (i + 1) hl.2.2 e he
      refine ⟨k', v', h1, h2, by omega, fun seen hs => ?_⟩
      have := h4 seen hs
      simp only [candL]
      split
      · exact this
      · exact List.mem_cons_of_mem _ this
  | [k], [a], i, _, e, he => by simp [entsOf] at he
  | [], _ :: _, _, hl, _, _ => by simp only [DenL] at hl
  | _ :: _, [], _, hl, _, _ => by simp only [DenL] at hl
  | [_], _ :: _ :: _, _, hl, _, _ => by simp only [DenL] at hl; exact hl.2.elim
  | _ :: _ :: _, [_], _, hl, _, _ => by simp only [DenL] at hl; exact hl.2.elim
theorem cand_ents {E : Env} : ∀ (l : List SV) (cs : List Value) (i : Nat) (seen : List SV), DenL E l cs → candL l i seen ≠ [] → ∃ e, e ∈ entsOf cs i ∧ seenB e.born seen = false
  | [], [], i, seen, _, h => absurd rfl h
  | k :: v :: r, a :: b :: cs, i, seen, hl, h => by
    simp only [DenL] at hl
    simp only [candL] at h
    by_cases hs : seenB i seen = true
    · rw [if_pos hs] at h
      obtain ⟨e, h1, h2⟩ := cand_ents r cs (i + 1) seen hl.2.2 h
      exact ⟨e, by simp [entsOf, h1], h2⟩
    · exact ⟨⟨a, b, i⟩, by simp [entsOf], by simpa using hs⟩
  | [k], [a], i, seen, _, h => absurd rfl h
  | [], _ :: _, _, _, hl, _ => by simp only [DenL] at hl
  | _ :: _, [], _, _, hl, _ => by simp only [DenL] at hl
  | [_], _ :: _ :: _, _, _, hl, _ => by simp only [DenL] at hl; exact hl.2.elim
  | _ :: _ :: _, [_], _, _, hl, _ => by simp only [DenL] at hl; exact hl.2.elim
theorem seen_den {E : Env} : ∀ (seen : List SV) (vs : List Value), DenL E seen vs → litsB seen = true → ∀ j : Nat, (vs.map natOf).contains j = seenB j seen
  | [], [], _, _, j => rfl
  | .i .i64 k :: r, v :: vs, h, hl, j => by
    simp only [DenL, Den] at h
    obtain ⟨rfl, h⟩ := h
    simp only [litsB, Bool.and_eq_true, decide_eq_true_eq] at hl
    simp only [List.map_cons, natOf, List.contains_cons, seenB, seen_den r vs h hl.2 j]
    congr 1
    rw [Bool.eq_iff_iff]
    simp
    omega
  | [], _ :: _, h, _, _ => by simp only [DenL] at h
  | _ :: _, [], h, _, _ => by simp only [DenL] at h
theorem ents_pairs {E : Env} : ∀ (l : List SV) (cs : List Value) (i : Nat), DenL E l cs → evenB l = true → (entsOf cs i).length = pairsN l ∧ cs.length = 2 * pairsN l ∧ ∀ e, e ∈ entsOf cs i → e.born < i + pairsN l
  | [], [], i, _, _ => ⟨rfl, rfl, fun e h => by simp [entsOf] at h⟩
  | k :: v :: r, a :: b :: cs, i, hl, he => by
    simp only [DenL] at hl
    simp only [evenB] at he
    obtain ⟨h1, h2, h3⟩ := ents_pairs r cs (i + 1) hl.2.2 he
    refine ⟨by simp [entsOf, pairsN, h1], by simp [pairsN, h2]; omega, fun e h => ?_⟩
    simp only [entsOf, List.mem_cons] at h
    rcases h with rfl | h
    · simp [pairsN]
    · have := h3 e h
      simp only [pairsN]
      omega
  | [k], _, i, _, he => by simp [evenB] at he
  | [], _ :: _, _, hl, _ => by simp only [DenL] at hl
  | _ :: _ :: _, [], _, hl, _ => by simp only [DenL] at hl
  | _ :: _ :: _, [_], _, hl, _ => by simp only [DenL] at hl; exact hl.2.elim
theorem Good.drew {E : Env} {st : SS} {w : World} (h : Good E st w) : Good E st w.drew :=
  ⟨h.k, h.kx, h.os, h.tape, h.output, h.size, h.old, h.mu, h.nxρ, h.nxθ, let ⟨κ, ho⟩ := h.own; ⟨κ, ho.hp, ho.tk, fun r R hr => let ⟨F, q1, q2⟩ := ho.rs r R hr; ⟨F, R.loc q1 (fun _ _ => rfl), q2⟩, ho.mu, ho.dom⟩⟩
theorem Good.next {P : Program} {E : Env} {st : SS} {w : World} (h : Good E st w) {i n : Nat} {c : Int} {seen l : List SV} {ty : TypeId} {r : Nat} (hr : E.ρ i = some r) (hi : hfind st.hp i = some (1000001, .mp n :: .i .i64 c :: seen)) (hn : hfind st.hp n = some (1000000, l)) (hev : evenB l = true) (hli : litsB seen = true) (hc : c = ((pairsN l : Nat) : Int))
    {K0 : Prop} {f : Nat → SV → SV → Prop} (hK : nextK (candL l 0 seen) K0 f) :
    ((Instr.next (.pointer (some ⟨r, 0, none⟩)) false ty).run P w = .ok (.tuple #[.bool false]) w ∧ K0) ∨
    ∃ (w' : World) (j : Nat) (k v : SV) (kv vv : Value), (Instr.next (.pointer (some ⟨r, 0, none⟩)) false ty).run P w = .ok (.tuple #[.bool true, kv, vv]) w' ∧ Den E k kv ∧ Den E v vv ∧ Good E { st with hp := hset st.hp i (.mp n :: .i .i64 c :: (seen ++ [.i .i64 (j : Int)])) } w' ∧ f j k v := by
  obtain ⟨κ, ho⟩ := h.own
  obtain ⟨r', ci, hr', hri, hdi, -, -⟩ := ho.hp _ _ _ hi
  rw [hr] at hr'
  injection hr' with hr'
  subst hr'
  obtain ⟨bm, cm, hbm, hrm, hdm, -, -⟩ := ho.hp _ _ _ hn
  obtain ⟨cl, hcl⟩ : ∃ cl, ci.toList = cl := ⟨_, rfl⟩
  rw [objOf_iter, hcl] at hri
  rw [hcl] at hdi
  obtain ⟨v1, cl1, rfl, d1, hdi1⟩ := denL_consK hdi
  obtain ⟨v2, vs, rfl, d2, hds⟩ := denL_consK hdi1
  simp only [Den] at d1 d2
  obtain ⟨b1, hb1, rfl⟩ := d1
  subst d2
  rw [hbm] at hb1
  injection hb1 with hb1
  subst hb1
  rw [objOf_map] at hrm
  obtain ⟨e1, e2, e3⟩ := ents_pairs l cm.toList 0 hdm hev
  have hclk : cm.size / 2 = c.toNat := by
    have : cm.size = 2 * pairsN l := by simpa using e2
    rw [hc]
    omega
  rw [hclk] at hrm
  have hri' : w.heap[r]? = some (.mapIter (some bm) c.toNat (vs.map natOf).toArray c.toNat) := hri
  rcases run_next_at (P := P) w ty r bm c.toNat c.toNat (vs.map natOf).toArray (entsOf cm.toList 0).toArray c.toNat hri' hrm (fun x hx => by
    have := e3 x (by simpa using hx)
    rw [hc]
    omega) (Nat.le_refl _) with ⟨q1, q2⟩ | ⟨e, q1, w1, q2, q3⟩
  · left
    refine ⟨q2, ?_⟩
    have : candL l 0 seen = [] := by
      by_cases hne : candL l 0 seen = []
      · exact hne
      · obtain ⟨e, h1, h2⟩ := cand_ents l cm.toList 0 seen hdm hne
        have : e ∈ (leftOf (entsOf cm.toList 0).toArray (vs.map natOf).toArray) := by
          unfold leftOf
          simp only [Array.mem_filter, List.mem_toArray]
          refine ⟨h1, ?_⟩
          have hs := seen_den seen vs hds hli e.born
          rw [h2] at hs
          simpa using hs
        have := Array.size_pos_of_mem this
        omega
    rw [this] at hK
    exact hK
  · right
    have hq : e ∈ entsOf cm.toList 0 ∧ seenB e.born seen = false := by
      unfold leftOf at q1
      simp only [Array.mem_toList_iff, Array.mem_filter, List.mem_toArray] at q1
      refine ⟨q1.1, ?_⟩
      rw [← seen_den seen vs hds hli e.born]
      simpa using q1.2
    obtain ⟨k, v, k1, k2, -, k4⟩ := ents_mem l cm.toList 0 hdm e hq.1
    have hm := k4 seen hq.2
    have hf : f e.born k v := by
      unfold nextK at hK
      split at hK
      · rename_i e0; rw [e0] at hm; cases hm
      · rename_i x r e0; rw [e0] at hm; exact nextAll_mem hK _ _ _ hm
    have hg1 : Good E st w1 := by rcases q2 with rfl | rfl; exact h; exact h.drew
    have hg2 := hg1.setMap (l' := .mp n :: .i .i64 c :: (seen ++ [.i .i64 (e.born : Int)])) (cs' := (.map (some bm) :: .int .i64 c :: (vs ++ [.int .i64 (e.born : Int)])).toArray) hi (by decide) (by
      simp only [DenL, Den]
      exact ⟨⟨bm, hbm, rfl⟩, trivial, denL_append _ _ _ _ hds (by simp only [DenL, Den]; exact ⟨trivial, trivial⟩)⟩) hr
    refine ⟨_, e.born, k, v, e.key, e.val, q3, k1, k2, ?_, hf⟩
    rw [objOf_iter] at hg2
    simp only [iterOf, List.map_append, List.map_cons, List.map_nil, natOf, Int.toNat_natCast] at hg2
    have : (vs.map natOf).toArray.push e.born = (vs.map natOf ++ [e.born]).toArray := by simp
    rw [this]
    exact hg2

theorem evEff_sound {P : Program} {Γ : Tab} (hΓ : Γ.ok P) {E : Env} {st : SS} {a : Act} {w : World} (hf : Fr E st a) (hw : Good E st w) {o : Oper} {K : SS → Prop} (h : evEff P Γ st o K)
    {next : Act → World → Prop} {Q : Exit → Act → World → Prop} (hn : ∀ E' st' a' w', E.Le E' → Fr E' st' a' → Good E' st' w' → K st' → next a' w') : o.wp P a w next Q := by
  have fin : ∀ {v : Value} {E' : Env} {st' : SS} {sv : SV} {w' : World}, E.Le E' → Good E' st' w' → Den E' sv v → (st'.fr = st.fr ∧ st'.df = st.df) → K (st'.put o.dst sv) → next (a.put o.dst v) w' := by
    intro v E' st' sv w' h1 h2 h3 h4 h5
    refine hn E' (st'.put o.dst sv) _ w' h1 (Fr.put ?_ _ h3) (h2.put _ _) h5
    exact ⟨by rw [h4.1]; exact DenL.mono h1 _ _ hf.tmps, by rw [h4.2]; exact hf.defers⟩
  unfold evEff at h
  split at h
  · rename_i t ho
    obtain ⟨E', q1, q2, q3⟩ := hw.alloc_named (ls := []) (cs := #[]) 1000000 (by simp only [DenL])
    refine wp_value (v := .map (some w.heap.size)) (w' := w.alloc (objOf 1000000 #[])) ?_ (fin q1 q3 (by simp only [Den]; exact ⟨_, q2, rfl⟩) ⟨rfl, rfl⟩ h)
    rw [objOf_map]
    simp [execOp, ho, Instr.makeMap, entsOf]
    try rfl
  · rename_i t m k v ho
    split at h
    case h_2 => exact h.elim
    rename_i n kt et e1 e2
    split at h
    case h_2 => exact h.elim
    rename_i T l e3
    obtain ⟨h1, h2, h3, rfl, h4, h5, h6⟩ := h
    have hm := (hΓ t).und
    rw [e2] at hm
    simp only [TD.ok] at hm
    have hx := opd_den hf rfl h1
    rw [e1] at hx
    simp only [Den] at hx
    obtain ⟨b, hb, ex⟩ := hx
    have hkv := opd_den hf rfl h2
    have hvv := opd_den hf rfl h3
    obtain ⟨w', q1, q2⟩ := hw.mapPut hΓ hm e3 hb h4 h5 hkv hvv h6
    obtain ⟨l', q3, q4⟩ := q2
    refine wp_skip' (w' := w') ?_ (fin (Env.Le.refl E) q3 (by simp only [Den]) ⟨rfl, rfl⟩ q4)
    simp [execOp, ho, ex, q1]
  · rename_i t ho
    obtain ⟨h1, hT, h2⟩ := h
    obtain ⟨i, z, hi, his, hib, hiz, hzc⟩ := Tab.info hΓ t h1
    obtain ⟨E', q1, q2, q3⟩ := hw.alloc_named (ls := (Γ t).zero.map ofLeaf) (cs := z.cells) t (by rw [hzc]; exact denL_ofLeaf E _)
    rw [objOf_cells hT] at q3
    refine wp_value (v := .pointer (some ⟨w.heap.size, 0, none⟩)) (w' := w.alloc (.cells z.cells t)) ?_ (fin q1 q3 (by simp only [Den]; exact ⟨_, q2, rfl⟩) ⟨rfl, rfl⟩ h2)
    simp only [execOp, ho]
    simp [Instr.alloc, run_zero hi hiz, newVar, newRow]
    try rfl
  · rename_i t x ho
    split at h
    · rename_i ls e1
      obtain ⟨h1, hT, h2⟩ := h
      have hx := opd_den hf rfl h1
      obtain ⟨E', q1, q2, q3⟩ := hw.alloc_named (ls := ls) (cs := (a.eval x).cells) t (denL_leaves hx e1)
      rw [objOf_cells hT] at q3
      refine wp_value (v := .pointer (some ⟨w.heap.size, 0, none⟩)) (w' := w.alloc (.cells (a.eval x).cells t)) ?_ (fin q1 q3 (by simp only [Den]; exact ⟨_, q2, rfl⟩) ⟨rfl, rfl⟩ h2)
      simp only [execOp, ho]
      simp [Instr.box, newVar, newRow]
      try rfl
    · exact h.elim
  · rename_i t ad x ho
    split at h
    · rename_i n off ls e1 e2
      split at h
      · rename_i T l e3
        obtain ⟨h1, h2, h3, h4, h5, h6, hT, h7⟩ := h
        have hx := opd_den hf rfl h2
        have hlv := denL_leaves hx e2
        have hp := opd_den hf rfl h1
        rw [e1] at hp
        simp only [Den] at hp
        obtain ⟨b', hb', ep⟩ := hp
        obtain ⟨b, w', q1, q2, q3⟩ := hw.store e3 off hlv h5 P (allOne_sound hlv h6) hT
        obtain rfl : b' = b := by rw [q1] at hb'; injection hb' with e; exact e.symm
        obtain ⟨i, z, hi, his, hib, hiz, hzc⟩ := Tab.info hΓ t h3
        have hsz : (a.eval x).cells.size = i.size := by rw [← Array.length_toList, leaves_one hx e2, h4, his]
        refine wp_skip' (w' := w') ?_ (fin (Env.Le.refl E) q3 (by simp only [Den]) ⟨rfl, rfl⟩ h7)
        simp only [execOp, ho]
        simp [Instr.storeAt, Instr.sureAddr, ep, storeVar, run_sizeOf' hi, hsz, q2]
      · exact h.elim
    · rename_i q ls e1 e2
      split at h
      case isFalse =>
        obtain ⟨h1, h2, h3, h6, h4, hne, r, k, p0, c0, i0, hr, hi0, rfl, hK⟩ := h
        have hx := opd_den hf rfl h2
        have hlv := denL_leaves hx e2
        have hp := opd_den hf rfl h1
        rw [e1] at hp
        simp only [Den] at hp
        have hlen := denL_length _ _ hlv
        obtain ⟨ad', w', k1, k2, k3⟩ := hw.cellsStore hr P i0 (a.eval x).cells.toList (by omega) (by rintro e; rw [e] at hlen; exact hne (List.eq_nil_of_length_eq_zero (by simpa using hlen.symm))) (allOne_sound hlv h6)
        rw [k1] at hp
        obtain ⟨i, z, hi, his, hib, hiz, hzc⟩ := Tab.info hΓ t h3
        have hsz : (a.eval x).cells.size = i.size := by rw [← Array.length_toList, leaves_one hx e2, h4, his]
        refine wp_skip' (w' := w') ?_ (fin (Env.Le.refl E) k3 (by simp only [Den]) ⟨rfl, rfl⟩ hK)
        simp only [execOp, ho]
        simp [Instr.storeAt, Instr.sureAddr, hp, storeVar, run_sizeOf' hi, hsz, k2]
      rename_i h4
      obtain ⟨h1, h2, h3, r, k, p0, c0, l0, i0, n, hr, hi0, rfl, rfl, hK⟩ := h
      have hx := opd_den hf rfl h2
      have hlv := denL_leaves hx e2
      have hp := opd_den hf rfl h1
      rw [e1] at hp
      simp only [Den] at hp
      have hc := (hw.rowOf hr).1
      obtain ⟨ad', w', k1, k2, k3⟩ := hw.rowStore hr P i0 [n] (by omega) (by simp; omega) (by simp)
      rw [k1] at hp
      have hset : l0.take i0 ++ [n] ++ l0.drop (i0 + [n].length) = l0.set i0 n := by
        rw [List.set_eq_take_append_cons_drop, if_pos hi0]; simp
      rw [hset] at k3
      have hcells : (a.eval x).cells.toList = [Value.int k n] := by
        cases hcs : (a.eval x).cells.toList with
        | nil => rw [hcs] at hlv; simp only [DenL] at hlv
        | cons u us =>
          rw [hcs] at hlv
          cases us with
          | nil => simp only [DenL, Den] at hlv; rw [hlv.1]
          | cons u' us' => simp only [DenL] at hlv; exact hlv.2.elim
      obtain ⟨i, z, hi, his, hib, hiz, hzc⟩ := Tab.info hΓ t h3
      have hsz : (a.eval x).cells.size = i.size := by rw [← Array.length_toList, hcells, his, h4]; rfl
      refine wp_skip' (w' := w') ?_ (fin (Env.Le.refl E) k3 (by simp only [Den]) ⟨rfl, rfl⟩ hK)
      simp only [execOp, ho]
      simp only [List.map_cons, List.map_nil] at k2
      simp [Instr.storeAt, Instr.sureAddr, hp, storeVar, run_sizeOf' hi, hsz, hcells, k2]
    · exact h.elim
  · rename_i t x ho
    split at h
    · rename_i q e1
      obtain ⟨h1, h2, h3, r, k, p0, c0, l0, i0, hr, hi0, rfl, hK⟩ := h
      have hp := opd_den hf rfl h1
      rw [e1] at hp
      simp only [Den] at hp
      obtain ⟨q0, q1, q2⟩ := hw.rowOf hr
      rcases q2 with rfl | ⟨b, off, T, cs, rfl, ⟨fz, hb, _⟩, hsz, hcs, _⟩
      · omega
      have hv : cs[off + i0]? = some (Value.int k (l0.getD i0 0)) := hcs i0 _ (by simp [List.getD, hi0])
      have hrun := run_loadVar_of hΓ h3 (w := w) (a := ⟨b, off + i0, none⟩) [Value.int k (l0.getD i0 0)] (fun j y hy => by
        cases j with
        | zero =>
          simp only [List.getElem?_cons_zero, Option.some.injEq] at hy
          subst hy
          rw [addr_add]
          simp only [World.cell?, hb, Nat.add_zero]
          exact hv
        | succ j => simp at hy) (by rw [h2]; simp)
      refine wp_value (v := Value.int k (l0.getD i0 0)) (w' := w) ?_ (fin (Env.Le.refl E) hw (by simp only [Den]) ⟨rfl, rfl⟩ hK)
      simp only [execOp, ho]
      rw [h2] at hrun
      simp only [Option.map_some, add_none] at hp
      simp [Instr.loadAt, Instr.sureAddr, hp, hrun]
    · exact h.elim
  · rename_i t len parts ho
    split at h
    · rename_i e e1
      have hd := (hΓ t).und
      rw [e1] at hd
      simp only [TD.ok] at hd
      split at h
      · rename_i k e2
        split at h
        · rename_i l e3
          obtain ⟨h1, h2, h3, h4, h5, h6⟩ := h
          obtain ⟨i, z, hi, his, hib, hiz, hzc⟩ := Tab.info hΓ e (by rw [e2]; simp)
          have hden := denL_ops hf rfl _ h1
          have hvs := intsOf_sound (E := E) (k := k) _ 0 l (parts.toList.map fun p => (p.1, a.eval p.2)) e3 (by simp [Function.comp_def]) (by simpa [Function.comp_def] using hden)
          have hparts : (parts.map fun (p : Nat × Operand) => (p.1, a.eval p.2)).toList = parts.toList.map fun p => (p.1, a.eval p.2) := by simp
          obtain ⟨E', q1, q2, q3⟩ := new_ints hw k e l #[] l.length (Nat.le_refl _) (by simp) (by omega)
          refine wp_value (v := .slice (some ⟨w.heap.size, 0, none⟩) len len) (w' := w.alloc (.cells ((l.map (Value.int k)).toArray) e)) ?_ (fin q1 (st' := st.addTok) (by rw [Array.append_empty] at q2; exact q2) (by rw [h2] at q3; exact q3) ⟨rfl, rfl⟩ h6)
          have h16 : ¬ (16777216 < len * 1) := by omega
          have his1 : i.size = 1 := his.trans h4
          simp only [execOp, ho]
          have hrun : (Instr.buildSlice t len (parts.map fun (p : Nat × Operand) => (p.1, a.eval p.2))).run P w = .ok (.slice (some ⟨w.heap.size, 0, none⟩) len len) (w.alloc (.cells ((l.map (Value.int k)).toArray) e)) := by
            simp only [Instr.buildSlice, Sem.run_bind, run_underlying hd, Result.andThen_ok, run_sizeOf' hi, his1]
            rw [if_neg (by simpa using h16)]
            by_cases h0 : len = 0
            · subst h0
              have hl0 : l = [] := by simpa using h2
              subst hl0
              have hv0 : (parts.map fun (p : Nat × Operand) => (p.1, a.eval p.2)).toList = [] := by rw [hparts, hvs]; simp
              rw [hv0]
              simp [Instr.fill, newRow]
              rw [show Array.range 0 = #[] from rfl]
              simp
            · have hfill := fill_ints k l 0 ((Array.range (len * 1)).map (fun j => z.cells[j % z.cells.size]!)) (by simp [h2]) (fun _ _ => trivial)
              rw [if_neg (by omega)]
              simp only [Sem.run_bind, Sem.run_pure, Result.andThen_ok, run_zero hi hiz]
              rw [hparts, hvs, hfill]
              simp [newRow]
              try rfl
          rw [Sem.run_bind, hrun]
          rfl
        · exact h.elim
      · split at h
        · rename_i L e3
          obtain ⟨h1, h2, ⟨h3', h3⟩, h4, h5⟩ := h
          obtain ⟨i, z, hi, his, hib, hiz, hzc⟩ := Tab.info hΓ e h4
          have hden := denL_ops hf rfl _ h1
          obtain ⟨us, p1, p2, p3, p4⟩ := rowsOf_sound (E := E) _ 0 L (parts.toList.map fun p => (p.1, a.eval p.2)) e3 (by simp [Function.comp_def]) (by simpa [Function.comp_def] using hden)
          have hlen : us.length = len := p2.trans h2
          obtain ⟨cs', f1, f2, f3, f4⟩ := fill_rows (Γ e).size us 0 ((Array.range (len * (Γ e).size)).map (fun j => (if len * (Γ e).size = 0 then #[] else z.cells)[j % (if len * (Γ e).size = 0 then (#[] : Array Value) else z.cells).size]!)) (by simp [hlen]) p3
          obtain ⟨E', q1, q2, q3, q4, q5⟩ := hw.alloc_tok cs' e (Γ e).size len len (Nat.le_refl _) (by rw [f2]; simp)
          have hparts : (parts.map fun (p : Nat × Operand) => (p.1, a.eval p.2)).toList = us.mapIdx (fun i v => (0 + i, v)) := by rw [← p1]; simp
          refine wp_value (v := .slice (some ⟨w.heap.size, 0, none⟩) len len) (w' := w.alloc (.cells cs' e)) ?_ (fin q1 (st' := st.addTok) q5 ?_ ⟨rfl, rfl⟩ h5)
          · simp only [execOp, ho]
            have hrun : (Instr.buildSlice t len (parts.map fun (p : Nat × Operand) => (p.1, a.eval p.2))).run P w = .ok (.slice (some ⟨w.heap.size, 0, none⟩) len len) (w.alloc (.cells cs' e)) := by
              have h16 : ¬ (16777216 < len * (Γ e).size) := by omega
              simp only [Instr.buildSlice, Sem.run_bind, run_underlying hd, Result.andThen_ok, run_sizeOf' hi, his]
              rw [if_neg (by simpa using h16)]
              by_cases h0 : len * (Γ e).size = 0
              · simp only [if_pos h0] at f1
                simp only [if_pos h0, Sem.run_bind, Sem.run_pure, Result.andThen_ok]
                rw [hparts, f1]
                simp [newRow]
              · rw [if_neg h0]
                simp only [if_neg h0] at f1
                simp only [Sem.run_bind, Sem.run_pure, Result.andThen_ok, run_zero hi hiz]
                rw [hparts, f1]
                simp [newRow]
            rw [Sem.run_bind, hrun]
            rfl
          · simp only [Den]
            have hcap' : len ≤ 9223372036854775807 := by omega
            refine ⟨_, len, rfl, Nat.le_refl _, hcap', fun i hi => ⟨_, 0, rfl, fun j hj => ?_⟩, by rw [q2]; exact TokV.self (Nat.le_refl _), fun _ a n c ee => ?_⟩
            · have hu : us[i]? = some us[i] := List.getElem?_eq_getElem (by omega)
              have hc := f4 i us[i] hu j hj
              have hsz := p3 us[i] (List.getElem_mem _)
              have hc' : us[i].cells[j]? = some (us[i].cells[j]'(by omega)) := Array.getElem?_eq_getElem (by omega)
              rw [hc', Nat.zero_add] at hc
              have hlt : i * (Γ e).size + j < len * (Γ e).size := by
                have : (i + 1) * (Γ e).size ≤ len * (Γ e).size := Nat.mul_le_mul_right _ hi
                rw [Nat.add_mul] at this
                omega
              refine ⟨_, by rw [Nat.zero_add]; exact q3 _ _ hlt hc, ?_⟩
              have hdl := p4 i us[i] hu
              have := denL_get _ _ j undef hdl
              have hj2 : us[i].cells.toList[j]? = some (us[i].cells[j]'(by omega)) := by rw [Array.getElem?_toList]; exact hc'
              rw [hj2] at this
              exact Den.mono q1 _ _ this
            · injection ee with ee1
              injection ee1 with ee1
              rw [← ee1]; exact q4
        · exact h.elim
    · exact h.elim
  · rename_i t x ho
    split at h
    · rename_i y x1 x2
      obtain ⟨h1, h2⟩ := h
      have dx := opd_den hf rfl h1
      rw [x1] at dx
      simp only [Den] at dx
      have hd := (hΓ t).und
      rw [x2] at hd
      simp only [TD.ok] at hd
      refine wp_value (v := .pointer (some ⟨w.heap.size, 0, none⟩)) (w' := w.alloc (.stringIter y 0)) ?_ (fin (Env.Le.refl E) (hw.alloc_res (.stringIter y 0)) (by simp only [Den]) ⟨rfl, rfl⟩ (h2 w.heap.size))
      simp only [execOp, ho, dx]
      simp [Instr.range, run_underlying hd, newObj]
      rfl
    · rename_i n kt et x1 x2
      split at h
      · rename_i T l e3
        obtain ⟨h1, rfl, hev, h2⟩ := h
        have dx := opd_den hf rfl h1
        rw [x1] at dx
        simp only [Den] at dx
        obtain ⟨bm, hbm, dx⟩ := dx
        have hd := (hΓ t).und
        rw [x2] at hd
        simp only [TD.ok] at hd
        obtain ⟨κ, hk⟩ := hw.own
        obtain ⟨bm', cm, hbm', hrm, hdm, -, -⟩ := hk.hp _ _ _ e3
        rw [hbm] at hbm'
        injection hbm' with hbm'
        subst hbm'
        rw [objOf_map] at hrm
        obtain ⟨e1, e2, -⟩ := ents_pairs l cm.toList 0 hdm hev
        have hclk : cm.size / 2 = pairsN l := by
          have : cm.size = 2 * pairsN l := by simpa using e2
          omega
        rw [hclk] at hrm
        obtain ⟨E', q1, q2, q3⟩ := hw.alloc_named (ls := [.mp n, .i .i64 ((pairsN l : Nat) : Int)]) (cs := #[.map (some bm), .int .i64 ((pairsN l : Nat) : Int)]) 1000001 (by simp only [DenL, Den]; exact ⟨⟨bm, hbm, rfl⟩, trivial, trivial⟩)
        rw [objOf_iter] at q3
        simp only [iterOf, List.map_nil, Int.toNat_natCast] at q3
        refine wp_value (v := .pointer (some ⟨w.heap.size, 0, none⟩)) (w' := w.alloc (.mapIter (some bm) (pairsN l) #[] (pairsN l))) ?_ (fin q1 q3 (by simp only [Den]; exact ⟨_, q2, rfl⟩) ⟨rfl, rfl⟩ h2)
        simp only [execOp, ho, dx]
        simp [Instr.range, run_underlying hd, Go.MapKept.run_getObj_map hrm, newObj, Result.andThen]
        rfl
      · exact h.elim
    · exact h.elim
  · rename_i it ho
    split at h
    · rename_i i x1
      split at h
      · rename_i T n c seen x2
        split at h
        · rename_i T2 l x3
          obtain ⟨h1, rfl, rfl, h2, h3, h4, h5⟩ := h
          have dx := opd_den hf rfl h1
          rw [x1] at dx
          simp only [Den] at dx
          obtain ⟨r, hr, dx⟩ := dx
          rcases hw.next (P := P) (ty := o.type) hr x2 x3 h2 h3 h4 h5 with ⟨q1, q2⟩ | ⟨w', j, k, v, kv, vv, q1, q2, q3, q4, q5⟩
          · refine wp_value (v := .tuple #[.bool false]) (w' := w) ?_ (fin (Env.Le.refl E) hw (by rw [Den]; exact ⟨[.bool false], rfl, by simp only [DenL, Den]; exact ⟨trivial, trivial⟩⟩) ⟨rfl, rfl⟩ q2)
            simp only [execOp, ho, dx]
            simp [q1]
          · refine wp_value (v := .tuple #[.bool true, kv, vv]) (w' := w') ?_ (fin (Env.Le.refl E) q4 (by rw [Den]; exact ⟨[.bool true, kv, vv], rfl, by simp only [DenL]; exact ⟨by simp only [Den], q2, q3, trivial⟩⟩) ⟨rfl, rfl⟩ q5)
            simp only [execOp, ho, dx]
            simp [q1]
        · exact h.elim
      · exact h.elim
    · exact h.elim
  · rename_i t n c ho
    split at h
    · rename_i hroom
      split at h
      · rename_i k1 n' e x1 x3
        split at h
        · rename_i k y1
          obtain ⟨h1, h3, h4, h5, h7, h8, h9⟩ := h
          have hd := (hΓ t).und
          rw [x3] at hd
          simp only [TD.ok] at hd
          obtain ⟨i, z, hi, his, hib, hiz, hzc⟩ := Tab.info hΓ e (by rw [y1]; simp)
          have dn := opd_den hf rfl h1
          rw [x1] at dn
          simp only [Den] at dn
          obtain ⟨k2, dc⟩ := isRoom_eval (a := a) hroom
          have hz1 : z.cells = #[Value.int k 0] := by apply Array.ext'; rw [hzc, h8]
          have hr := run_make (P := P) w t e i z hd hi hiz k1 k2 n' 64 h3 h4 (by rw [hib]; exact h5) (by omega)
          rw [hz1, his, h7] at hr
          have hm : (madeCells #[Value.int k 0] ((64 : Int).toNat * 1)).toList = List.replicate 64 (Value.int k 0) := by rw [toList_madeCells_one]; rfl
          generalize madeCells #[Value.int k 0] ((64 : Int).toNat * 1) = cs at hr hm
          have hcs : cs.size = 64 := by rw [← Array.length_toList, hm]; rfl
          refine wp_value (v := .slice (some ⟨w.heap.size, 0, none⟩) n'.toNat 64) ?_ (fin (Env.Le.refl E) (st' := { st with rs := (st.nx, RowZ e k (some ⟨w.heap.size, 0, none⟩) 64 (List.replicate n'.toNat 0)) :: st.rs, nx := st.nx + 1 }) ((hw.alloc_res (.cells cs e)).rsMap (rs' := (st.nx, RowZ e k (some ⟨w.heap.size, 0, none⟩) 64 (List.replicate n'.toNat 0)) :: st.rs) fun r R hR => ?_) (by simp only [Den]) ⟨rfl, rfl⟩ (h9 w.heap.size))
          · simp only [execOp, ho]
            rw [dn, dc, Sem.run_bind, hr]
            rfl
          · rcases List.mem_cons.1 hR with hR | hR
            · injection hR with e1 e2
              subst e1 e2
              refine ⟨_, List.mem_cons_self, fun F hF => ?_⟩
              obtain ⟨q1, q2, q3⟩ := hF
              refine ⟨by simp; omega, by omega, .inr ⟨_, cs, rfl, q1, q2, hcs, fun j x hx => ?_, q3⟩⟩
              have hj : j < (List.replicate n'.toNat (0 : Int)).length := by
                rcases Nat.lt_or_ge j (List.replicate n'.toNat (0 : Int)).length with h' | h'
                · exact h'
                · rw [List.getElem?_eq_none h'] at hx; cases hx
              rw [List.length_replicate] at hj
              rw [List.getElem?_replicate, if_pos hj] at hx
              injection hx with hx
              subst hx
              rw [← Array.getElem?_toList, hm, List.getElem?_replicate, if_pos (by omega)]
            · exact ⟨R, List.mem_cons_of_mem _ hR, fun F hF => hF⟩
        · exact h.elim
      · exact h.elim
    split at h
    · rename_i k1 n' k2 c' e x1 x2 x3
      split at h
      · rename_i k y1
        obtain ⟨h1, h2, h3, h4, h5, h6, h7, h8, h9⟩ := h
        have hd := (hΓ t).und
        rw [x3] at hd
        simp only [TD.ok] at hd
        obtain ⟨i, z, hi, his, hib, hiz, hzc⟩ := Tab.info hΓ e (by rw [y1]; simp)
        have dn := opd_den hf rfl h1
        have dc := opd_den hf rfl h2
        rw [x1] at dn
        rw [x2] at dc
        simp only [Den] at dn dc
        have hz1 : z.cells = #[Value.int k 0] := by apply Array.ext'; rw [hzc, h8]
        have hr := run_make (P := P) w t e i z hd hi hiz k1 k2 n' c' h3 h4 (by rw [hib]; exact h5) h6
        rw [hz1, his, h7] at hr
        have hm : madeCells #[Value.int k 0] (c'.toNat * 1) = ((List.replicate n'.toNat (0 : Int)).map (Value.int k)).toArray ++ (List.replicate (c'.toNat - n'.toNat) (Value.int k 0)).toArray := by
          apply Array.ext'
          rw [toList_madeCells_one]
          simp [List.replicate_append_replicate]
          omega
        rw [hm] at hr
        obtain ⟨E', q1, q2, q3⟩ := new_ints hw k e (List.replicate n'.toNat 0) (List.replicate (c'.toNat - n'.toNat) (Value.int k 0)).toArray c'.toNat (by simp; omega) (by simp; omega) (by omega)
        rw [List.length_replicate] at q3
        refine wp_value (v := .slice (some ⟨w.heap.size, 0, none⟩) n'.toNat c'.toNat) ?_ (fin q1 (st' := st.addTok) q2 q3 ⟨rfl, rfl⟩ h9)
        simp only [execOp, ho]
        rw [dn, dc, Sem.run_bind, hr]
        rfl
      · exact h.elim
    · exact h.elim
  · rename_i s d x ho
    have mark : ∀ (tg : Tag) (l : List Int), (∀ v, TagOK E 1 v tg → ∀ a n c, 0 < n → v = .slice (some a) n c → Mut E a.block) → opd st x = .ints .u8 tg l → ∀ e e', (Γ s).d = .slice e → (Γ d).d = .slice e' → ovc st true x → s = d → (Γ e).d = .int .u8 → l ≠ [] → K (st.put o.dst (.ints .u8 tg l)) → o.wp P a w next Q := by
      intro tg l htg e1 e e' e2 e3 h1 h2 h3 h4 h5
      subst h2
      have dx := opd_den hf rfl h1
      rw [e1] at dx
      have dx' := dx
      simp only [Den] at dx
      obtain ⟨p, cap, hv, hc, h63, q, ht⟩ := dx
      obtain ⟨y, ys, rfl⟩ := List.exists_cons_of_ne_nil h4
      obtain ⟨b, off, rfl, hμ⟩ := q 0 y (by simp)
      have hmut := htg _ ht ⟨b, off, none⟩ _ _ (by simp) hv
      obtain ⟨w', k1, k2⟩ := hw.mark P (b := b) (off := off) hmut hμ rfl
      have hs := (hΓ s).und
      rw [e2] at hs
      have hu := (hΓ e).und
      rw [h3] at hu
      simp only [TD.ok] at hs hu
      refine wp_value (v := a.eval x) (w' := w') ?_ (fin (Env.Le.refl E) k2 dx' ⟨rfl, rfl⟩ h5)
      simp only [execOp, ho, hv]
      have : (convert s s (.slice (some ⟨b, off, none⟩) (y :: ys).length cap)).run P w = .ok (.slice (some ⟨b, off, none⟩) (y :: ys).length cap) w' := by
        simp [convert, run_underlying hs, run_underlying hu, k1]
      rw [Sem.run_bind, this]
      rfl
    split at h
    · rename_i τ b l e e' x1 x2 x3
      obtain ⟨h1, h2, h3, h4, h6, h5⟩ := h
      refine mark _ _ (fun v hv a n c hn e => ?_) x1 _ _ x2 x3 h1 h2 h3 h4 h5
      simp only [TagOK] at hv
      obtain ⟨⟨a0, n0, c0, j, p, e1, e2, e3, e4, e5⟩, _⟩ := hv
      obtain ⟨κ, hk⟩ := hw.own
      obtain ⟨sz, a', len, cap, q1, q2, q3⟩ := hk.tk τ (tkMem_sound _ _ h6)
      rw [e1] at q1
      simp only [Option.some.injEq, Prod.mk.injEq, Value.slice.injEq] at q1
      obtain ⟨rfl, rfl, rfl, rfl⟩ := q1
      rw [e] at e4
      simp only [Value.slice.injEq] at e4
      obtain ⟨rfl, rfl, rfl⟩ := e4
      rcases q3 with q3 | ⟨b', off, T, cs, rfl, q5, q6, _⟩
      · rcases e5 with e5 | e5
        · omega
        · rw [q3.2] at e5; cases e5
      · rcases e5 with e5 | e5
        · omega
        · simp only [Option.map_some, Option.some.injEq] at e5
          rw [e5]
          simp only [Addr.add]
          split <;> exact q6
    · rename_i y e x1 x2 x3
      obtain ⟨h1, h3, h4, h5⟩ := h
      have dx := opd_den hf rfl h1
      rw [x1] at dx
      simp only [Den] at dx
      have hs := (hΓ s).und
      rw [x2] at hs
      have hd := (hΓ d).und
      rw [x3] at hd
      have hu := (hΓ e).und
      rw [h3] at hu
      simp only [TD.ok] at hs hd hu
      have hr := run_bytes_of_string (P := P) w s d e y hs hd hu
      have hgc1 := grownCap_ge w y.size 0 e
      have hgc2 := grownCap_le_maxLen w y.size 0 e (by unfold maxLen; omega)
      generalize hg : grownCap w y.size 0 e = cap at hr hgc1 hgc2
      have hrow : bytesRow y cap = ((bytesOf y).map (Value.int .u8)).toArray ++ Array.replicate (cap - y.size) (.int .u8 0) := by
        unfold bytesRow bytesOf
        congr 1
        apply Array.ext'
        simp [Function.comp_def]
      have hlen : (bytesOf y).length = y.size := by simp [bytesOf]
      obtain ⟨E', q1, q2, q3⟩ := new_ints hw.drewN .u8 e (bytesOf y) (Array.replicate (cap - y.size) (.int .u8 0)) cap (by rw [hlen]; exact hgc1) (by rw [hlen]; simp; omega) (by unfold maxLen at hgc2; omega) ((bytesRow y cap).size, (bytesRow y cap).size + 1) (.inr (by rw [hrow]; simp))
      rw [hlen] at q3
      rw [← hrow] at q2
      refine wp_value (v := .slice (some ⟨w.heap.size, 0, none⟩) y.size cap) ?_ (fin q1 (st' := st.addTok) q2 q3 ⟨rfl, rfl⟩ h5)
      simp only [execOp, ho, dx]
      rw [Sem.run_bind, hr]
      rfl
    · rename_i p n cap e x1 x2 x3
      obtain ⟨h1, h3, m, h4, h5⟩ := h
      have dx := opd_den hf rfl h1
      rw [x1] at dx
      simp only [Den] at dx
      have hs := (hΓ s).und
      rw [x2] at hs
      have hd := (hΓ d).und
      rw [x3] at hd
      have hu := (hΓ e).und
      rw [h3] at hu
      simp only [TD.ok] at hs hd hu
      obtain ⟨q1, q2⟩ := h4.run hw P cap
      have q3 := q2 w rfl
      refine wp_value (v := .string (strOf m)) (w' := w) ?_ (fin (Env.Le.refl E) hw (by simp only [Den]) ⟨rfl, rfl⟩ h5)
      simp only [execOp, ho, dx]
      have hr : (convert s d (.slice p n cap)).run P w = .ok (.string (strOf m)) w := by
        cases p with
        | none =>
          have hm : m = [] := by
            cases m with
            | nil => rfl
            | cons y ys =>
              simp [Builtin.firstCells] at q3
          subst hm
          simp [convert, run_underlying hs, run_underlying hd, run_underlying hu, Conv.bytesToString, strOf]
          rfl
        | some ad =>
          simp only [Builtin.firstCells, Nat.mul_one] at q3
          rw [q1] at q3
          have := run_bytesToString (P := P) w ad n cap m q3
          simp [convert, run_underlying hs, run_underlying hd, run_underlying hu, this, foldl_push]
      rw [Sem.run_bind, hr]
      rfl
    · exact h.elim
  · rename_i op t x y ty ho
    split at h
    · rename_i e e1 e2
      obtain ⟨h1, h2⟩ := h
      have hd := (hΓ t).und
      rw [e1] at hd
      simp only [TD.ok] at hd
      obtain ⟨c, q1, q2⟩ := evSliceNil_sound (P := P) (w := w) hd (opd_den hf rfl h1) h2 (xo := x) (yo := y)
      refine wp_value (v := .bool c) (w' := w) ?_ (fin (Env.Le.refl E) hw (by simp only [Den]) ⟨rfl, rfl⟩ q2)
      simp only [execOp, ho]
      rw [isNilS_eval (a := a) e2]
      rw [Sem.run_bind, q1]
      rfl
    · rename_i fs e1
      split at h
      · rename_i xs ys x1 x2
        split at h
        · rename_i c e3
          obtain ⟨h1, h2, h3, h4⟩ := h
          have dx := opd_den hf rfl h1
          have dy := opd_den hf rfl h2
          rw [x1] at dx
          rw [x2] at dy
          simp only [Den] at dx dy
          obtain ⟨vx, v1, dx⟩ := dx
          obtain ⟨vy, v2, dy⟩ := dy
          have hd := (hΓ t).und
          rw [e1] at hd
          simp only [TD.ok] at hd
          obtain ⟨fields, hd, hfs⟩ := hd
          have hfo : P.fieldsOf t = fields := by simp [Program.fieldsOf, hd]
          unfold eqPlain at h3
          simp only [Bool.and_eq_true, Bool.not_eq_true'] at h3
          have hq := eqB_sound (P := P) (w := w) hΓ dx dy 9998 fields.toList c (by rw [hfs]; exact e3) (by rw [← hfo]; exact h3.2)
          refine wp_value (v := .bool c) (w' := w) ?_ (fin (Env.Le.refl E) hw (by simp only [Den]) ⟨rfl, rfl⟩ h4)
          simp only [execOp, ho, v1, v2]
          have r1 := run_eqGuard_agg (P := P) w .eql t x y vx.toArray vy.toArray h3.1.1
          have r2 := run_eql_struct (P := P) w t vx.toArray vy.toArray
          rw [run_equalIn_struct w 9999 t _ _ (by rw [hfo]; exact hd) h3.1.2, hfo, hq] at r2
          simp only [Sem.run_bind, r1, Result.andThen_ok, r2]
          rfl
        · exact h.elim
      · rename_i xs ys x1 x2
        split at h
        · rename_i c e3
          obtain ⟨h1, h2, h3, h4⟩ := h
          have dx := opd_den hf rfl h1
          have dy := opd_den hf rfl h2
          rw [x1] at dx
          rw [x2] at dy
          simp only [Den] at dx dy
          obtain ⟨vx, v1, dx⟩ := dx
          obtain ⟨vy, v2, dy⟩ := dy
          have hd := (hΓ t).und
          rw [e1] at hd
          simp only [TD.ok] at hd
          obtain ⟨fields, hd, hfs⟩ := hd
          have hfo : P.fieldsOf t = fields := by simp [Program.fieldsOf, hd]
          unfold eqPlain at h3
          simp only [Bool.and_eq_true, Bool.not_eq_true'] at h3
          have hq := eqB_sound (P := P) (w := w) hΓ dx dy 9998 fields.toList c (by rw [hfs]; exact e3) (by rw [← hfo]; exact h3.2)
          refine wp_value (v := .bool (!c)) (w' := w) ?_ (fin (Env.Le.refl E) hw (by simp only [Den]) ⟨rfl, rfl⟩ h4)
          simp only [execOp, ho, v1, v2]
          have r1 := run_eqGuard_agg (P := P) w .neq t x y vx.toArray vy.toArray h3.1.1
          have r2 := run_neq_struct (P := P) w t vx.toArray vy.toArray
          rw [run_equalIn_struct w 9999 t _ _ (by rw [hfo]; exact hd) h3.1.2, hfo, hq] at r2
          simp only [Sem.run_bind, r1, Result.andThen_ok, r2]
          rfl
        · exact h.elim
      · exact h.elim
    · exact h.elim
  · rename_i c ho
    exact evCall_sound hΓ hf hw ho h hn
  · exact h.elim
end Go.Eng
/- The engine, part L: regions and code. -/
namespace Go.Eng
open Go
set_option linter.unusedVariables false
set_option linter.unusedSimpArgs false

inductive Gd where
  | bad | run | when (g : Bool)

/-- An operation's guard. -/
def evGuard (st : SS) (ops : List Oper) (o : Oper) : Gd :=
  match o.guard with
  | none => .run
  | some (j, want) =>
    match nth ops j with
    | some oj =>
      match oj.dst with
      | some d =>
        match lget st.fr d with
        | .b c => .when (c == want)
        | .cnd g (.b c) => .when (g && (c == want))
        | _ => .bad
      | none => .bad
    | none => .bad

theorem evGuard_sound {E : Env} {st : SS} {a : Act} (hf : Fr E st a) {ops : List Oper} {o : Oper} :
    (evGuard st ops o = .run → Region.wanted o (yielded ops.toArray a.tmps) = true) ∧ (∀ g, evGuard st ops o = .when g → Region.wanted o (yielded ops.toArray a.tmps) = g) := by
  unfold evGuard Region.wanted
  cases o.guard with
  | none => exact ⟨fun _ => rfl, fun g h => by simp at h⟩
  | some p =>
    obtain ⟨j, want⟩ := p
    simp only
    cases hj : nth ops j with
    | none => exact ⟨fun h => by simp at h, fun g h => by simp at h⟩
    | some oj =>
      simp only
      cases hd : oj.dst with
      | none => exact ⟨fun h => by simp at h, fun g h => by simp at h⟩
      | some d =>
        simp only
        have hden := denL_get st.fr a.tmps.toList d undef hf.tmps
        rw [nth_eq] at hj
        refine ⟨fun h => by split at h <;> simp at h, fun g h => ?_⟩
        have hy : ∀ v, a.tmps.toList[d]?.getD undef = v → v ≠ undef → yielded ops.toArray a.tmps j = (match v with | .bool b => some b | _ => none) := by
          intro v hv hne
          unfold yielded
          simp only [List.getElem?_toArray, hj, Option.bind_some, hd]
          cases ht : a.tmps[d]? with
          | none => rw [Array.getElem?_toList, ht] at hv; exact absurd hv.symm hne
          | some u =>
            rw [Array.getElem?_toList, ht] at hv
            have : u = v := hv
            subst this
            cases u <;> rfl
        split at h
        · rename_i c e
          rw [e] at hden
          simp only [Den] at hden
          simp only [Gd.when.injEq] at h
          subst h
          rw [hy _ hden (by simp [undef])]
          cases c <;> cases want <;> rfl
        · rename_i g' c e
          rw [e] at hden
          simp only [Den] at hden
          simp only [Gd.when.injEq] at h
          subst h
          cases g' with
          | true =>
            rw [hy _ (hden.1 rfl) (by simp [undef])]
            cases c <;> cases want <;> rfl
          | false =>
            have hu := hden.2 rfl
            unfold yielded
            simp only [List.getElem?_toArray, hj, Option.bind_some, hd]
            cases ht : a.tmps[d]? with
            | none => simp
            | some u =>
              have : u = undef := by rw [← hu]; simp [ht]
              subst this
              simp [undef]
        · cases h

/-- What stands for a value that was skipped. -/
def skipV (Γ : Tab) (t : TypeId) : SV :=
  match (Γ t).d with
  | .int k => .i k 0
  | .bool => .b false
  | .str => .s ⟨#[]⟩
  | _ => .any
/-- Operations one by one. -/
def evOps (P : Program) (Γ : Tab) (ops : List Oper) (K : SS → Prop) : List Oper → SS → Prop
  | [], s => K s
  | o :: r, s =>
    match evGuard s ops o with
    | .bad => False
    | .run =>
      match evalP P Γ s true o.op with
      | some (v, vc) => vc ∧ evOps P Γ ops K r (s.put o.dst v)
      | none => evEff P Γ s o (evOps P Γ ops K r)
    | .when g =>
      match evalP P Γ s g o.op with
      | some (v, vc) => (g = true → vc) ∧ evOps P Γ ops K r (s.put o.dst (.cnd g v))
      | none => (g = true → evEff P Γ s o (evOps P Γ ops K r)) ∧ (g = false → evOps P Γ ops K r (s.put o.dst (.cnd false (skipV Γ o.type))))

theorem evalP_defer {P : Program} {Γ : Tab} {s : SS} {g : Bool} {o : Oper} {x : SV × Prop} (h : evalP P Γ s g o.op = some x) : ∀ c, o.op ≠ .defer c := by
  intro c hc
  rw [hc] at h
  simp [evalP] at h
theorem evEff_defer {P : Program} {Γ : Tab} {s : SS} {o : Oper} {K : SS → Prop} (h : evEff P Γ s o K) : ∀ c, o.op ≠ .defer c := by
  intro c hc
  unfold evEff at h
  rw [hc] at h
  exact h

theorem evOps_soundL {P : Program} {Γ : Tab} (hΓ : Γ.ok P) {ops : List Oper} {K : SS → Prop} {Q : Exit → Act → World → Prop} {L : List Oper → Act → World → Prop}
    (hnil : ∀ a w, Q .normal a w → L [] a w)
    (hrun : ∀ o r a w, Region.wanted o (yielded ops.toArray a.tmps) = true → (∀ c, o.op ≠ .defer c) → o.wp P a w (L r) Q → L (o :: r) a w)
    (hskip : ∀ o r a w, Region.wanted o (yielded ops.toArray a.tmps) = false → L r (a.put o.dst undef) w → L (o :: r) a w) :
    ∀ (l : List Oper) (E : Env) (st : SS) (a : Act) (w : World), Fr E st a → Good E st w → evOps P Γ ops K l st →
      (∀ E' st' a' w', E.Le E' → Fr E' st' a' → Good E' st' w' → K st' → Q .normal a' w') → L l a w
  | [], E, st, a, w, hf, hw, h, hK => hnil a w (hK E st a w (Env.Le.refl E) hf hw h)
  | o :: r, E, st, a, w, hf, hw, h, hK => by
    have hg := evGuard_sound (E := E) hf (ops := ops) (o := o)
    simp only [evOps] at h
    have rest : ∀ E' st' a' w', E.Le E' → Fr E' st' a' → Good E' st' w' → evOps P Γ ops K r st' → L r a' w' := fun E' st' a' w' h1 h2 h3 h4 =>
      evOps_soundL hΓ hnil hrun hskip r E' st' a' w' h2 h3 h4 (fun E2 st2 a2 w2 k1 k2 k3 k4 => hK E2 st2 a2 w2 (h1.trans k1) k2 k3 k4)
    split at h
    · exact h.elim
    · rename_i e1
      split at h
      · rename_i v vc e2
        refine hrun _ _ _ _ (hg.1 e1) (evalP_defer e2) ?_
        obtain ⟨h1, h2⟩ := h
        obtain ⟨x, k1, k2⟩ := evalP_sound hΓ hf hw rfl e2 h1
        exact wp_value k1 (rest E _ _ w (Env.Le.refl E) (hf.put _ k2) (hw.put _ _) h2)
      · exact hrun _ _ _ _ (hg.1 e1) (evEff_defer h) (evEff_sound hΓ hf hw h rest)
    · rename_i g e1
      have hgw := hg.2 g e1
      split at h
      · rename_i v vc e2
        obtain ⟨h1, h2⟩ := h
        cases g with
        | true =>
          refine hrun _ _ _ _ hgw (evalP_defer e2) ?_
          obtain ⟨x, k1, k2⟩ := evalP_sound hΓ hf hw rfl e2 (h1 rfl)
          exact wp_value k1 (rest E _ _ w (Env.Le.refl E) (hf.put _ (by simp only [Den]; exact ⟨fun _ => k2, fun h => by simp at h⟩)) (hw.put _ _) h2)
        | false =>
          refine hskip _ _ _ _ hgw ?_
          exact rest E _ _ w (Env.Le.refl E) (hf.put _ (by simp only [Den]; exact ⟨fun h => by simp at h, fun _ => by trivial⟩)) (hw.put _ _) h2
      · obtain ⟨h1, h2⟩ := h
        cases g with
        | true =>
          exact hrun _ _ _ _ hgw (evEff_defer (h1 rfl)) (evEff_sound hΓ hf hw (h1 rfl) rest)
        | false =>
          refine hskip _ _ _ _ hgw ?_
          exact rest E _ _ w (Env.Le.refl E) (hf.put _ (by simp only [Den]; exact ⟨fun h => by simp at h, fun _ => by trivial⟩)) (hw.put _ _) (h2 rfl)

theorem evOps_sound {P : Program} {Γ : Tab} (hΓ : Γ.ok P) {ops : List Oper} {K : SS → Prop} {Q : Exit → Act → World → Prop} (l : List Oper) (E : Env) (st : SS) (a : Act) (w : World) (hf : Fr E st a) (hw : Good E st w) (h : evOps P Γ ops K l st)
    (hK : ∀ E' st' a' w', E.Le E' → Fr E' st' a' → Good E' st' w' → K st' → Q .normal a' w') : wpList P ops.toArray Q l a w :=
  evOps_soundL (L := wpList P ops.toArray Q) hΓ (fun a w h => h) (fun o r a w h1 _ h2 => by simp only [wpList]; rw [if_pos h1]; exact .inl h2) (fun o r a w h1 h2 => by simp only [wpList]; rw [if_neg (by rw [h1]; simp)]; exact h2) l E st a w hf hw h hK

/-- The fence that shuts nothing out, in a round's frame or not. -/
def wideR (rd : Option Nat) : Fence := { Fence.wide with round := rd }
theorem wideR_fn (rd : Option Nat) (f : FuncId) : (wideR rd).fn f := trivial
theorem wideR_none : wideR none = Fence.wide := rfl
theorem rowsIn_of {rd : Option Nat} {P : Program} {row : String} {args : Array Value} {w : World} {R : Value → World → Prop} {n : Nat} (h : Rows P row args w R) : RowsIn (wideR rd) n P row args w R := by
  intro c cs _
  obtain ⟨v, w', r, s⟩ := h c cs
  exact ⟨v, w', r, stepsIn_wide.2 s⟩
theorem wpIn_of {rd : Option Nat} {P : Program} {o : Oper} {a : Act} {w : World} {next : Act → World → Prop} {Q : Exit → Act → World → Prop} (hd : ∀ c, o.op ≠ .defer c) (hQ : ¬ LetsOut Q) (h : o.wp P a w next Q) : o.wpIn (wideR rd) 0 P a w next Q := by
  refine ⟨fun _ _ => trivial, ?_⟩
  rw [Oper.semAt_eq _ _ _ hd]
  unfold Oper.wp at h
  revert h
  cases (execOp a.eval o).run P w with
  | ok x w' =>
    cases x <;> intro h <;> first
      | exact h
      | exact ⟨fun h => by simp [wideR, Fence.wide] at h, callsIn_wide.2 h⟩
      | exact ⟨fun h => by simp [wideR, Fence.wide] at h, rowsIn_of h⟩
      | exact h.elim
  | halt x w' => cases x <;> intro h <;> first | exact h | exact h.elim
theorem evOps_soundIn {P : Program} {Γ : Tab} (hΓ : Γ.ok P) {rd : Option Nat} {ops : List Oper} {K : SS → Prop} {Q : Exit → Act → World → Prop} (hQ : ¬ LetsOut Q) (l : List Oper) (E : Env) (st : SS) (a : Act) (w : World) (hf : Fr E st a) (hw : Good E st w) (h : evOps P Γ ops K l st)
    (hK : ∀ E' st' a' w', E.Le E' → Fr E' st' a' → Good E' st' w' → K st' → Q .normal a' w') : wpListIn (wideR rd) 0 P ops.toArray Q l a w :=
  evOps_soundL (L := wpListIn (wideR rd) 0 P ops.toArray Q) hΓ (fun a w h => h) (fun o r a w h1 hd h2 => by simp only [wpListIn]; rw [if_pos h1]; exact wpIn_of hd hQ h2)
    (fun o r a w h1 h2 => by simp only [wpListIn]; rw [if_neg (by rw [h1]; simp)]; exact ⟨fun _ _ => trivial, h2⟩) l E st a w hf hw h hK

/-- Operations that leave the world alone. -/
def evStill (P : Program) (Γ : Tab) (ops : List Oper) (K : SS → Prop) : List Oper → SS → Prop
  | [], s => K s
  | o :: r, s =>
    match evGuard s ops o with
    | .bad => False
    | .run =>
      match evalP P Γ s true o.op with
      | some (v, vc) => vc ∧ evStill P Γ ops K r (s.put o.dst v)
      | none => False
    | .when g =>
      match evalP P Γ s g o.op with
      | some (v, vc) => (g = true → vc) ∧ evStill P Γ ops K r (s.put o.dst (.cnd g v))
      | none => False

theorem evStill_sound {P : Program} {Γ : Tab} (hΓ : Γ.ok P) {ops : List Oper} {K : SS → Prop} {Q : Act → Prop} {E : Env} {w : World} :
    ∀ (l : List Oper) (st : SS) (a : Act), Fr E st a → Good E st w → evStill P Γ ops K l st →
      (∀ st' a', Fr E st' a' → Good E st' w → K st' → Q a') → wpStill P ops.toArray w Q l a
  | [], st, a, hf, hw, h, hK => hK st a hf hw h
  | o :: r, st, a, hf, hw, h, hK => by
    have hg := evGuard_sound (E := E) hf (ops := ops) (o := o)
    simp only [evStill] at h
    simp only [wpStill]
    split at h
    · exact h.elim
    · rename_i e1
      rw [if_pos (hg.1 e1)]
      split at h
      · rename_i v vc e2
        obtain ⟨h1, h2⟩ := h
        obtain ⟨x, k1, k2⟩ := evalP_sound hΓ hf hw rfl e2 h1
        unfold Oper.still
        rw [k1]
        exact ⟨rfl, evStill_sound hΓ r _ _ (hf.put _ k2) (hw.put _ _) h2 hK⟩
      · exact h.elim
    · rename_i g e1
      have hgw := hg.2 g e1
      split at h
      · rename_i v vc e2
        obtain ⟨h1, h2⟩ := h
        cases g with
        | true =>
          rw [if_pos hgw]
          obtain ⟨x, k1, k2⟩ := evalP_sound hΓ hf hw rfl e2 (h1 rfl)
          unfold Oper.still
          rw [k1]
          exact ⟨rfl, evStill_sound hΓ r _ _ (hf.put _ (by simp only [Den]; exact ⟨fun _ => k2, fun h => by simp at h⟩)) (hw.put _ _) h2 hK⟩
        | false =>
          rw [if_neg (by rw [hgw]; simp)]
          exact evStill_sound hΓ r _ _ (hf.put _ (by simp only [Den]; exact ⟨fun h => by simp at h, fun _ => by trivial⟩)) (hw.put _ _) h2 hK
      · exact h.elim
end Go.Eng
