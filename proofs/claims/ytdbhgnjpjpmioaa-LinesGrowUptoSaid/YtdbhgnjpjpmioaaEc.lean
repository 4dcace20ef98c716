/- The engine, part C: operations that leave the world alone. -/
import Derived.Test.YtdbhgnjpjpmioaaEb
namespace Go.Eng
open Go
set_option linter.unusedVariables false
set_option linter.unusedSimpArgs false

def andI (k : IntKind) (a b : Int) : Int := k.wrap ((BitVec.ofInt k.bits a &&& BitVec.ofInt k.bits b).toNat : Int)
def orI (k : IntKind) (a b : Int) : Int := k.wrap ((BitVec.ofInt k.bits a ||| BitVec.ofInt k.bits b).toNat : Int)
def xorI (k : IntKind) (a b : Int) : Int := k.wrap ((BitVec.ofInt k.bits a ^^^ BitVec.ofInt k.bits b).toNat : Int)
def andNotI (k : IntKind) (a b : Int) : Int := k.wrap ((BitVec.ofInt k.bits a &&& ~~~BitVec.ofInt k.bits b).toNat : Int)
def shlI (k : IntKind) (a b : Int) : Int := k.wrap (a * 2 ^ min b.toNat k.bits)
def shrI (k : IntKind) (a b : Int) : Int := a.fdiv (2 ^ min b.toNat k.bits)
def byteAt (x : ByteArray) (i : Int) : Int := (((x[i.toNat]?).getD 0).toNat : Int)
def strOf (l : List Int) : ByteArray := ⟨(l.map fun n => UInt8.ofNat n.toNat).toArray⟩
def minI (a b : Int) : Int := if b < a then b else a
def maxI (a b : Int) : Int := if a < b then b else a

def binI (op : BinOp) (k : IntKind) (a b : Int) : Option (SV × Prop) :=
  match op with
  | .add => some (.i k (k.wrap (a + b)), True)
  | .sub => some (.i k (k.wrap (a - b)), True)
  | .mul => some (.i k (k.wrap (a * b)), True)
  | .quo => some (.i k (k.wrap (a.tdiv b)), b ≠ 0)
  | .rem => some (.i k (a.tmod b), b ≠ 0)
  | .and => some (.i k (andI k a b), True)
  | .or => some (.i k (orI k a b), True)
  | .xor => some (.i k (xorI k a b), True)
  | .andNot => some (.i k (andNotI k a b), True)
  | .eql => some (.b (a == b), True)
  | .neq => some (.b (a != b), True)
  | .lss => some (.b (decide (a < b)), True)
  | .leq => some (.b (decide (a ≤ b)), True)
  | .gtr => some (.b (decide (b < a)), True)
  | .geq => some (.b (decide (b ≤ a)), True)
  | .shl => none
  | .shr => none

theorem binI_sound (P : Program) (w : World) (op : BinOp) (t : TypeId) (k : IntKind) (a b : Int) (x y : Operand) (r : SV) (vc : Prop) (E : Env)
    (h : binI op k a b = some (r, vc)) (hv : vc) :
    ∃ v, (do eqGuard op t x y (.int k a) (.int k b); binOp op t (.int k a) (.int k b) : Sem Value).run P w = .ok v w ∧ Den E r v := by
  cases op <;> simp only [binI, Option.some.injEq, Prod.mk.injEq, reduceCtorEq] at h
  all_goals (obtain ⟨rfl, rfl⟩ := h)
  all_goals simp only [Den]
  all_goals refine ⟨_, ?_, rfl⟩
  all_goals simp [eqGuard, binOp, Op.intArith, Op.intDiv, hv, Op.intBits, Op.intCmp, andI, orI, xorI, andNotI]

def binS (op : BinOp) (a b : ByteArray) : Option (SV × Prop) :=
  match op with
  | .add => some (.s (a ++ b), a.size + b.size ≤ 9223372036854775807)
  | .eql => some (.b (a.toList == b.toList), True)
  | .neq => some (.b (!(a.toList == b.toList)), True)
  | _ => none

theorem binS_sound (P : Program) (w : World) (op : BinOp) (t : TypeId) (a b : ByteArray) (x y : Operand) (r : SV) (vc : Prop) (E : Env)
    (h : binS op a b = some (r, vc)) (hv : vc) :
    ∃ v, (do eqGuard op t x y (.string a) (.string b); binOp op t (.string a) (.string b) : Sem Value).run P w = .ok v w ∧ Den E r v := by
  cases op <;> simp only [binS, Option.some.injEq, Prod.mk.injEq, reduceCtorEq] at h
  all_goals (obtain ⟨rfl, rfl⟩ := h)
  · refine ⟨.string (a ++ b), ?_, by simp only [Den]⟩
    simp [eqGuard, binOp, Op.stringOp]
    omega
  · exact ⟨_, by simp [eqGuard, binOp, Op.stringOp]; rfl, by simp only [Den]⟩
  · exact ⟨_, by simp [eqGuard, binOp, Op.stringOp]; rfl, by simp only [Den]⟩

def isC : Operand → Bool
  | .const _ => true
  | _ => false

theorem equal_of {P : Program} {w : World} {t : TypeId} {x y : Value} {b : Bool} (h : ∀ d, (Op.equalIn (d + 1) t x y).run P w = .ok b w) : (Op.equal t x y).run P w = .ok b w := h 9999
theorem eql_of {P : Program} {w : World} {t : TypeId} {x y : Value} {b : Bool} (hx : ∀ k n, x ≠ .int k n) (hx2 : ∀ s, x ≠ .string s) (hx3 : ∀ k n, x ≠ .float k n) (hx4 : ∀ k a b, x ≠ .complex k a b)
    (h : ∀ d, (Op.equalIn (d + 1) t x y).run P w = .ok b w) : (binOp .eql t x y).run P w = .ok (.bool b) w := by
  have := equal_of h
  cases x <;> simp_all [binOp]
theorem neq_of {P : Program} {w : World} {t : TypeId} {x y : Value} {b : Bool} (hx : ∀ k n, x ≠ .int k n) (hx2 : ∀ s, x ≠ .string s) (hx3 : ∀ k n, x ≠ .float k n) (hx4 : ∀ k a b, x ≠ .complex k a b)
    (h : ∀ d, (Op.equalIn (d + 1) t x y).run P w = .ok b w) : (binOp .neq t x y).run P w = .ok (.bool (!b)) w := by
  have := equal_of h
  cases x <;> simp_all [binOp]

/-- A comparison of pointers, functions, interface values with nil, and of bools. -/
def binE (d : TD) (c : Bool) (op : BinOp) (x y : SV) : Option (SV × Prop) :=
  match op, d, x, y with
  | .eql, .bool, .b a, .b b => some (.b (a == b), True)
  | .neq, .bool, .b a, .b b => some (.b (!(a == b)), True)
  | .eql, .ptr _, .ptr _ _, .nilp => some (.b false, True)
  | .neq, .ptr _, .ptr _ _, .nilp => some (.b true, True)
  | .eql, .ptr _, .ep _ _, .nilp => some (.b false, True)
  | .neq, .ptr _, .ep _ _, .nilp => some (.b true, True)
  | .eql, .ptr _, .raw (.pointer (some _)), .nilp => some (.b false, True)
  | .neq, .ptr _, .raw (.pointer (some _)), .nilp => some (.b true, True)
  | .eql, .ptr _, .nilp, .nilp => some (.b true, True)
  | .neq, .ptr _, .nilp, .nilp => some (.b false, True)
  | .eql, .iface, .ifc _ _, .nili => some (.b false, True)
  | .neq, .iface, .ifc _ _, .nili => some (.b true, True)
  | .eql, .iface, .nili, .nili => some (.b true, c = true)
  | .neq, .iface, .nili, .nili => some (.b false, c = true)
  | .eql, .func, .fn _ _ _, .nilf => some (.b false, True)
  | .neq, .func, .fn _ _ _, .nilf => some (.b true, True)
  | .eql, .func, .nilf, .nilf => some (.b true, True)
  | .neq, .func, .nilf, .nilf => some (.b false, True)
  | _, _, _, _ => none

theorem eqGuard_nil {P : Program} {w : World} {op : BinOp} {t : TypeId} {x y : Operand} (h : (isC x || isC y) = true) : (eqGuard op t x y .nilIface .nilIface).run P w = .ok () w := by
  revert h
  cases x <;> cases y <;> cases op <;> simp [isC, eqGuard]

theorem binE_sound (P : Program) (w : World) (op : BinOp) (t : TypeId) (d : TD) (hd : d.ok (P.underlying t)) (x y : Operand) (r : SV) (vc : Prop) (E : Env) (sx sy : SV) (vx vy : Value)
    (hx : Den E sx vx) (hy : Den E sy vy)
    (h : binE d (isC x || isC y) op sx sy = some (r, vc)) (hv : vc) :
    ∃ v, (do eqGuard op t x y vx vy; binOp op t vx vy : Sem Value).run P w = .ok v w ∧ Den E r v := by
  unfold binE at h
  split at h <;> simp only [Option.some.injEq, Prod.mk.injEq, reduceCtorEq] at h
  all_goals (obtain ⟨rfl, rfl⟩ := h)
  all_goals simp only [TD.ok] at hd
  all_goals simp only [Den] at hx hy
  all_goals (refine ⟨.bool _, ?_, by simp only [Den]; rfl⟩)
  · subst hx hy; simp [eqGuard]; refine eql_of (by simp) (by simp) (by simp) (by simp) fun d => ?_; simp [Op.equalIn, run_underlying hd]
  · subst hx hy; simp [eqGuard]; refine neq_of (by simp) (by simp) (by simp) (by simp) fun d => ?_; simp [Op.equalIn, run_underlying hd]
  · obtain ⟨b, _, rfl⟩ := hx; subst hy; simp [eqGuard]; refine eql_of (by simp) (by simp) (by simp) (by simp) fun d => ?_; simp [Op.equalIn, run_underlying hd]
  · obtain ⟨b, _, rfl⟩ := hx; subst hy; simp [eqGuard]; refine neq_of (b := false) (by simp) (by simp) (by simp) (by simp) fun d => ?_; simp [Op.equalIn, run_underlying hd]
  · obtain ⟨b, o, rfl, _⟩ := hx; subst hy; simp [eqGuard]; refine eql_of (by simp) (by simp) (by simp) (by simp) fun d => ?_; simp [Op.equalIn, run_underlying hd]
  · obtain ⟨b, o, rfl, _⟩ := hx; subst hy; simp [eqGuard]; refine neq_of (b := false) (by simp) (by simp) (by simp) (by simp) fun d => ?_; simp [Op.equalIn, run_underlying hd]
  · subst hx hy; simp [eqGuard]; refine eql_of (by simp) (by simp) (by simp) (by simp) fun d => ?_; simp [Op.equalIn, run_underlying hd]
  · subst hx hy; simp [eqGuard]; refine neq_of (b := false) (by simp) (by simp) (by simp) (by simp) fun d => ?_; simp [Op.equalIn, run_underlying hd]
  · subst hx hy; simp [eqGuard]; refine eql_of (by simp) (by simp) (by simp) (by simp) fun d => ?_; simp [Op.equalIn, run_underlying hd]
  · subst hx hy; simp [eqGuard]; refine neq_of (b := true) (by simp) (by simp) (by simp) (by simp) fun d => ?_; simp [Op.equalIn, run_underlying hd]
  · obtain ⟨b, rfl, _⟩ := hx; subst hy; obtain ⟨ms, hd⟩ := hd; simp [eqGuard]; refine eql_of (by simp) (by simp) (by simp) (by simp) fun d => ?_; simp [Op.equalIn, run_underlying hd]
  · obtain ⟨b, rfl, _⟩ := hx; subst hy; obtain ⟨ms, hd⟩ := hd; simp [eqGuard]; refine neq_of (b := false) (by simp) (by simp) (by simp) (by simp) fun d => ?_; simp [Op.equalIn, run_underlying hd]
  · subst hx hy; obtain ⟨ms, hd⟩ := hd
    rw [Sem.run_bind, eqGuard_nil hv]; simp only [Result.andThen_ok]; refine eql_of (by simp) (by simp) (by simp) (by simp) fun d => ?_; simp [Op.equalIn, run_underlying hd]
  · subst hx hy; obtain ⟨ms, hd⟩ := hd
    rw [Sem.run_bind, eqGuard_nil hv]; simp only [Result.andThen_ok]; refine neq_of (b := true) (by simp) (by simp) (by simp) (by simp) fun d => ?_; simp [Op.equalIn, run_underlying hd]
  · obtain ⟨fs, cs, rfl, _⟩ := hx; subst hy; obtain ⟨a1, a2, a3, hd⟩ := hd; simp [eqGuard]; refine eql_of (by simp) (by simp) (by simp) (by simp) fun d => ?_; simp [Op.equalIn, run_underlying hd]
  · obtain ⟨fs, cs, rfl, _⟩ := hx; subst hy; obtain ⟨a1, a2, a3, hd⟩ := hd; simp [eqGuard]; refine neq_of (b := false) (by simp) (by simp) (by simp) (by simp) fun d => ?_; simp [Op.equalIn, run_underlying hd]
  · subst hx hy; obtain ⟨a1, a2, a3, hd⟩ := hd; simp [eqGuard]; refine eql_of (by simp) (by simp) (by simp) (by simp) fun d => ?_; simp [Op.equalIn, run_underlying hd]
  · subst hx hy; obtain ⟨a1, a2, a3, hd⟩ := hd; simp [eqGuard]; refine neq_of (b := true) (by simp) (by simp) (by simp) (by simp) fun d => ?_; simp [Op.equalIn, run_underlying hd]

def bin (d : TD) (c : Bool) (op : BinOp) (x y : SV) : Option (SV × Prop) :=
  match x, y with
  | .i k a, .i k' b =>
    match op with
    | .shl => some (.i k (shlI k a b), 0 ≤ b)
    | .shr => some (.i k (shrI k a b), 0 ≤ b)
    | _ => if k = k' then binI op k a b else none
  | .s a, .s b => binS op a b
  | _, _ => binE d c op x y

theorem bin_sound (P : Program) (w : World) (op : BinOp) (t : TypeId) (d : TD) (hd : d.ok (P.underlying t)) (x y : Operand) (r : SV) (vc : Prop) (E : Env) (sx sy : SV) (vx vy : Value)
    (hx : Den E sx vx) (hy : Den E sy vy)
    (h : bin d (isC x || isC y) op sx sy = some (r, vc)) (hv : vc) :
    ∃ v, (do eqGuard op t x y vx vy; binOp op t vx vy : Sem Value).run P w = .ok v w ∧ Den E r v := by
  unfold bin at h
  split at h
  · rename_i k a k' b
    simp only [Den] at hx hy
    subst hx hy
    split at h
    · simp only [Option.some.injEq, Prod.mk.injEq] at h
      obtain ⟨rfl, rfl⟩ := h
      have : ¬ b < 0 := by omega
      exact ⟨_, by simp [eqGuard, binOp, Op.shift, this]; rfl, by simp only [Den, shlI]⟩
    · simp only [Option.some.injEq, Prod.mk.injEq] at h
      obtain ⟨rfl, rfl⟩ := h
      have : ¬ b < 0 := by omega
      exact ⟨_, by simp [eqGuard, binOp, Op.shift, this]; rfl, by simp only [Den, shrI]⟩
    · split at h
      · rename_i hk; subst hk; exact binI_sound P w op t k a b x y r vc E h hv
      · cases h
  · simp only [Den] at hx hy
    subst hx hy
    exact binS_sound P w op t _ _ x y r vc E h hv
  · exact binE_sound P w op t d hd x y r vc E sx sy vx vy hx hy h hv
end Go.Eng
