/- Texts joined, in order: Qa, Qb, Lb. -/
import Derived.Test.YtbhkpefjnomncaaZCaRl
import Derived.Test.YtbhkpefjnomncaaZLaKa
/- A text onto an unbuffered stream: a Raw that takes nothing (spy), then one raw write. -/
namespace Go.Proofs.Ytbhkpefjnomncaa
open Go Go.Eng
set_option maxHeartbeats 4000000
set_option linter.unusedSimpArgs false
set_option linter.unusedVariables false
set_option maxRecDepth 100000

/-- A method with a value receiver that is the type's own. -/
def methodVB (P : Program) (t : TypeId) (name : String) (f : FuncId) : Bool :=
  (match P.info? t with
    | some i => (match i.methods.find? (·.name == name) with
      | some m => m.path.toList.isEmpty && (match m.func with | some (g, false) => g == f | _ => false)
      | none => false)
    | none => false) && (match P.underlying t with | some (.struct _) => true | _ => false)

theorem methodV_of {P : Program} {t : TypeId} {name : String} {f : FuncId} (h : methodVB P t name f = true) (y : Value) (w : World) :
    (Go.method (P.types.size + Made.depth) t y name).run P w = .ok (f, y) w ∧ (nilAhead (P.types.size + Made.depth) t y name).run P w = .ok (some false) w := by
  unfold methodVB at h
  rw [Bool.and_eq_true] at h
  obtain ⟨h1, h2⟩ := h
  split at h1
  · rename_i i hi
    split at h1
    · rename_i m hm
      rw [Bool.and_eq_true] at h1
      obtain ⟨h3, h4⟩ := h1
      split at h4
      · rename_i g hg
        have hg' : g = f := by simpa using h4
        subst hg'
        split at h2
        · rename_i e he
          have hp : m.path.toList = [] := by simpa using h3
          rw [show P.types.size + Made.depth = (P.types.size + (Made.depth - 1)) + 1 by unfold Made.depth; omega]
          have h5 : (typeInfo t).run P w = .ok i w := by simp [typeInfo, hi]
          constructor
          · simp only [Go.method, Sem.run_bind]
            rw [h5]
            simp only [Result.andThen_ok, hm, Sem.run_bind, hp, Go.follow, Sem.run_pure, hg]
            have h6 : ∀ x, (Go.receiverAt t (.val y) false x).run P w = .ok y w := fun x => by
              simp [Go.receiverAt, run_underlying he, Place.get]
            rw [h6]
            rfl
          · simp only [Go.nilAhead, Sem.run_bind]
            rw [h5]
            simp only [Result.andThen_ok, hm, Sem.run_bind, hp, Go.followBlind, Sem.run_pure, hg]
            simp [run_underlying he]
        · cases h2
      · cases h4
    · cases h1
  · cases h1

theorem invV_of {P : Program} {t : TypeId} {name : String} {f : FuncId} (hm : methodVB P t name f = true) {y : Value} {sy : SV} (hd : ∀ E : Env, Den E sy y) {pre : SS} {pargs : List SV} {R : SV → SS → Prop} (hC : Contract P f pre (sy :: pargs) R) :
    InvC P t y name pre pargs R := by
  intro E w vs hw0 hw hv
  obtain ⟨k1, k2⟩ := hC E w (y :: vs) hw0 hw (by simp only [DenL]; exact ⟨hd E, hv⟩)
  refine ⟨f, (y :: vs).toArray, ?_, k2⟩
  rw [← k1]
  simp only [callMethod, Sem.run_bind, run_program, Result.andThen_ok, (methodV_of hm y w).1]
  congr 2
  apply Array.ext'; simp
theorem nilOKV_of {P : Program} {t : TypeId} {name : String} {f : FuncId} (hm : methodVB P t name f = true) (y : Value) : NilOK P name (.ifc t (.raw y)) := by
  intro E v hv
  simp only [Den] at hv
  obtain ⟨y', rfl, rfl⟩ := hv
  exact ⟨t, _, rfl, fun w => (methodV_of hm _ w).2⟩

/-- The arguments may be told otherwise. -/
theorem Contract.args {P : Program} {f : FuncId} {pre : SS} {a b : List SV} {R : SV → SS → Prop} (hd : ∀ E vs, DenL E b vs → DenL E a vs) (h : Contract P f pre a R) : Contract P f pre b R :=
  fun E w vs h0 hw hv => h E w vs h0 hw (hd E vs hv)

/-- The Raw that takes nothing. -/
def spyM (M : RawM) : RawM where
  σ := M.σ
  t := 117
  y := .agg #[.iface M.t M.y]
  res := M.res
  ok := M.ok
  rd s n := (s, [], 0)
  wr s l := (s, 0, 52)
  sk s o w := (s, 0, 0)
  rm := M.rm

theorem spyWrite_c (M : RawM) (g : M.σ) (l : List Int) : Contract Try.prog 123 (preR (M.res g)) [.agg [M.v], .ints .u8 .old l] (fun sv post => sv = .tup [.i .i64 0, .i .i64 52] ∧ post = preR (M.res g)) := by
  refine contract_ev Γok Try.func123 rfl rfl [] ?_
  simp (maxSteps := 4000000) only [push_cast, Int.reduceEq, Int.reduceBNe, Int.reduceBEq, Int.reduceAdd, Int.reduceSub, Int.reduceMul, Int.reduceNeg, Int.reduceLT, Int.reduceLE, Int.reduceToNat, Nat.reduceLT, Nat.reduceAdd, Nat.reduceSub, Nat.reduceMul, Nat.reduceEqDiff, Nat.reduceLeDiff, Nat.reduceBEq, reduceIte, reduceCtorEq, Try.f123, preR, RawM.v]
  exact Fin.w [0] (.tup [.i .i64 0, .i .i64 52]) _ (by simp (maxSteps := 4000000) only [push_cast, Int.reduceEq, Int.reduceBNe, Int.reduceBEq, Int.reduceAdd, Int.reduceSub, Int.reduceMul, Int.reduceNeg, Int.reduceLT, Int.reduceLE, Int.reduceToNat, Nat.reduceLT, Nat.reduceAdd, Nat.reduceSub, Nat.reduceMul, Nat.reduceEqDiff, Nat.reduceLeDiff, Nat.reduceBEq, reduceIte, reduceCtorEq]) ⟨rfl, rfl⟩

theorem spyM_wr (M : RawM) : (spyM M).Wr := by
  refine ⟨?_, fun s l hg h1 h2 h3 => ⟨hg, ?_⟩, fun s l hg h1 h2 h3 => ?_⟩
  · exact nilOKV_of (f := 123) (by kernel_rfl) _
  · exact Nat.le_add_right _ _
  · exact invV_of (f := 123) (sy := .agg [M.v]) (by kernel_rfl) (fun E => by simp [RawM.v, Den, DenL, spyM]) (spyWrite_c M s l)
theorem spy_putV (M : RawM) (g : M.σ) (c : Int) : putV (spyM M) g [c] = (g, [c], 52) := rfl
end Go.Proofs.Ytbhkpefjnomncaa
/- A text put onto a stream. -/
namespace Go.Proofs.Ytbhkpefjnomncaa
open Go Go.Eng
set_option maxHeartbeats 4000000
set_option linter.unusedSimpArgs false
set_option linter.unusedVariables false
set_option maxRecDepth 100000

theorem spy_Put (M : RawM) (x : St) (g : M.σ) (c : Int) (hb : x.bErr = 0) (hw : x.wErr = 0) (h1 : x.m = 1) : x.Put (spyM M) g c = ({ x with d := 2 }, g, 52) := by
  unfold St.Put St.put
  rw [if_neg (by rw [hb]; simp), if_neg (by rw [hw]; simp), if_pos h1, spy_putV]
  simp [St.noted]
  rfl

theorem spyPut_c (M : RawM) (x : St) (g : M.σ) (hg : M.ok g) (hx : x.fits) (c : Int) (hb : x.bErr = 0) (hw : x.wErr = 0) (h1 : x.m = 1) (hr : x.o.length + 1 ≤ M.rm g) :
    Contract Try.prog 21 (preR (M.res g)) [x.sv .old, .ifc 117 (.agg [M.v]), .i .u8 c] (isS M ({ x with d := 2 }, g, 52)) := by
  have h := PutR_c (spyM M) (spyM_wr M) x g hg hx c hr
  rw [spy_Put M x g c hb hw h1] at h
  refine Contract.args (fun E vs hv => ?_) h
  have key : ∀ v, Den E (.ifc 117 (.agg [M.v])) v → Den E (spyM M).v v := by
    intro v hv
    simp only [RawM.v, spyM, Den] at hv ⊢
    obtain ⟨y, rfl, vs, rfl, hy⟩ := hv
    rcases vs with _ | ⟨v1, _ | ⟨v2, vs⟩⟩
    · simp [DenL] at hy
    · simp only [DenL, Den] at hy
      obtain ⟨⟨y1, rfl, rfl⟩, -⟩ := hy
      exact ⟨_, rfl, rfl⟩
    · simp [DenL] at hy
  rcases vs with _ | ⟨v1, _ | ⟨v2, vs⟩⟩
  · simp [DenL] at hv
  · simp [DenL] at hv
  · simp only [DenL] at hv ⊢
    exact ⟨hv.1, key _ hv.2.1, hv.2.2⟩

/-- Unbuffered: one raw write; what follows, how many bytes, an error. -/
def St.wholeV (M : RawM) (x : St) (g : M.σ) (b : List Int) : St × M.σ × Int × Int :=
  (({ x with d := 2 } : St).noted (putV M g b).2.2, (putV M g b).1, b.length - (putV M g b).2.1.length, (putV M g b).2.2)
/-- How a put of a text ends. -/
def isSN (M : RawM) (r : St × M.σ × Int × Int) (sv : SV) (post : SS) : Prop := sv = .tup [r.1.sv .new, .i .i64 r.2.2.1, .i .i64 r.2.2.2] ∧ post = preR (M.res r.2.1)

theorem whole_c (M : RawM) (hW : M.Wr) (x : St) (g : M.σ) (hg : M.ok g) (hx : x.fits) (b : List Int) (hb : x.bErr = 0) (hw : x.wErr = 0) (h1 : x.m = 1) (hb0 : b ≠ []) (hb1 : b.length ≤ 1048576) (hr : b.length ≤ M.rm g) (hr2 : x.o.length + 1 ≤ M.rm g) :
    Contract Try.prog 59 (preR (M.res g)) [x.sv .old, M.v, .ints .u8 .old b] (isSN M (x.wholeV M g b)) := by
  have hb2 := List.length_pos_iff.2 hb0
  refine contract_ev Γok Try.func59 rfl rfl [1] ?_
  simp (maxSteps := 4000000) only [push_cast, Int.reduceEq, Int.reduceBNe, Int.reduceBEq, Int.reduceAdd, Int.reduceSub, Int.reduceMul, Int.reduceNeg, Int.reduceLT, Int.reduceLE, Int.reduceToNat, Nat.reduceLT, Nat.reduceAdd, Nat.reduceSub, Nat.reduceMul, Nat.reduceEqDiff, Nat.reduceLeDiff, Nat.reduceBEq, reduceIte, reduceCtorEq, Try.f59, RawM.v, St.sv, St.cells, rg11]
  refine (region_plan rfl Γok mixed (.pure 0 (.pure 1 (.pure 2 (.pure 3 (.pure 4 (.pure 5 (.pure 6 (.eff (.cons 7 [] (.pure 8 (.pure 9 (.pure 10 (.eff (.cons 11 [0, 6] (.eff (.cons 12 [] (.pure 13 .done) .nil)) .nil))))) (.cons 11 [0, 6] (.eff (.cons 7 [] (.pure 8 (.pure 9 (.pure 10 (.eff (.cons 12 [] (.pure 13 .done) .nil))))) .nil)) .nil)))))))))) 47 rfl (by kernel_rfl) ?_)
  simp (maxSteps := 4000000) only [push_cast, Int.reduceEq, Int.reduceBNe, Int.reduceBEq, Int.reduceAdd, Int.reduceSub, Int.reduceMul, Int.reduceNeg, Int.reduceLT, Int.reduceLE, Int.reduceToNat, Nat.reduceLT, Nat.reduceAdd, Nat.reduceSub, Nat.reduceMul, Nat.reduceEqDiff, Nat.reduceLeDiff, Nat.reduceBEq, reduceIte, reduceCtorEq, rg11]
  refine ⟨by omega, ?_, ?_⟩
  all_goals
    refine call_w (spyPut_c M x g hg hx (b.getD 0 0) hb hw h1 hr2) [0] (by simp (maxSteps := 4000000) only [push_cast, Int.reduceEq, Int.reduceBNe, Int.reduceBEq, Int.reduceAdd, Int.reduceSub, Int.reduceMul, Int.reduceNeg, Int.reduceLT, Int.reduceLE, Int.reduceToNat, Nat.reduceLT, Nat.reduceAdd, Nat.reduceSub, Nat.reduceMul, Nat.reduceEqDiff, Nat.reduceLeDiff, Nat.reduceBEq, reduceIte, reduceCtorEq, RawM.v, St.sv, St.cells]) ?_
    rintro sv post ⟨rfl, rfl⟩
    simp (maxSteps := 4000000) only [push_cast, Int.reduceEq, Int.reduceBNe, Int.reduceBEq, Int.reduceAdd, Int.reduceSub, Int.reduceMul, Int.reduceNeg, Int.reduceLT, Int.reduceLE, Int.reduceToNat, Nat.reduceLT, Nat.reduceAdd, Nat.reduceSub, Nat.reduceMul, Nat.reduceEqDiff, Nat.reduceLeDiff, Nat.reduceBEq, reduceIte, reduceCtorEq, RawM.v, St.sv, St.cells, rg11]
    refine call_w (putR_c M hW g hg b hb1 hr) [0] (by simp (maxSteps := 4000000) only [push_cast, Int.reduceEq, Int.reduceBNe, Int.reduceBEq, Int.reduceAdd, Int.reduceSub, Int.reduceMul, Int.reduceNeg, Int.reduceLT, Int.reduceLE, Int.reduceToNat, Nat.reduceLT, Nat.reduceAdd, Nat.reduceSub, Nat.reduceMul, Nat.reduceEqDiff, Nat.reduceLeDiff, Nat.reduceBEq, reduceIte, reduceCtorEq, RawM.v]) ?_
    rintro sv post ⟨rfl, rfl⟩
    simp (maxSteps := 4000000) only [push_cast, Int.reduceEq, Int.reduceBNe, Int.reduceBEq, Int.reduceAdd, Int.reduceSub, Int.reduceMul, Int.reduceNeg, Int.reduceLT, Int.reduceLE, Int.reduceToNat, Nat.reduceLT, Nat.reduceAdd, Nat.reduceSub, Nat.reduceMul, Nat.reduceEqDiff, Nat.reduceLeDiff, Nat.reduceBEq, reduceIte, reduceCtorEq, RawM.v, St.sv, St.cells, rg11]
    exact Fin.w [0] (.tup [(x.wholeV M g b).1.sv .new, .i .i64 (x.wholeV M g b).2.2.1, .i .i64 (x.wholeV M g b).2.2.2]) (preR (M.res (x.wholeV M g b).2.1)) (by simp (maxSteps := 4000000) only [push_cast, Int.reduceEq, Int.reduceBNe, Int.reduceBEq, Int.reduceAdd, Int.reduceSub, Int.reduceMul, Int.reduceNeg, Int.reduceLT, Int.reduceLE, Int.reduceToNat, Nat.reduceLT, Nat.reduceAdd, Nat.reduceSub, Nat.reduceMul, Nat.reduceEqDiff, Nat.reduceLeDiff, Nat.reduceBEq, reduceIte, reduceCtorEq, St.wholeV, St.noted, St.sv, St.cells, preR]) ⟨rfl, rfl⟩

theorem aErr0 {x : St} (hb : x.bErr = 0) : x.aErr 0 = 0 := by
  obtain ⟨h1, h2⟩ := bErr_zero hb
  unfold St.aErr
  rw [if_pos h1, if_neg (by simp [h2])]

/-- Unbuffered. -/
theorem putL1_c (M : RawM) (hW : M.Wr) (x : St) (g : M.σ) (hg : M.ok g) (b : List Int) (hb : x.bErr = 0) (hw : x.wErr = 0) (h1 : x.m = 1) (hb0 : b ≠ []) (hb1 : b.length ≤ 1048576) (hr : b.length ≤ M.rm g) (hr2 : x.o.length + 1 ≤ M.rm g) :
    Contract Try.prog 31 (preR (M.res g)) [x.sv .old, M.v, .ints .u8 .old b] (isSN M (x.wholeV M g b)) := by
  have hx : x.fits := by
    obtain ⟨hm, -⟩ := bErr_zero hb
    obtain ⟨b1, b2, b3, b4⟩ := May.bd hm
    exact ⟨by omega, by omega, by omega⟩
  have hb2 := List.length_pos_iff.2 hb0
  refine contract_ev Γok Try.func31 rfl rfl [1] ?_
  simp (maxSteps := 4000000) only [push_cast, Int.reduceEq, Int.reduceBNe, Int.reduceBEq, Int.reduceAdd, Int.reduceSub, Int.reduceMul, Int.reduceNeg, Int.reduceLT, Int.reduceLE, Int.reduceToNat, Nat.reduceLT, Nat.reduceAdd, Nat.reduceSub, Nat.reduceMul, Nat.reduceEqDiff, Nat.reduceLeDiff, Nat.reduceBEq, reduceIte, reduceCtorEq, Try.f31, RawM.v, St.sv, St.cells, rg11]
  refine (region_plan rfl Γok mixed (.pure 0 (.pure 1 (.pure 2 (.pure 3 (.pure 4 (.eff (.cons 5 [0] (.eff (.cons 6 [] (.pure 7 (.pure 8 (.pure 9 (.eff (.cons 10 [0] (.eff (.cons 11 [] (.pure 12 .done) .nil)) .nil))))) (.cons 10 [0] (.eff (.cons 6 [] (.pure 7 (.pure 8 (.pure 9 (.eff (.cons 11 [] (.pure 12 .done) .nil))))) .nil)) .nil))) (.cons 10 [0] (.eff (.cons 5 [0] (.eff (.cons 6 [] (.pure 7 (.pure 8 (.pure 9 (.eff (.cons 11 [] (.pure 12 .done) .nil))))) .nil)) .nil)) .nil)))))))) 101 rfl (by kernel_rfl) ?_)
  simp (maxSteps := 4000000) only [push_cast, Int.reduceEq, Int.reduceBNe, Int.reduceBEq, Int.reduceAdd, Int.reduceSub, Int.reduceMul, Int.reduceNeg, Int.reduceLT, Int.reduceLE, Int.reduceToNat, Nat.reduceLT, Nat.reduceAdd, Nat.reduceSub, Nat.reduceMul, Nat.reduceEqDiff, Nat.reduceLeDiff, Nat.reduceBEq, reduceIte, reduceCtorEq, rg11]
  rw [show decide (1048576 < (b.length : Int)) = false from decide_eq_false (by omega)]
  and_intros
  all_goals
    refine call_w (when_c false 5) [] (by simp (maxSteps := 4000000) only [push_cast, Int.reduceEq, Int.reduceBNe, Int.reduceBEq, Int.reduceAdd, Int.reduceSub, Int.reduceMul, Int.reduceNeg, Int.reduceLT, Int.reduceLE, Int.reduceToNat, Nat.reduceLT, Nat.reduceAdd, Nat.reduceSub, Nat.reduceMul, Nat.reduceEqDiff, Nat.reduceLeDiff, Nat.reduceBEq, reduceIte, reduceCtorEq]) ?_
    rintro sv post ⟨rfl, rfl⟩
    simp (maxSteps := 4000000) only [push_cast, Int.reduceEq, Int.reduceBNe, Int.reduceBEq, Int.reduceAdd, Int.reduceSub, Int.reduceMul, Int.reduceNeg, Int.reduceLT, Int.reduceLE, Int.reduceToNat, Nat.reduceLT, Nat.reduceAdd, Nat.reduceSub, Nat.reduceMul, Nat.reduceEqDiff, Nat.reduceLeDiff, Nat.reduceBEq, reduceIte, reduceCtorEq, rg11]
    and_intros
    all_goals
      refine call_w (asked_c x hx M.t M.y 0) [] (by simp (maxSteps := 4000000) only [push_cast, Int.reduceEq, Int.reduceBNe, Int.reduceBEq, Int.reduceAdd, Int.reduceSub, Int.reduceMul, Int.reduceNeg, Int.reduceLT, Int.reduceLE, Int.reduceToNat, Nat.reduceLT, Nat.reduceAdd, Nat.reduceSub, Nat.reduceMul, Nat.reduceEqDiff, Nat.reduceLeDiff, Nat.reduceBEq, reduceIte, reduceCtorEq, St.sv, St.cells]) ?_
      rintro sv post ⟨rfl, rfl⟩
      rw [aErr0 hb]
      simp (maxSteps := 4000000) only [push_cast, Int.reduceEq, Int.reduceBNe, Int.reduceBEq, Int.reduceAdd, Int.reduceSub, Int.reduceMul, Int.reduceNeg, Int.reduceLT, Int.reduceLE, Int.reduceToNat, Nat.reduceLT, Nat.reduceAdd, Nat.reduceSub, Nat.reduceMul, Nat.reduceEqDiff, Nat.reduceLeDiff, Nat.reduceBEq, reduceIte, reduceCtorEq, St.sv, St.cells, rg11]
      refine ⟨fun h => absurd h (by omega), fun _ => ?_⟩
      refine ⟨fun _ => ?_, fun h => absurd h1 h⟩
      refine call_w (whole_c M hW x g hg hx b hb hw h1 hb0 hb1 hr hr2) [0] (by simp (maxSteps := 4000000) only [push_cast, Int.reduceEq, Int.reduceBNe, Int.reduceBEq, Int.reduceAdd, Int.reduceSub, Int.reduceMul, Int.reduceNeg, Int.reduceLT, Int.reduceLE, Int.reduceToNat, Nat.reduceLT, Nat.reduceAdd, Nat.reduceSub, Nat.reduceMul, Nat.reduceEqDiff, Nat.reduceLeDiff, Nat.reduceBEq, reduceIte, reduceCtorEq, RawM.v, St.sv, St.cells]) ?_
      rintro sv post ⟨rfl, rfl⟩
      simp (maxSteps := 4000000) only [push_cast, Int.reduceEq, Int.reduceBNe, Int.reduceBEq, Int.reduceAdd, Int.reduceSub, Int.reduceMul, Int.reduceNeg, Int.reduceLT, Int.reduceLE, Int.reduceToNat, Nat.reduceLT, Nat.reduceAdd, Nat.reduceSub, Nat.reduceMul, Nat.reduceEqDiff, Nat.reduceLeDiff, Nat.reduceBEq, reduceIte, reduceCtorEq, St.sv, St.cells, rg11]
      exact Fin.w [0] (.tup [(x.wholeV M g b).1.sv .new, .i .i64 (x.wholeV M g b).2.2.1, .i .i64 (x.wholeV M g b).2.2.2]) (preR (M.res (x.wholeV M g b).2.1)) (by simp (maxSteps := 4000000) only [push_cast, Int.reduceEq, Int.reduceBNe, Int.reduceBEq, Int.reduceAdd, Int.reduceSub, Int.reduceMul, Int.reduceNeg, Int.reduceLT, Int.reduceLE, Int.reduceToNat, Nat.reduceLT, Nat.reduceAdd, Nat.reduceSub, Nat.reduceMul, Nat.reduceEqDiff, Nat.reduceLeDiff, Nat.reduceBEq, reduceIte, reduceCtorEq, St.sv, St.cells, preR]) ⟨rfl, rfl⟩

/-- Buffered, and no put fails. -/
theorem putLN_c (M : RawM) (hW : M.Wr) (x : St) (g : M.σ) (b : List Int) (hb : x.bErr = 0) (h1 : b ≠ [] → ¬ x.m = 1) (hb1 : b.length ≤ 1048576) (P : Nat → St → M.σ → Prop) (h0 : P 0 x g)
    (hP : ∀ i y h, i < b.length → P i y h → M.ok h ∧ y.fits ∧ ¬ ((y.o.length : Int) = y.s) ∧ y.o.length + 1 ≤ M.rm h ∧ ∃ y' h', y.Put M h (b.getD i 0) = (y', h', 0) ∧ P (i + 1) y' h') :
    Contract Try.prog 31 (preR (M.res g)) [x.sv .old, M.v, .ints .u8 .old b] (fun sv post => ∃ y h, P b.length y h ∧ isSN M (y, h, (b.length : Int), 0) sv post) := by
  have hx : x.fits := by
    obtain ⟨hm, -⟩ := bErr_zero hb
    obtain ⟨b1, b2, b3, b4⟩ := May.bd hm
    exact ⟨by omega, by omega, by omega⟩
  refine contract_ev Γok Try.func31 rfl rfl [1] ?_
  simp (maxSteps := 4000000) only [push_cast, Int.reduceEq, Int.reduceBNe, Int.reduceBEq, Int.reduceAdd, Int.reduceSub, Int.reduceMul, Int.reduceNeg, Int.reduceLT, Int.reduceLE, Int.reduceToNat, Nat.reduceLT, Nat.reduceAdd, Nat.reduceSub, Nat.reduceMul, Nat.reduceEqDiff, Nat.reduceLeDiff, Nat.reduceBEq, reduceIte, reduceCtorEq, Try.f31, RawM.v, St.sv, St.cells, rg11]
  refine (region_plan rfl Γok mixed (.pure 0 (.pure 1 (.pure 2 (.pure 3 (.pure 4 (.eff (.cons 5 [0] (.eff (.cons 6 [] (.pure 7 (.pure 8 (.pure 9 (.eff (.cons 10 [0] (.eff (.cons 11 [] (.pure 12 .done) .nil)) .nil))))) (.cons 10 [0] (.eff (.cons 6 [] (.pure 7 (.pure 8 (.pure 9 (.eff (.cons 11 [] (.pure 12 .done) .nil))))) .nil)) .nil))) (.cons 10 [0] (.eff (.cons 5 [0] (.eff (.cons 6 [] (.pure 7 (.pure 8 (.pure 9 (.eff (.cons 11 [] (.pure 12 .done) .nil))))) .nil)) .nil)) .nil)))))))) 101 rfl (by kernel_rfl) ?_)
  simp (maxSteps := 4000000) only [push_cast, Int.reduceEq, Int.reduceBNe, Int.reduceBEq, Int.reduceAdd, Int.reduceSub, Int.reduceMul, Int.reduceNeg, Int.reduceLT, Int.reduceLE, Int.reduceToNat, Nat.reduceLT, Nat.reduceAdd, Nat.reduceSub, Nat.reduceMul, Nat.reduceEqDiff, Nat.reduceLeDiff, Nat.reduceBEq, reduceIte, reduceCtorEq, rg11]
  rw [show decide (1048576 < (b.length : Int)) = false from decide_eq_false (by omega)]
  and_intros
  all_goals
    refine call_w (when_c false 5) [] (by simp (maxSteps := 4000000) only [push_cast, Int.reduceEq, Int.reduceBNe, Int.reduceBEq, Int.reduceAdd, Int.reduceSub, Int.reduceMul, Int.reduceNeg, Int.reduceLT, Int.reduceLE, Int.reduceToNat, Nat.reduceLT, Nat.reduceAdd, Nat.reduceSub, Nat.reduceMul, Nat.reduceEqDiff, Nat.reduceLeDiff, Nat.reduceBEq, reduceIte, reduceCtorEq]) ?_
    rintro sv post ⟨rfl, rfl⟩
    simp (maxSteps := 4000000) only [push_cast, Int.reduceEq, Int.reduceBNe, Int.reduceBEq, Int.reduceAdd, Int.reduceSub, Int.reduceMul, Int.reduceNeg, Int.reduceLT, Int.reduceLE, Int.reduceToNat, Nat.reduceLT, Nat.reduceAdd, Nat.reduceSub, Nat.reduceMul, Nat.reduceEqDiff, Nat.reduceLeDiff, Nat.reduceBEq, reduceIte, reduceCtorEq, rg11]
    and_intros
    all_goals
      refine call_w (asked_c x hx M.t M.y 0) [] (by simp (maxSteps := 4000000) only [push_cast, Int.reduceEq, Int.reduceBNe, Int.reduceBEq, Int.reduceAdd, Int.reduceSub, Int.reduceMul, Int.reduceNeg, Int.reduceLT, Int.reduceLE, Int.reduceToNat, Nat.reduceLT, Nat.reduceAdd, Nat.reduceSub, Nat.reduceMul, Nat.reduceEqDiff, Nat.reduceLeDiff, Nat.reduceBEq, reduceIte, reduceCtorEq, St.sv, St.cells]) ?_
      rintro sv post ⟨rfl, rfl⟩
      rw [aErr0 hb]
      simp (maxSteps := 4000000) only [push_cast, Int.reduceEq, Int.reduceBNe, Int.reduceBEq, Int.reduceAdd, Int.reduceSub, Int.reduceMul, Int.reduceNeg, Int.reduceLT, Int.reduceLE, Int.reduceToNat, Nat.reduceLT, Nat.reduceAdd, Nat.reduceSub, Nat.reduceMul, Nat.reduceEqDiff, Nat.reduceLeDiff, Nat.reduceBEq, reduceIte, reduceCtorEq, St.sv, St.cells, rg11]
      refine ⟨fun hz => ?_, fun hnz => ⟨fun h => absurd h (h1 fun hf => hnz (by rw [hf]; rfl)), fun _ => ?_⟩⟩
      · have hn : b = [] := by
          have : b.length = 0 := by omega
          simpa using this
        subst hn
        exact Fin.w [0] (.tup [x.sv .new, .i .i64 0, .i .i64 0]) (preR (M.res g)) (by simp (maxSteps := 4000000) only [push_cast, Int.reduceEq, Int.reduceBNe, Int.reduceBEq, Int.reduceAdd, Int.reduceSub, Int.reduceMul, Int.reduceNeg, Int.reduceLT, Int.reduceLE, Int.reduceToNat, Nat.reduceLT, Nat.reduceAdd, Nat.reduceSub, Nat.reduceMul, Nat.reduceEqDiff, Nat.reduceLeDiff, Nat.reduceBEq, reduceIte, reduceCtorEq, St.sv, St.cells, preR]) ⟨x, g, h0, rfl, rfl⟩
      · refine loop_ok (ι := {q : Nat × St × M.σ // q.1 ≤ b.length ∧ P q.1 q.2.1 q.2.2})
          (fun q => ⟨[.any, .ifc M.t (.raw M.y), .ints .u8 .old b, .any, .any, .any, .ptr 1 0, .any, .any, .ptr 2 0] ++ List.replicate 35 .any ++ [.ints .u8 .old b, .i .i64 b.length, .i .i64 q.1.1] ++ List.replicate 53 .any, [(1, 26, [.b false, .b false, .i .i64 0, .i .i64 0, .ints .u8 .nil [], .ints .u8 .nil [], .ints .u8 .nil [], .i .i64 0, .b false, .b false, .b false]), (2, 26, q.1.2.1.cells .new .new .new)], [], [(0, M.res q.1.2.2)], 3, 1, []⟩)
          (fun q => b.length - q.1.1) ⟨(0, x, g), Nat.zero_le _, h0⟩ ?_ ?_
        · refine Sub.w [0, 2, 3] ?_
          simp (maxSteps := 4000000) only [push_cast, Int.reduceEq, Int.reduceBNe, Int.reduceBEq, Int.reduceAdd, Int.reduceSub, Int.reduceMul, Int.reduceNeg, Int.reduceLT, Int.reduceLE, Int.reduceToNat, Nat.reduceLT, Nat.reduceAdd, Nat.reduceSub, Nat.reduceMul, Nat.reduceEqDiff, Nat.reduceLeDiff, Nat.reduceBEq, reduceIte, reduceCtorEq, St.cells]
        · rintro ⟨⟨i, y, h⟩, hi, hy⟩
          simp only at hi hy
          refine evCode_sound Γok _ _ _ ?_
          simp (maxSteps := 4000000) only [push_cast, Int.reduceEq, Int.reduceBNe, Int.reduceBEq, Int.reduceAdd, Int.reduceSub, Int.reduceMul, Int.reduceNeg, Int.reduceLT, Int.reduceLE, Int.reduceToNat, Nat.reduceLT, Nat.reduceAdd, Nat.reduceSub, Nat.reduceMul, Nat.reduceEqDiff, Nat.reduceLeDiff, Nat.reduceBEq, reduceIte, reduceCtorEq, St.cells, rg11]
          refine ⟨fun hi1 => ?_, fun hi1 => ?_⟩
          · obtain ⟨k1, k2, k3, k4, y', h', k5, k6⟩ := hP i y h (by omega) hy
            refine ⟨⟨by omega, by omega⟩, fun hf => absurd hf k3, fun _ => ?_⟩
            refine call_w (PutR_c M hW y h k1 k2 (b.getD (i : Int).toNat 0) k4) [0] (by simp (maxSteps := 4000000) only [push_cast, Int.reduceEq, Int.reduceBNe, Int.reduceBEq, Int.reduceAdd, Int.reduceSub, Int.reduceMul, Int.reduceNeg, Int.reduceLT, Int.reduceLE, Int.reduceToNat, Nat.reduceLT, Nat.reduceAdd, Nat.reduceSub, Nat.reduceMul, Nat.reduceEqDiff, Nat.reduceLeDiff, Nat.reduceBEq, reduceIte, reduceCtorEq, RawM.v, St.sv, St.cells]) ?_
            rintro sv post ⟨rfl, rfl⟩
            rw [Int.toNat_natCast, k5]
            simp (maxSteps := 4000000) only [push_cast, Int.reduceEq, Int.reduceBNe, Int.reduceBEq, Int.reduceAdd, Int.reduceSub, Int.reduceMul, Int.reduceNeg, Int.reduceLT, Int.reduceLE, Int.reduceToNat, Nat.reduceLT, Nat.reduceAdd, Nat.reduceSub, Nat.reduceMul, Nat.reduceEqDiff, Nat.reduceLeDiff, Nat.reduceBEq, reduceIte, reduceCtorEq, St.sv, St.cells, rg11]
            refine ⟨fun hf => hf.1.elim, ⟨⟨(i + 1, y', h'), by simp only; omega, k6⟩, by simp only; omega, Sub.w [0, 1, 2] ?_⟩⟩
            simp (maxSteps := 4000000) only [push_cast, Int.reduceEq, Int.reduceBNe, Int.reduceBEq, Int.reduceAdd, Int.reduceSub, Int.reduceMul, Int.reduceNeg, Int.reduceLT, Int.reduceLE, Int.reduceToNat, Nat.reduceLT, Nat.reduceAdd, Nat.reduceSub, Nat.reduceMul, Nat.reduceEqDiff, Nat.reduceLeDiff, Nat.reduceBEq, reduceIte, reduceCtorEq, St.cells]
            exact (wrap64 (n := (i : Int) + 1) (by omega) (by omega)).symm
          · have hie : i = b.length := by omega
            subst hie
            exact Fin.w [0] (.tup [y.sv .new, .i .i64 b.length, .i .i64 0]) (preR (M.res h)) (by simp (maxSteps := 4000000) only [push_cast, Int.reduceEq, Int.reduceBNe, Int.reduceBEq, Int.reduceAdd, Int.reduceSub, Int.reduceMul, Int.reduceNeg, Int.reduceLT, Int.reduceLE, Int.reduceToNat, Nat.reduceLT, Nat.reduceAdd, Nat.reduceSub, Nat.reduceMul, Nat.reduceEqDiff, Nat.reduceLeDiff, Nat.reduceBEq, reduceIte, reduceCtorEq, St.sv, St.cells, preR]) ⟨y, h, hy, rfl, rfl⟩
end Go.Proofs.Ytbhkpefjnomncaa
/- Lines: the page's example. -/
namespace Go.Proofs.Ytbhkpefjnomncaa
open Go Go.Eng
set_option maxHeartbeats 4000000
set_option linter.unusedSimpArgs false
set_option linter.unusedVariables false
set_option maxRecDepth 100000

theorem wrapZ : IntKind.i64.wrap 0 = 0 := rfl
set_option maxHeartbeats 2000000 in
theorem alive15_c : Contract Try.prog 29 nilSS [] (fun sv post => sv = .b true ∧ post = nilSS) := by
  have e0 : newSt true false 3 4 = ⟨true, false, 3, 4, [], [], [], 0, false, false, false⟩ := rfl
  have hR := fun b => readerM_rd [97, 98, 10, 99, 100] b (by simp)
  have hv : ∀ b, (readerM [97, 98, 10, 99, 100] b).v = .ifc 69 (.raw (.pointer (some ⟨b, 0, none⟩))) := fun b => rfl
  have hr : ∀ b (p : Int), (readerM [97, 98, 10, 99, 100] b).res p = (readerS [97, 98, 10, 99, 100] p).res b := fun b p => rfl
  have q1 : strOf [97, 98, 10] = ⟨#[97, 98, 10]⟩ := rfl
  have q2 : strOf [99] = ⟨#[99]⟩ := rfl
  have q3 : strOf [100] = ⟨#[100]⟩ := rfl
  have may0 : mayV 3 4 = 0 := rfl
  refine contract_ev Γok Try.func29 rfl rfl [] ?_
  simp (maxSteps := 4000000) only [push_cast, Int.reduceEq, Int.reduceBNe, Int.reduceBEq, Int.reduceAdd, Int.reduceSub, Int.reduceMul, Int.reduceNeg, Int.reduceLT, Int.reduceLE, Int.reduceToNat, Nat.reduceLT, Nat.reduceAdd, Nat.reduceSub, Nat.reduceMul, Nat.reduceEqDiff, Nat.reduceLeDiff, Nat.reduceBEq, reduceIte, reduceCtorEq, Try.f29]
  refine call_w (newReader_c [97, 98, 10, 99, 100] (by simp)) [] (by simp (maxSteps := 4000000) only [push_cast, Int.reduceEq, Int.reduceBNe, Int.reduceBEq, Int.reduceAdd, Int.reduceSub, Int.reduceMul, Int.reduceNeg, Int.reduceLT, Int.reduceLE, Int.reduceToNat, Nat.reduceLT, Nat.reduceAdd, Nat.reduceSub, Nat.reduceMul, Nat.reduceEqDiff, Nat.reduceLeDiff, Nat.reduceBEq, reduceIte, reduceCtorEq]) ?_
  rintro sv post ⟨b, rfl, rfl⟩
  simp (maxSteps := 4000000) only [push_cast, Int.reduceEq, Int.reduceBNe, Int.reduceBEq, Int.reduceAdd, Int.reduceSub, Int.reduceMul, Int.reduceNeg, Int.reduceLT, Int.reduceLE, Int.reduceToNat, Nat.reduceLT, Nat.reduceAdd, Nat.reduceSub, Nat.reduceMul, Nat.reduceEqDiff, Nat.reduceLeDiff, Nat.reduceBEq, reduceIte, reduceCtorEq]
  refine call_w (newS_c _ _ _ _ _ _ _ _ openR_c 3 4) [] (by simp (maxSteps := 4000000) only [push_cast, Int.reduceEq, Int.reduceBNe, Int.reduceBEq, Int.reduceAdd, Int.reduceSub, Int.reduceMul, Int.reduceNeg, Int.reduceLT, Int.reduceLE, Int.reduceToNat, Nat.reduceLT, Nat.reduceAdd, Nat.reduceSub, Nat.reduceMul, Nat.reduceEqDiff, Nat.reduceLeDiff, Nat.reduceBEq, reduceIte, reduceCtorEq, modeV]) ?_
  rintro sv post ⟨rfl, rfl⟩
  simp (maxSteps := 4000000) only [push_cast, Int.reduceEq, Int.reduceBNe, Int.reduceBEq, Int.reduceAdd, Int.reduceSub, Int.reduceMul, Int.reduceNeg, Int.reduceLT, Int.reduceLE, Int.reduceToNat, Nat.reduceLT, Nat.reduceAdd, Nat.reduceSub, Nat.reduceMul, Nat.reduceEqDiff, Nat.reduceLeDiff, Nat.reduceBEq, reduceIte, reduceCtorEq, St.sv, St.cells]
  refine call_w (num15_c 0) [] (by simp (maxSteps := 4000000) only [push_cast, Int.reduceEq, Int.reduceBNe, Int.reduceBEq, Int.reduceAdd, Int.reduceSub, Int.reduceMul, Int.reduceNeg, Int.reduceLT, Int.reduceLE, Int.reduceToNat, Nat.reduceLT, Nat.reduceAdd, Nat.reduceSub, Nat.reduceMul, Nat.reduceEqDiff, Nat.reduceLeDiff, Nat.reduceBEq, reduceIte, reduceCtorEq]) ?_
  rintro sv post ⟨rfl, rfl⟩
  simp (maxSteps := 4000000) only [push_cast, Int.reduceEq, Int.reduceBNe, Int.reduceBEq, Int.reduceAdd, Int.reduceSub, Int.reduceMul, Int.reduceNeg, Int.reduceLT, Int.reduceLE, Int.reduceToNat, Nat.reduceLT, Nat.reduceAdd, Nat.reduceSub, Nat.reduceMul, Nat.reduceEqDiff, Nat.reduceLeDiff, Nat.reduceBEq, reduceIte, reduceCtorEq, may0]
  refine call_w (num15_c 0) [] (by simp (maxSteps := 4000000) only [push_cast, Int.reduceEq, Int.reduceBNe, Int.reduceBEq, Int.reduceAdd, Int.reduceSub, Int.reduceMul, Int.reduceNeg, Int.reduceLT, Int.reduceLE, Int.reduceToNat, Nat.reduceLT, Nat.reduceAdd, Nat.reduceSub, Nat.reduceMul, Nat.reduceEqDiff, Nat.reduceLeDiff, Nat.reduceBEq, reduceIte, reduceCtorEq]) ?_
  rintro sv post ⟨rfl, rfl⟩
  simp (maxSteps := 4000000) only [push_cast, Int.reduceEq, Int.reduceBNe, Int.reduceBEq, Int.reduceAdd, Int.reduceSub, Int.reduceMul, Int.reduceNeg, Int.reduceLT, Int.reduceLE, Int.reduceToNat, Nat.reduceLT, Nat.reduceAdd, Nat.reduceSub, Nat.reduceMul, Nat.reduceEqDiff, Nat.reduceLeDiff, Nat.reduceBEq, reduceIte, reduceCtorEq, e0, rg11, wrapZ]
  refine call_w (LineR_c (readerM [97, 98, 10, 99, 100] b) (hR b) (newSt true false 3 4) (by exact ⟨by decide, by decide, by decide⟩) (0 : Int) (by exact ⟨by decide, by decide⟩) 9) [2] (by simp (maxSteps := 4000000) only [push_cast, Int.reduceEq, Int.reduceBNe, Int.reduceBEq, Int.reduceAdd, Int.reduceSub, Int.reduceMul, Int.reduceNeg, Int.reduceLT, Int.reduceLE, Int.reduceToNat, Nat.reduceLT, Nat.reduceAdd, Nat.reduceSub, Nat.reduceMul, Nat.reduceEqDiff, Nat.reduceLeDiff, Nat.reduceBEq, reduceIte, reduceCtorEq, hv, hr, St.sv, St.cells, e0, exSt]) ?_
  rintro sv post ⟨rfl, rfl⟩
  rw [ex1 b]
  simp (maxSteps := 4000000) only [push_cast, Int.reduceEq, Int.reduceBNe, Int.reduceBEq, Int.reduceAdd, Int.reduceSub, Int.reduceMul, Int.reduceNeg, Int.reduceLT, Int.reduceLE, Int.reduceToNat, Nat.reduceLT, Nat.reduceAdd, Nat.reduceSub, Nat.reduceMul, Nat.reduceEqDiff, Nat.reduceLeDiff, Nat.reduceBEq, reduceIte, reduceCtorEq, hv, hr, St.sv, St.cells, exSt, rg11]
  refine call_w (LineR_c (readerM [97, 98, 10, 99, 100] b) (hR b) (exSt [99] false) (by exact ⟨by decide, by decide, by decide⟩) (4 : Int) (by exact ⟨by decide, by decide⟩) 1) [2] (by simp (maxSteps := 4000000) only [push_cast, Int.reduceEq, Int.reduceBNe, Int.reduceBEq, Int.reduceAdd, Int.reduceSub, Int.reduceMul, Int.reduceNeg, Int.reduceLT, Int.reduceLE, Int.reduceToNat, Nat.reduceLT, Nat.reduceAdd, Nat.reduceSub, Nat.reduceMul, Nat.reduceEqDiff, Nat.reduceLeDiff, Nat.reduceBEq, reduceIte, reduceCtorEq, hv, hr, St.sv, St.cells, e0, exSt]) ?_
  rintro sv post ⟨rfl, rfl⟩
  rw [ex2 b]
  simp (maxSteps := 4000000) only [push_cast, Int.reduceEq, Int.reduceBNe, Int.reduceBEq, Int.reduceAdd, Int.reduceSub, Int.reduceMul, Int.reduceNeg, Int.reduceLT, Int.reduceLE, Int.reduceToNat, Nat.reduceLT, Nat.reduceAdd, Nat.reduceSub, Nat.reduceMul, Nat.reduceEqDiff, Nat.reduceLeDiff, Nat.reduceBEq, reduceIte, reduceCtorEq, hv, hr, St.sv, St.cells, exSt, rg11]
  refine call_w (LineR_c (readerM [97, 98, 10, 99, 100] b) (hR b) (exSt [] false) (by exact ⟨by decide, by decide, by decide⟩) (4 : Int) (by exact ⟨by decide, by decide⟩) 9) [2] (by simp (maxSteps := 4000000) only [push_cast, Int.reduceEq, Int.reduceBNe, Int.reduceBEq, Int.reduceAdd, Int.reduceSub, Int.reduceMul, Int.reduceNeg, Int.reduceLT, Int.reduceLE, Int.reduceToNat, Nat.reduceLT, Nat.reduceAdd, Nat.reduceSub, Nat.reduceMul, Nat.reduceEqDiff, Nat.reduceLeDiff, Nat.reduceBEq, reduceIte, reduceCtorEq, hv, hr, St.sv, St.cells, e0, exSt]) ?_
  rintro sv post ⟨rfl, rfl⟩
  rw [ex3 b]
  simp (maxSteps := 4000000) only [push_cast, Int.reduceEq, Int.reduceBNe, Int.reduceBEq, Int.reduceAdd, Int.reduceSub, Int.reduceMul, Int.reduceNeg, Int.reduceLT, Int.reduceLE, Int.reduceToNat, Nat.reduceLT, Nat.reduceAdd, Nat.reduceSub, Nat.reduceMul, Nat.reduceEqDiff, Nat.reduceLeDiff, Nat.reduceBEq, reduceIte, reduceCtorEq, hv, hr, St.sv, St.cells, exSt, rg11]
  refine call_w (LineR_c (readerM [97, 98, 10, 99, 100] b) (hR b) (exSt [] true) (by exact ⟨by decide, by decide, by decide⟩) (5 : Int) (by exact ⟨by decide, by decide⟩) 9) [2] (by simp (maxSteps := 4000000) only [push_cast, Int.reduceEq, Int.reduceBNe, Int.reduceBEq, Int.reduceAdd, Int.reduceSub, Int.reduceMul, Int.reduceNeg, Int.reduceLT, Int.reduceLE, Int.reduceToNat, Nat.reduceLT, Nat.reduceAdd, Nat.reduceSub, Nat.reduceMul, Nat.reduceEqDiff, Nat.reduceLeDiff, Nat.reduceBEq, reduceIte, reduceCtorEq, hv, hr, St.sv, St.cells, e0, exSt]) ?_
  rintro sv post ⟨rfl, rfl⟩
  rw [ex4 b]
  simp (maxSteps := 4000000) only [push_cast, Int.reduceEq, Int.reduceBNe, Int.reduceBEq, Int.reduceAdd, Int.reduceSub, Int.reduceMul, Int.reduceNeg, Int.reduceLT, Int.reduceLE, Int.reduceToNat, Nat.reduceLT, Nat.reduceAdd, Nat.reduceSub, Nat.reduceMul, Nat.reduceEqDiff, Nat.reduceLeDiff, Nat.reduceBEq, reduceIte, reduceCtorEq, hv, hr, St.sv, St.cells, exSt, rg11]
  refine call_w (num15_c 0) [] (by simp (maxSteps := 4000000) only [push_cast, Int.reduceEq, Int.reduceBNe, Int.reduceBEq, Int.reduceAdd, Int.reduceSub, Int.reduceMul, Int.reduceNeg, Int.reduceLT, Int.reduceLE, Int.reduceToNat, Nat.reduceLT, Nat.reduceAdd, Nat.reduceSub, Nat.reduceMul, Nat.reduceEqDiff, Nat.reduceLeDiff, Nat.reduceBEq, reduceIte, reduceCtorEq]) ?_
  rintro sv post ⟨rfl, rfl⟩
  simp (maxSteps := 4000000) only [push_cast, Int.reduceEq, Int.reduceBNe, Int.reduceBEq, Int.reduceAdd, Int.reduceSub, Int.reduceMul, Int.reduceNeg, Int.reduceLT, Int.reduceLE, Int.reduceToNat, Nat.reduceLT, Nat.reduceAdd, Nat.reduceSub, Nat.reduceMul, Nat.reduceEqDiff, Nat.reduceLeDiff, Nat.reduceBEq, reduceIte, reduceCtorEq]
  refine call_w (num15_c 0) [] (by simp (maxSteps := 4000000) only [push_cast, Int.reduceEq, Int.reduceBNe, Int.reduceBEq, Int.reduceAdd, Int.reduceSub, Int.reduceMul, Int.reduceNeg, Int.reduceLT, Int.reduceLE, Int.reduceToNat, Nat.reduceLT, Nat.reduceAdd, Nat.reduceSub, Nat.reduceMul, Nat.reduceEqDiff, Nat.reduceLeDiff, Nat.reduceBEq, reduceIte, reduceCtorEq]) ?_
  rintro sv post ⟨rfl, rfl⟩
  simp (maxSteps := 4000000) only [push_cast, Int.reduceEq, Int.reduceBNe, Int.reduceBEq, Int.reduceAdd, Int.reduceSub, Int.reduceMul, Int.reduceNeg, Int.reduceLT, Int.reduceLE, Int.reduceToNat, Nat.reduceLT, Nat.reduceAdd, Nat.reduceSub, Nat.reduceMul, Nat.reduceEqDiff, Nat.reduceLeDiff, Nat.reduceBEq, reduceIte, reduceCtorEq]
  refine call_w (num15_c 0) [] (by simp (maxSteps := 4000000) only [push_cast, Int.reduceEq, Int.reduceBNe, Int.reduceBEq, Int.reduceAdd, Int.reduceSub, Int.reduceMul, Int.reduceNeg, Int.reduceLT, Int.reduceLE, Int.reduceToNat, Nat.reduceLT, Nat.reduceAdd, Nat.reduceSub, Nat.reduceMul, Nat.reduceEqDiff, Nat.reduceLeDiff, Nat.reduceBEq, reduceIte, reduceCtorEq]) ?_
  rintro sv post ⟨rfl, rfl⟩
  simp (maxSteps := 4000000) only [push_cast, Int.reduceEq, Int.reduceBNe, Int.reduceBEq, Int.reduceAdd, Int.reduceSub, Int.reduceMul, Int.reduceNeg, Int.reduceLT, Int.reduceLE, Int.reduceToNat, Nat.reduceLT, Nat.reduceAdd, Nat.reduceSub, Nat.reduceMul, Nat.reduceEqDiff, Nat.reduceLeDiff, Nat.reduceBEq, reduceIte, reduceCtorEq, wrapZ, q1, q2, q3]
  refine call_w (num15_c 111) [] (by simp (maxSteps := 4000000) only [push_cast, Int.reduceEq, Int.reduceBNe, Int.reduceBEq, Int.reduceAdd, Int.reduceSub, Int.reduceMul, Int.reduceNeg, Int.reduceLT, Int.reduceLE, Int.reduceToNat, Nat.reduceLT, Nat.reduceAdd, Nat.reduceSub, Nat.reduceMul, Nat.reduceEqDiff, Nat.reduceLeDiff, Nat.reduceBEq, reduceIte, reduceCtorEq]) ?_
  rintro sv post ⟨rfl, rfl⟩
  simp (maxSteps := 4000000) only [push_cast, Int.reduceEq, Int.reduceBNe, Int.reduceBEq, Int.reduceAdd, Int.reduceSub, Int.reduceMul, Int.reduceNeg, Int.reduceLT, Int.reduceLE, Int.reduceToNat, Nat.reduceLT, Nat.reduceAdd, Nat.reduceSub, Nat.reduceMul, Nat.reduceEqDiff, Nat.reduceLeDiff, Nat.reduceBEq, reduceIte, reduceCtorEq]
  exact Fin.nil rfl (psv := .b true) rfl ⟨rfl, rfl⟩
end Go.Proofs.Ytbhkpefjnomncaa
