/- Texts joined, in order: Qg, Qh. -/
import Derived.Test.YtbhkpefjnomncaaZEmTab
import Derived.Test.YtbhkpefjnomncaaZBeQe
import Derived.ChangeSlices
/- Lines that were put are got: the plain law; a slice of slices that came in. -/
namespace Go.Proofs.Ytbhkpefjnomncaa
open Go Go.Eng
set_option maxHeartbeats 4000000
set_option linter.unusedSimpArgs false
set_option linter.unusedVariables false
set_option maxRecDepth 100000

theorem cut_at {d : Int} : ∀ (a b x y : List Int), (∀ c, c ∈ a → c ≠ d) → (∀ c, c ∈ b → c ≠ d) → a ++ d :: x = b ++ d :: y → a = b
  | [], [], _, _, _, _, _ => rfl
  | [], c :: b, x, y, _, h2, h => by
    simp only [List.nil_append, List.cons_append, List.cons.injEq] at h
    exact absurd h.1.symm (h2 c (by simp))
  | c :: a, [], x, y, h1, _, h => by
    simp only [List.nil_append, List.cons_append, List.cons.injEq] at h
    exact absurd h.1 (h1 c (by simp))
  | c :: a, e :: b, x, y, h1, h2, h => by
    simp only [List.cons_append, List.cons.injEq] at h
    rw [h.1, cut_at a b x y (fun c hc => h1 c (by simp [hc])) (fun c hc => h2 c (by simp [hc])) h.2]
theorem cut_long {d : Int} : ∀ (a b x y : List Int), (∀ c, c ∈ a → c ≠ d) → a ++ x = b ++ d :: y → a.length ≤ b.length
  | [], b, x, y, _, _ => Nat.zero_le _
  | c :: a, [], x, y, h1, h => by
    simp only [List.nil_append, List.cons_append, List.cons.injEq] at h
    exact absurd h.1 (h1 c (by simp))
  | c :: a, e :: b, x, y, h1, h => by
    simp only [List.cons_append, List.cons.injEq] at h
    have := cut_long a b x y (fun c hc => h1 c (by simp [hc])) h.2
    simp only [List.length_cons]
    omega

/-- A line as it stands. -/
structure Clean (row : List Int) : Prop where
  len : row.length < 200
  no : ∀ c, c ∈ row → c ≠ 10
def flat (rows : List (List Int)) : List Int := rows.flatMap (· ++ [10])
theorem flat_snoc (rows : List (List Int)) (r : List Int) : flat (rows ++ [r]) = flat rows ++ (r ++ [10]) := by simp [flat]
theorem flat_cons (r : List Int) (rows : List (List Int)) : flat (r :: rows) = r ++ 10 :: flat rows := by simp [flat]
theorem flat_len : ∀ (rows : List (List Int)), (∀ r, r ∈ rows → Clean r) → (flat rows).length ≤ 200 * rows.length
  | [], _ => by simp [flat]
  | r :: rows, h => by
    have h1 := (h r (by simp)).len
    have h2 := flat_len rows (fun q hq => h q (by simp [hq]))
    rw [flat_cons]
    simp only [List.length_append, List.length_cons]
    omega

theorem line_get {row more out rest : List Int} (h : Line 10 300 (row ++ 10 :: more) out rest) (hn : out ≠ []) (hc : Clean row) : out = row ++ [10] ∧ rest = more := by
  have hz := List.dropLast_concat_getLast hn
  have ha := h.app
  have ha2 : out.dropLast ++ out.getLast hn :: rest = row ++ 10 :: more := by
    have := congrArg (· ++ rest) hz
    simp only [List.append_assoc, List.cons_append, List.nil_append] at this
    rw [this, ha]
  have hl := cut_long _ _ _ _ h.inner ha2
  have hlen := congrArg List.length ha
  simp only [List.length_append, List.length_cons] at hlen
  have hp := List.length_pos_iff.2 hn
  have hd : out.dropLast.length = out.length - 1 := List.length_dropLast
  have hcl := hc.len
  have key : out = row ++ [10] := by
    rcases h.why with h1 | h1 | h1
    · rw [List.getLast?_eq_some_getLast hn] at h1
      injection h1 with h1
      rw [h1] at ha2 hz
      have := cut_at _ _ _ _ h.inner hc.no ha2
      rw [← hz, this]
    · omega
    · subst h1
      have hm : more = [] := by
        have : more.length = 0 := by simp only [List.length_nil] at hlen; omega
        simpa using this
      subst hm
      rw [List.append_nil] at ha
      exact ha
  refine ⟨key, ?_⟩
  rw [key] at ha
  have : row ++ [10] ++ rest = row ++ [10] ++ more := by rw [ha]; simp
  exact List.append_cancel_left this

/-- Rows as the program sees them. -/
def lel (rows : List (List Int)) (i j : Nat) : SV := .ints .u8 .old (rows.getD i [])
def LinesIn (W : World) (v : Value) : Prop := ∃ rows : List (List Int), (∀ i, (rows.getD i []).length ≤ 9223372036854775807) ∧ Den (env0 W) (.sl 1 .old rows.length (lel rows)) v

theorem den_bytes {W : World} {k : IntKind} {a : Addr} {len cap : Nat} {zs : List Int} (h1 : len ≤ cap) (h2 : cap ≤ maxLen) (h3 : len ≤ zs.length) (h4 : ∀ i, i < zs.length → W.cell? (a.add i) = some (.int k (zs.getD i 0))) :
    Den (env0 W) (.ints k .old (zs.take len)) (.slice (some a) len cap) := by
  simp only [Den]
  have hl : (zs.take len).length = len := by simp; omega
  refine ⟨some a, cap, by rw [hl], by omega, by unfold maxLen at h2; omega, fun i y hy => ?_, trivial⟩
  rw [List.getElem?_take] at hy
  split at hy
  · have hi : i < zs.length := by omega
    have hc := h4 i hi
    obtain ⟨b, off, spot⟩ := a
    have hspot : spot = none := by
      cases spot with
      | none => rfl
      | some s =>
        have := World.cell?_spot (h4 0 (by omega))
        simp [Addr.add] at this
    subst hspot
    refine ⟨b, off, rfl, ?_⟩
    have : zs.getD i 0 = y := by simp [List.getD, hy]
    rw [this, addr_add] at hc
    exact hc
  · cases hy
theorem den_bytes0 {W : World} {k : IntKind} : Den (env0 W) (.ints k .old []) (.slice none 0 0) := by
  simp only [Den]
  exact ⟨none, 0, by simp, by simp, by simp, fun i x hx => by simp at hx, trivial⟩

theorem LinesIn_in {H : Type} {enc : TypeId × Value → H} {W : World} {base : Nat} {sp : Nat → Bool} {held : Bool} {v : Value} {d : DataW H} {ps : List MemPlace} (h : DataW.Trod enc Try.prog W base sp held 68 v d ps) (hv : ∃ a n c, v = .slice a n c) : LinesIn W v := by
  obtain ⟨fuel, h⟩ := h
  have hc1 : Try.prog.cellsOf 22 = 1 := by kernel_rfl
  obtain ⟨rows, h1, h2⟩ := den_slice (by kernel_rfl : Try.prog.underlying 68 = some (.slice 22)) hc1 (by omega) (α := {r : List Int // r.length ≤ 9223372036854775807}) (fun r => [.ints .u8 .old r.1]) (fun n cs y hl ht => by
    rcases Go.ChangeShapes.open_ints (by kernel_rfl : Try.prog.underlying 22 = some (.slice 5)) (by kernel_rfl : Try.prog.underlying 5 = some (.int .u8)) (by kernel_rfl) ht with ⟨rfl, _⟩ | ⟨a, len, cap, zs, rfl, _, q1, q2, q3, _, q4, _⟩
    · exact ⟨⟨[], by simp⟩, by simp only [DenL]; exact ⟨den_bytes0, trivial⟩⟩
    · refine ⟨⟨zs.take len, by rw [List.length_take]; unfold maxLen at q2; omega⟩, ?_⟩
      simp only [DenL]
      exact ⟨den_bytes q1 q2 (by rw [q3]; split <;> omega) q4, trivial⟩) h hv
  have hget : ∀ i, (rows.map (·.1)).getD i [] = (rows.getD i ⟨[], by simp⟩).1 := fun i => by
    simp only [List.getD_eq_getElem?_getD, List.getElem?_map]
    cases rows[i]? <;> rfl
  refine ⟨rows.map (·.1), fun i => by rw [hget]; exact (rows.getD i ⟨[], by simp⟩).2, ?_⟩
  rw [List.length_map]
  refine den_el (fun i hi j hj => ?_) (h2 ⟨[], by simp⟩)
  have : j = 0 := by omega
  subst this
  unfold lel
  rw [hget]
  rfl
end Go.Proofs.Ytbhkpefjnomncaa
/- LinesBack: lines that were put are got, one by one, whatever the buffers are. -/
namespace Go.Proofs.Ytbhkpefjnomncaa
open Go Go.Eng
set_option maxHeartbeats 4000000
set_option linter.unusedSimpArgs false
set_option linter.unusedVariables false
set_option maxRecDepth 100000

/-- What was kept, and where it lies. -/
structure Kept (rows kept : List (List Int)) (i : Nat) (x : St) (g : List Int × Int) : Prop where
  hi : i ≤ rows.length
  hi2 : i ≤ 60
  len : kept.length ≤ i
  clean : ∀ r, r ∈ kept → Clean r
  hg : HG x g (flat kept)

/-- Short, and so far without a newline. -/
def cleanTo (row : List Int) (k : Nat) : Bool := decide ((row.length : Int) < 200) && (row.take k).all (fun c => c != 10)
theorem cleanTo_succ {row : List Int} {k : Nat} (h : k < row.length) : cleanTo row (k + 1) = (cleanTo row k && (row.getD k 0 != 10)) := by
  unfold cleanTo
  rw [List.take_succ_eq_append_getElem h, List.all_append]
  simp [List.getD, h, Bool.and_assoc]
theorem cleanTo_all (row : List Int) : cleanTo row row.length = true ↔ Clean row := by
  unfold cleanTo
  rw [List.take_length, Bool.and_eq_true, List.all_eq_true]
  simp only [decide_eq_true_eq, bne_iff_ne]
  exact ⟨fun h => ⟨by omega, h.2⟩, fun h => ⟨by have := h.len; omega, h.no⟩⟩

theorem cat_lel (kept : List (List Int)) (row : List Int) {i j : Nat} (hi : i < kept.length + 1) (hj : j < 1) : catEl kept.length (lel kept) (elOf [[.ints .u8 .old row]]) i j = .ints .u8 .old ((kept ++ [row]).getD i []) := by
  have : j = 0 := by omega
  subst this
  unfold catEl
  split
  · rename_i h
    unfold lel
    simp only [List.getD_eq_getElem?_getD]
    rw [List.getElem?_append_left h]
  · have : i = kept.length := by omega
    subst this
    rw [Nat.sub_self]
    simp only [List.getD_eq_getElem?_getD]
    rw [List.getElem?_append_right (Nat.le_refl _), Nat.sub_self]
    rfl

theorem linesBack_c (rows : List (List Int)) (m s other : Int) (hrows : ∀ i, (rows.getD i []).length ≤ 9223372036854775807) : Contract Try.prog 9 nilSS [.sl 1 .old rows.length (lel rows), .i .i64 m, .i .i64 s, .i .i64 other] (fun sv post => sv = .b true ∧ post = nilSS) := by
  have hv : ∀ b, (growM b).v = .ifc 62 (.raw (.pointer (some ⟨b, 0, none⟩))) := fun b => rfl
  have hr : ∀ b (s : List Int × Int), (growM b).res s = growR b s.1 s.2 := fun b s => rfl
  refine contract_ev Γok Try.func9 rfl rfl [19, 32] ?_
  simp (maxSteps := 4000000) only [push_cast, Int.reduceEq, Int.reduceBNe, Int.reduceBEq, Int.reduceAdd, Int.reduceSub, Int.reduceMul, Int.reduceNeg, Int.reduceLT, Int.reduceLE, Int.reduceToNat, Nat.reduceLT, Nat.reduceAdd, Nat.reduceSub, Nat.reduceMul, Nat.reduceEqDiff, Nat.reduceLeDiff, Nat.reduceBEq, reduceIte, reduceCtorEq, Try.f9]
  refine call_w alive15_c [] (by simp (maxSteps := 4000000) only [push_cast, Int.reduceEq, Int.reduceBNe, Int.reduceBEq, Int.reduceAdd, Int.reduceSub, Int.reduceMul, Int.reduceNeg, Int.reduceLT, Int.reduceLE, Int.reduceToNat, Nat.reduceLT, Nat.reduceAdd, Nat.reduceSub, Nat.reduceMul, Nat.reduceEqDiff, Nat.reduceLeDiff, Nat.reduceBEq, reduceIte, reduceCtorEq]) ?_
  rintro sv post ⟨rfl, rfl⟩
  simp (maxSteps := 4000000) only [push_cast, Int.reduceEq, Int.reduceBNe, Int.reduceBEq, Int.reduceAdd, Int.reduceSub, Int.reduceMul, Int.reduceNeg, Int.reduceLT, Int.reduceLE, Int.reduceToNat, Nat.reduceLT, Nat.reduceAdd, Nat.reduceSub, Nat.reduceMul, Nat.reduceEqDiff, Nat.reduceLeDiff, Nat.reduceBEq, reduceIte, reduceCtorEq]
  refine call_w (newGrow_c [] (by simp)) [] (by simp (maxSteps := 4000000) only [push_cast, Int.reduceEq, Int.reduceBNe, Int.reduceBEq, Int.reduceAdd, Int.reduceSub, Int.reduceMul, Int.reduceNeg, Int.reduceLT, Int.reduceLE, Int.reduceToNat, Nat.reduceLT, Nat.reduceAdd, Nat.reduceSub, Nat.reduceMul, Nat.reduceEqDiff, Nat.reduceLeDiff, Nat.reduceBEq, reduceIte, reduceCtorEq]) ?_
  rintro sv post ⟨b, rfl, rfl⟩
  simp (maxSteps := 4000000) only [push_cast, Int.reduceEq, Int.reduceBNe, Int.reduceBEq, Int.reduceAdd, Int.reduceSub, Int.reduceMul, Int.reduceNeg, Int.reduceLT, Int.reduceLE, Int.reduceToNat, Nat.reduceLT, Nat.reduceAdd, Nat.reduceSub, Nat.reduceMul, Nat.reduceEqDiff, Nat.reduceLeDiff, Nat.reduceBEq, reduceIte, reduceCtorEq]
  refine call_w (newS_c _ _ _ _ _ _ _ _ openW_c m s) [] (by simp (maxSteps := 4000000) only [push_cast, Int.reduceEq, Int.reduceBNe, Int.reduceBEq, Int.reduceAdd, Int.reduceSub, Int.reduceMul, Int.reduceNeg, Int.reduceLT, Int.reduceLE, Int.reduceToNat, Nat.reduceLT, Nat.reduceAdd, Nat.reduceSub, Nat.reduceMul, Nat.reduceEqDiff, Nat.reduceLeDiff, Nat.reduceBEq, reduceIte, reduceCtorEq, modeV]) ?_
  rintro sv post ⟨rfl, rfl⟩
  simp (maxSteps := 4000000) only [push_cast, Int.reduceEq, Int.reduceBNe, Int.reduceBEq, Int.reduceAdd, Int.reduceSub, Int.reduceMul, Int.reduceNeg, Int.reduceLT, Int.reduceLE, Int.reduceToNat, Nat.reduceLT, Nat.reduceAdd, Nat.reduceSub, Nat.reduceMul, Nat.reduceEqDiff, Nat.reduceLeDiff, Nat.reduceBEq, reduceIte, reduceCtorEq, St.sv, St.cells]
  refine call_w (newS_c _ _ _ _ _ _ _ _ openR_c 3 other) [] (by simp (maxSteps := 4000000) only [push_cast, Int.reduceEq, Int.reduceBNe, Int.reduceBEq, Int.reduceAdd, Int.reduceSub, Int.reduceMul, Int.reduceNeg, Int.reduceLT, Int.reduceLE, Int.reduceToNat, Nat.reduceLT, Nat.reduceAdd, Nat.reduceSub, Nat.reduceMul, Nat.reduceEqDiff, Nat.reduceLeDiff, Nat.reduceBEq, reduceIte, reduceCtorEq, modeV]) ?_
  rintro sv post ⟨rfl, rfl⟩
  simp (maxSteps := 4000000) only [push_cast, Int.reduceEq, Int.reduceBNe, Int.reduceBEq, Int.reduceAdd, Int.reduceSub, Int.reduceMul, Int.reduceNeg, Int.reduceLT, Int.reduceLE, Int.reduceToNat, Nat.reduceLT, Nat.reduceAdd, Nat.reduceSub, Nat.reduceMul, Nat.reduceEqDiff, Nat.reduceLeDiff, Nat.reduceBEq, reduceIte, reduceCtorEq, St.sv, St.cells]
  refine call_w (num15_c 0) [] (by simp (maxSteps := 4000000) only [push_cast, Int.reduceEq, Int.reduceBNe, Int.reduceBEq, Int.reduceAdd, Int.reduceSub, Int.reduceMul, Int.reduceNeg, Int.reduceLT, Int.reduceLE, Int.reduceToNat, Nat.reduceLT, Nat.reduceAdd, Nat.reduceSub, Nat.reduceMul, Nat.reduceEqDiff, Nat.reduceLeDiff, Nat.reduceBEq, reduceIte, reduceCtorEq]) ?_
  rintro sv post ⟨rfl, rfl⟩
  simp (maxSteps := 4000000) only [push_cast, Int.reduceEq, Int.reduceBNe, Int.reduceBEq, Int.reduceAdd, Int.reduceSub, Int.reduceMul, Int.reduceNeg, Int.reduceLT, Int.reduceLE, Int.reduceToNat, Nat.reduceLT, Nat.reduceAdd, Nat.reduceSub, Nat.reduceMul, Nat.reduceEqDiff, Nat.reduceLeDiff, Nat.reduceBEq, reduceIte, reduceCtorEq]
  refine call_w (num15_c (mayV m s)) [] (by simp (maxSteps := 4000000) only [push_cast, Int.reduceEq, Int.reduceBNe, Int.reduceBEq, Int.reduceAdd, Int.reduceSub, Int.reduceMul, Int.reduceNeg, Int.reduceLT, Int.reduceLE, Int.reduceToNat, Nat.reduceLT, Nat.reduceAdd, Nat.reduceSub, Nat.reduceMul, Nat.reduceEqDiff, Nat.reduceLeDiff, Nat.reduceBEq, reduceIte, reduceCtorEq]) ?_
  rintro sv post ⟨rfl, rfl⟩
  by_cases hm : mayV m s = 0
  case neg =>
    simp (maxSteps := 4000000) only [push_cast, Int.reduceEq, Int.reduceBNe, Int.reduceBEq, Int.reduceAdd, Int.reduceSub, Int.reduceMul, Int.reduceNeg, Int.reduceLT, Int.reduceLE, Int.reduceToNat, Nat.reduceLT, Nat.reduceAdd, Nat.reduceSub, Nat.reduceMul, Nat.reduceEqDiff, Nat.reduceLeDiff, Nat.reduceBEq, reduceIte, reduceCtorEq, hm]
    exact Fin.nil rfl (psv := .b true) (by simp (maxSteps := 4000000) only [push_cast, Int.reduceEq, Int.reduceBNe, Int.reduceBEq, Int.reduceAdd, Int.reduceSub, Int.reduceMul, Int.reduceNeg, Int.reduceLT, Int.reduceLE, Int.reduceToNat, Nat.reduceLT, Nat.reduceAdd, Nat.reduceSub, Nat.reduceMul, Nat.reduceEqDiff, Nat.reduceLeDiff, Nat.reduceBEq, reduceIte, reduceCtorEq]) ⟨rfl, rfl⟩
  rw [hm]
  simp (maxSteps := 4000000) only [push_cast, Int.reduceEq, Int.reduceBNe, Int.reduceBEq, Int.reduceAdd, Int.reduceSub, Int.reduceMul, Int.reduceNeg, Int.reduceLT, Int.reduceLE, Int.reduceToNat, Nat.reduceLT, Nat.reduceAdd, Nat.reduceSub, Nat.reduceMul, Nat.reduceEqDiff, Nat.reduceLeDiff, Nat.reduceBEq, reduceIte, reduceCtorEq]
  refine call_w (num15_c (mayV 3 other)) [] (by simp (maxSteps := 4000000) only [push_cast, Int.reduceEq, Int.reduceBNe, Int.reduceBEq, Int.reduceAdd, Int.reduceSub, Int.reduceMul, Int.reduceNeg, Int.reduceLT, Int.reduceLE, Int.reduceToNat, Nat.reduceLT, Nat.reduceAdd, Nat.reduceSub, Nat.reduceMul, Nat.reduceEqDiff, Nat.reduceLeDiff, Nat.reduceBEq, reduceIte, reduceCtorEq]) ?_
  rintro sv post ⟨rfl, rfl⟩
  by_cases hm2 : mayV 3 other = 0
  case neg =>
    simp (maxSteps := 4000000) only [push_cast, Int.reduceEq, Int.reduceBNe, Int.reduceBEq, Int.reduceAdd, Int.reduceSub, Int.reduceMul, Int.reduceNeg, Int.reduceLT, Int.reduceLE, Int.reduceToNat, Nat.reduceLT, Nat.reduceAdd, Nat.reduceSub, Nat.reduceMul, Nat.reduceEqDiff, Nat.reduceLeDiff, Nat.reduceBEq, reduceIte, reduceCtorEq, hm2]
    exact Fin.nil rfl (psv := .b true) (by simp (maxSteps := 4000000) only [push_cast, Int.reduceEq, Int.reduceBNe, Int.reduceBEq, Int.reduceAdd, Int.reduceSub, Int.reduceMul, Int.reduceNeg, Int.reduceLT, Int.reduceLE, Int.reduceToNat, Nat.reduceLT, Nat.reduceAdd, Nat.reduceSub, Nat.reduceMul, Nat.reduceEqDiff, Nat.reduceLeDiff, Nat.reduceBEq, reduceIte, reduceCtorEq]) ⟨rfl, rfl⟩
  rw [hm2]
  simp (maxSteps := 4000000) only [push_cast, Int.reduceEq, Int.reduceBNe, Int.reduceBEq, Int.reduceAdd, Int.reduceSub, Int.reduceMul, Int.reduceNeg, Int.reduceLT, Int.reduceLE, Int.reduceToNat, Nat.reduceLT, Nat.reduceAdd, Nat.reduceSub, Nat.reduceMul, Nat.reduceEqDiff, Nat.reduceLeDiff, Nat.reduceBEq, reduceIte, reduceCtorEq]
  refine CodeOK.sub (Sub.tokFrS 15 1 (lel []) rfl) ?_
  simp (maxSteps := 4000000) only [push_cast, Int.reduceEq, Int.reduceBNe, Int.reduceBEq, Int.reduceAdd, Int.reduceSub, Int.reduceMul, Int.reduceNeg, Int.reduceLT, Int.reduceLE, Int.reduceToNat, Nat.reduceLT, Nat.reduceAdd, Nat.reduceSub, Nat.reduceMul, Nat.reduceEqDiff, Nat.reduceLeDiff, Nat.reduceBEq, reduceIte, reduceCtorEq]
  have e0 := newSt_ok false true hm
  have e1 := newSt_ok true false hm2
  refine loop_ok (ι := {q : Nat × List (List Int) × St × (List Int × Int) // Kept rows q.2.1 q.1 q.2.2.1 q.2.2.2})
    (fun q => ⟨[.sl 1 .old rows.length (lel rows), .i .i64 m, .i .i64 s, .i .i64 other, .any, .any, .any, .any, .any, .raw (.pointer (some ⟨b, 0, none⟩)), .any, .ptr 0 0, .any, .ptr 1 0, .any, .sl 1 (.tok 3 true) q.1.2.1.length (lel q.1.2.1), .i .i64 q.1.1] ++ List.replicate 213 .any, [(0, 26, q.1.2.2.1.cells .old .old .old), (1, 26, (newSt true false 3 other).cells .old .old .old)], [3], [(2, growR b q.1.2.2.2.1 q.1.2.2.2.2)], 4, 0, []⟩)
    (fun q => rows.length - q.1.1) ⟨(0, [], newSt false true m s, ([], 0)), ⟨Nat.zero_le _, by omega, Nat.le_refl _, fun r hr => by simp at hr, hg_new hm⟩⟩ ?_ ?_
  · refine Sub.w [3, 4, 2, 5] ?_
    simp (maxSteps := 4000000) only [push_cast, Int.reduceEq, Int.reduceBNe, Int.reduceBEq, Int.reduceAdd, Int.reduceSub, Int.reduceMul, Int.reduceNeg, Int.reduceLT, Int.reduceLE, Int.reduceToNat, Nat.reduceLT, Nat.reduceAdd, Nat.reduceSub, Nat.reduceMul, Nat.reduceEqDiff, Nat.reduceLeDiff, Nat.reduceBEq, reduceIte, reduceCtorEq, e0, e1, St.cells, lel]
  · rintro ⟨⟨i, kept, x, g⟩, hx⟩
    simp only at hx
    refine evCode_sound Γok _ _ _ ?_
    simp (maxSteps := 4000000) only [push_cast, Int.reduceEq, Int.reduceBNe, Int.reduceBEq, Int.reduceAdd, Int.reduceSub, Int.reduceMul, Int.reduceNeg, Int.reduceLT, Int.reduceLE, Int.reduceToNat, Nat.reduceLT, Nat.reduceAdd, Nat.reduceSub, Nat.reduceMul, Nat.reduceEqDiff, Nat.reduceLeDiff, Nat.reduceBEq, reduceIte, reduceCtorEq, St.cells, rg11, lel, Int.toNat_natCast]
    refine ⟨fun h1 => ⟨⟨by omega, by omega⟩, ?_⟩, fun h1 => ?_⟩
    · have hrl := hrows i
      generalize hrow : rows.getD i [] = row at hrl
      refine loop_ok (ι := {k : Nat // k ≤ row.length})
        (fun k => ⟨[.sl 1 .old rows.length (lel rows), .i .i64 m, .i .i64 s, .i .i64 other, .any, .any, .any, .any, .any, .raw (.pointer (some ⟨b, 0, none⟩)), .any, .ptr 0 0, .any, .ptr 1 0, .any, .sl 1 (.tok 3 true) kept.length (lel kept), .i .i64 i, .b (cleanTo row k.1), .i .i64 k.1] ++ List.replicate 211 .any, [(0, 26, x.cells .old .old .old), (1, 26, (newSt true false 3 other).cells .old .old .old)], [3], [(2, growR b g.1 g.2)], 4, 0, []⟩)
        (fun k => row.length - k.1) ⟨0, Nat.zero_le _⟩ ?_ ?_
      · refine Sub.w [0, 1, 2, 3] ?_
        simp (maxSteps := 4000000) only [push_cast, Int.reduceEq, Int.reduceBNe, Int.reduceBEq, Int.reduceAdd, Int.reduceSub, Int.reduceMul, Int.reduceNeg, Int.reduceLT, Int.reduceLE, Int.reduceToNat, Nat.reduceLT, Nat.reduceAdd, Nat.reduceSub, Nat.reduceMul, Nat.reduceEqDiff, Nat.reduceLeDiff, Nat.reduceBEq, reduceIte, reduceCtorEq, St.cells, lel, cleanTo]
        simp
      · rintro ⟨k, hk⟩
        refine evCode_sound Γok _ _ _ ?_
        simp (maxSteps := 4000000) only [push_cast, Int.reduceEq, Int.reduceBNe, Int.reduceBEq, Int.reduceAdd, Int.reduceSub, Int.reduceMul, Int.reduceNeg, Int.reduceLT, Int.reduceLE, Int.reduceToNat, Nat.reduceLT, Nat.reduceAdd, Nat.reduceSub, Nat.reduceMul, Nat.reduceEqDiff, Nat.reduceLeDiff, Nat.reduceBEq, reduceIte, reduceCtorEq, St.cells, rg11, lel, Int.toNat_natCast, hrow]
        refine ⟨⟨by omega, by omega⟩, fun h2 => ⟨fun _ => ⟨by omega, by omega⟩, fun _ => ⟨by omega, by omega⟩, ⟨k + 1, by omega⟩, by simp only; omega, Sub.w [0, 1, 2, 3] ?_⟩, fun h2 => ?_⟩
        · simp (maxSteps := 4000000) only [push_cast, Int.reduceEq, Int.reduceBNe, Int.reduceBEq, Int.reduceAdd, Int.reduceSub, Int.reduceMul, Int.reduceNeg, Int.reduceLT, Int.reduceLE, Int.reduceToNat, Nat.reduceLT, Nat.reduceAdd, Nat.reduceSub, Nat.reduceMul, Nat.reduceEqDiff, Nat.reduceLeDiff, Nat.reduceBEq, reduceIte, reduceCtorEq, St.cells, lel]
          exact ⟨cleanTo_succ (by omega), (wrap64 (n := (k : Int) + 1) (by omega) (by omega)).symm⟩
        · have hke : k = row.length := by omega
          subst hke
          refine ⟨fun h3 => ⟨⟨(i + 1, kept, x, g), ⟨by omega, by omega, Nat.le_succ_of_le hx.len, hx.clean, hx.hg⟩⟩, by simp only; omega, Sub.w [0, 1, 2, 3] ?_⟩, fun h3 => ⟨⟨by omega, by omega⟩, by have := hx.len; omega, fun i' hi' j' hj' => ?_, ?_⟩⟩
          · simp (maxSteps := 4000000) only [push_cast, Int.reduceEq, Int.reduceBNe, Int.reduceBEq, Int.reduceAdd, Int.reduceSub, Int.reduceMul, Int.reduceNeg, Int.reduceLT, Int.reduceLE, Int.reduceToNat, Nat.reduceLT, Nat.reduceAdd, Nat.reduceSub, Nat.reduceMul, Nat.reduceEqDiff, Nat.reduceLeDiff, Nat.reduceBEq, reduceIte, reduceCtorEq, St.cells, lel]
            exact (wrap64 (n := (i : Int) + 1) (by omega) (by omega)).symm
          · have e1 : i' = 0 := by omega
            have e2 : j' = 0 := by omega
            subst e1 e2
            rfl
          · have hcl := (cleanTo_all row).1 h3
            refine (region_plan rfl Γok mixed (.pure 0 (.pure 1 (.pure 2 (.pure 3 (.pure 4 (.pure 5 (.pure 6 (.eff (.cons 7 [] (.pure 8 (.pure 9 (.pure 10 (.pure 11 (.eff (.cons 12 [0, 6] (.eff (.cons 13 [] (.pure 14 (.pure 15 .done)) .nil)) .nil)))))) (.cons 12 [0, 6] (.eff (.cons 7 [] (.pure 8 (.pure 9 (.pure 10 (.pure 11 (.eff (.cons 13 [] (.pure 14 (.pure 15 .done)) .nil)))))) .nil)) .nil)))))))))) 230 rfl (by kernel_rfl) ?_)
            simp (maxSteps := 4000000) only [push_cast, Int.reduceEq, Int.reduceBNe, Int.reduceBEq, Int.reduceAdd, Int.reduceSub, Int.reduceMul, Int.reduceNeg, Int.reduceLT, Int.reduceLE, Int.reduceToNat, Nat.reduceLT, Nat.reduceAdd, Nat.reduceSub, Nat.reduceMul, Nat.reduceEqDiff, Nat.reduceLeDiff, Nat.reduceBEq, reduceIte, reduceCtorEq, rg11, lel, Int.toNat_natCast, hrow]
            have hfl := flat_len kept hx.clean
            have hkl := hx.len
            have hok := hx.hg.ok (b := b) (by omega)
            have hp := hgPutLine_c b hx.hg row (by have := hcl.len; omega)
            rw [← flat_snoc] at hp
            refine ⟨⟨by omega, by omega⟩, ?_, ?_⟩
            all_goals
              refine call_w hp [2] (by simp (maxSteps := 4000000) only [push_cast, Int.reduceEq, Int.reduceBNe, Int.reduceBEq, Int.reduceAdd, Int.reduceSub, Int.reduceMul, Int.reduceNeg, Int.reduceLT, Int.reduceLE, Int.reduceToNat, Nat.reduceLT, Nat.reduceAdd, Nat.reduceSub, Nat.reduceMul, Nat.reduceEqDiff, Nat.reduceLeDiff, Nat.reduceBEq, reduceIte, reduceCtorEq, St.sv, St.cells, hv, hr]) ?_
              rintro sv post ⟨y, k, ⟨hy, hym, hys⟩, rfl, rfl⟩
              simp (maxSteps := 4000000) only [push_cast, Int.reduceEq, Int.reduceBNe, Int.reduceBEq, Int.reduceAdd, Int.reduceSub, Int.reduceMul, Int.reduceNeg, Int.reduceLT, Int.reduceLE, Int.reduceToNat, Nat.reduceLT, Nat.reduceAdd, Nat.reduceSub, Nat.reduceMul, Nat.reduceEqDiff, Nat.reduceLeDiff, Nat.reduceBEq, reduceIte, reduceCtorEq, St.sv, St.cells, hr, rg11, lel, Int.toNat_natCast, hrow]
              refine call_w (num15_c 0) [] (by simp (maxSteps := 4000000) only [push_cast, Int.reduceEq, Int.reduceBNe, Int.reduceBEq, Int.reduceAdd, Int.reduceSub, Int.reduceMul, Int.reduceNeg, Int.reduceLT, Int.reduceLE, Int.reduceToNat, Nat.reduceLT, Nat.reduceAdd, Nat.reduceSub, Nat.reduceMul, Nat.reduceEqDiff, Nat.reduceLeDiff, Nat.reduceBEq, reduceIte, reduceCtorEq]) ?_
              rintro sv post ⟨rfl, rfl⟩
              simp (maxSteps := 4000000) only [push_cast, Int.reduceEq, Int.reduceBNe, Int.reduceBEq, Int.reduceAdd, Int.reduceSub, Int.reduceMul, Int.reduceNeg, Int.reduceLT, Int.reduceLE, Int.reduceToNat, Nat.reduceLT, Nat.reduceAdd, Nat.reduceSub, Nat.reduceMul, Nat.reduceEqDiff, Nat.reduceLeDiff, Nat.reduceBEq, reduceIte, reduceCtorEq, lel, Int.toNat_natCast, hrow, show IntKind.i64.wrap ((row.length : Int) + 1) = ((row.length + 1 : Nat) : Int) from by rw [wrap64 (by have := hcl.len; omega) (by have := hcl.len; omega)]; rfl]
              refine ⟨⟨by omega, by omega⟩, ⟨(i + 1, kept ++ [row], y, k), ⟨by omega, by omega, by simp; omega, fun r hr => ?_, hy⟩⟩, by simp only; omega, Sub.w [0, 1, 2, 5] ?_⟩
              · rcases List.mem_append.1 hr with h | h
                · exact hx.clean r h
                · rw [List.mem_singleton] at h; rw [h]; exact hcl
              · simp (maxSteps := 4000000) only [push_cast, Int.reduceEq, Int.reduceBNe, Int.reduceBEq, Int.reduceAdd, Int.reduceSub, Int.reduceMul, Int.reduceNeg, Int.reduceLT, Int.reduceLE, Int.reduceToNat, Nat.reduceLT, Nat.reduceAdd, Nat.reduceSub, Nat.reduceMul, Nat.reduceEqDiff, Nat.reduceLeDiff, Nat.reduceBEq, reduceIte, reduceCtorEq, St.cells, hr, lel, List.length_append, List.length_singleton]
                refine ⟨fun i' hi' j' hj' => ?_, (wrap64 (n := (i : Int) + 1) (by omega) (by omega)).symm⟩
                rw [cat_lel kept row hi' hj']
                exact ⟨.inl rfl, rfl⟩
    · have hfl := flat_len kept hx.clean
      have hkl := hx.len
      have hki := hx.hi2
      have hok := hx.hg.ok (b := b) (by omega)
      obtain ⟨x', q1⟩ := hg_close b hx.hg (by omega)
      refine call_w (CloseR_c (growM b) (growM_wr b) x g hok hx.hg.fits (by have := hx.hg.rm (b := b); omega)) [2] (by simp (maxSteps := 4000000) only [push_cast, Int.reduceEq, Int.reduceBNe, Int.reduceBEq, Int.reduceAdd, Int.reduceSub, Int.reduceMul, Int.reduceNeg, Int.reduceLT, Int.reduceLE, Int.reduceToNat, Nat.reduceLT, Nat.reduceAdd, Nat.reduceSub, Nat.reduceMul, Nat.reduceEqDiff, Nat.reduceLeDiff, Nat.reduceBEq, reduceIte, reduceCtorEq, hv, hr, St.sv, St.cells]) ?_
      rintro sv post ⟨rfl, rfl⟩
      rw [q1]
      simp (maxSteps := 4000000) only [push_cast, Int.reduceEq, Int.reduceBNe, Int.reduceBEq, Int.reduceAdd, Int.reduceSub, Int.reduceMul, Int.reduceNeg, Int.reduceLT, Int.reduceLE, Int.reduceToNat, Nat.reduceLT, Nat.reduceAdd, Nat.reduceSub, Nat.reduceMul, Nat.reduceEqDiff, Nat.reduceLeDiff, Nat.reduceBEq, reduceIte, reduceCtorEq, St.sv, St.cells, hr, rg11]
      refine call_w (growBytes_c b (flat kept) (flat kept).length (by omega)) [2] (by simp (maxSteps := 4000000) only [push_cast, Int.reduceEq, Int.reduceBNe, Int.reduceBEq, Int.reduceAdd, Int.reduceSub, Int.reduceMul, Int.reduceNeg, Int.reduceLT, Int.reduceLE, Int.reduceToNat, Nat.reduceLT, Nat.reduceAdd, Nat.reduceSub, Nat.reduceMul, Nat.reduceEqDiff, Nat.reduceLeDiff, Nat.reduceBEq, reduceIte, reduceCtorEq, hr]) ?_
      rintro sv post ⟨rfl, rfl⟩
      simp (maxSteps := 4000000) only [push_cast, Int.reduceEq, Int.reduceBNe, Int.reduceBEq, Int.reduceAdd, Int.reduceSub, Int.reduceMul, Int.reduceNeg, Int.reduceLT, Int.reduceLE, Int.reduceToNat, Nat.reduceLT, Nat.reduceAdd, Nat.reduceSub, Nat.reduceMul, Nat.reduceEqDiff, Nat.reduceLeDiff, Nat.reduceBEq, reduceIte, reduceCtorEq, hr]
      refine call_w (newReader_c (flat kept) (by omega)) [] (by simp (maxSteps := 4000000) only [push_cast, Int.reduceEq, Int.reduceBNe, Int.reduceBEq, Int.reduceAdd, Int.reduceSub, Int.reduceMul, Int.reduceNeg, Int.reduceLT, Int.reduceLE, Int.reduceToNat, Nat.reduceLT, Nat.reduceAdd, Nat.reduceSub, Nat.reduceMul, Nat.reduceEqDiff, Nat.reduceLeDiff, Nat.reduceBEq, reduceIte, reduceCtorEq]) ?_
      rintro sv post ⟨b2, rfl, rfl⟩
      simp (maxSteps := 4000000) only [push_cast, Int.reduceEq, Int.reduceBNe, Int.reduceBEq, Int.reduceAdd, Int.reduceSub, Int.reduceMul, Int.reduceNeg, Int.reduceLT, Int.reduceLE, Int.reduceToNat, Nat.reduceLT, Nat.reduceAdd, Nat.reduceSub, Nat.reduceMul, Nat.reduceEqDiff, Nat.reduceLeDiff, Nat.reduceBEq, reduceIte, reduceCtorEq]
      refine call_w (num15_c 0) [] (by simp (maxSteps := 4000000) only [push_cast, Int.reduceEq, Int.reduceBNe, Int.reduceBEq, Int.reduceAdd, Int.reduceSub, Int.reduceMul, Int.reduceNeg, Int.reduceLT, Int.reduceLE, Int.reduceToNat, Nat.reduceLT, Nat.reduceAdd, Nat.reduceSub, Nat.reduceMul, Nat.reduceEqDiff, Nat.reduceLeDiff, Nat.reduceBEq, reduceIte, reduceCtorEq]) ?_
      rintro sv post ⟨rfl, rfl⟩
      simp (maxSteps := 4000000) only [push_cast, Int.reduceEq, Int.reduceBNe, Int.reduceBEq, Int.reduceAdd, Int.reduceSub, Int.reduceMul, Int.reduceNeg, Int.reduceLT, Int.reduceLE, Int.reduceToNat, Nat.reduceLT, Nat.reduceAdd, Nat.reduceSub, Nat.reduceMul, Nat.reduceEqDiff, Nat.reduceLeDiff, Nat.reduceBEq, reduceIte, reduceCtorEq]
      refine call_w (num15_c 0) [] (by simp (maxSteps := 4000000) only [push_cast, Int.reduceEq, Int.reduceBNe, Int.reduceBEq, Int.reduceAdd, Int.reduceSub, Int.reduceMul, Int.reduceNeg, Int.reduceLT, Int.reduceLE, Int.reduceToNat, Nat.reduceLT, Nat.reduceAdd, Nat.reduceSub, Nat.reduceMul, Nat.reduceEqDiff, Nat.reduceLeDiff, Nat.reduceBEq, reduceIte, reduceCtorEq]) ?_
      rintro sv post ⟨rfl, rfl⟩
      simp (maxSteps := 4000000) only [push_cast, Int.reduceEq, Int.reduceBNe, Int.reduceBEq, Int.reduceAdd, Int.reduceSub, Int.reduceMul, Int.reduceNeg, Int.reduceLT, Int.reduceLE, Int.reduceToNat, Nat.reduceLT, Nat.reduceAdd, Nat.reduceSub, Nat.reduceMul, Nat.reduceEqDiff, Nat.reduceLeDiff, Nat.reduceBEq, reduceIte, reduceCtorEq]
      have hD : (flat kept).length ≤ 1048576 := by omega
      have hcln := hx.clean
      have hR := readerM_rd (flat kept) b2 hD
      have hF := reader_feeds (flat kept) b2
      have hleft0 : left (readerM (flat kept) b2) (fun p => (flat kept).drop p.toNat) (newSt true false 3 other) (0 : Int) = flat (kept.drop 0) := by
        rw [e1]; simp [left]
      refine loop_ok (ι := {q : Nat × St × Int // q.1 ≤ kept.length ∧ Reads (readerM (flat kept) b2) (fun p => (flat kept).drop p.toNat) q.2.1 q.2.2 ∧ left (readerM (flat kept) b2) (fun p => (flat kept).drop p.toNat) q.2.1 q.2.2 = flat (kept.drop q.1)})
        (fun q => ⟨List.replicate 13 .any ++ [.ptr 0 0, .any, .sl 1 (.tok 2 true) kept.length (lel kept)] ++ List.replicate 8 .any ++ [.raw (.pointer (some ⟨b2, 0, none⟩)), .any, .i .i64 q.1.1] ++ List.replicate 203 .any, [(0, 26, q.1.2.1.cells .old .old .old)], [2], [(1, (readerS (flat kept) q.1.2.2).res b2), (3, growR b (flat kept) (flat kept).length)], 4, 0, []⟩)
        (fun q => kept.length - q.1.1) ⟨(0, newSt true false 3 other, 0), Nat.zero_le _, new_reads (flat kept) b2 false hm2, hleft0⟩ ?_ ?_
      · refine Sub.w [1, 6, 3, 2] ?_
        simp (maxSteps := 4000000) only [push_cast, Int.reduceEq, Int.reduceBNe, Int.reduceBEq, Int.reduceAdd, Int.reduceSub, Int.reduceMul, Int.reduceNeg, Int.reduceLT, Int.reduceLE, Int.reduceToNat, Nat.reduceLT, Nat.reduceAdd, Nat.reduceSub, Nat.reduceMul, Nat.reduceEqDiff, Nat.reduceLeDiff, Nat.reduceBEq, reduceIte, reduceCtorEq, e1, St.cells, lel]
      · rintro ⟨⟨k, y, p⟩, hk, hy, hl⟩
        simp only at hk hy hl
        refine evCode_sound Γok _ _ _ ?_
        simp (maxSteps := 4000000) only [push_cast, Int.reduceEq, Int.reduceBNe, Int.reduceBEq, Int.reduceAdd, Int.reduceSub, Int.reduceMul, Int.reduceNeg, Int.reduceLT, Int.reduceLE, Int.reduceToNat, Nat.reduceLT, Nat.reduceAdd, Nat.reduceSub, Nat.reduceMul, Nat.reduceEqDiff, Nat.reduceLeDiff, Nat.reduceBEq, reduceIte, reduceCtorEq, St.cells, rg11, lel, Int.toNat_natCast]
        have hu := until_feeds hR hF 10 300 (by omega) (by omega) hy
        obtain ⟨y', p', out, e, hq⟩ : ∃ y' p' out e, y.Until (readerM (flat kept) b2) p 10 300 = (y', p', out, e) := ⟨_, _, _, _, rfl⟩
        dsimp only at hu
        rw [hq, hl] at hu
        simp only at hu
        obtain ⟨hy', -, hu⟩ := hu
        refine ⟨fun h1 => ?_, fun h1 => ?_⟩
        · have hk2 : k < kept.length := by omega
          have hdr : kept.drop k = kept.getD k [] :: kept.drop (k + 1) := by
            rw [List.drop_eq_getElem_cons hk2]; simp [List.getD, hk2]
          have hcl : Clean (kept.getD k []) := hcln _ (by simp [List.getD, hk2])
          generalize hrow : kept.getD k [] = row at hdr hcl
          rw [hdr, flat_cons] at hu
          obtain ⟨rfl, hl', rfl⟩ : out = row ++ [10] ∧ left (readerM (flat kept) b2) (fun p => (flat kept).drop p.toNat) y' p' = flat (kept.drop (k + 1)) ∧ e = 0 := by
            rcases hu with ⟨u1, u2, u3⟩ | ⟨u1, u2, u3, u4⟩
            · obtain ⟨v1, v2⟩ := line_get u2 u3 hcl
              exact ⟨v1, v2, u1⟩
            · simp at u3
          clear hu
          refine call_w (LineR_c (readerM (flat kept) b2) hR y hy.fits p hy.ok 300) [1] (by simp (maxSteps := 4000000) only [push_cast, Int.reduceEq, Int.reduceBNe, Int.reduceBEq, Int.reduceAdd, Int.reduceSub, Int.reduceMul, Int.reduceNeg, Int.reduceLT, Int.reduceLE, Int.reduceToNat, Nat.reduceLT, Nat.reduceAdd, Nat.reduceSub, Nat.reduceMul, Nat.reduceEqDiff, Nat.reduceLeDiff, Nat.reduceBEq, reduceIte, reduceCtorEq, St.sv, St.cells, RawM.v, readerM]) ?_
          rintro sv post ⟨rfl, rfl⟩
          rw [hq]
          simp (maxSteps := 4000000) only [push_cast, Int.reduceEq, Int.reduceBNe, Int.reduceBEq, Int.reduceAdd, Int.reduceSub, Int.reduceMul, Int.reduceNeg, Int.reduceLT, Int.reduceLE, Int.reduceToNat, Nat.reduceLT, Nat.reduceAdd, Nat.reduceSub, Nat.reduceMul, Nat.reduceEqDiff, Nat.reduceLeDiff, Nat.reduceBEq, reduceIte, reduceCtorEq, St.sv, St.cells, rg11, lel, Int.toNat_natCast]
          refine (region_plan rfl Γok mixed (.pure 0 (.eff (.cons 1 [] (.pure 2 (.pure 3 (.pure 4 (.pure 5 (.pure 6 (.pure 7 (.pure 8 (.pure 9 (.pure 10 (.pure 11 (.pure 12 (.pure 13 (.pure 14 (.pure 15 (.pure 16 (.pure 17 (.pure 18 (.pure 19 (.pure 20 (.pure 21 (.pure 22 (.pure 23 (.pure 24 (.pure 25 (.pure 26 (.pure 27 (.pure 28 (.pure 29 (.pure 30 (.pure 31 (.pure 32 (.eff (.cons 33 [] (.pure 34 (.pure 35 .done)) .nil))))))))))))))))))))))))))))))))) .nil))) 230 rfl (by kernel_rfl) ?_)
          simp (maxSteps := 4000000) only [push_cast, Int.reduceEq, Int.reduceBNe, Int.reduceBEq, Int.reduceAdd, Int.reduceSub, Int.reduceMul, Int.reduceNeg, Int.reduceLT, Int.reduceLE, Int.reduceToNat, Nat.reduceLT, Nat.reduceAdd, Nat.reduceSub, Nat.reduceMul, Nat.reduceEqDiff, Nat.reduceLeDiff, Nat.reduceBEq, reduceIte, reduceCtorEq, rg11, lel, Int.toNat_natCast, hrow]
          refine call_w (num15_c 0) [] (by simp (maxSteps := 4000000) only [push_cast, Int.reduceEq, Int.reduceBNe, Int.reduceBEq, Int.reduceAdd, Int.reduceSub, Int.reduceMul, Int.reduceNeg, Int.reduceLT, Int.reduceLE, Int.reduceToNat, Nat.reduceLT, Nat.reduceAdd, Nat.reduceSub, Nat.reduceMul, Nat.reduceEqDiff, Nat.reduceLeDiff, Nat.reduceBEq, reduceIte, reduceCtorEq]) ?_
          rintro sv post ⟨rfl, rfl⟩
          have hrl := hcl.len
          have w1 : IntKind.i64.wrap ((row.length : Int) + 1) = (row.length : Int) + 1 := wrap64 (by omega) (by omega)
          have w2 : IntKind.i64.wrap ((row.length : Int) + 1 - 1) = (row.length : Int) := by rw [Int.add_sub_cancel]; exact wrap64 (by omega) (by omega)
          have w3 : (row ++ [10]).getD row.length 0 = 10 := by simp [List.getD]
          have w4 : (row ++ [10]).take row.length = row := by simp
          simp (maxSteps := 4000000) only [push_cast, Int.reduceEq, Int.reduceBNe, Int.reduceBEq, Int.reduceAdd, Int.reduceSub, Int.reduceMul, Int.reduceNeg, Int.reduceLT, Int.reduceLE, Int.reduceToNat, Nat.reduceLT, Nat.reduceAdd, Nat.reduceSub, Nat.reduceMul, Nat.reduceEqDiff, Nat.reduceLeDiff, Nat.reduceBEq, reduceIte, reduceCtorEq, rg11, lel, Int.toNat_natCast, hrow, List.length_append, List.length_singleton, w1, w2, w3, w4]
          refine ⟨⟨by omega, by omega⟩, ⟨by omega, by omega⟩, ⟨by omega, by omega⟩, ⟨by omega, by omega⟩, ?_⟩
          refine call_w (sameBytes_c row row) [] (by simp (maxSteps := 4000000) only [push_cast, Int.reduceEq, Int.reduceBNe, Int.reduceBEq, Int.reduceAdd, Int.reduceSub, Int.reduceMul, Int.reduceNeg, Int.reduceLT, Int.reduceLE, Int.reduceToNat, Nat.reduceLT, Nat.reduceAdd, Nat.reduceSub, Nat.reduceMul, Nat.reduceEqDiff, Nat.reduceLeDiff, Nat.reduceBEq, reduceIte, reduceCtorEq]) ?_
          rintro sv post ⟨rfl, rfl⟩
          simp (maxSteps := 4000000) only [push_cast, Int.reduceEq, Int.reduceBNe, Int.reduceBEq, Int.reduceAdd, Int.reduceSub, Int.reduceMul, Int.reduceNeg, Int.reduceLT, Int.reduceLE, Int.reduceToNat, Nat.reduceLT, Nat.reduceAdd, Nat.reduceSub, Nat.reduceMul, Nat.reduceEqDiff, Nat.reduceLeDiff, Nat.reduceBEq, reduceIte, reduceCtorEq, beq_self_eq_true]
          refine ⟨⟨(k + 1, y', p'), by simp only; omega, hy', hl'⟩, by simp only; omega, Sub.w [0, 1, 2, 3] ?_⟩
          simp (maxSteps := 4000000) only [push_cast, Int.reduceEq, Int.reduceBNe, Int.reduceBEq, Int.reduceAdd, Int.reduceSub, Int.reduceMul, Int.reduceNeg, Int.reduceLT, Int.reduceLE, Int.reduceToNat, Nat.reduceLT, Nat.reduceAdd, Nat.reduceSub, Nat.reduceMul, Nat.reduceEqDiff, Nat.reduceLeDiff, Nat.reduceBEq, reduceIte, reduceCtorEq, St.cells, lel, readerM]
          exact (wrap64 (n := (k : Int) + 1) (by omega) (by omega)).symm
        · refine call_w (LineR_c (readerM (flat kept) b2) hR y hy.fits p hy.ok 300) [1] (by simp (maxSteps := 4000000) only [push_cast, Int.reduceEq, Int.reduceBNe, Int.reduceBEq, Int.reduceAdd, Int.reduceSub, Int.reduceMul, Int.reduceNeg, Int.reduceLT, Int.reduceLE, Int.reduceToNat, Nat.reduceLT, Nat.reduceAdd, Nat.reduceSub, Nat.reduceMul, Nat.reduceEqDiff, Nat.reduceLeDiff, Nat.reduceBEq, reduceIte, reduceCtorEq, St.sv, St.cells, RawM.v, readerM]) ?_
          rintro sv post ⟨rfl, rfl⟩
          rw [hq]
          have hk2 : k = kept.length := by omega
          rw [hk2, List.drop_length] at hu
          obtain ⟨rfl, rfl⟩ : out = [] ∧ e = 111 := by
            rcases hu with ⟨u1, u2, u3⟩ | ⟨u1, u2, u3, u4⟩
            · have := u2.app
              simp [flat] at this
              exact absurd this.1 u3
            · exact ⟨u2, u1⟩
          simp (maxSteps := 4000000) only [push_cast, Int.reduceEq, Int.reduceBNe, Int.reduceBEq, Int.reduceAdd, Int.reduceSub, Int.reduceMul, Int.reduceNeg, Int.reduceLT, Int.reduceLE, Int.reduceToNat, Nat.reduceLT, Nat.reduceAdd, Nat.reduceSub, Nat.reduceMul, Nat.reduceEqDiff, Nat.reduceLeDiff, Nat.reduceBEq, reduceIte, reduceCtorEq, St.sv, St.cells, rg11]
          refine call_w (num15_c 111) [] (by simp (maxSteps := 4000000) only [push_cast, Int.reduceEq, Int.reduceBNe, Int.reduceBEq, Int.reduceAdd, Int.reduceSub, Int.reduceMul, Int.reduceNeg, Int.reduceLT, Int.reduceLE, Int.reduceToNat, Nat.reduceLT, Nat.reduceAdd, Nat.reduceSub, Nat.reduceMul, Nat.reduceEqDiff, Nat.reduceLeDiff, Nat.reduceBEq, reduceIte, reduceCtorEq]) ?_
          rintro sv post ⟨rfl, rfl⟩
          simp (maxSteps := 4000000) only [push_cast, Int.reduceEq, Int.reduceBNe, Int.reduceBEq, Int.reduceAdd, Int.reduceSub, Int.reduceMul, Int.reduceNeg, Int.reduceLT, Int.reduceLE, Int.reduceToNat, Nat.reduceLT, Nat.reduceAdd, Nat.reduceSub, Nat.reduceMul, Nat.reduceEqDiff, Nat.reduceLeDiff, Nat.reduceBEq, reduceIte, reduceCtorEq]
          exact Fin.nil rfl (psv := .b true) (by simp (maxSteps := 4000000) only [push_cast, Int.reduceEq, Int.reduceBNe, Int.reduceBEq, Int.reduceAdd, Int.reduceSub, Int.reduceMul, Int.reduceNeg, Int.reduceLT, Int.reduceLE, Int.reduceToNat, Nat.reduceLT, Nat.reduceAdd, Nat.reduceSub, Nat.reduceMul, Nat.reduceEqDiff, Nat.reduceLeDiff, Nat.reduceBEq, reduceIte, reduceCtorEq]) ⟨rfl, rfl⟩
end Go.Proofs.Ytbhkpefjnomncaa
